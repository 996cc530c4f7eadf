/-
  Instances of the library's generic functions. Conditions: none.
-/
import Derived.Test.YtjajlmjfddohfaaGreatDoorPa10
set_option linter.defProp false
set_option linter.unusedSectionVars false
set_option maxRecDepth 100000
set_option maxHeartbeats 32000000
namespace Go.Proofs.YtjajlmjfddohfaaGreatDoor
open Go Go.Pe Go.Tab
def a0D:=ai (ai @zq (ai @aWu @aTP)) (ai (ai @dH @zT0) (ai @aDV (aw aSS)))
theorem asH (l:List Tb) (p:Tb→Bool) (g:Nat) (cp:List C) (h:l.length≤4611686018427387903∧FnB (fun x=>.agg (tbC x)) g cp p l):G1 28 [.of (slC tbC l),.of (.fn g cp)] (ah (l.any p)):=by
 refine aj rfl aSS aDV rfl ?_
 rw[← fx]
 simp -implicitDefEqProofs(maxSteps:=9^9)only[Tryz.f28,↓zA,sevalprocAttr,a0D,h.2.1,aFp l p g cp h]
theorem aos (l:List Tb) (p:Tb→Bool) (g:Nat) (cp:List C) (h:l.length≤4611686018427387903∧FnB (fun x=>.agg (tbC x)) g cp p l) (K:An→Prop):aG Tryz.prog pr 28 [.of (slC tbC l),.of (.fn g cp)] [] K↔K ⟨false,[ah (l.any p)],[]⟩:=ae.k (asH l p g cp h) K
def a0B:=ai (ai @zq (ai @ay5 @asa)) (ai (ai @fb @zT0) (ai @aDS (aw aSP)))
theorem asK (l:List Ix) (p:Ix→Bool) (g:Nat) (cp:List C) (h:l.length≤4611686018427387903∧FnB (fun x=>.agg (ixC x)) g cp p l):G1 31 [.of (slC ixC l),.of (.fn g cp)] (ah (l.any p)):=by
 refine aj rfl aSP aDS rfl ?_
 rw[← fx]
 simp -implicitDefEqProofs(maxSteps:=9^9)only[Tryz.f31,↓zA,sevalprocAttr,a0B,h.2.1,aio l p g cp h]
theorem aot (l:List Ix) (p:Ix→Bool) (g:Nat) (cp:List C) (h:l.length≤4611686018427387903∧FnB (fun x=>.agg (ixC x)) g cp p l) (K:An→Prop):aG Tryz.prog pr 31 [.of (slC ixC l),.of (.fn g cp)] [] K↔K ⟨false,[ah (l.any p)],[]⟩:=ae.k (asK l p g cp h) K
def a0s:=ai (ai @zq (ai @aQB @aOf)) (ai (ai @bK @zT0) (ai @aDb (aw aSa)))
theorem auh (l:List Xp) (p:Xp→Bool) (g:Nat) (cp:List C) (h:l.length≤4611686018427387903∧FnB (fun x=>.agg (xpC x)) g cp p l):G1 79 [.of (slC xpC l),.of (.fn g cp)] (ah (l.any p)):=by
 refine aj rfl aSa aDb rfl ?_
 rw[← fx]
 simp -implicitDefEqProofs(maxSteps:=9^9)only[Tryz.f79,↓zA,sevalprocAttr,a0s,h.2.1,aHS l p g cp h]
theorem asL (l:List Xp) (p:Xp→Bool) (g:Nat) (cp:List C) (h:l.length≤4611686018427387903∧FnB (fun x=>.agg (xpC x)) g cp p l) (K:An→Prop):aG Tryz.prog pr 79 [.of (slC xpC l),.of (.fn g cp)] [] K↔K ⟨false,[ah (l.any p)],[]⟩:=ae.k (auh l p g cp h) K
def a0p:=ai (ai @zq (ai @aQr @aN5)) (ai (ai @aaC @zT0) (ai @aCY (aw aRX)))
theorem aA6 (l:List Rf) (p:Rf→Bool) (g:Nat) (cp:List C) (h:l.length≤4611686018427387903∧FnB (fun x=>.agg (rfC x)) g cp p l):G1 93 [.of (slC rfC l),.of (.fn g cp)] (ah (l.any p)):=by
 refine aj rfl aRX aCY rfl ?_
 rw[← fx]
 simp -implicitDefEqProofs(maxSteps:=9^9)only[Tryz.f93,↓zA,sevalprocAttr,a0p,h.2.1,aOy l p g cp h]
theorem aOE (l:List Rf) (p:Rf→Bool) (g:Nat) (cp:List C) (h:l.length≤4611686018427387903∧FnB (fun x=>.agg (rfC x)) g cp p l) (K:An→Prop):aG Tryz.prog pr 93 [.of (slC rfC l),.of (.fn g cp)] [] K↔K ⟨false,[ah (l.any p)],[]⟩:=ae.k (aA6 l p g cp h) K
def a0m:=ai (ai @zq (ai @aQq @aN4)) (ai (ai @il @zT0) (ai @aCV (aw aRU)))
theorem aA7 (l:List Ky) (p:Ky→Bool) (g:Nat) (cp:List C) (h:l.length≤4611686018427387903∧FnB (fun x=>.agg (kyC x)) g cp p l):G1 96 [.of (slC kyC l),.of (.fn g cp)] (ah (l.any p)):=by
 refine aj rfl aRU aCV rfl ?_
 rw[← fx]
 simp -implicitDefEqProofs(maxSteps:=9^9)only[Tryz.f96,↓zA,sevalprocAttr,a0m,h.2.1,aOz l p g cp h]
theorem ajp (l:List Ky) (p:Ky→Bool) (g:Nat) (cp:List C) (h:l.length≤4611686018427387903∧FnB (fun x=>.agg (kyC x)) g cp p l) (K:An→Prop):aG Tryz.prog pr 96 [.of (slC kyC l),.of (.fn g cp)] [] K↔K ⟨false,[ah (l.any p)],[]⟩:=ae.k (aA7 l p g cp h) K
def a0k:=ai (ai @zq (ai @aQp @aN3)) (ai (ai @jy @zT0) (ai @aCT (aw aRS)))
theorem apa (l:List Rd) (p:Rd→Bool) (g:Nat) (cp:List C) (h:l.length≤4611686018427387903∧FnB (fun x=>.agg (rdC x)) g cp p l):G1 99 [.of (slC rdC l),.of (.fn g cp)] (ah (l.any p)):=by
 refine aj rfl aRS aCT rfl ?_
 rw[← fx]
 simp -implicitDefEqProofs(maxSteps:=9^9)only[Tryz.f99,↓zA,sevalprocAttr,a0k,h.2.1,aAO l p g cp h]
theorem amg (l:List Rd) (p:Rd→Bool) (g:Nat) (cp:List C) (h:l.length≤4611686018427387903∧FnB (fun x=>.agg (rdC x)) g cp p l) (K:An→Prop):aG Tryz.prog pr 99 [.of (slC rdC l),.of (.fn g cp)] [] K↔K ⟨false,[ah (l.any p)],[]⟩:=ae.k (apa l p g cp h) K
def aVx:=ai (ai @zq (ai @aQf @aNS)) (ai @zT0 (ai @awJ (aw aKR)))
theorem aA5 (l:List Int) (p:Int→Bool) (g:Nat) (cp:List C) (h:l.length≤4611686018427387903∧FnB ci g cp p l):G1 123 [.of (slC aV l),.of (.fn g cp)] (ah (l.any p)):=by
 refine aj rfl aKR awJ rfl ?_
 rw[← fx]
 simp -implicitDefEqProofs(maxSteps:=9^9)only[Tryz.f123,↓zA,sevalprocAttr,aVx,h.2.1,aOx l p g cp h]
theorem aOD (l:List Int) (p:Int→Bool) (g:Nat) (cp:List C) (h:l.length≤4611686018427387903∧FnB ci g cp p l) (K:An→Prop):aG Tryz.prog pr 123 [.of (slC aV l),.of (.fn g cp)] [] K↔K ⟨false,[ah (l.any p)],[]⟩:=ae.k (aA5 l p g cp h) K
def aVi:=ai (ai @zq (ai @aCA @ax0)) (ai (ai @dw @zT0) (ai @avO (aw aJX)))
theorem apc (l:List Cd) (p:Cd→Bool) (g:Nat) (cp:List C) (h:l.length≤4611686018427387903∧FnB (fun x=>.agg (cdC x)) g cp p l):G1 181 [.of (slC cdC l),.of (.fn g cp)] (ah (l.any p)):=by
 refine aj rfl aJX avO rfl ?_
 rw[← fx]
 simp -implicitDefEqProofs(maxSteps:=9^9)only[Tryz.f181,↓zA,sevalprocAttr,aVi,h.2.1,amf l p g cp h]
theorem aA9 (l:List Cd) (p:Cd→Bool) (g:Nat) (cp:List C) (h:l.length≤4611686018427387903∧FnB (fun x=>.agg (cdC x)) g cp p l) (K:An→Prop):aG Tryz.prog pr 181 [.of (slC cdC l),.of (.fn g cp)] [] K↔K ⟨false,[ah (l.any p)],[]⟩:=ae.k (apc l p g cp h) K
def aVg:=ai (ai @zq (ai @aPP @aNq)) (ai (ai @jz @zT0) (ai @avM (aw aJV)))
theorem apb (l:List Kd) (p:Kd→Bool) (g:Nat) (cp:List C) (h:l.length≤4611686018427387903∧FnB (fun x=>.agg (kdC x)) g cp p l):G1 183 [.of (slC kdC l),.of (.fn g cp)] (ah (l.any p)):=by
 refine aj rfl aJV avM rfl ?_
 rw[← fx]
 simp -implicitDefEqProofs(maxSteps:=9^9)only[Tryz.f183,↓zA,sevalprocAttr,aVg,h.2.1,aAQ l p g cp h]
theorem aA8 (l:List Kd) (p:Kd→Bool) (g:Nat) (cp:List C) (h:l.length≤4611686018427387903∧FnB (fun x=>.agg (kdC x)) g cp p l) (K:An→Prop):aG Tryz.prog pr 183 [.of (slC kdC l),.of (.fn g cp)] [] K↔K ⟨false,[ah (l.any p)],[]⟩:=ae.k (apb l p g cp h) K
def aVc:=ai (ai @zq (ai @aPN @aNo)) (ai (ai @dY @zT0) (ai @avH (aw aJQ)))
theorem asI (l:List Qy) (p:Qy→Bool) (g:Nat) (cp:List C) (h:l.length≤4611686018427387903∧FnB (fun x=>.agg (qyC x)) g cp p l):G1 188 [.of (slC qyC l),.of (.fn g cp)] (ah (l.any p)):=by
 refine aj rfl aJQ avH rfl ?_
 rw[← fx]
 simp -implicitDefEqProofs(maxSteps:=9^9)only[Tryz.f188,↓zA,sevalprocAttr,aVc,h.2.1,aFq l p g cp h]
theorem aFw (l:List Qy) (p:Qy→Bool) (g:Nat) (cp:List C) (h:l.length≤4611686018427387903∧FnB (fun x=>.agg (qyC x)) g cp p l) (K:An→Prop):aG Tryz.prog pr 188 [.of (slC qyC l),.of (.fn g cp)] [] K↔K ⟨false,[ah (l.any p)],[]⟩:=ae.k (asI l p g cp h) K
def aVa:=ai (ai @zq (ai @aPJ @aNk)) (ai @zT0 (ai @avz (aw aJI)))
theorem anC (l:List (List Xp)) (p:(List Xp)→Bool) (g:Nat) (cp:List C) (h:l.length≤4611686018427387903∧FnB (slC xpC) g cp p l):G1 196 [.of (slC (lsC xpC) l),.of (.fn g cp)] (ah (l.any p)):=by
 refine aj rfl aJI avz rfl ?_
 rw[← fx]
 simp -implicitDefEqProofs(maxSteps:=9^9)only[Tryz.f196,↓zA,sevalprocAttr,aVa,h.2.1,aua l p g cp h]
theorem aui (l:List (List Xp)) (p:(List Xp)→Bool) (g:Nat) (cp:List C) (h:l.length≤4611686018427387903∧FnB (slC xpC) g cp p l) (K:An→Prop):aG Tryz.prog pr 196 [.of (slC (lsC xpC) l),.of (.fn g cp)] [] K↔K ⟨false,[ah (l.any p)],[]⟩:=ae.k (anC l p g cp h) K
def aU8:=ai (ai @zq (ai @aPI @aNj)) (ai (ai @j0 @zT0) (ai @avx (aw aJG)))
theorem apd (l:List As) (p:As→Bool) (g:Nat) (cp:List C) (h:l.length≤4611686018427387903∧FnB (fun x=>.agg (asC x)) g cp p l):G1 198 [.of (slC asC l),.of (.fn g cp)] (ah (l.any p)):=by
 refine aj rfl aJG avx rfl ?_
 rw[← fx]
 simp -implicitDefEqProofs(maxSteps:=9^9)only[Tryz.f198,↓zA,sevalprocAttr,aU8,h.2.1,aAR l p g cp h]
theorem aBa (l:List As) (p:As→Bool) (g:Nat) (cp:List C) (h:l.length≤4611686018427387903∧FnB (fun x=>.agg (asC x)) g cp p l) (K:An→Prop):aG Tryz.prog pr 198 [.of (slC asC l),.of (.fn g cp)] [] K↔K ⟨false,[ah (l.any p)],[]⟩:=ae.k (apd l p g cp h) K
def aU5:=ai (ai @zq (ai @aPA @aNa)) (ai @zT0 (ai @au5 (aw aJh)))
theorem ao9 (l:List (List UInt8)) (p:(List UInt8)→Bool) (g:Nat) (cp:List C) (h:l.length≤4611686018427387903∧FnB (fun x=>ao (ar x)) g cp p l):G1 226 [.of (slC bd l),.of (.fn g cp)] (ah (l.any p)):=by
 refine aj rfl aJh au5 rfl ?_
 rw[← fx]
 simp -implicitDefEqProofs(maxSteps:=9^9)only[Tryz.f226,↓zA,sevalprocAttr,aU5,h.2.1,aAL l p g cp h]
theorem aA4 (l:List (List UInt8)) (p:(List UInt8)→Bool) (g:Nat) (cp:List C) (h:l.length≤4611686018427387903∧FnB (fun x=>ao (ar x)) g cp p l) (K:An→Prop):aG Tryz.prog pr 226 [.of (slC bd l),.of (.fn g cp)] [] K↔K ⟨false,[ah (l.any p)],[]⟩:=ae.k (ao9 l p g cp h) K
def aU3:=ai (ai @zq (ai @aPz @aM9)) (ai (ai @abx @zT0) (ai @au2 (aw aJe)))
theorem asJ (l:List Od) (p:Od→Bool) (g:Nat) (cp:List C) (h:l.length≤4611686018427387903∧FnB (fun x=>.agg (odC x)) g cp p l):G1 229 [.of (slC odC l),.of (.fn g cp)] (ah (l.any p)):=by
 refine aj rfl aJe au2 rfl ?_
 rw[← fx]
 simp -implicitDefEqProofs(maxSteps:=9^9)only[Tryz.f229,↓zA,sevalprocAttr,aU3,h.2.1,aFr l p g cp h]
theorem aFx (l:List Od) (p:Od→Bool) (g:Nat) (cp:List C) (h:l.length≤4611686018427387903∧FnB (fun x=>.agg (odC x)) g cp p l) (K:An→Prop):aG Tryz.prog pr 229 [.of (slC odC l),.of (.fn g cp)] [] K↔K ⟨false,[ah (l.any p)],[]⟩:=ae.k (asJ l p g cp h) K
def aU1:=ai (ai @zq (ai @aPy @aM8)) (ai (ai @jh @zT0) (ai @au0 (aw aJc)))
theorem auf (l:List Im) (p:Im→Bool) (g:Nat) (cp:List C) (h:l.length≤4611686018427387903∧FnB (fun x=>.agg (imC x)) g cp p l):G1 231 [.of (slC imC l),.of (.fn g cp)] (ah (l.any p)):=by
 refine aj rfl aJc au0 rfl ?_
 rw[← fx]
 simp -implicitDefEqProofs(maxSteps:=9^9)only[Tryz.f231,↓zA,sevalprocAttr,aU1,h.2.1,aHQ l p g cp h]
theorem aH1 (l:List Im) (p:Im→Bool) (g:Nat) (cp:List C) (h:l.length≤4611686018427387903∧FnB (fun x=>.agg (imC x)) g cp p l) (K:An→Prop):aG Tryz.prog pr 231 [.of (slC imC l),.of (.fn g cp)] [] K↔K ⟨false,[ah (l.any p)],[]⟩:=ae.k (auf l p g cp h) K
def aUZ:=ai (ai @zq (ai @aPx @aM7)) (ai (ai @gV @zT0) (ai @auY (aw aJa)))
theorem aug (l:List Fm) (p:Fm→Bool) (g:Nat) (cp:List C) (h:l.length≤4611686018427387903∧FnB (fun x=>.agg (fmC x)) g cp p l):G1 233 [.of (slC fmC l),.of (.fn g cp)] (ah (l.any p)):=by
 refine aj rfl aJa auY rfl ?_
 rw[← fx]
 simp -implicitDefEqProofs(maxSteps:=9^9)only[Tryz.f233,↓zA,sevalprocAttr,aUZ,h.2.1,aHR l p g cp h]
theorem aH2 (l:List Fm) (p:Fm→Bool) (g:Nat) (cp:List C) (h:l.length≤4611686018427387903∧FnB (fun x=>.agg (fmC x)) g cp p l) (K:An→Prop):aG Tryz.prog pr 233 [.of (slC fmC l),.of (.fn g cp)] [] K↔K ⟨false,[ah (l.any p)],[]⟩:=ae.k (aug l p g cp h) K
def aiN:=ai (ai @zq (ai @bH @Q9)) (ai @zT0 (ai @awQ (aw aKY)))
theorem aoX (l:List (List UInt8)) (v:(List UInt8)) (hl:l.length≤4611686018427387903):G1 116 [.of (slC bd l),.of (ao (ar v))] (ak (bE (fun x=>decide (v=x)) l)):=by
 refine aj rfl aKY awQ rfl ?_
 simp -implicitDefEqProofs(maxSteps:=9^9)only[Tryz.f116,↓zA,sevalprocAttr,aiN]
 refine aL l.length (fun k s=>s.fr 0=.of (slC bd l)∧s.fr 1=.of (ao (ar v))∧s.fr 7=ak l.length∧s.fr 8=ak k∧s.objs=[]∧bE (fun x=>decide (v=x)) l=bJ (fun x=>decide (v=x)) k (l.drop k)) ?_ ?_
 .simp -implicitDefEqProofs(maxSteps:=9^9)only[Tryz.f116,↓zA,sevalprocAttr,aiN]
  exact rfl
 .rintro k s hk ⟨f0,f1,f7,f8,hob,E⟩
  rcases Nat.lt_or_ge k l.length with c1|c1
  .have hw:=aQ k (by omega)
   rw[aJ c1,bJ] at E
   simp -implicitDefEqProofs(maxSteps:=9^9)only[Tryz.f116,↓zA,sevalprocAttr,aiN,f0,f1,f7,f8,hob,aa,c1,ap c1,hw,av]
   by_cases c2:v=l[k]
   .simp only[c2,decide_true,if_true] at E
    simp -implicitDefEqProofs(maxSteps:=9^9)only[Tryz.f116,↓zA,sevalprocAttr,aiN,c2,E]
   .simp only[c2,decide_false,Bool.false_eq_true,if_false] at E
    simp -implicitDefEqProofs(maxSteps:=9^9)only[Tryz.f116,↓zA,sevalprocAttr,aiN,c2,E]
  .have e:k=l.length:=by omega
   subst e
   rw[List.drop_length,bJ] at E
   simp -implicitDefEqProofs(maxSteps:=9^9)only[Tryz.f116,↓zA,sevalprocAttr,aiN,f0,f1,f7,f8,hob,aa,Nat.lt_irrefl,E]
theorem aAJ (l:List (List UInt8)) (v:(List UInt8)) (hl:l.length≤4611686018427387903) (K:An→Prop):aG Tryz.prog pr 116 [.of (slC bd l),.of (ao (ar v))] [] K↔K ⟨false,[ak (bE (fun x=>decide (v=x)) l)],[]⟩:=ae.k (aoX l v hl) K
def a0u:=ai (ai @zq (ai @aQE @aOi)) (ai @zT0 (ai @aDi (aw aSg)))
theorem ao8 (l:List (List UInt8)) (v:(List UInt8)) (hl:l.length≤4611686018427387903):G1 72 [.of (slC bd l),.of (ao (ar v))] (ah (decide (v∈l))):=by
 refine aj rfl aSg aDi rfl ?_
 rw[← ary]
 simp -implicitDefEqProofs(maxSteps:=9^9)only[Tryz.f72,↓zA,sevalprocAttr,a0u,aAJ l v hl]
theorem agX (l:List (List UInt8)) (v:(List UInt8)) (K:An→Prop):aG Tryz.prog pr 72 [.of (slC bd l),.of (ao (ar v))] [] K↔ifP (l.length≤4611686018427387903) (K ⟨false,[ah (decide (v∈l))],[]⟩) (fp Tryz.prog pr 72 [.of (slC bd l),.of (ao (ar v))] K):=hZ (ao8 l v) K
def aiM:=ai (ai @zq (ai @cV @P3)) (ai (ai @Q3 @zT0) (ai @awP (aw aKX)))
theorem aAK (l:List Int) (v:Int) (hl:l.length≤4611686018427387903):G1 117 [.of (slC aV l),.of (ci v)] (ak (bE (fun x=>decide (v=x)) l)):=by
 refine aj rfl aKX awP rfl ?_
 simp -implicitDefEqProofs(maxSteps:=9^9)only[Tryz.f117,↓zA,sevalprocAttr,aiM]
 refine aL l.length (fun k s=>s.fr 0=.of (slC aV l)∧s.fr 1=.of (ci v)∧s.fr 7=ak l.length∧s.fr 8=ak k∧s.objs=[]∧bE (fun x=>decide (v=x)) l=bJ (fun x=>decide (v=x)) k (l.drop k)) ?_ ?_
 .simp -implicitDefEqProofs(maxSteps:=9^9)only[Tryz.f117,↓zA,sevalprocAttr,aiM]
  exact rfl
 .rintro k s hk ⟨f0,f1,f7,f8,hob,E⟩
  rcases Nat.lt_or_ge k l.length with c1|c1
  .have hw:=aQ k (by omega)
   rw[aJ c1,bJ] at E
   simp -implicitDefEqProofs(maxSteps:=9^9)only[Tryz.f117,↓zA,sevalprocAttr,aiM,f0,f1,f7,f8,hob,aa,c1,ap c1,hw,av]
   by_cases c2:v=l[k]
   .simp only[c2,decide_true,if_true] at E
    simp -implicitDefEqProofs(maxSteps:=9^9)only[Tryz.f117,↓zA,sevalprocAttr,aiM,c2,E]
   .simp only[c2,decide_false,Bool.false_eq_true,if_false] at E
    simp -implicitDefEqProofs(maxSteps:=9^9)only[Tryz.f117,↓zA,sevalprocAttr,aiM,c2,E]
  .have e:k=l.length:=by omega
   subst e
   rw[List.drop_length,bJ] at E
   simp -implicitDefEqProofs(maxSteps:=9^9)only[Tryz.f117,↓zA,sevalprocAttr,aiM,f0,f1,f7,f8,hob,aa,Nat.lt_irrefl,E]
theorem aOv (l:List Int) (v:Int) (hl:l.length≤4611686018427387903) (K:An→Prop):aG Tryz.prog pr 117 [.of (slC aV l),.of (ci v)] [] K↔K ⟨false,[ak (bE (fun x=>decide (v=x)) l)],[]⟩:=ae.k (aAK l v hl) K
def a0t:=ai (ai @zq (ai @aQD @aOh)) (ai @zT0 (ai @aDh (aw aSf)))
theorem aA1 (l:List Int) (v:Int) (hl:l.length≤4611686018427387903):G1 73 [.of (slC aV l),.of (ci v)] (ah (decide (v∈l))):=by
 refine aj rfl aSf aDh rfl ?_
 rw[← ary]
 simp -implicitDefEqProofs(maxSteps:=9^9)only[Tryz.f73,↓zA,sevalprocAttr,a0t,aOv l v hl]
theorem ax7 (l:List Int) (v:Int) (K:An→Prop):aG Tryz.prog pr 73 [.of (slC aV l),.of (ci v)] [] K↔ifP (l.length≤4611686018427387903) (K ⟨false,[ah (decide (v∈l))],[]⟩) (fp Tryz.prog pr 73 [.of (slC aV l),.of (ci v)] K):=hZ (aA1 l v) K
def aVh:=ai (ai @zq (ai @adC @dw)) (ai (ai @aUP @zT0) (ai @avN (aw aJW)))
theorem akK (x:Cd) (b:Bool) (g:Nat) (cp:List C) (ho:aD g=false) (hc:ab Tryz.prog g=true) (hg:G1 g (.of (.agg (cdC x))::cp.map .of) (ah b)):G1 182 [.of (.agg (cdC x)),.of (.ref [.fn g cp])] (ah (!b)):=by
 refine aj rfl aJW avN rfl ?_
 have hx:=fun K=>ae.k hg K
 simp -implicitDefEqProofs(maxSteps:=9^9)only[Tryz.f182,↓zA,sevalprocAttr,aVh,ho,hc,hx]
def ayq:=ai (ai (ai @zq (ai @acg @aUB)) (ai @aQa (ai @aNN @dw))) (ai (ai @cE (ai @aCg @axG)) (ai (ai @aUP @zT0) (ai @awx (aw aKF))))
theorem amt (l:List Cd) (a b:Int) (p:Cd→Bool) (g:Nat) (cp:List C) (h:l.length≤4611686018427387903∧FnB (fun x=>.agg (cdC x)) g cp p l):G1 135 [.of (slC cdC l),.of (ci a),.of (ci b),.of (.fn g cp)] (ah (am l a b p)):=by
 have hF:l.length≤4611686018427387903∧FnB (fun x=>.agg (cdC x)) 182 [.ref [.fn g cp]] (fun x=>!p x) l:=⟨h.1,aCg,axG,fun x hx=>akK x (p x) g cp h.2.1 h.2.2.1 (h.2.2.2 x hx)⟩
 have hk:=fun K=>aA9 l (fun x=>!p x) 182 [.ref [.fn g cp]] hF K
 refine aj rfl aKF awx rfl ?_
 by_cases c1:a≤(l.length:Int)
 .by_cases c2:(l.length:Int)≤b
  .simp -implicitDefEqProofs(maxSteps:=9^9)only[Tryz.f135,↓zA,sevalprocAttr,ayq,c1,c2,hk,h.2.1,am,ii,Bool.not_not,decide_true,Bool.true_and]
  .simp -implicitDefEqProofs(maxSteps:=9^9)only[Tryz.f135,↓zA,sevalprocAttr,ayq,c1,c2,am,decide_true,decide_false,Bool.true_and,Bool.false_and]
 .simp -implicitDefEqProofs(maxSteps:=9^9)only[Tryz.f135,↓zA,sevalprocAttr,ayq,c1,am,decide_false,Bool.false_and]
theorem asS (l:List Cd) (a b:Int) (p:Cd→Bool) (g:Nat) (cp:List C) (h:l.length≤4611686018427387903∧FnB (fun x=>.agg (cdC x)) g cp p l) (K:An→Prop):aG Tryz.prog pr 135 [.of (slC cdC l),.of (ci a),.of (ci b),.of (.fn g cp)] [] K↔K ⟨false,[ah (am l a b p)],[]⟩:=ae.k (amt l a b p g cp h) K
def aVf:=ai (ai @zq (ai @adC @jz)) (ai (ai @aUO @zT0) (ai @avL (aw aJU)))
theorem akI (x:Kd) (b:Bool) (g:Nat) (cp:List C) (ho:aD g=false) (hc:ab Tryz.prog g=true) (hg:G1 g (.of (.agg (kdC x))::cp.map .of) (ah b)):G1 184 [.of (.agg (kdC x)),.of (.ref [.fn g cp])] (ah (!b)):=by
 refine aj rfl aJU avL rfl ?_
 have hx:=fun K=>ae.k hg K
 simp -implicitDefEqProofs(maxSteps:=9^9)only[Tryz.f184,↓zA,sevalprocAttr,aVf,ho,hc,hx]
def ayp:=ai (ai (ai @zq (ai @acg @aUA)) (ai @aP9 (ai @aNM @jz))) (ai (ai @gG (ai @aCf @axF)) (ai (ai @aUO @zT0) (ai @awv (aw aKD))))
theorem ams (l:List Kd) (a b:Int) (p:Kd→Bool) (g:Nat) (cp:List C) (h:l.length≤4611686018427387903∧FnB (fun x=>.agg (kdC x)) g cp p l):G1 137 [.of (slC kdC l),.of (ci a),.of (ci b),.of (.fn g cp)] (ah (am l a b p)):=by
 have hF:l.length≤4611686018427387903∧FnB (fun x=>.agg (kdC x)) 184 [.ref [.fn g cp]] (fun x=>!p x) l:=⟨h.1,aCf,axF,fun x hx=>akI x (p x) g cp h.2.1 h.2.2.1 (h.2.2.2 x hx)⟩
 have hk:=fun K=>aA8 l (fun x=>!p x) 184 [.ref [.fn g cp]] hF K
 refine aj rfl aKD awv rfl ?_
 by_cases c1:a≤(l.length:Int)
 .by_cases c2:(l.length:Int)≤b
  .simp -implicitDefEqProofs(maxSteps:=9^9)only[Tryz.f137,↓zA,sevalprocAttr,ayp,c1,c2,hk,h.2.1,am,ii,Bool.not_not,decide_true,Bool.true_and]
  .simp -implicitDefEqProofs(maxSteps:=9^9)only[Tryz.f137,↓zA,sevalprocAttr,ayp,c1,c2,am,decide_true,decide_false,Bool.true_and,Bool.false_and]
 .simp -implicitDefEqProofs(maxSteps:=9^9)only[Tryz.f137,↓zA,sevalprocAttr,ayp,c1,am,decide_false,Bool.false_and]
theorem asR (l:List Kd) (a b:Int) (p:Kd→Bool) (g:Nat) (cp:List C) (h:l.length≤4611686018427387903∧FnB (fun x=>.agg (kdC x)) g cp p l) (K:An→Prop):aG Tryz.prog pr 137 [.of (slC kdC l),.of (ci a),.of (ci b),.of (.fn g cp)] [] K↔K ⟨false,[ah (am l a b p)],[]⟩:=ae.k (ams l a b p g cp h) K
def aVe:=ai (ai @zq (ai @adC @jy)) (ai (ai @aUQ @zT0) (ai @avK (aw aJT)))
theorem akH (x:Rd) (b:Bool) (g:Nat) (cp:List C) (ho:aD g=false) (hc:ab Tryz.prog g=true) (hg:G1 g (.of (.agg (rdC x))::cp.map .of) (ah b)):G1 185 [.of (.agg (rdC x)),.of (.ref [.fn g cp])] (ah (!b)):=by
 refine aj rfl aJT avK rfl ?_
 have hx:=fun K=>ae.k hg K
 simp -implicitDefEqProofs(maxSteps:=9^9)only[Tryz.f185,↓zA,sevalprocAttr,aVe,ho,hc,hx]
def ayo:=ai (ai (ai @zq (ai @acg @aUC)) (ai @aIh (ai @aEL @jy))) (ai (ai @jA (ai @aCe @axE)) (ai (ai @aUQ @zT0) (ai @awt (aw aKB))))
theorem amp (l:List Rd) (a b:Int) (p:Rd→Bool) (g:Nat) (cp:List C) (h:l.length≤4611686018427387903∧FnB (fun x=>.agg (rdC x)) g cp p l):G1 139 [.of (slC rdC l),.of (ci a),.of (ci b),.of (.fn g cp)] (ah (am l a b p)):=by
 have hF:l.length≤4611686018427387903∧FnB (fun x=>.agg (rdC x)) 185 [.ref [.fn g cp]] (fun x=>!p x) l:=⟨h.1,aCe,axE,fun x hx=>akH x (p x) g cp h.2.1 h.2.2.1 (h.2.2.2 x hx)⟩
 have hk:=fun K=>amg l (fun x=>!p x) 185 [.ref [.fn g cp]] hF K
 refine aj rfl aKB awt rfl ?_
 by_cases c1:a≤(l.length:Int)
 .by_cases c2:(l.length:Int)≤b
  .simp -implicitDefEqProofs(maxSteps:=9^9)only[Tryz.f139,↓zA,sevalprocAttr,ayo,c1,c2,hk,h.2.1,am,ii,Bool.not_not,decide_true,Bool.true_and]
  .simp -implicitDefEqProofs(maxSteps:=9^9)only[Tryz.f139,↓zA,sevalprocAttr,ayo,c1,c2,am,decide_true,decide_false,Bool.true_and,Bool.false_and]
 .simp -implicitDefEqProofs(maxSteps:=9^9)only[Tryz.f139,↓zA,sevalprocAttr,ayo,c1,am,decide_false,Bool.false_and]
theorem asQ (l:List Rd) (a b:Int) (p:Rd→Bool) (g:Nat) (cp:List C) (h:l.length≤4611686018427387903∧FnB (fun x=>.agg (rdC x)) g cp p l) (K:An→Prop):aG Tryz.prog pr 139 [.of (slC rdC l),.of (ci a),.of (ci b),.of (.fn g cp)] [] K↔K ⟨false,[ah (am l a b p)],[]⟩:=ae.k (amp l a b p g cp h) K
def aVd:=ai (ai @zq (ai @adC @bK)) (ai (ai @aUR @zT0) (ai @avJ (aw aJS)))
theorem aoy (x:Xp) (b:Bool) (g:Nat) (cp:List C) (ho:aD g=false) (hc:ab Tryz.prog g=true) (hg:G1 g (.of (.agg (xpC x))::cp.map .of) (ah b)):G1 186 [.of (.agg (xpC x)),.of (.ref [.fn g cp])] (ah (!b)):=by
 refine aj rfl aJS avJ rfl ?_
 have hx:=fun K=>ae.k hg K
 simp -implicitDefEqProofs(maxSteps:=9^9)only[Tryz.f186,↓zA,sevalprocAttr,aVd,ho,hc,hx]
def aym:=ai (ai (ai @zq (ai @acg @aUE)) (ai @aIr (ai @aEV @bK))) (ai (ai @dR (ai @aCd @axD)) (ai (ai @aUR @zT0) (ai @awr (aw aKz))))
theorem aqa (l:List Xp) (a b:Int) (p:Xp→Bool) (g:Nat) (cp:List C) (h:l.length≤4611686018427387903∧FnB (fun x=>.agg (xpC x)) g cp p l):G1 141 [.of (slC xpC l),.of (ci a),.of (ci b),.of (.fn g cp)] (ah (am l a b p)):=by
 have hF:l.length≤4611686018427387903∧FnB (fun x=>.agg (xpC x)) 186 [.ref [.fn g cp]] (fun x=>!p x) l:=⟨h.1,aCd,axD,fun x hx=>aoy x (p x) g cp h.2.1 h.2.2.1 (h.2.2.2 x hx)⟩
 have hk:=fun K=>asL l (fun x=>!p x) 186 [.ref [.fn g cp]] hF K
 refine aj rfl aKz awr rfl ?_
 by_cases c1:a≤(l.length:Int)
 .by_cases c2:(l.length:Int)≤b
  .simp -implicitDefEqProofs(maxSteps:=9^9)only[Tryz.f141,↓zA,sevalprocAttr,aym,c1,c2,hk,h.2.1,am,ii,Bool.not_not,decide_true,Bool.true_and]
  .simp -implicitDefEqProofs(maxSteps:=9^9)only[Tryz.f141,↓zA,sevalprocAttr,aym,c1,c2,am,decide_true,decide_false,Bool.true_and,Bool.false_and]
 .simp -implicitDefEqProofs(maxSteps:=9^9)only[Tryz.f141,↓zA,sevalprocAttr,aym,c1,am,decide_false,Bool.false_and]
theorem aBk (l:List Xp) (a b:Int) (p:Xp→Bool) (g:Nat) (cp:List C) (h:l.length≤4611686018427387903∧FnB (fun x=>.agg (xpC x)) g cp p l) (K:An→Prop):aG Tryz.prog pr 141 [.of (slC xpC l),.of (ci a),.of (ci b),.of (.fn g cp)] [] K↔K ⟨false,[ah (am l a b p)],[]⟩:=ae.k (aqa l a b p g cp h) K
def aVb:=ai (ai @zq (ai @adC @dY)) (ai (ai @aUN @zT0) (ai @avG (aw aJP)))
theorem amq (x:Qy) (b:Bool) (g:Nat) (cp:List C) (ho:aD g=false) (hc:ab Tryz.prog g=true) (hg:G1 g (.of (.agg (qyC x))::cp.map .of) (ah b)):G1 189 [.of (.agg (qyC x)),.of (.ref [.fn g cp])] (ah (!b)):=by
 refine aj rfl aJP avG rfl ?_
 have hx:=fun K=>ae.k hg K
 simp -implicitDefEqProofs(maxSteps:=9^9)only[Tryz.f189,↓zA,sevalprocAttr,aVb,ho,hc,hx]
def ayl:=ai (ai (ai @zq (ai @acg @aUz)) (ai @aP7 (ai @aNK @dY))) (ai (ai @ec (ai @aCc @axC)) (ai (ai @aUN @zT0) (ai @awp (aw aKx))))
theorem aou (l:List Qy) (a b:Int) (p:Qy→Bool) (g:Nat) (cp:List C) (h:l.length≤4611686018427387903∧FnB (fun x=>.agg (qyC x)) g cp p l):G1 143 [.of (slC qyC l),.of (ci a),.of (ci b),.of (.fn g cp)] (ah (am l a b p)):=by
 have hF:l.length≤4611686018427387903∧FnB (fun x=>.agg (qyC x)) 189 [.ref [.fn g cp]] (fun x=>!p x) l:=⟨h.1,aCc,axC,fun x hx=>amq x (p x) g cp h.2.1 h.2.2.1 (h.2.2.2 x hx)⟩
 have hk:=fun K=>aFw l (fun x=>!p x) 189 [.ref [.fn g cp]] hF K
 refine aj rfl aKx awp rfl ?_
 by_cases c1:a≤(l.length:Int)
 .by_cases c2:(l.length:Int)≤b
  .simp -implicitDefEqProofs(maxSteps:=9^9)only[Tryz.f143,↓zA,sevalprocAttr,ayl,c1,c2,hk,h.2.1,am,ii,Bool.not_not,decide_true,Bool.true_and]
  .simp -implicitDefEqProofs(maxSteps:=9^9)only[Tryz.f143,↓zA,sevalprocAttr,ayl,c1,c2,am,decide_true,decide_false,Bool.true_and,Bool.false_and]
 .simp -implicitDefEqProofs(maxSteps:=9^9)only[Tryz.f143,↓zA,sevalprocAttr,ayl,c1,am,decide_false,Bool.false_and]
theorem ayx (l:List Qy) (a b:Int) (p:Qy→Bool) (g:Nat) (cp:List C) (h:l.length≤4611686018427387903∧FnB (fun x=>.agg (qyC x)) g cp p l) (K:An→Prop):aG Tryz.prog pr 143 [.of (slC qyC l),.of (ci a),.of (ci b),.of (.fn g cp)] [] K↔K ⟨false,[ah (am l a b p)],[]⟩:=ae.k (aou l a b p g cp h) K
def aU9:=ai (ai @zq (ai @bK @Q77)) (ai @zT0 (ai @avy (aw aJH)))
theorem ajT (x:(List Xp)) (b:Bool) (g:Nat) (cp:List C) (ho:aD g=false) (hc:ab Tryz.prog g=true) (hg:G1 g (.of (slC xpC x)::cp.map .of) (ah b)):G1 197 [.of (slC xpC x),.of (.ref [.fn g cp])] (ah (!b)):=by
 refine aj rfl aJH avy rfl ?_
 have hx:=fun K=>ae.k hg K
 simp -implicitDefEqProofs(maxSteps:=9^9)only[Tryz.f197,↓zA,sevalprocAttr,aU9,ho,hc,hx]
def ayk:=ai (ai (ai @zq (ai @acg @T77)) (ai @aP4 (ai @aNH @fT))) (ai (ai @aB7 (ai @axx @Q77)) (ai @zT0 (ai @awn (aw aKv))))
theorem akJ (l:List (List Xp)) (a b:Int) (p:(List Xp)→Bool) (g:Nat) (cp:List C) (h:l.length≤4611686018427387903∧FnB (slC xpC) g cp p l):G1 145 [.of (slC (lsC xpC) l),.of (ci a),.of (ci b),.of (.fn g cp)] (ah (am l a b p)):=by
 have hF:l.length≤4611686018427387903∧FnB (slC xpC) 197 [.ref [.fn g cp]] (fun x=>!p x) l:=⟨h.1,aB7,axx,fun x hx=>ajT x (p x) g cp h.2.1 h.2.2.1 (h.2.2.2 x hx)⟩
 have hk:=fun K=>aui l (fun x=>!p x) 197 [.ref [.fn g cp]] hF K
 refine aj rfl aKv awn rfl ?_
 by_cases c1:a≤(l.length:Int)
 .by_cases c2:(l.length:Int)≤b
  .simp -implicitDefEqProofs(maxSteps:=9^9)only[Tryz.f145,↓zA,sevalprocAttr,ayk,c1,c2,hk,h.2.1,am,ii,Bool.not_not,decide_true,Bool.true_and]
  .simp -implicitDefEqProofs(maxSteps:=9^9)only[Tryz.f145,↓zA,sevalprocAttr,ayk,c1,c2,am,decide_true,decide_false,Bool.true_and,Bool.false_and]
 .simp -implicitDefEqProofs(maxSteps:=9^9)only[Tryz.f145,↓zA,sevalprocAttr,ayk,c1,am,decide_false,Bool.false_and]
theorem aqb (l:List (List Xp)) (a b:Int) (p:(List Xp)→Bool) (g:Nat) (cp:List C) (h:l.length≤4611686018427387903∧FnB (slC xpC) g cp p l) (K:An→Prop):aG Tryz.prog pr 145 [.of (slC (lsC xpC) l),.of (ci a),.of (ci b),.of (.fn g cp)] [] K↔K ⟨false,[ah (am l a b p)],[]⟩:=ae.k (akJ l a b p g cp h) K
def aU7:=ai (ai @zq (ai @adC @j0)) (ai (ai @aUM @zT0) (ai @avw (aw aJF)))
theorem akL (x:As) (b:Bool) (g:Nat) (cp:List C) (ho:aD g=false) (hc:ab Tryz.prog g=true) (hg:G1 g (.of (.agg (asC x))::cp.map .of) (ah b)):G1 199 [.of (.agg (asC x)),.of (.ref [.fn g cp])] (ah (!b)):=by
 refine aj rfl aJF avw rfl ?_
 have hx:=fun K=>ae.k hg K
 simp -implicitDefEqProofs(maxSteps:=9^9)only[Tryz.f199,↓zA,sevalprocAttr,aU7,ho,hc,hx]
def ayj:=ai (ai (ai @zq (ai @acg @aUy)) (ai @aP3 (ai @aNG @j0))) (ai (ai @kT (ai @aB6 @axw)) (ai (ai @aUM @zT0) (ai @awl (aw aKt))))
theorem amu (l:List As) (a b:Int) (p:As→Bool) (g:Nat) (cp:List C) (h:l.length≤4611686018427387903∧FnB (fun x=>.agg (asC x)) g cp p l):G1 147 [.of (slC asC l),.of (ci a),.of (ci b),.of (.fn g cp)] (ah (am l a b p)):=by
 have hF:l.length≤4611686018427387903∧FnB (fun x=>.agg (asC x)) 199 [.ref [.fn g cp]] (fun x=>!p x) l:=⟨h.1,aB6,axw,fun x hx=>akL x (p x) g cp h.2.1 h.2.2.1 (h.2.2.2 x hx)⟩
 have hk:=fun K=>aBa l (fun x=>!p x) 199 [.ref [.fn g cp]] hF K
 refine aj rfl aKt awl rfl ?_
 by_cases c1:a≤(l.length:Int)
 .by_cases c2:(l.length:Int)≤b
  .simp -implicitDefEqProofs(maxSteps:=9^9)only[Tryz.f147,↓zA,sevalprocAttr,ayj,c1,c2,hk,h.2.1,am,ii,Bool.not_not,decide_true,Bool.true_and]
  .simp -implicitDefEqProofs(maxSteps:=9^9)only[Tryz.f147,↓zA,sevalprocAttr,ayj,c1,c2,am,decide_true,decide_false,Bool.true_and,Bool.false_and]
 .simp -implicitDefEqProofs(maxSteps:=9^9)only[Tryz.f147,↓zA,sevalprocAttr,ayj,c1,am,decide_false,Bool.false_and]
theorem asT (l:List As) (a b:Int) (p:As→Bool) (g:Nat) (cp:List C) (h:l.length≤4611686018427387903∧FnB (fun x=>.agg (asC x)) g cp p l) (K:An→Prop):aG Tryz.prog pr 147 [.of (slC asC l),.of (ci a),.of (ci b),.of (.fn g cp)] [] K↔K ⟨false,[ah (am l a b p)],[]⟩:=ae.k (amu l a b p g cp h) K
def aU4:=ai (ai @zq @Q74) (ai @zT0 (ai @au4 (aw aJg)))
theorem akF (x:(List UInt8)) (b:Bool) (g:Nat) (cp:List C) (ho:aD g=false) (hc:ab Tryz.prog g=true) (hg:G1 g (.of (ao (ar x))::cp.map .of) (ah b)):G1 227 [.of (ao (ar x)),.of (.ref [.fn g cp])] (ah (!b)):=by
 refine aj rfl aJg au4 rfl ?_
 have hx:=fun K=>ae.k hg K
 simp -implicitDefEqProofs(maxSteps:=9^9)only[Tryz.f227,↓zA,sevalprocAttr,aU4,ho,hc,hx]
def ayg:=ai (ai (ai @zq (ai @acg @T74)) (ai @aPO (ai @aNp @bH))) (ai (ai @aB0 (ai @axq @Q74)) (ai @zT0 (ai @avI (aw aJR))))
theorem amn (l:List (List UInt8)) (a b:Int) (p:(List UInt8)→Bool) (g:Nat) (cp:List C) (h:l.length≤4611686018427387903∧FnB (fun x=>ao (ar x)) g cp p l):G1 187 [.of (slC bd l),.of (ci a),.of (ci b),.of (.fn g cp)] (ah (am l a b p)):=by
 have hF:l.length≤4611686018427387903∧FnB (fun x=>ao (ar x)) 227 [.ref [.fn g cp]] (fun x=>!p x) l:=⟨h.1,aB0,axq,fun x hx=>akF x (p x) g cp h.2.1 h.2.2.1 (h.2.2.2 x hx)⟩
 have hk:=fun K=>aA4 l (fun x=>!p x) 227 [.ref [.fn g cp]] hF K
 refine aj rfl aJR avI rfl ?_
 by_cases c1:a≤(l.length:Int)
 .by_cases c2:(l.length:Int)≤b
  .simp -implicitDefEqProofs(maxSteps:=9^9)only[Tryz.f187,↓zA,sevalprocAttr,ayg,c1,c2,hk,h.2.1,am,ii,Bool.not_not,decide_true,Bool.true_and]
  .simp -implicitDefEqProofs(maxSteps:=9^9)only[Tryz.f187,↓zA,sevalprocAttr,ayg,c1,c2,am,decide_true,decide_false,Bool.true_and,Bool.false_and]
 .simp -implicitDefEqProofs(maxSteps:=9^9)only[Tryz.f187,↓zA,sevalprocAttr,ayg,c1,am,decide_false,Bool.false_and]
theorem asP (l:List (List UInt8)) (a b:Int) (p:(List UInt8)→Bool) (g:Nat) (cp:List C) (h:l.length≤4611686018427387903∧FnB (fun x=>ao (ar x)) g cp p l) (K:An→Prop):aG Tryz.prog pr 187 [.of (slC bd l),.of (ci a),.of (ci b),.of (.fn g cp)] [] K↔K ⟨false,[ah (am l a b p)],[]⟩:=ae.k (amn l a b p g cp h) K
def aU2:=ai (ai @zq (ai @adC @abx)) (ai (ai @aUL @zT0) (ai @au1 (aw aJd)))
theorem amr (x:Od) (b:Bool) (g:Nat) (cp:List C) (ho:aD g=false) (hc:ab Tryz.prog g=true) (hg:G1 g (.of (.agg (odC x))::cp.map .of) (ah b)):G1 230 [.of (.agg (odC x)),.of (.ref [.fn g cp])] (ah (!b)):=by
 refine aj rfl aJd au1 rfl ?_
 have hx:=fun K=>ae.k hg K
 simp -implicitDefEqProofs(maxSteps:=9^9)only[Tryz.f230,↓zA,sevalprocAttr,aU2,ho,hc,hx]
def ayf:=ai (ai (ai @zq (ai @acg @aUx)) (ai @aPM (ai @aNn @abx))) (ai (ai @ac5 (ai @aBZ @axp)) (ai (ai @aUL @zT0) (ai @avF (aw aJO))))
theorem aov (l:List Od) (a b:Int) (p:Od→Bool) (g:Nat) (cp:List C) (h:l.length≤4611686018427387903∧FnB (fun x=>.agg (odC x)) g cp p l):G1 190 [.of (slC odC l),.of (ci a),.of (ci b),.of (.fn g cp)] (ah (am l a b p)):=by
 have hF:l.length≤4611686018427387903∧FnB (fun x=>.agg (odC x)) 230 [.ref [.fn g cp]] (fun x=>!p x) l:=⟨h.1,aBZ,axp,fun x hx=>amr x (p x) g cp h.2.1 h.2.2.1 (h.2.2.2 x hx)⟩
 have hk:=fun K=>aFx l (fun x=>!p x) 230 [.ref [.fn g cp]] hF K
 refine aj rfl aJO avF rfl ?_
 by_cases c1:a≤(l.length:Int)
 .by_cases c2:(l.length:Int)≤b
  .simp -implicitDefEqProofs(maxSteps:=9^9)only[Tryz.f190,↓zA,sevalprocAttr,ayf,c1,c2,hk,h.2.1,am,ii,Bool.not_not,decide_true,Bool.true_and]
  .simp -implicitDefEqProofs(maxSteps:=9^9)only[Tryz.f190,↓zA,sevalprocAttr,ayf,c1,c2,am,decide_true,decide_false,Bool.true_and,Bool.false_and]
 .simp -implicitDefEqProofs(maxSteps:=9^9)only[Tryz.f190,↓zA,sevalprocAttr,ayf,c1,am,decide_false,Bool.false_and]
theorem ayy (l:List Od) (a b:Int) (p:Od→Bool) (g:Nat) (cp:List C) (h:l.length≤4611686018427387903∧FnB (fun x=>.agg (odC x)) g cp p l) (K:An→Prop):aG Tryz.prog pr 190 [.of (slC odC l),.of (ci a),.of (ci b),.of (.fn g cp)] [] K↔K ⟨false,[ah (am l a b p)],[]⟩:=ae.k (aov l a b p g cp h) K
def aU0:=ai (ai @zq (ai @adC @jh)) (ai (ai @aUK @zT0) (ai @auZ (aw aJb)))
theorem aow (x:Im) (b:Bool) (g:Nat) (cp:List C) (ho:aD g=false) (hc:ab Tryz.prog g=true) (hg:G1 g (.of (.agg (imC x))::cp.map .of) (ah b)):G1 232 [.of (.agg (imC x)),.of (.ref [.fn g cp])] (ah (!b)):=by
 refine aj rfl aJb auZ rfl ?_
 have hx:=fun K=>ae.k hg K
 simp -implicitDefEqProofs(maxSteps:=9^9)only[Tryz.f232,↓zA,sevalprocAttr,aU0,ho,hc,hx]
def aye:=ai (ai (ai @zq (ai @acg @aUw)) (ai @aPL (ai @aNm @jh))) (ai (ai @kQ (ai @aBY @axo)) (ai (ai @aUK @zT0) (ai @avD (aw aJM))))
theorem ap8 (l:List Im) (a b:Int) (p:Im→Bool) (g:Nat) (cp:List C) (h:l.length≤4611686018427387903∧FnB (fun x=>.agg (imC x)) g cp p l):G1 192 [.of (slC imC l),.of (ci a),.of (ci b),.of (.fn g cp)] (ah (am l a b p)):=by
 have hF:l.length≤4611686018427387903∧FnB (fun x=>.agg (imC x)) 232 [.ref [.fn g cp]] (fun x=>!p x) l:=⟨h.1,aBY,axo,fun x hx=>aow x (p x) g cp h.2.1 h.2.2.1 (h.2.2.2 x hx)⟩
 have hk:=fun K=>aH1 l (fun x=>!p x) 232 [.ref [.fn g cp]] hF K
 refine aj rfl aJM avD rfl ?_
 by_cases c1:a≤(l.length:Int)
 .by_cases c2:(l.length:Int)≤b
  .simp -implicitDefEqProofs(maxSteps:=9^9)only[Tryz.f192,↓zA,sevalprocAttr,aye,c1,c2,hk,h.2.1,am,ii,Bool.not_not,decide_true,Bool.true_and]
  .simp -implicitDefEqProofs(maxSteps:=9^9)only[Tryz.f192,↓zA,sevalprocAttr,aye,c1,c2,am,decide_true,decide_false,Bool.true_and,Bool.false_and]
 .simp -implicitDefEqProofs(maxSteps:=9^9)only[Tryz.f192,↓zA,sevalprocAttr,aye,c1,am,decide_false,Bool.false_and]
theorem aBj (l:List Im) (a b:Int) (p:Im→Bool) (g:Nat) (cp:List C) (h:l.length≤4611686018427387903∧FnB (fun x=>.agg (imC x)) g cp p l) (K:An→Prop):aG Tryz.prog pr 192 [.of (slC imC l),.of (ci a),.of (ci b),.of (.fn g cp)] [] K↔K ⟨false,[ah (am l a b p)],[]⟩:=ae.k (ap8 l a b p g cp h) K
def aUY:=ai (ai @zq (ai @adC @gV)) (ai (ai @aUJ @zT0) (ai @auX (aw aI9)))
theorem aox (x:Fm) (b:Bool) (g:Nat) (cp:List C) (ho:aD g=false) (hc:ab Tryz.prog g=true) (hg:G1 g (.of (.agg (fmC x))::cp.map .of) (ah b)):G1 234 [.of (.agg (fmC x)),.of (.ref [.fn g cp])] (ah (!b)):=by
 refine aj rfl aI9 auX rfl ?_
 have hx:=fun K=>ae.k hg K
 simp -implicitDefEqProofs(maxSteps:=9^9)only[Tryz.f234,↓zA,sevalprocAttr,aUY,ho,hc,hx]
def ayd:=ai (ai (ai @zq (ai @acg @aUv)) (ai @aPK (ai @aNl @gV))) (ai (ai @hU (ai @aBX @axn)) (ai (ai @aUJ @zT0) (ai @avB (aw aJK))))
theorem ap9 (l:List Fm) (a b:Int) (p:Fm→Bool) (g:Nat) (cp:List C) (h:l.length≤4611686018427387903∧FnB (fun x=>.agg (fmC x)) g cp p l):G1 194 [.of (slC fmC l),.of (ci a),.of (ci b),.of (.fn g cp)] (ah (am l a b p)):=by
 have hF:l.length≤4611686018427387903∧FnB (fun x=>.agg (fmC x)) 234 [.ref [.fn g cp]] (fun x=>!p x) l:=⟨h.1,aBX,axn,fun x hx=>aox x (p x) g cp h.2.1 h.2.2.1 (h.2.2.2 x hx)⟩
 have hk:=fun K=>aH2 l (fun x=>!p x) 234 [.ref [.fn g cp]] hF K
 refine aj rfl aJK avB rfl ?_
 by_cases c1:a≤(l.length:Int)
 .by_cases c2:(l.length:Int)≤b
  .simp -implicitDefEqProofs(maxSteps:=9^9)only[Tryz.f194,↓zA,sevalprocAttr,ayd,c1,c2,hk,h.2.1,am,ii,Bool.not_not,decide_true,Bool.true_and]
  .simp -implicitDefEqProofs(maxSteps:=9^9)only[Tryz.f194,↓zA,sevalprocAttr,ayd,c1,c2,am,decide_true,decide_false,Bool.true_and,Bool.false_and]
 .simp -implicitDefEqProofs(maxSteps:=9^9)only[Tryz.f194,↓zA,sevalprocAttr,ayd,c1,am,decide_false,Bool.false_and]
theorem anI (l:List Fm) (a b:Int) (p:Fm→Bool) (g:Nat) (cp:List C) (h:l.length≤4611686018427387903∧FnB (fun x=>.agg (fmC x)) g cp p l) (K:An→Prop):aG Tryz.prog pr 194 [.of (slC fmC l),.of (ci a),.of (ci b),.of (.fn g cp)] [] K↔K ⟨false,[ah (am l a b p)],[]⟩:=ae.k (ap9 l a b p g cp h) K
def u8C (c:UInt8):List C:=[.lit (.int .u8 (c.toNat:Nat))]
theorem aFa (s:List UInt8):C.sl (aer (ar s)) (ar s).size=slC u8C s:=by
 have h1:(ar s).data.toList=s:=by simp[ar]
 rw[abR,slC,aer,h1,fl]
 congr 1
 induction s with
 | nil=>rfl
 | cons x r ih =>
  have h2:(ar r).data.toList=r:=by simp[ar]
  simp[u8C,ih h2]
theorem gN (s:List UInt8):adJ (TT.of Tryz.prog) 9 156 (.of (.lit (.string (ar s))))=out (.of (slC u8C s)):=by
 rw[aM6 (e:=5) (by rw[T9];rfl) (by rw[aHD];rfl) (by rw[T5];rfl),aFa]
theorem jH (l) (i:Int):bF (TT.of Tryz.prog) 156 (.of (slC u8C l)) (.of (.lit (.int .i64 i)))=fv (ey l i) fun x=>.of (.ref (u8C x++fl u8C (l.drop (i.toNat+1)))):=fW a2K (fun _=>rfl) (by decide) l i
theorem jE (l):fh (some (.slice 5)) (.of (slC u8C l))=out (ak l.length):=fj u8C l rfl
theorem aaD (x:UInt8) (r:List C):C.ref (u8C x++r)=C.ref (.lit (.int .u8 (x.toNat:Nat))::r):=rfl
theorem aVH (c:UInt8) (n:Nat) (h:n<256):((c.toNat:Int)=(n:Int))=(c=UInt8.ofNat n):=by
 apply propext
 constructor
 .intro e
  apply UInt8.toNat_inj.1
  rw[UInt8.toNat_ofNat']
  omega
 .intro e
  subst e
  rw[UInt8.toNat_ofNat']
  omega
theorem u97 (c:UInt8):((97:Int)≤(c.toNat:Int))=(97≤c.toNat):=propext (by omega)
theorem jm (c:UInt8):((c.toNat:Int)≤122)=(c.toNat≤122):=propext (by omega)
theorem u95 (c:UInt8):((c.toNat:Int)=95)=(c=95):=aVH c 95 (by decide)
theorem u48 (c:UInt8):((c.toNat:Int)<48)=¬(48≤c.toNat):=propext (by omega)
theorem u57 (c:UInt8):((57:Int)<(c.toNat:Int))=¬(c.toNat≤57):=propext (by omega)
def ayh:=ai (ai @zq @zT0) (ai @avP (aw aJY))
theorem atn (c:UInt8):G1 180 [.of (.lit (.int .u8 (c.toNat:Nat)))] (ah (ca c)):=by
 refine aj rfl aJY avP rfl ?_
 by_cases c1:97≤c.toNat
 .by_cases c2:c.toNat≤122
  .simp -implicitDefEqProofs(maxSteps:=9^9)only[Tryz.f180,↓zA,sevalprocAttr,ayh,u97,jm,u95,c1,c2,ca,decide_true,Bool.true_and]
  .simp -implicitDefEqProofs(maxSteps:=9^9)only[Tryz.f180,↓zA,sevalprocAttr,ayh,u97,jm,u95,c1,c2,ca,decide_true,Bool.true_and,decide_false]
 .simp -implicitDefEqProofs(maxSteps:=9^9)only[Tryz.f180,↓zA,sevalprocAttr,ayh,u97,jm,u95,c1,ca,decide_false,Bool.false_and]
theorem aj6 (c:UInt8) (K:An→Prop):aG Tryz.prog pr 180 [.of (.lit (.int .u8 (c.toNat:Nat)))] [] K↔K ⟨false,[ah (ca c)],[]⟩:=ae.k (atn c) K
def acQ (c:UInt8):Bool:=ca c||cQ c
theorem alv (n:Nat):((20:Int)<(n:Int))=(20<n):=propext (by omega)
theorem afg {α:Type} (x:α) (r:List α):(x::r=[])=False:=by simp
theorem aoa {α:Type} (x:α) (r:List α):ey (x::r) 0=some x:=rfl
theorem hM {α:Type} (p:α→Bool) (x:α) (r:List α):(x::r).all p=(p x&&r.all p):=rfl
def ab0:=ai (ai (ai @zq @aUs) (ai @T9 @aQb)) (ai (ai @aNO @Q5) (ai @zT0 (ai @awy (aw aKG))))
theorem aln (s:List UInt8):G1 134 [.of (ao (ar s))] (ah (aA s)):=by
 refine aj rfl aKG awy rfl ?_
 cases s with
 | nil=>simp -implicitDefEqProofs(maxSteps:=9^9)only[Tryz.f134,↓zA,sevalprocAttr,ab0,aA]
 | cons x r =>
  by_cases c0:20<r.length+1
  .have e:aA (x::r)=false:=by
    simp only[aA,decide_eq_false (show ¬(r.length+1≤20) from by omega),Bool.and_false]
   simp -implicitDefEqProofs(maxSteps:=9^9)only[Tryz.f134,↓zA,sevalprocAttr,ab0,afg,alv,c0,e]
  .have e:aA (x::r)=(ca x&&(x::r).all acQ):=by
    simp only[aA,decide_eq_true (show r.length+1≤20 from by omega),Bool.and_true,hM,acQ]
    cases ca x <;> rfl
   rw[e]
   cases c1:ca x
   .simp -implicitDefEqProofs(maxSteps:=9^9)only[Tryz.f134,↓zA,sevalprocAttr,ab0,afg,alv,c0,aj6,aoa,c1,Bool.false_and]
   .simp -implicitDefEqProofs(maxSteps:=9^9)only[Tryz.f134,↓zA,sevalprocAttr,ab0,afg,alv,c0,aj6,aoa,c1,Bool.true_and,gN,jH,jE,aaD]
    refine aL (x::r).length (fun k s=>s.fr 3=.of (.fn 180 [])∧s.fr 21=.of (slC u8C (x::r))∧s.fr 22=ak (x::r).length∧s.fr 23=ak k∧s.objs=[]∧(x::r).all acQ=((x::r).drop k).all acQ) ?_ ?_
    .simp -implicitDefEqProofs(maxSteps:=9^9)only[Tryz.f134,↓zA,sevalprocAttr,ab0]
     try exact rfl
    .have c0':(x::r).length≤20:=by simp only[List.length_cons];omega
     generalize x::r=l at c0'
     rintro k s hk ⟨f3,f21,f22,f23,ho,E⟩
     rcases Nat.lt_or_ge k l.length with d1|d1
     .have hw:=aQ k (by omega)
      rw[aJ d1,hM] at E
      simp -implicitDefEqProofs(maxSteps:=9^9)only[Tryz.f134,↓zA,sevalprocAttr,ab0,f3,f21,f22,f23,ho,aa,d1,ap d1,hw,gN,jH,jE,aaD,aj6,u48,u57]
      cases d2:ca l[k]
      .by_cases d3:48≤l[k].toNat
       .by_cases d4:l[k].toNat≤57
        .simp only[acQ,cQ,d2,d3,d4,decide_true,Bool.and_self,Bool.or_true,Bool.true_and] at E
         simp -implicitDefEqProofs(maxSteps:=9^9)only[Tryz.f134,↓zA,sevalprocAttr,ab0,d2,d3,d4,E]
        .simp only[acQ,cQ,d2,d3,d4,decide_false,Bool.and_false,Bool.or_self,Bool.false_and] at E
         simp -implicitDefEqProofs(maxSteps:=9^9)only[Tryz.f134,↓zA,sevalprocAttr,ab0,d2,d3,d4,E]
       .simp only[acQ,cQ,d2,d3,decide_false,Bool.false_and,Bool.or_self] at E
        simp -implicitDefEqProofs(maxSteps:=9^9)only[Tryz.f134,↓zA,sevalprocAttr,ab0,d2,d3,E]
      .simp only[acQ,d2,Bool.true_or,Bool.true_and] at E
       simp -implicitDefEqProofs(maxSteps:=9^9)only[Tryz.f134,↓zA,sevalprocAttr,ab0,d2,E]
     .have e:k=l.length:=by omega
      subst e
      rw[List.drop_length,List.all_nil] at E
      simp -implicitDefEqProofs(maxSteps:=9^9)only[Tryz.f134,↓zA,sevalprocAttr,ab0,f3,f21,f22,f23,ho,aa,Nat.lt_irrefl,E]
def af7:=ai (ai @zq (ai @cV @P3)) (ai (ai @Q3 @zT0) (ai @awX (aw aK5)))
theorem aAU (l m:List Int) (hl:l.length≤4611686018427387903):G1 105 [.of (slC aV l),.of (slC aV m)] (ah (eqR (fun x y=>decide (x=y)) l m)):=by
 refine aj rfl aK5 awX rfl ?_
 by_cases c0:l.length=m.length
 rotate_left
 .rw[jI _ l m c0]
  simp -implicitDefEqProofs(maxSteps:=9^9)only[Tryz.f105,↓zA,sevalprocAttr,af7,bV,c0]
 simp -implicitDefEqProofs(maxSteps:=9^9)only[Tryz.f105,↓zA,sevalprocAttr,af7,bV,c0]
 refine aL l.length (fun k s=>s.fr 0=.of (slC aV l)∧s.fr 1=.of (slC aV m)∧s.fr 12=ak l.length∧s.fr 13=ak k∧s.objs=[]∧eqR (fun x y=>decide (x=y)) l m=eqR (fun x y=>decide (x=y)) (l.drop k) (m.drop k)) ?_ ?_
 .simp -implicitDefEqProofs(maxSteps:=9^9)only[Tryz.f105,↓zA,sevalprocAttr,af7,c0]
  try exact rfl
 .rintro k s hk ⟨f0,f1,f12,f13,hob,E⟩
  rcases Nat.lt_or_ge k l.length with c1|c1
  .have hw:=aQ k (by omega)
   have c1':k<m.length:=by omega
   rw[aJ c1,aJ c1',eqR] at E
   simp -implicitDefEqProofs(maxSteps:=9^9)only[Tryz.f105,↓zA,sevalprocAttr,af7,f0,f1,f12,f13,hob,aa,c1,ap c1,ap c1',hw,av]
   by_cases c2:l[k]=m[k]
   .simp only[c2,decide_true,Bool.true_and] at E
    simp -implicitDefEqProofs(maxSteps:=9^9)only[Tryz.f105,↓zA,sevalprocAttr,af7,c2,E,not_true_eq_false]
   .simp only[c2,decide_false,Bool.false_and] at E
    simp -implicitDefEqProofs(maxSteps:=9^9)only[Tryz.f105,↓zA,sevalprocAttr,af7,c2,E]
  .have e:k=l.length:=by omega
   subst e
   rw[List.drop_length,c0,List.drop_length,eqR] at E
   simp -implicitDefEqProofs(maxSteps:=9^9)only[Tryz.f105,↓zA,sevalprocAttr,af7,f0,f1,f12,f13,hob,aa,Nat.lt_irrefl,E]
theorem anz (l m:List Int) (hl:l.length≤4611686018427387903) (K:An→Prop):aG Tryz.prog pr 105 [.of (slC aV l),.of (slC aV m)] [] K↔K ⟨false,[ah (eqR (fun x y=>decide (x=y)) l m)],[]⟩:=ae.k (aAU l m hl) K
def af4:=ai (ai @zq (ai @bH @Q9)) (ai @zT0 (ai @avu (aw aJD)))
theorem ao3 (l m:List (List UInt8)) (hl:l.length≤4611686018427387903):G1 201 [.of (slC bd l),.of (slC bd m)] (ah (eqR (fun x y=>decide (x=y)) l m)):=by
 refine aj rfl aJD avu rfl ?_
 by_cases c0:l.length=m.length
 rotate_left
 .rw[jI _ l m c0]
  simp -implicitDefEqProofs(maxSteps:=9^9)only[Tryz.f201,↓zA,sevalprocAttr,af4,bV,c0]
 simp -implicitDefEqProofs(maxSteps:=9^9)only[Tryz.f201,↓zA,sevalprocAttr,af4,bV,c0]
 refine aL l.length (fun k s=>s.fr 0=.of (slC bd l)∧s.fr 1=.of (slC bd m)∧s.fr 12=ak l.length∧s.fr 13=ak k∧s.objs=[]∧eqR (fun x y=>decide (x=y)) l m=eqR (fun x y=>decide (x=y)) (l.drop k) (m.drop k)) ?_ ?_
 .simp -implicitDefEqProofs(maxSteps:=9^9)only[Tryz.f201,↓zA,sevalprocAttr,af4,c0]
  try exact rfl
 .rintro k s hk ⟨f0,f1,f12,f13,hob,E⟩
  rcases Nat.lt_or_ge k l.length with c1|c1
  .have hw:=aQ k (by omega)
   have c1':k<m.length:=by omega
   rw[aJ c1,aJ c1',eqR] at E
   simp -implicitDefEqProofs(maxSteps:=9^9)only[Tryz.f201,↓zA,sevalprocAttr,af4,f0,f1,f12,f13,hob,aa,c1,ap c1,ap c1',hw,av]
   by_cases c2:l[k]=m[k]
   .simp only[c2,decide_true,Bool.true_and] at E
    simp -implicitDefEqProofs(maxSteps:=9^9)only[Tryz.f201,↓zA,sevalprocAttr,af4,c2,E,not_true_eq_false]
   .simp only[c2,decide_false,Bool.false_and] at E
    simp -implicitDefEqProofs(maxSteps:=9^9)only[Tryz.f201,↓zA,sevalprocAttr,af4,c2,E]
  .have e:k=l.length:=by omega
   subst e
   rw[List.drop_length,c0,List.drop_length,eqR] at E
   simp -implicitDefEqProofs(maxSteps:=9^9)only[Tryz.f201,↓zA,sevalprocAttr,af4,f0,f1,f12,f13,hob,aa,Nat.lt_irrefl,E]
def af2:=ai (ai @zq (ai @dw @cE)) (ai @zT0 (ai @avo (aw aJy)))
theorem ao4 (l m:List Cd) (hl:l.length≤4611686018427387903):G1 206 [.of (slC cdC l),.of (slC cdC m)] (ah (eqR (fun x y=>decide (x=y)) l m)):=by
 refine aj rfl aJy avo rfl ?_
 by_cases c0:l.length=m.length
 rotate_left
 .rw[jI _ l m c0]
  simp -implicitDefEqProofs(maxSteps:=9^9)only[Tryz.f206,↓zA,sevalprocAttr,af2,bV,c0]
 simp -implicitDefEqProofs(maxSteps:=9^9)only[Tryz.f206,↓zA,sevalprocAttr,af2,bV,c0]
 refine aL l.length (fun k s=>s.fr 0=.of (slC cdC l)∧s.fr 1=.of (slC cdC m)∧s.fr 12=ak l.length∧s.fr 13=ak k∧s.objs=[]∧eqR (fun x y=>decide (x=y)) l m=eqR (fun x y=>decide (x=y)) (l.drop k) (m.drop k)) ?_ ?_
 .simp -implicitDefEqProofs(maxSteps:=9^9)only[Tryz.f206,↓zA,sevalprocAttr,af2,c0]
  try exact rfl
 .rintro k s hk ⟨f0,f1,f12,f13,hob,E⟩
  rcases Nat.lt_or_ge k l.length with c1|c1
  .have hw:=aQ k (by omega)
   have c1':k<m.length:=by omega
   rw[aJ c1,aJ c1',eqR] at E
   simp -implicitDefEqProofs(maxSteps:=9^9)only[Tryz.f206,↓zA,sevalprocAttr,af2,f0,f1,f12,f13,hob,aa,c1,ap c1,ap c1',hw,eh,Bool.not_true,Bool.not_false]
   by_cases c2:l[k]=m[k]
   .simp only[c2,decide_true,Bool.true_and] at E
    simp -implicitDefEqProofs(maxSteps:=9^9)only[Tryz.f206,↓zA,sevalprocAttr,af2,c2,E,not_true_eq_false]
   .simp only[c2,decide_false,Bool.false_and] at E
    simp -implicitDefEqProofs(maxSteps:=9^9)only[Tryz.f206,↓zA,sevalprocAttr,af2,c2,E]
  .have e:k=l.length:=by omega
   subst e
   rw[List.drop_length,c0,List.drop_length,eqR] at E
   simp -implicitDefEqProofs(maxSteps:=9^9)only[Tryz.f206,↓zA,sevalprocAttr,af2,f0,f1,f12,f13,hob,aa,Nat.lt_irrefl,E]
def afV:=ai (ai @zq (ai @abx @ac5)) (ai @zT0 (ai @auS (aw aI4)))
theorem asD (l m:List Od) (hl:l.length≤4611686018427387903):G1 239 [.of (slC odC l),.of (slC odC m)] (ah (eqR (fun x y=>decide (x=y)) l m)):=by
 refine aj rfl aI4 auS rfl ?_
 by_cases c0:l.length=m.length
 rotate_left
 .rw[jI _ l m c0]
  simp -implicitDefEqProofs(maxSteps:=9^9)only[Tryz.f239,↓zA,sevalprocAttr,afV,bV,c0]
 simp -implicitDefEqProofs(maxSteps:=9^9)only[Tryz.f239,↓zA,sevalprocAttr,afV,bV,c0]
 refine aL l.length (fun k s=>s.fr 0=.of (slC odC l)∧s.fr 1=.of (slC odC m)∧s.fr 12=ak l.length∧s.fr 13=ak k∧s.objs=[]∧eqR (fun x y=>decide (x=y)) l m=eqR (fun x y=>decide (x=y)) (l.drop k) (m.drop k)) ?_ ?_
 .simp -implicitDefEqProofs(maxSteps:=9^9)only[Tryz.f239,↓zA,sevalprocAttr,afV,c0]
  try exact rfl
 .rintro k s hk ⟨f0,f1,f12,f13,hob,E⟩
  rcases Nat.lt_or_ge k l.length with c1|c1
  .have hw:=aQ k (by omega)
   have c1':k<m.length:=by omega
   rw[aJ c1,aJ c1',eqR] at E
   simp -implicitDefEqProofs(maxSteps:=9^9)only[Tryz.f239,↓zA,sevalprocAttr,afV,f0,f1,f12,f13,hob,aa,c1,ap c1,ap c1',hw,kP,Bool.not_true,Bool.not_false]
   by_cases c2:l[k]=m[k]
   .simp only[c2,decide_true,Bool.true_and] at E
    simp -implicitDefEqProofs(maxSteps:=9^9)only[Tryz.f239,↓zA,sevalprocAttr,afV,c2,E,not_true_eq_false]
   .simp only[c2,decide_false,Bool.false_and] at E
    simp -implicitDefEqProofs(maxSteps:=9^9)only[Tryz.f239,↓zA,sevalprocAttr,afV,c2,E]
  .have e:k=l.length:=by omega
   subst e
   rw[List.drop_length,c0,List.drop_length,eqR] at E
   simp -implicitDefEqProofs(maxSteps:=9^9)only[Tryz.f239,↓zA,sevalprocAttr,afV,f0,f1,f12,f13,hob,aa,Nat.lt_irrefl,E]
theorem aFu (l m:List Od) (hl:l.length≤4611686018427387903) (K:An→Prop):aG Tryz.prog pr 239 [.of (slC odC l),.of (slC odC m)] [] K↔K ⟨false,[ah (eqR (fun x y=>decide (x=y)) l m)],[]⟩:=ae.k (asD l m hl) K
end Go.Proofs.YtjajlmjfddohfaaGreatDoor
namespace Go.Pe
def ifQ (b:Bool) (p q:Prop):Prop:=match b with
 | true=>p
 | false=>q
theorem aQW {b b':Bool} (p q:Prop) (h:Unit→b=b'):ifQ b p q=ifQ b' p q:=by rw[h ()]
attribute [congr] aQW
end Go.Pe
namespace Go.Proofs.YtjajlmjfddohfaaGreatDoor
open Go Go.Pe Go.Tab
theorem aL3 (n:Int):(n<1)=¬(1≤n):=propext (by omega)
theorem aLh:IntKind.i64.wrap 1=1:=rfl
theorem aaK (n:Nat):((n:Int)=0)=(n=0):=propext (by omega)
theorem azb (s:List UInt8):aA s=(bi (fun i c=>ca c||(decide (0<i)&&cQ c)) 0 s&&(decide (s≠[])&&decide (s.length≤20))):=by
 cases s with
 | nil=>rfl
 | cons x r =>
  have h:∀ (l:List UInt8) (k:Nat),bi (fun i c=>ca c||(decide (0<i)&&cQ c)) (k+1) l=l.all fun c=>ca c||cQ c:=by
   intro l
   induction l with
   | nil=>intro _;rfl
   | cons y q ih =>
    intro k
    rw[bi,List.all_cons,ih (k+1),decide_eq_true (Nat.succ_pos k),Bool.true_and]
  rw[aA,bi,h r 0,decide_eq_false (Nat.lt_irrefl 0),Bool.false_and,Bool.or_false,decide_eq_true (by simp:x::r≠[]),Bool.true_and,List.length_cons,Bool.and_assoc]
def abH:=ai (ai @zq (ai @aUs @T9)) (ai (ai @Q5 @zT0) (ai @aC7 (aw aR6)))
theorem as1 (s:List UInt8) (hs:s.length≤4611686018427387903):G1 83 [.of (ao (ar s))] (ah (aA s)):=by
 have e:aA s=(bi (fun i c=>ca c||(decide (0<i)&&cQ c)) 0 s&&(decide (s≠[])&&decide (s.length≤20))):=azb s
 rw[e]
 refine aj rfl aR6 aC7 rfl ?_
 simp -implicitDefEqProofs(maxSteps:=9^9)only[Tryz.f83,↓zA,sevalprocAttr,abH,gN,jH,jE,aaD]
 refine aL (s.length) (fun k tk=>tk.fr 0=dA (ar s)∧tk.fr 7=.of (slC u8C s)∧tk.fr 8=ak s.length∧tk.fr 9=ak k∧tk.objs=[]∧bi (fun i c=>ca c||(decide (0<i)&&cQ c)) 0 s=bi (fun i c=>ca c||(decide (0<i)&&cQ c)) k (s.drop k)) ?_ ?_
 .simp -implicitDefEqProofs(maxSteps:=9^9)only[Tryz.f83,↓zA,sevalprocAttr,abH]
  try exact rfl
 rintro k ⟨frk,obk,ckk⟩ hk ⟨f0,f7,f8,f9,fo,Ek⟩
 dsimp only at f0 f7 f8 f9 fo
 rcases Nat.lt_or_ge k (s.length) with dk|dk
 .have hw:=aQ k (by omega)
  have gx:=ap dk
  rw[aJ dk,jw] at Ek
  generalize s[k]=x at *
  have hsm:ca x=(decide (97≤x.toNat)&&decide (x.toNat≤122)||decide (x=95)):=rfl
  have hdg:cQ x=(decide (48≤x.toNat)&&decide (x.toNat≤57)):=rfl
  have go:∀ b:Bool,(decide (97≤x.toNat)&&decide (x.toNat≤122)||decide (x=95))=b→True:=fun _ _=>trivial
  by_cases a1:97≤x.toNat
  .by_cases a2:x.toNat≤122
   .skip
    have F:bi (fun i c=>ca c||(decide (0<i)&&cQ c)) 0 s=bi (fun i c=>ca c||(decide (0<i)&&cQ c)) (k+1) (s.drop (k+1)):=by rw[Ek];simp[hsm,hdg,a1,a2]
    simp -implicitDefEqProofs(maxSteps:=9^9)only[Tryz.f83,↓zA,sevalprocAttr,abH,f0,f7,f8,f9,fo,aa,dk,gx,hw,gN,jH,jE,aaD,u97,jm,u95,u48,u57,aaK,a1,a2,F]
   .skip
    by_cases a3:x=95
    .have F:bi (fun i c=>ca c||(decide (0<i)&&cQ c)) 0 s=bi (fun i c=>ca c||(decide (0<i)&&cQ c)) (k+1) (s.drop (k+1)):=by rw[Ek,hsm,decide_eq_true a3,Bool.or_true,Bool.true_or,Bool.true_and]
     simp -implicitDefEqProofs(maxSteps:=9^9)only[Tryz.f83,↓zA,sevalprocAttr,abH,f0,f7,f8,f9,fo,aa,dk,gx,hw,gN,jH,jE,aaD,u97,jm,u95,u48,u57,aaK,a1,a2,eq_true a3,F]
    by_cases a4:k=0
    .skip
     have F:bi (fun i c=>ca c||(decide (0<i)&&cQ c)) 0 s=false:=by rw[Ek];simp[hsm,hdg,a1,a2,a3,a4]
     simp -implicitDefEqProofs(maxSteps:=9^9)only[Tryz.f83,↓zA,sevalprocAttr,abH,f0,f7,f8,f9,fo,aa,dk,gx,hw,gN,jH,jE,aaD,u97,jm,u95,u48,u57,aaK,a1,a2,a3,eq_true a4,F]
    have a4':0<k:=by omega
    by_cases a5:48≤x.toNat
    rotate_left
    .skip
     have F:bi (fun i c=>ca c||(decide (0<i)&&cQ c)) 0 s=false:=by rw[Ek];simp[hsm,hdg,a1,a2,a3,a5]
     simp -implicitDefEqProofs(maxSteps:=9^9)only[Tryz.f83,↓zA,sevalprocAttr,abH,f0,f7,f8,f9,fo,aa,dk,gx,hw,gN,jH,jE,aaD,u97,jm,u95,u48,u57,aaK,a1,a2,a3,a4,a5,F]
    by_cases a6:x.toNat≤57
    rotate_left
    .skip
     have F:bi (fun i c=>ca c||(decide (0<i)&&cQ c)) 0 s=false:=by rw[Ek];simp[hsm,hdg,a1,a2,a3,a6]
     simp -implicitDefEqProofs(maxSteps:=9^9)only[Tryz.f83,↓zA,sevalprocAttr,abH,f0,f7,f8,f9,fo,aa,dk,gx,hw,gN,jH,jE,aaD,u97,jm,u95,u48,u57,aaK,a1,a2,a3,a4,a5,a6,F]
    have F:bi (fun i c=>ca c||(decide (0<i)&&cQ c)) 0 s=bi (fun i c=>ca c||(decide (0<i)&&cQ c)) (k+1) (s.drop (k+1)):=by rw[Ek];simp[hsm,hdg,a1,a2,a3,a4',a5,a6]
    simp -implicitDefEqProofs(maxSteps:=9^9)only[Tryz.f83,↓zA,sevalprocAttr,abH,f0,f7,f8,f9,fo,aa,dk,gx,hw,gN,jH,jE,aaD,u97,jm,u95,u48,u57,aaK,a1,a2,a3,a4,a5,a6,F]
  .skip
   by_cases a3:x=95
   .have F:bi (fun i c=>ca c||(decide (0<i)&&cQ c)) 0 s=bi (fun i c=>ca c||(decide (0<i)&&cQ c)) (k+1) (s.drop (k+1)):=by rw[Ek,hsm,decide_eq_true a3,Bool.or_true,Bool.true_or,Bool.true_and]
    simp -implicitDefEqProofs(maxSteps:=9^9)only[Tryz.f83,↓zA,sevalprocAttr,abH,f0,f7,f8,f9,fo,aa,dk,gx,hw,gN,jH,jE,aaD,u97,jm,u95,u48,u57,aaK,a1,eq_true a3,F]
   by_cases a4:k=0
   .skip
    have F:bi (fun i c=>ca c||(decide (0<i)&&cQ c)) 0 s=false:=by rw[Ek];simp[hsm,hdg,a1,a3,a4]
    simp -implicitDefEqProofs(maxSteps:=9^9)only[Tryz.f83,↓zA,sevalprocAttr,abH,f0,f7,f8,f9,fo,aa,dk,gx,hw,gN,jH,jE,aaD,u97,jm,u95,u48,u57,aaK,a1,a3,eq_true a4,F]
   have a4':0<k:=by omega
   by_cases a5:48≤x.toNat
   rotate_left
   .skip
    have F:bi (fun i c=>ca c||(decide (0<i)&&cQ c)) 0 s=false:=by rw[Ek];simp[hsm,hdg,a1,a3,a5]
    simp -implicitDefEqProofs(maxSteps:=9^9)only[Tryz.f83,↓zA,sevalprocAttr,abH,f0,f7,f8,f9,fo,aa,dk,gx,hw,gN,jH,jE,aaD,u97,jm,u95,u48,u57,aaK,a1,a3,a4,a5,F]
   by_cases a6:x.toNat≤57
   rotate_left
   .skip
    have F:bi (fun i c=>ca c||(decide (0<i)&&cQ c)) 0 s=false:=by rw[Ek];simp[hsm,hdg,a1,a3,a6]
    simp -implicitDefEqProofs(maxSteps:=9^9)only[Tryz.f83,↓zA,sevalprocAttr,abH,f0,f7,f8,f9,fo,aa,dk,gx,hw,gN,jH,jE,aaD,u97,jm,u95,u48,u57,aaK,a1,a3,a4,a5,a6,F]
   have F:bi (fun i c=>ca c||(decide (0<i)&&cQ c)) 0 s=bi (fun i c=>ca c||(decide (0<i)&&cQ c)) (k+1) (s.drop (k+1)):=by rw[Ek];simp[hsm,hdg,a1,a3,a4',a5,a6]
   simp -implicitDefEqProofs(maxSteps:=9^9)only[Tryz.f83,↓zA,sevalprocAttr,abH,f0,f7,f8,f9,fo,aa,dk,gx,hw,gN,jH,jE,aaD,u97,jm,u95,u48,u57,aaK,a1,a3,a4,a5,a6,F]
 .have e:k=s.length:=by omega
  subst e
  rw[List.drop_length,iH] at Ek
  have e20:decide ((s.length:Int)≤20)=decide (s.length≤20):=decide_eq_decide.2 (by omega)
  by_cases c1:s=[]
  .have F:(bi (fun i c=>ca c||(decide (0<i)&&cQ c)) 0 s&&(decide (s≠[])&&decide (s.length≤20)))=false:=by rw[decide_eq_false (fun h=>h c1),Bool.false_and,Bool.and_false]
   simp -implicitDefEqProofs(maxSteps:=9^9)only[Tryz.f83,↓zA,sevalprocAttr,abH,f0,f7,f8,f9,fo,aa,Nat.lt_irrefl,F,e20,bI,eq_true c1]
  .have F:(bi (fun i c=>ca c||(decide (0<i)&&cQ c)) 0 s&&(decide (s≠[])&&decide (s.length≤20)))=decide (s.length≤20):=by rw[Ek,decide_eq_true c1];rfl
   simp -implicitDefEqProofs(maxSteps:=9^9)only[Tryz.f83,↓zA,sevalprocAttr,abH,f0,f7,f8,f9,fo,aa,Nat.lt_irrefl,F,e20,bI,c1]
theorem fH (s:List UInt8) (K:An→Prop):aG Tryz.prog pr 83 [.of (ao (ar s))] [] K↔ifP (s.length≤4611686018427387903) (K ⟨false,[ah (aA s)],[]⟩) (fp Tryz.prog pr 83 [.of (ao (ar s))] K):=hZ (as1 s) K
def apY:=ai (ai (ai @zq @aIs) (ai @aEW @bH)) (ai (ai @Q9 @zT0) (ai @aDZ (aw aSW)))
theorem jc (l:List (List UInt8)) (h:l.length≤4611686018427387903):G1 24 [.of (slC bd l)] (ah (decide l.Nodup)):=by
 rw[← akq]
 refine aj rfl aSW aDZ rfl ?_
 simp -implicitDefEqProofs(maxSteps:=9^9)only[Tryz.f24,↓zA,sevalprocAttr,apY]
 refine aL (l.length) (fun k tk=>tk.fr 0=.of (slC bd l)∧tk.fr 5=.of (slC bd l)∧tk.fr 6=ak l.length∧tk.fr 7=ak k∧tk.objs=[]∧bi (aec l) 0 l=bi (aec l) k (l.drop k)) ?_ ?_
 .simp -implicitDefEqProofs(maxSteps:=9^9)only[Tryz.f24,↓zA,sevalprocAttr,apY]
  try exact rfl
 rintro k ⟨frk,obk,ckk⟩ hk ⟨f0,f5,f6,f7,fo,Ek⟩
 dsimp only at f0 f5 f6 f7 fo
 rcases Nat.lt_or_ge k (l.length) with dk|dk
 .have hw:=aQ k (by omega)
  have gx:=ap dk
  rw[aJ dk,jw] at Ek
  generalize l[k]=x at *
  have hsub:aa7 l 0 (k:Int)=some (l.take k):=by simp[aa7];omega
  have hl2:(l.take k).length≤4611686018427387903:=by rw[List.length_take];omega
  by_cases c0:x∈l.take k
  .rw[amS c0,Bool.false_and] at Ek
   simp -implicitDefEqProofs(maxSteps:=9^9)only[Tryz.f24,↓zA,sevalprocAttr,apY,f0,f5,f6,f7,fo,aa,dk,gx,hw,hsub,agX,hl2,eq_true c0,Ek]
  .rw[aj5 c0,Bool.true_and] at Ek
   simp -implicitDefEqProofs(maxSteps:=9^9)only[Tryz.f24,↓zA,sevalprocAttr,apY,f0,f5,f6,f7,fo,aa,dk,gx,hw,hsub,agX,hl2,c0,Ek]
 .have e:k=l.length:=by omega
  subst e
  rw[List.drop_length,iH] at Ek
  simp -implicitDefEqProofs(maxSteps:=9^9)only[Tryz.f24,↓zA,sevalprocAttr,apY,f0,f5,f6,f7,fo,aa,Nat.lt_irrefl,Ek]
theorem co (l:List (List UInt8)) (K:An→Prop):aG Tryz.prog pr 24 [.of (slC bd l)] [] K↔ifP (l.length≤4611686018427387903) (K ⟨false,[ah (decide l.Nodup)],[]⟩) (fp Tryz.prog pr 24 [.of (slC bd l)] K):=hZ (jc l) K
def apX:=ai (ai (ai @zq @aWw) (ai @aTR @cV)) (ai (ai @P3 @Q3) (ai @zT0 (ai @aDY (aw aSV))))
theorem ahb (l:List Int) (h:l.length≤4611686018427387903):G1 25 [.of (slC aV l)] (ah (decide l.Nodup)):=by
 rw[← akq]
 refine aj rfl aSV aDY rfl ?_
 simp -implicitDefEqProofs(maxSteps:=9^9)only[Tryz.f25,↓zA,sevalprocAttr,apX]
 refine aL (l.length) (fun k tk=>tk.fr 0=.of (slC aV l)∧tk.fr 5=.of (slC aV l)∧tk.fr 6=ak l.length∧tk.fr 7=ak k∧tk.objs=[]∧bi (aec l) 0 l=bi (aec l) k (l.drop k)) ?_ ?_
 .simp -implicitDefEqProofs(maxSteps:=9^9)only[Tryz.f25,↓zA,sevalprocAttr,apX]
  try exact rfl
 rintro k ⟨frk,obk,ckk⟩ hk ⟨f0,f5,f6,f7,fo,Ek⟩
 dsimp only at f0 f5 f6 f7 fo
 rcases Nat.lt_or_ge k (l.length) with dk|dk
 .have hw:=aQ k (by omega)
  have gx:=ap dk
  rw[aJ dk,jw] at Ek
  generalize l[k]=x at *
  have hsub:aa7 l 0 (k:Int)=some (l.take k):=by simp[aa7];omega
  have hl2:(l.take k).length≤4611686018427387903:=by rw[List.length_take];omega
  by_cases c0:x∈l.take k
  .rw[amS c0,Bool.false_and] at Ek
   simp -implicitDefEqProofs(maxSteps:=9^9)only[Tryz.f25,↓zA,sevalprocAttr,apX,f0,f5,f6,f7,fo,aa,dk,gx,hw,hsub,ax7,hl2,eq_true c0,Ek]
  .rw[aj5 c0,Bool.true_and] at Ek
   simp -implicitDefEqProofs(maxSteps:=9^9)only[Tryz.f25,↓zA,sevalprocAttr,apX,f0,f5,f6,f7,fo,aa,dk,gx,hw,hsub,ax7,hl2,c0,Ek]
 .have e:k=l.length:=by omega
  subst e
  rw[List.drop_length,iH] at Ek
  simp -implicitDefEqProofs(maxSteps:=9^9)only[Tryz.f25,↓zA,sevalprocAttr,apX,f0,f5,f6,f7,fo,aa,Nat.lt_irrefl,Ek]
theorem anG (l:List Int) (K:An→Prop):aG Tryz.prog pr 25 [.of (slC aV l)] [] K↔ifP (l.length≤4611686018427387903) (K ⟨false,[ah (decide l.Nodup)],[]⟩) (fp Tryz.prog pr 25 [.of (slC aV l)] K):=hZ (ahb l) K
def aIa:=ai (ai @zq (ai @P3 @Q3)) (ai @zT0 (ai @awI (aw aKQ)))
theorem ap3 (x:Int) (n:Nat):G1 124 [.of (ci x),.of (.ref [ci (n:Int)])] (ah (!(decide (0≤x)&&decide (x<(n:Int))))):=by
 have e1:(x<0)=¬(0≤x):=azh x
 have e2:((n:Int)≤x)=¬(x<n):=agE x n
 refine aj rfl aKQ awI rfl ?_
 by_cases c1:0≤x
 .simp -implicitDefEqProofs(maxSteps:=9^9)only[Tryz.f124,↓zA,sevalprocAttr,aIa,e1,c1,e2]
  by_cases c2:x<(n:Int) <;> simp[c2]
 .simp -implicitDefEqProofs(maxSteps:=9^9)only[Tryz.f124,↓zA,sevalprocAttr,aIa,e1,c1]
def aFz:=ai (ai (ai @zq (ai @aYd @T3)) (ai (ai @aIE @aE8) (ai @aQA @aOe))) (ai (ai (ai @cV @aCu) (ai @axU @P3)) (ai (ai @Q3 @zT0) (ai @aC8 (aw aR7))))
theorem aoF (l:List Int) (n:Nat) (h:l.length≤4611686018427387903):G1 82 [.of (slC aV l),ak n] (ah (bN l n)):=by
 have kf:=fun K=>aOD l (fun x=>!(decide (0≤x)&&decide (x<(n:Int)))) 124 [.ref [ci (n:Int)]] ⟨h,aCu,axU,fun x _=>ap3 x n⟩ K
 have ea:(l.any fun x=>!(decide (0≤x)&&decide (x<(n:Int))))=!(l.all fun x=>decide (0≤x)&&decide (x<(n:Int))):=ii _ l
 refine aj rfl aR7 aC8 rfl ?_
 by_cases c1:0<l.length
 rotate_left
 .have F:bN l n=false:=by unfold bN;rw[decide_eq_false (fun h=>c1 (List.length_pos_iff.2 h))];rfl
  simp -implicitDefEqProofs(maxSteps:=9^9)only[Tryz.f82,↓zA,sevalprocAttr,aFz,bS,c1,F]
 by_cases c2:l.Nodup
 rotate_left
 .have F:bN l n=false:=by unfold bN;rw[decide_eq_false c2,Bool.and_false,Bool.false_and]
  simp -implicitDefEqProofs(maxSteps:=9^9)only[Tryz.f82,↓zA,sevalprocAttr,aFz,bS,c1,anG,h,c2,F]
 have F:bN l n=(l.all fun x=>decide (0≤x)&&decide (x<(n:Int))):=by unfold bN;rw[decide_eq_true c2,decide_eq_true (List.length_pos_iff.1 c1)];rfl
 simp -implicitDefEqProofs(maxSteps:=9^9)only[Tryz.f82,↓zA,sevalprocAttr,aFz,bS,c1,anG,h,c2,kf,ea,Bool.not_not,F]
theorem fX (l:List Int) (n:Nat) (K:An→Prop):aG Tryz.prog pr 82 [.of (slC aV l),.of (ci (n:Int))] [] K↔ifP (l.length≤4611686018427387903) (K ⟨false,[ah (bN l n)],[]⟩) (fp Tryz.prog pr 82 [.of (slC aV l),.of (ci (n:Int))] K):=hZ (aoF l n) K
def ag6:=ai (ai @zq (ai @cV @P3)) (ai (ai @Q3 @zT0) (ai @aDW (aw aST)))
theorem ae4 (l:List Int) (n:Int) (h:l.length≤4611686018427387903):G1 27 [.of (slC aV l),ak n] (ah (dE 0 n l)):=by
 have e00:((0:Nat):Int)=0:=rfl
 have er:bi (bT (fun x:Int=>x) l n) 0 l=dE 0 n l:=by rw[agR,List.map_id']
 rw[← er]
 refine aj rfl aST aDW rfl ?_
 simp -implicitDefEqProofs(maxSteps:=9^9)only[Tryz.f27,↓zA,sevalprocAttr,ag6]
 refine aL (l.length) (fun k tk=>tk.fr 0=.of (slC aV l)∧tk.fr 1=ak n∧tk.fr 7=.of (slC aV l)∧tk.fr 8=ak l.length∧tk.fr 9=ak k∧tk.objs=[]∧bi (bT (fun x:Int=>x) l n) 0 l=bi (bT (fun x:Int=>x) l n) k (l.drop k)) ?_ ?_
 .simp -implicitDefEqProofs(maxSteps:=9^9)only[Tryz.f27,↓zA,sevalprocAttr,ag6]
  try exact rfl
 rintro k ⟨frk,obk,ckk⟩ hk ⟨f0,f1,f7,f8,f9,fo,Ek⟩
 dsimp only at f0 f1 f7 f8 f9 fo
 rcases Nat.lt_or_ge k (l.length) with dk|dk
 .have hw:=aQ k (by omega)
  have gx:=ap dk
  rw[aJ dk,jw] at Ek
  have hpr:∀ j,k=j+1→∃ y,ey l (j:Int)=some y∧l[j]?=some y:=fun j hj=>⟨l[j]'(by omega),ap (by omega),List.getElem?_eq_getElem (by omega)⟩
  generalize l[k]=x at *
  have e1:(x<1)=¬(1≤x):=aL3 _
  have e2:(n≤x)=¬(x<n):=agE _ _
  by_cases c1:1≤x
  rotate_left
  .have F:bi (bT (fun x:Int=>x) l n) 0 l=false:=by rw[Ek];simp[bT,c1]
   simp -implicitDefEqProofs(maxSteps:=9^9)only[Tryz.f27,↓zA,sevalprocAttr,ag6,f0,f1,f7,f8,f9,fo,aa,dk,gx,hw,e1,e2,c1,F]
  by_cases c2:x<n
  rotate_left
  .have F:bi (bT (fun x:Int=>x) l n) 0 l=false:=by rw[Ek];simp[bT,c2]
   simp -implicitDefEqProofs(maxSteps:=9^9)only[Tryz.f27,↓zA,sevalprocAttr,ag6,f0,f1,f7,f8,f9,fo,aa,dk,gx,hw,e1,e2,c1,c2,F]
  cases k with
  | zero =>
   rw[e00] at *
   have F:bi (bT (fun x:Int=>x) l n) 0 l=bi (bT (fun x:Int=>x) l n) (0+1) (l.drop (0+1)):=by rw[Ek];simp[bT,aaj,c1,c2]
   simp -implicitDefEqProofs(maxSteps:=9^9)only[Tryz.f27,↓zA,sevalprocAttr,ag6,f0,f1,f7,f8,f9,fo,aa,dk,gx,hw,e1,e2,c1,c2,bS,Nat.lt_irrefl,aLh,F]
  | succ j =>
   obtain⟨y,gy,hy⟩:=hpr j rfl
   have es:IntKind.i64.wrap (((j+1:Nat):Int)-1)=(j:Int):=by rw[da _ (by omega) (by omega)];omega
   have e3:(x≤y)=¬(y<x):=agE _ _
   have e4:(0<j+1)=True:=by simp
   by_cases c3:y<x
   rotate_left
   .have F:bi (bT (fun x:Int=>x) l n) 0 l=false:=by rw[Ek];simp[bT,aaj,hy,c3]
    simp -implicitDefEqProofs(maxSteps:=9^9)only[Tryz.f27,↓zA,sevalprocAttr,ag6,f0,f1,f7,f8,f9,fo,aa,dk,gx,hw,e1,e2,c1,c2,bS,e4,es,gy,e3,c3,F]
   have F:bi (bT (fun x:Int=>x) l n) 0 l=bi (bT (fun x:Int=>x) l n) (j+1+1) (l.drop (j+1+1)):=by rw[Ek];simp[bT,aaj,hy,c1,c2,c3]
   simp -implicitDefEqProofs(maxSteps:=9^9)only[Tryz.f27,↓zA,sevalprocAttr,ag6,f0,f1,f7,f8,f9,fo,aa,dk,gx,hw,e1,e2,c1,c2,bS,e4,es,gy,e3,c3,F]
 .have e:k=l.length:=by omega
  subst e
  rw[List.drop_length,iH] at Ek
  simp -implicitDefEqProofs(maxSteps:=9^9)only[Tryz.f27,↓zA,sevalprocAttr,ag6,f0,f1,f7,f8,f9,fo,aa,Nat.lt_irrefl,Ek]
theorem aQO (j:Nat):((j:Int)<0)=False:=by simp only[eq_iff_iff,iff_false];omega
def ays:Tb:=⟨[],0,[],[],[],[]⟩
def aOL:Ix:=⟨[],0,[],[],false⟩
def tbR:Option Tb→List X
 | some t=>[.of (.agg (tbC t)),ah true]
 | none=>[.of (.agg (tbC ays)),ah false]
def ixR:Option Ix→List X
 | some x=>[.of (.agg (ixC x)),ah true]
 | none=>[.of (.agg (ixC aOL)),ah false]
theorem fq (t:Tb):tbR (some t)=[.of (.agg (tbC t)),ah true]:=rfl
theorem aaH:tbR none=[.of (.agg (tbC ays)),ah false]:=rfl
theorem acG (x:Ix):ixR (some x)=[.of (.agg (ixC x)),ah true]:=rfl
theorem art:ixR none=[.of (.agg (ixC aOL)),ah false]:=rfl
def apZ:=ai (ai (ai @zq @aYg) (ai @aYf (ai @aYe @cU))) (ai (ai @dH (ai @d9 @Q9)) (ai @zT0 (ai @aD7 (aw aS4))))
theorem aaT (c:Ct) (nm:List UInt8) (hc:c.tbs.length≤4611686018427387903):GN 16 [.of (.agg (ctC c)),.of (ao (ar nm))] (tbR (bx c nm)):=by
 refine aj rfl aS4 aD7 rfl ?_
 simp -implicitDefEqProofs(maxSteps:=9^9)only[Tryz.f16,↓zA,sevalprocAttr,apZ]
 refine aL (c.tbs.length) (fun k tk=>tk.fr 1=dA (ar nm)∧tk.fr 4=.ptr 0 0∧tk.fr 9=.of (slC tbC c.tbs)∧tk.fr 10=ak c.tbs.length∧tk.fr 11=ak k∧tk.objs=[.var 48 [dA {data:=#[]},ak 0,.nil,.nil,.nil,.nil]]∧bx c nm=(c.tbs.drop k).find? fun t=>decide (t.nm=nm)) ?_ ?_
 .simp -implicitDefEqProofs(maxSteps:=9^9)only[Tryz.f16,↓zA,sevalprocAttr,apZ]
  exact rfl
 rintro k ⟨frk,obk,ckk⟩ hk ⟨f1,f4,f9,f10,f11,fo,Ek⟩
 dsimp only at f1 f4 f9 f10 f11 fo
 rcases Nat.lt_or_ge k (c.tbs.length) with dk|dk
 .have hw:=aQ k (by omega)
  have gx:=ap dk
  rw[aJ dk,List.find?_cons] at Ek
  generalize c.tbs[k]=t at *
  by_cases c0:t.nm=nm
  .rw[decide_eq_true c0] at Ek
   dsimp only at Ek
   simp -implicitDefEqProofs(maxSteps:=9^9)only[Tryz.f16,↓zA,sevalprocAttr,apZ,f1,f4,f9,f10,f11,fo,aa,dk,gx,hw,av,eq_true c0,Ek,fq]
   try rfl
  .rw[decide_eq_false c0] at Ek
   dsimp only at Ek
   simp -implicitDefEqProofs(maxSteps:=9^9)only[Tryz.f16,↓zA,sevalprocAttr,apZ,f1,f4,f9,f10,f11,fo,aa,dk,gx,hw,av,c0]
   exact Ek
 .have e:k=c.tbs.length:=by omega
  subst e
  rw[List.drop_length,List.find?_nil] at Ek
  simp -implicitDefEqProofs(maxSteps:=9^9)only[Tryz.f16,↓zA,sevalprocAttr,apZ,f1,f4,f9,f10,f11,fo,aa,Nat.lt_irrefl,Ek,aaH]
  try rfl
def aVm:=ai (ai (ai @zq @aX9) (ai @fb @P3)) (ai (ai @Q3 @zT0) (ai @av2 (aw aKb)))
theorem aAh (x:Ix) (id:Int):G1 166 [.of (.agg (ixC x)),.of (.ref [ci id])] (ah (decide (x.id=id))):=by
 refine aj rfl aKb av2 rfl ?_
 simp -implicitDefEqProofs(maxSteps:=9^9)only[Tryz.f166,↓zA,sevalprocAttr,aVm]
def aIb:=ai (ai (ai (ai @zq @aYc) (ai @aYb @T3)) (ai (ai @aYa @ay5) (ai @asa @cU))) (ai (ai (ai @fb @cW) (ai @aCj @axJ)) (ai (ai @P3 @Q3) (ai @zT0 (ai @awO (aw aKW)))))
theorem aFb (c:Ct) (id:Int) (hc:c.ixs.length≤4611686018427387903):GN 118 [.of (.agg (ctC c)),ak id] (ixR (iy c id)):=by
 have kf:=fun K=>aio c.ixs (fun x=>decide (x.id=id)) 166 [.ref [ci id]] ⟨hc,aCj,axJ,fun x _=>aAh x id⟩ K
 refine aj rfl aKW awO rfl ?_
 rcases jV (fun x:Ix=>decide (x.id=id)) c.ixs with ⟨hi,hf⟩|⟨j,hj,hi,hf⟩
 .have hfn:iy c id=none:=hf
  simp -implicitDefEqProofs(maxSteps:=9^9)only[Tryz.f118,↓zA,sevalprocAttr,aIb,kf,hi,hfn,art]
  try rfl
 .have hfn:iy c id=some c.ixs[j]:=hf
  have gj:=ap hj
  simp -implicitDefEqProofs(maxSteps:=9^9)only[Tryz.f118,↓zA,sevalprocAttr,aIb,kf,hi,aQO,gj,hfn,acG]
  try rfl
def a0l:=ai (ai (ai @zq @aY4) (ai @il @P3)) (ai (ai @Q3 @zT0) (ai @aCU (aw aRT)))
theorem aoE (k:Ky) (id:Int):G1 97 [.of (.agg (kyC k)),.of (.ref [ci id])] (ah (decide (k.ix=id))):=by
 refine aj rfl aRT aCU rfl ?_
 simp -implicitDefEqProofs(maxSteps:=9^9)only[Tryz.f97,↓zA,sevalprocAttr,a0l]
def a0n:=ai (ai (ai @zq @aY5) (ai @ayV (ai @ar1 @dH))) (ai (ai @il (ai @aIi @aEM)) (ai @zT0 (ai @aCW (aw aRV))))
theorem aqs (t:Tb) (id:Int) (h:t.kys.length≤4611686018427387903):G1 95 [.of (.agg (tbC t)),.of (.ref [ci id])] (ah (t.kys.any fun k=>decide (k.ix=id))):=by
 have kf:=fun K=>ajp t.kys (fun k=>decide (k.ix=id)) 97 [.ref [ci id]] ⟨h,aIi,aEM,fun k _=>aoE k id⟩ K
 refine aj rfl aRV aCW rfl ?_
 simp -implicitDefEqProofs(maxSteps:=9^9)only[Tryz.f95,↓zA,sevalprocAttr,a0n,kf]
def a0y:=ai (ai (ai @zq (ai @aY7 @aY6)) (ai (ai @T3 @aID) (ai @aE7 @cU))) (ai (ai (ai @dH @aIj) (ai @aEN @P3)) (ai (ai @Q3 @zT0) (ai @aDC (aw aSA))))
theorem aoG (c:Ct) (id:Int) (hc:CtB c):G1 46 [.of (.agg (ctC c)),ak id] (ah (df c id)):=by
 have h1:=hc.t
 have hlb:LB=1073741824:=rfl
 have kf:=fun K=>aos c.tbs (fun t=>t.kys.any fun k=>decide (k.ix=id)) 95 [.ref [ci id]] ⟨by omega,aIj,aEN,fun t ht=>aqs t id (by have:=(hc.tb t ht).k;omega)⟩ K
 have es:df c id=c.tbs.any fun t=>t.kys.any fun k=>decide (k.ix=id):=rfl
 refine aj rfl aSA aDC rfl ?_
 simp -implicitDefEqProofs(maxSteps:=9^9)only[Tryz.f46,↓zA,sevalprocAttr,a0y,kf,es]
theorem akT (c:Ct) (id:Int) (hc:CtB c) (K:An→Prop):aG Tryz.prog pr 46 [.of (.agg (ctC c)),.of (ci id)] [] K↔K ⟨false,[ah (df c id)],[]⟩:=ae.k (aoG c id hc) K
def ax9:=ai (ai (ai (ai @zq (ai @aY3 @aY2)) (ai @agu (ai @aeq @aY1))) (ai (ai @ayX (ai @ar3 @aIp)) (ai @aET (ai @aIy @aE2)))) (ai (ai (ai @cU (ai @dH @dw)) (ai @fb (ai @cE @cV))) (ai (ai @Q9 (ai @P3 @Q3)) (ai @zT0 (ai @aDQ (aw aSN)))))
theorem aqw (c:Ct) (x:Ix) (hc:CtB c) (hx:x.cs.length≤LB∧x.nm.length≤4611686018427387903):G1 33 [.of (.agg (ctC c)),.of (.agg (ixC x))] (ah (dC c x)):=by
 have h1:=hc.t
 have hlb:LB=1073741824:=rfl
 obtain⟨hx1,hx2⟩:=hx
 have hx':x.cs.length≤4611686018427387903:=by omega
 have kf:=fun K=>ae.k (aaT c x.tb (by omega)) K
 have ks:=fun K=>akT c x.id hc K
 refine aj rfl aSN aDQ rfl ?_
 cases hf:bx c x.tb with
 | none =>
  have F:dC c x=false:=by unfold dC;rw[hf]
  simp -implicitDefEqProofs(maxSteps:=9^9)only[Tryz.f33,↓zA,sevalprocAttr,ax9,kf,hf,aaH,F]
 | some t =>
  have hr:dC c x=(bN x.cs t.cs.length&&(aA x.nm||df c x.id)):=by unfold dC;rw[hf]
  cases b1:bN x.cs t.cs.length
  .have F:dC c x=false:=by rw[hr,b1];rfl
   simp -implicitDefEqProofs(maxSteps:=9^9)only[Tryz.f33,↓zA,sevalprocAttr,ax9,kf,hf,fq,fX,hx',b1,F]
  cases b2:aA x.nm
  .have F:dC c x=df c x.id:=by rw[hr,b1,b2];rfl
   simp -implicitDefEqProofs(maxSteps:=9^9)only[Tryz.f33,↓zA,sevalprocAttr,ax9,kf,hf,fq,fX,hx',b1,fH,hx2,b2,ks,F]
  .have F:dC c x=true:=by rw[hr,b1,b2];rfl
   simp -implicitDefEqProofs(maxSteps:=9^9)only[Tryz.f33,↓zA,sevalprocAttr,ax9,kf,hf,fq,fX,hx',b1,fH,hx2,b2,F]
def ami:=ai (ai (ai (ai @zq (ai @aX8 @aX7)) (ai @aX6 (ai @aQC @aOg))) (ai (ai @aX5 (ai @ayX @ar3)) (ai (ai @aq7 @anh) (ai @ay2 @ar7)))) (ai (ai (ai @cU (ai @dH @dw)) (ai (ai @fb @il) (ai @cE @cV))) (ai (ai @P3 (ai @Q3 @Q9)) (ai (ai @Q4 @zT0) (ai @aDe (aw aSc)))))
theorem aqv (c:Ct) (t:Tb) (q:Ky) (n:Nat) (hc:CtB c) (ht:t.nm.length≤LB) (hq:q.cs.length≤LB) (hn:n≤LB):G1 77 [.of (.agg (ctC c)),.of (.agg (tbC t)),.of (.agg (kyC q)),ak ((n+1:Nat):Int)] (ah (hJ c t q (n+1))):=by
 have h1:=hc.x
 have h2:=hc.ix
 have hlb:LB=1073741824:=rfl
 have hq':q.cs.length≤4611686018427387903:=by omega
 have kf:=fun K=>ae.k (aFb c q.ix (by omega)) K
 refine aj rfl aSc aDe rfl ?_
 cases hf:iy c q.ix with
 | none =>
  have F:hJ c t q (n+1)=false:=by unfold hJ;rw[hf]
  simp -implicitDefEqProofs(maxSteps:=9^9)only[Tryz.f77,↓zA,sevalprocAttr,ami,kf,hf,art,F]
 | some x =>
  have hx:=h2 x (aeZ hf).1
  have hr:hJ c t q (n+1)=(bN q.cs t.cs.length&&decide (x.tb=t.nm)&&x.un&&decide (x.cs=q.cs)&&decide (x.nm=cy t.nm (n+1))):=by unfold hJ;rw[hf]
  have ke:=fun K=>anz x.cs q.cs (by omega) K
  have er:eqR (fun x y=>decide (x=y)) x.cs q.cs=decide (x.cs=q.cs):=afB _ _ _ fun _ _ _ _=>rfl
  cases b1:bN q.cs t.cs.length
  .have F:hJ c t q (n+1)=false:=by rw[hr];simp[b1]
   simp -implicitDefEqProofs(maxSteps:=9^9)only[Tryz.f77,↓zA,sevalprocAttr,ami,kf,hf,acG,fX,hq',av,ke,er,du,ht,hn,and_self,b1,F]
  by_cases c2:x.tb=t.nm
  rotate_left
  .have F:hJ c t q (n+1)=false:=by rw[hr];simp[c2]
   simp -implicitDefEqProofs(maxSteps:=9^9)only[Tryz.f77,↓zA,sevalprocAttr,ami,kf,hf,acG,fX,hq',av,ke,er,du,ht,hn,and_self,b1,c2,F]
  cases b3:x.un
  .have F:hJ c t q (n+1)=false:=by rw[hr];simp[b3]
   simp -implicitDefEqProofs(maxSteps:=9^9)only[Tryz.f77,↓zA,sevalprocAttr,ami,kf,hf,acG,fX,hq',av,ke,er,du,ht,hn,and_self,b1,eq_true c2,b3,F]
  by_cases c4:x.cs=q.cs
  rotate_left
  .have F:hJ c t q (n+1)=false:=by rw[hr];simp[c4]
   simp -implicitDefEqProofs(maxSteps:=9^9)only[Tryz.f77,↓zA,sevalprocAttr,ami,kf,hf,acG,fX,hq',av,ke,er,du,ht,hn,and_self,b1,eq_true c2,b3,c4,F]
  have F:hJ c t q (n+1)=decide (x.nm=cy t.nm (n+1)):=by rw[hr];simp[b1,c2,b3,c4]
  simp -implicitDefEqProofs(maxSteps:=9^9)only[Tryz.f77,↓zA,sevalprocAttr,ami,kf,hf,acG,fX,hq',av,ke,er,du,ht,hn,and_self,b1,eq_true c2,b3,eq_true c4,F]
def af3:=ai (ai (ai @zq @agw) (ai @agv @bK)) (ai (ai @dR @zT0) (ai @avq (aw aJA)))
theorem aud (l m:List Xp) (q:Xp→Xp→Bool) (g:Nat) (cp:List C) (h:l.length≤4611686018427387903∧abb (fun x=>.agg (xpC x)) g cp q l m):G1 204 [.of (slC xpC l),.of (slC xpC m),.of (.fn g cp)] (ah (eqR q l m)):=by
 obtain⟨hl,ho,hc,hg⟩:=h
 refine aj rfl aJA avq rfl ?_
 by_cases c0:l.length=m.length
 rotate_left
 .rw[jI q l m c0]
  simp -implicitDefEqProofs(maxSteps:=9^9)only[Tryz.f204,↓zA,sevalprocAttr,af3,ho,bV,c0]
 simp -implicitDefEqProofs(maxSteps:=9^9)only[Tryz.f204,↓zA,sevalprocAttr,af3,ho,bV,c0]
 refine aL l.length (fun k s=>s.fr 1=.of (slC xpC m)∧s.fr 2=.of (.fn g cp)∧s.fr 15=.of (slC xpC l)∧s.fr 16=ak l.length∧s.fr 17=ak k∧s.objs=[]∧eqR q l m=eqR q (l.drop k) (m.drop k)) ?_ ?_
 .simp -implicitDefEqProofs(maxSteps:=9^9)only[Tryz.f204,↓zA,sevalprocAttr,af3,c0]
  try exact rfl
 .rintro k s hk ⟨f1,f2,f15,f16,f17,hob,E⟩
  rcases Nat.lt_or_ge k l.length with c1|c1
  .have hw:=aQ k (by omega)
   have c1':k<m.length:=by omega
   have hx:=fun K=>ae.k (hg l[k] (List.getElem_mem c1) m[k] (List.getElem_mem c1')) K
   rw[aJ c1,aJ c1',eqR] at E
   simp -implicitDefEqProofs(maxSteps:=9^9)only[Tryz.f204,↓zA,sevalprocAttr,af3,f1,f2,f15,f16,f17,hob,ho,hc,aa,c1,ap c1,ap c1',hw,hx]
   cases c2:q l[k] m[k]
   .simp only[c2,Bool.false_and] at E
    simp -implicitDefEqProofs(maxSteps:=9^9)only[Tryz.f204,↓zA,sevalprocAttr,af3,c2,E]
   .simp only[c2,Bool.true_and] at E
    simp -implicitDefEqProofs(maxSteps:=9^9)only[Tryz.f204,↓zA,sevalprocAttr,af3,c2,E]
  .have e:k=l.length:=by omega
   subst e
   rw[List.drop_length,c0,List.drop_length,eqR] at E
   simp -implicitDefEqProofs(maxSteps:=9^9)only[Tryz.f204,↓zA,sevalprocAttr,af3,f1,f2,f15,f16,f17,hob,aa,Nat.lt_irrefl,E]
theorem aHX (l m:List Xp) (q:Xp→Xp→Bool) (g:Nat) (cp:List C) (h:l.length≤4611686018427387903∧abb (fun x=>.agg (xpC x)) g cp q l m) (K:An→Prop):aG Tryz.prog pr 204 [.of (slC xpC l),.of (slC xpC m),.of (.fn g cp)] [] K↔K ⟨false,[ah (eqR q l m)],[]⟩:=ae.k (aud l m q g cp h) K
def af1:=ai (ai (ai @zq @agw) (ai @agv @jz)) (ai (ai @gG @zT0) (ai @avm (aw aJx)))
theorem ao6 (l m:List Kd) (q:Kd→Kd→Bool) (g:Nat) (cp:List C) (h:l.length≤4611686018427387903∧abb (fun x=>.agg (kdC x)) g cp q l m):G1 207 [.of (slC kdC l),.of (slC kdC m),.of (.fn g cp)] (ah (eqR q l m)):=by
 obtain⟨hl,ho,hc,hg⟩:=h
 refine aj rfl aJx avm rfl ?_
 by_cases c0:l.length=m.length
 rotate_left
 .rw[jI q l m c0]
  simp -implicitDefEqProofs(maxSteps:=9^9)only[Tryz.f207,↓zA,sevalprocAttr,af1,ho,bV,c0]
 simp -implicitDefEqProofs(maxSteps:=9^9)only[Tryz.f207,↓zA,sevalprocAttr,af1,ho,bV,c0]
 refine aL l.length (fun k s=>s.fr 1=.of (slC kdC m)∧s.fr 2=.of (.fn g cp)∧s.fr 15=.of (slC kdC l)∧s.fr 16=ak l.length∧s.fr 17=ak k∧s.objs=[]∧eqR q l m=eqR q (l.drop k) (m.drop k)) ?_ ?_
 .simp -implicitDefEqProofs(maxSteps:=9^9)only[Tryz.f207,↓zA,sevalprocAttr,af1,c0]
  try exact rfl
 .rintro k s hk ⟨f1,f2,f15,f16,f17,hob,E⟩
  rcases Nat.lt_or_ge k l.length with c1|c1
  .have hw:=aQ k (by omega)
   have c1':k<m.length:=by omega
   have hx:=fun K=>ae.k (hg l[k] (List.getElem_mem c1) m[k] (List.getElem_mem c1')) K
   rw[aJ c1,aJ c1',eqR] at E
   simp -implicitDefEqProofs(maxSteps:=9^9)only[Tryz.f207,↓zA,sevalprocAttr,af1,f1,f2,f15,f16,f17,hob,ho,hc,aa,c1,ap c1,ap c1',hw,hx]
   cases c2:q l[k] m[k]
   .simp only[c2,Bool.false_and] at E
    simp -implicitDefEqProofs(maxSteps:=9^9)only[Tryz.f207,↓zA,sevalprocAttr,af1,c2,E]
   .simp only[c2,Bool.true_and] at E
    simp -implicitDefEqProofs(maxSteps:=9^9)only[Tryz.f207,↓zA,sevalprocAttr,af1,c2,E]
  .have e:k=l.length:=by omega
   subst e
   rw[List.drop_length,c0,List.drop_length,eqR] at E
   simp -implicitDefEqProofs(maxSteps:=9^9)only[Tryz.f207,↓zA,sevalprocAttr,af1,f1,f2,f15,f16,f17,hob,aa,Nat.lt_irrefl,E]
theorem aAX (l m:List Kd) (q:Kd→Kd→Bool) (g:Nat) (cp:List C) (h:l.length≤4611686018427387903∧abb (fun x=>.agg (kdC x)) g cp q l m) (K:An→Prop):aG Tryz.prog pr 207 [.of (slC kdC l),.of (slC kdC m),.of (.fn g cp)] [] K↔K ⟨false,[ah (eqR q l m)],[]⟩:=ae.k (ao6 l m q g cp h) K
def af0:=ai (ai (ai @zq @agw) (ai @agv @jy)) (ai (ai @jA @zT0) (ai @avl (aw aJw)))
theorem ao5 (l m:List Rd) (q:Rd→Rd→Bool) (g:Nat) (cp:List C) (h:l.length≤4611686018427387903∧abb (fun x=>.agg (rdC x)) g cp q l m):G1 208 [.of (slC rdC l),.of (slC rdC m),.of (.fn g cp)] (ah (eqR q l m)):=by
 obtain⟨hl,ho,hc,hg⟩:=h
 refine aj rfl aJw avl rfl ?_
 by_cases c0:l.length=m.length
 rotate_left
 .rw[jI q l m c0]
  simp -implicitDefEqProofs(maxSteps:=9^9)only[Tryz.f208,↓zA,sevalprocAttr,af0,ho,bV,c0]
 simp -implicitDefEqProofs(maxSteps:=9^9)only[Tryz.f208,↓zA,sevalprocAttr,af0,ho,bV,c0]
 refine aL l.length (fun k s=>s.fr 1=.of (slC rdC m)∧s.fr 2=.of (.fn g cp)∧s.fr 15=.of (slC rdC l)∧s.fr 16=ak l.length∧s.fr 17=ak k∧s.objs=[]∧eqR q l m=eqR q (l.drop k) (m.drop k)) ?_ ?_
 .simp -implicitDefEqProofs(maxSteps:=9^9)only[Tryz.f208,↓zA,sevalprocAttr,af0,c0]
  try exact rfl
 .rintro k s hk ⟨f1,f2,f15,f16,f17,hob,E⟩
  rcases Nat.lt_or_ge k l.length with c1|c1
  .have hw:=aQ k (by omega)
   have c1':k<m.length:=by omega
   have hx:=fun K=>ae.k (hg l[k] (List.getElem_mem c1) m[k] (List.getElem_mem c1')) K
   rw[aJ c1,aJ c1',eqR] at E
   simp -implicitDefEqProofs(maxSteps:=9^9)only[Tryz.f208,↓zA,sevalprocAttr,af0,f1,f2,f15,f16,f17,hob,ho,hc,aa,c1,ap c1,ap c1',hw,hx]
   cases c2:q l[k] m[k]
   .simp only[c2,Bool.false_and] at E
    simp -implicitDefEqProofs(maxSteps:=9^9)only[Tryz.f208,↓zA,sevalprocAttr,af0,c2,E]
   .simp only[c2,Bool.true_and] at E
    simp -implicitDefEqProofs(maxSteps:=9^9)only[Tryz.f208,↓zA,sevalprocAttr,af0,c2,E]
  .have e:k=l.length:=by omega
   subst e
   rw[List.drop_length,c0,List.drop_length,eqR] at E
   simp -implicitDefEqProofs(maxSteps:=9^9)only[Tryz.f208,↓zA,sevalprocAttr,af0,f1,f2,f15,f16,f17,hob,aa,Nat.lt_irrefl,E]
theorem aAW (l m:List Rd) (q:Rd→Rd→Bool) (g:Nat) (cp:List C) (h:l.length≤4611686018427387903∧abb (fun x=>.agg (rdC x)) g cp q l m) (K:An→Prop):aG Tryz.prog pr 208 [.of (slC rdC l),.of (slC rdC m),.of (.fn g cp)] [] K↔K ⟨false,[ah (eqR q l m)],[]⟩:=ae.k (ao5 l m q g cp h) K
def afZ:=ai (ai @zq (ai @bK @fT)) (ai @zT0 (ai @avj (aw aJv)))
theorem anB (l m:List (List Xp)) (q:(List Xp)→(List Xp)→Bool) (g:Nat) (cp:List C) (h:l.length≤4611686018427387903∧abb (slC xpC) g cp q l m):G1 209 [.of (slC (lsC xpC) l),.of (slC (lsC xpC) m),.of (.fn g cp)] (ah (eqR q l m)):=by
 obtain⟨hl,ho,hc,hg⟩:=h
 refine aj rfl aJv avj rfl ?_
 by_cases c0:l.length=m.length
 rotate_left
 .rw[jI q l m c0]
  simp -implicitDefEqProofs(maxSteps:=9^9)only[Tryz.f209,↓zA,sevalprocAttr,afZ,ho,bV,c0]
 simp -implicitDefEqProofs(maxSteps:=9^9)only[Tryz.f209,↓zA,sevalprocAttr,afZ,ho,bV,c0]
 refine aL l.length (fun k s=>s.fr 1=.of (slC (lsC xpC) m)∧s.fr 2=.of (.fn g cp)∧s.fr 15=.of (slC (lsC xpC) l)∧s.fr 16=ak l.length∧s.fr 17=ak k∧s.objs=[]∧eqR q l m=eqR q (l.drop k) (m.drop k)) ?_ ?_
 .simp -implicitDefEqProofs(maxSteps:=9^9)only[Tryz.f209,↓zA,sevalprocAttr,afZ,c0]
  try exact rfl
 .rintro k s hk ⟨f1,f2,f15,f16,f17,hob,E⟩
  rcases Nat.lt_or_ge k l.length with c1|c1
  .have hw:=aQ k (by omega)
   have c1':k<m.length:=by omega
   have hx:=fun K=>ae.k (hg l[k] (List.getElem_mem c1) m[k] (List.getElem_mem c1')) K
   rw[aJ c1,aJ c1',eqR] at E
   simp -implicitDefEqProofs(maxSteps:=9^9)only[Tryz.f209,↓zA,sevalprocAttr,afZ,f1,f2,f15,f16,f17,hob,ho,hc,aa,c1,ap c1,ap c1',hw,hx]
   cases c2:q l[k] m[k]
   .simp only[c2,Bool.false_and] at E
    simp -implicitDefEqProofs(maxSteps:=9^9)only[Tryz.f209,↓zA,sevalprocAttr,afZ,c2,E]
   .simp only[c2,Bool.true_and] at E
    simp -implicitDefEqProofs(maxSteps:=9^9)only[Tryz.f209,↓zA,sevalprocAttr,afZ,c2,E]
  .have e:k=l.length:=by omega
   subst e
   rw[List.drop_length,c0,List.drop_length,eqR] at E
   simp -implicitDefEqProofs(maxSteps:=9^9)only[Tryz.f209,↓zA,sevalprocAttr,afZ,f1,f2,f15,f16,f17,hob,aa,Nat.lt_irrefl,E]
theorem aue (l m:List (List Xp)) (q:(List Xp)→(List Xp)→Bool) (g:Nat) (cp:List C) (h:l.length≤4611686018427387903∧abb (slC xpC) g cp q l m) (K:An→Prop):aG Tryz.prog pr 209 [.of (slC (lsC xpC) l),.of (slC (lsC xpC) m),.of (.fn g cp)] [] K↔K ⟨false,[ah (eqR q l m)],[]⟩:=ae.k (anB l m q g cp h) K
def afX:=ai (ai (ai @zq @agw) (ai @agv @j0)) (ai (ai @kT @zT0) (ai @avi (aw aJu)))
theorem ao7 (l m:List As) (q:As→As→Bool) (g:Nat) (cp:List C) (h:l.length≤4611686018427387903∧abb (fun x=>.agg (asC x)) g cp q l m):G1 210 [.of (slC asC l),.of (slC asC m),.of (.fn g cp)] (ah (eqR q l m)):=by
 obtain⟨hl,ho,hc,hg⟩:=h
 refine aj rfl aJu avi rfl ?_
 by_cases c0:l.length=m.length
 rotate_left
 .rw[jI q l m c0]
  simp -implicitDefEqProofs(maxSteps:=9^9)only[Tryz.f210,↓zA,sevalprocAttr,afX,ho,bV,c0]
 simp -implicitDefEqProofs(maxSteps:=9^9)only[Tryz.f210,↓zA,sevalprocAttr,afX,ho,bV,c0]
 refine aL l.length (fun k s=>s.fr 1=.of (slC asC m)∧s.fr 2=.of (.fn g cp)∧s.fr 15=.of (slC asC l)∧s.fr 16=ak l.length∧s.fr 17=ak k∧s.objs=[]∧eqR q l m=eqR q (l.drop k) (m.drop k)) ?_ ?_
 .simp -implicitDefEqProofs(maxSteps:=9^9)only[Tryz.f210,↓zA,sevalprocAttr,afX,c0]
  try exact rfl
 .rintro k s hk ⟨f1,f2,f15,f16,f17,hob,E⟩
  rcases Nat.lt_or_ge k l.length with c1|c1
  .have hw:=aQ k (by omega)
   have c1':k<m.length:=by omega
   have hx:=fun K=>ae.k (hg l[k] (List.getElem_mem c1) m[k] (List.getElem_mem c1')) K
   rw[aJ c1,aJ c1',eqR] at E
   simp -implicitDefEqProofs(maxSteps:=9^9)only[Tryz.f210,↓zA,sevalprocAttr,afX,f1,f2,f15,f16,f17,hob,ho,hc,aa,c1,ap c1,ap c1',hw,hx]
   cases c2:q l[k] m[k]
   .simp only[c2,Bool.false_and] at E
    simp -implicitDefEqProofs(maxSteps:=9^9)only[Tryz.f210,↓zA,sevalprocAttr,afX,c2,E]
   .simp only[c2,Bool.true_and] at E
    simp -implicitDefEqProofs(maxSteps:=9^9)only[Tryz.f210,↓zA,sevalprocAttr,afX,c2,E]
  .have e:k=l.length:=by omega
   subst e
   rw[List.drop_length,c0,List.drop_length,eqR] at E
   simp -implicitDefEqProofs(maxSteps:=9^9)only[Tryz.f210,↓zA,sevalprocAttr,afX,f1,f2,f15,f16,f17,hob,aa,Nat.lt_irrefl,E]
theorem aAY (l m:List As) (q:As→As→Bool) (g:Nat) (cp:List C) (h:l.length≤4611686018427387903∧abb (fun x=>.agg (asC x)) g cp q l m) (K:An→Prop):aG Tryz.prog pr 210 [.of (slC asC l),.of (slC asC m),.of (.fn g cp)] [] K↔K ⟨false,[ah (eqR q l m)],[]⟩:=ae.k (ao7 l m q g cp h) K
def afW:=ai (ai (ai @zq @agw) (ai @agv @dY)) (ai (ai @ec @zT0) (ai @avh (aw aJt)))
theorem asE (l m:List Qy) (q:Qy→Qy→Bool) (g:Nat) (cp:List C) (h:l.length≤4611686018427387903∧abb (fun x=>.agg (qyC x)) g cp q l m):G1 211 [.of (slC qyC l),.of (slC qyC m),.of (.fn g cp)] (ah (eqR q l m)):=by
 obtain⟨hl,ho,hc,hg⟩:=h
 refine aj rfl aJt avh rfl ?_
 by_cases c0:l.length=m.length
 rotate_left
 .rw[jI q l m c0]
  simp -implicitDefEqProofs(maxSteps:=9^9)only[Tryz.f211,↓zA,sevalprocAttr,afW,ho,bV,c0]
 simp -implicitDefEqProofs(maxSteps:=9^9)only[Tryz.f211,↓zA,sevalprocAttr,afW,ho,bV,c0]
 refine aL l.length (fun k s=>s.fr 1=.of (slC qyC m)∧s.fr 2=.of (.fn g cp)∧s.fr 15=.of (slC qyC l)∧s.fr 16=ak l.length∧s.fr 17=ak k∧s.objs=[]∧eqR q l m=eqR q (l.drop k) (m.drop k)) ?_ ?_
 .simp -implicitDefEqProofs(maxSteps:=9^9)only[Tryz.f211,↓zA,sevalprocAttr,afW,c0]
  try exact rfl
 .rintro k s hk ⟨f1,f2,f15,f16,f17,hob,E⟩
  rcases Nat.lt_or_ge k l.length with c1|c1
  .have hw:=aQ k (by omega)
   have c1':k<m.length:=by omega
   have hx:=fun K=>ae.k (hg l[k] (List.getElem_mem c1) m[k] (List.getElem_mem c1')) K
   rw[aJ c1,aJ c1',eqR] at E
   simp -implicitDefEqProofs(maxSteps:=9^9)only[Tryz.f211,↓zA,sevalprocAttr,afW,f1,f2,f15,f16,f17,hob,ho,hc,aa,c1,ap c1,ap c1',hw,hx]
   cases c2:q l[k] m[k]
   .simp only[c2,Bool.false_and] at E
    simp -implicitDefEqProofs(maxSteps:=9^9)only[Tryz.f211,↓zA,sevalprocAttr,afW,c2,E]
   .simp only[c2,Bool.true_and] at E
    simp -implicitDefEqProofs(maxSteps:=9^9)only[Tryz.f211,↓zA,sevalprocAttr,afW,c2,E]
  .have e:k=l.length:=by omega
   subst e
   rw[List.drop_length,c0,List.drop_length,eqR] at E
   simp -implicitDefEqProofs(maxSteps:=9^9)only[Tryz.f211,↓zA,sevalprocAttr,afW,f1,f2,f15,f16,f17,hob,aa,Nat.lt_irrefl,E]
theorem aFv (l m:List Qy) (q:Qy→Qy→Bool) (g:Nat) (cp:List C) (h:l.length≤4611686018427387903∧abb (fun x=>.agg (qyC x)) g cp q l m) (K:An→Prop):aG Tryz.prog pr 211 [.of (slC qyC l),.of (slC qyC m),.of (.fn g cp)] [] K↔K ⟨false,[ah (eqR q l m)],[]⟩:=ae.k (asE l m q g cp h) K
def afU:=ai (ai (ai @zq @agw) (ai @agv @jh)) (ai (ai @kQ @zT0) (ai @auR (aw aI3)))
theorem aub (l m:List Im) (q:Im→Im→Bool) (g:Nat) (cp:List C) (h:l.length≤4611686018427387903∧abb (fun x=>.agg (imC x)) g cp q l m):G1 240 [.of (slC imC l),.of (slC imC m),.of (.fn g cp)] (ah (eqR q l m)):=by
 obtain⟨hl,ho,hc,hg⟩:=h
 refine aj rfl aI3 auR rfl ?_
 by_cases c0:l.length=m.length
 rotate_left
 .rw[jI q l m c0]
  simp -implicitDefEqProofs(maxSteps:=9^9)only[Tryz.f240,↓zA,sevalprocAttr,afU,ho,bV,c0]
 simp -implicitDefEqProofs(maxSteps:=9^9)only[Tryz.f240,↓zA,sevalprocAttr,afU,ho,bV,c0]
 refine aL l.length (fun k s=>s.fr 1=.of (slC imC m)∧s.fr 2=.of (.fn g cp)∧s.fr 15=.of (slC imC l)∧s.fr 16=ak l.length∧s.fr 17=ak k∧s.objs=[]∧eqR q l m=eqR q (l.drop k) (m.drop k)) ?_ ?_
 .simp -implicitDefEqProofs(maxSteps:=9^9)only[Tryz.f240,↓zA,sevalprocAttr,afU,c0]
  try exact rfl
 .rintro k s hk ⟨f1,f2,f15,f16,f17,hob,E⟩
  rcases Nat.lt_or_ge k l.length with c1|c1
  .have hw:=aQ k (by omega)
   have c1':k<m.length:=by omega
   have hx:=fun K=>ae.k (hg l[k] (List.getElem_mem c1) m[k] (List.getElem_mem c1')) K
   rw[aJ c1,aJ c1',eqR] at E
   simp -implicitDefEqProofs(maxSteps:=9^9)only[Tryz.f240,↓zA,sevalprocAttr,afU,f1,f2,f15,f16,f17,hob,ho,hc,aa,c1,ap c1,ap c1',hw,hx]
   cases c2:q l[k] m[k]
   .simp only[c2,Bool.false_and] at E
    simp -implicitDefEqProofs(maxSteps:=9^9)only[Tryz.f240,↓zA,sevalprocAttr,afU,c2,E]
   .simp only[c2,Bool.true_and] at E
    simp -implicitDefEqProofs(maxSteps:=9^9)only[Tryz.f240,↓zA,sevalprocAttr,afU,c2,E]
  .have e:k=l.length:=by omega
   subst e
   rw[List.drop_length,c0,List.drop_length,eqR] at E
   simp -implicitDefEqProofs(maxSteps:=9^9)only[Tryz.f240,↓zA,sevalprocAttr,afU,f1,f2,f15,f16,f17,hob,aa,Nat.lt_irrefl,E]
theorem aHV (l m:List Im) (q:Im→Im→Bool) (g:Nat) (cp:List C) (h:l.length≤4611686018427387903∧abb (fun x=>.agg (imC x)) g cp q l m) (K:An→Prop):aG Tryz.prog pr 240 [.of (slC imC l),.of (slC imC m),.of (.fn g cp)] [] K↔K ⟨false,[ah (eqR q l m)],[]⟩:=ae.k (aub l m q g cp h) K
def afT:=ai (ai (ai @zq @agw) (ai @agv @gV)) (ai (ai @hU @zT0) (ai @auP (aw aI1)))
theorem auc (l m:List Fm) (q:Fm→Fm→Bool) (g:Nat) (cp:List C) (h:l.length≤4611686018427387903∧abb (fun x=>.agg (fmC x)) g cp q l m):G1 242 [.of (slC fmC l),.of (slC fmC m),.of (.fn g cp)] (ah (eqR q l m)):=by
 obtain⟨hl,ho,hc,hg⟩:=h
 refine aj rfl aI1 auP rfl ?_
 by_cases c0:l.length=m.length
 rotate_left
 .rw[jI q l m c0]
  simp -implicitDefEqProofs(maxSteps:=9^9)only[Tryz.f242,↓zA,sevalprocAttr,afT,ho,bV,c0]
 simp -implicitDefEqProofs(maxSteps:=9^9)only[Tryz.f242,↓zA,sevalprocAttr,afT,ho,bV,c0]
 refine aL l.length (fun k s=>s.fr 1=.of (slC fmC m)∧s.fr 2=.of (.fn g cp)∧s.fr 15=.of (slC fmC l)∧s.fr 16=ak l.length∧s.fr 17=ak k∧s.objs=[]∧eqR q l m=eqR q (l.drop k) (m.drop k)) ?_ ?_
 .simp -implicitDefEqProofs(maxSteps:=9^9)only[Tryz.f242,↓zA,sevalprocAttr,afT,c0]
  try exact rfl
 .rintro k s hk ⟨f1,f2,f15,f16,f17,hob,E⟩
  rcases Nat.lt_or_ge k l.length with c1|c1
  .have hw:=aQ k (by omega)
   have c1':k<m.length:=by omega
   have hx:=fun K=>ae.k (hg l[k] (List.getElem_mem c1) m[k] (List.getElem_mem c1')) K
   rw[aJ c1,aJ c1',eqR] at E
   simp -implicitDefEqProofs(maxSteps:=9^9)only[Tryz.f242,↓zA,sevalprocAttr,afT,f1,f2,f15,f16,f17,hob,ho,hc,aa,c1,ap c1,ap c1',hw,hx]
   cases c2:q l[k] m[k]
   .simp only[c2,Bool.false_and] at E
    simp -implicitDefEqProofs(maxSteps:=9^9)only[Tryz.f242,↓zA,sevalprocAttr,afT,c2,E]
   .simp only[c2,Bool.true_and] at E
    simp -implicitDefEqProofs(maxSteps:=9^9)only[Tryz.f242,↓zA,sevalprocAttr,afT,c2,E]
  .have e:k=l.length:=by omega
   subst e
   rw[List.drop_length,c0,List.drop_length,eqR] at E
   simp -implicitDefEqProofs(maxSteps:=9^9)only[Tryz.f242,↓zA,sevalprocAttr,afT,f1,f2,f15,f16,f17,hob,aa,Nat.lt_irrefl,E]
theorem aHW (l m:List Fm) (q:Fm→Fm→Bool) (g:Nat) (cp:List C) (h:l.length≤4611686018427387903∧abb (fun x=>.agg (fmC x)) g cp q l m) (K:An→Prop):aG Tryz.prog pr 242 [.of (slC fmC l),.of (slC fmC m),.of (.fn g cp)] [] K↔K ⟨false,[ah (eqR q l m)],[]⟩:=ae.k (auc l m q g cp h) K
end Go.Proofs.YtjajlmjfddohfaaGreatDoor

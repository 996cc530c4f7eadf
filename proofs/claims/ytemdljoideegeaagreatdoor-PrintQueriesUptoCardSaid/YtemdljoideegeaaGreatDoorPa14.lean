/-
  The document's tokens: expressions. Conditions: none.
-/
import Derived.Test.YtemdljoideegeaaGreatDoorPa13
set_option linter.defProp false
set_option linter.unusedSectionVars false
set_option maxRecDepth 100000
set_option maxHeartbeats 64000000
namespace Go.Tab
open Go Go.Pe
noncomputable instance:DecidableEq Xp:=fun _ _=>Classical.propDecidable _
noncomputable instance:DecidableEq Qy:=fun _ _=>Classical.propDecidable _
noncomputable instance:DecidableEq Im:=fun _ _=>Classical.propDecidable _
noncomputable instance:DecidableEq Fm:=fun _ _=>Classical.propDecidable _
noncomputable instance:DecidableEq Kd:=fun _ _=>Classical.propDecidable _
noncomputable instance:DecidableEq Rd:=fun _ _=>Classical.propDecidable _
noncomputable instance:DecidableEq As:=fun _ _=>Classical.propDecidable _
noncomputable instance:DecidableEq Sm:=fun _ _=>Classical.propDecidable _
def ah0 (a b:Xp):(a=b)=(a.op=b.op∧a.v=b.v∧a.tb=b.tb∧a.nm=b.nm∧a.di=b.di∧a.ks=b.ks∧a.sb=b.sb):=by
 apply propext
 constructor
 .rintro rfl;simp
 .rintro⟨h0,h1,h2,h3,h4,h5,h6⟩
  cases a;cases b
  simp only[Xp.op,Xp.v,Xp.tb,Xp.nm,Xp.di,Xp.ks,Xp.sb] at *
  subst_vars
  rfl
def ae2 (a b:Qy):(a=b)=(a.op=b.op∧a.al=b.al∧a.di=b.di∧a.li=b.li∧a.sk=b.sk∧a.od=b.od∧a.ks=b.ks∧a.its=b.its∧a.fr=b.fr∧a.wh=b.wh∧a.gr=b.gr∧a.hv=b.hv):=by
 apply propext
 constructor
 .rintro rfl;simp
 .rintro⟨h0,h1,h2,h3,h4,h5,h6,h7,h8,h9,h10,h11⟩
  cases a;cases b
  simp only[Qy.op,Qy.al,Qy.di,Qy.li,Qy.sk,Qy.od,Qy.ks,Qy.its,Qy.fr,Qy.wh,Qy.gr,Qy.hv] at *
  subst_vars
  rfl
def apG (a b:Im):(a=b)=(a.st=b.st∧a.tb=b.tb∧a.az=b.az∧a.e=b.e):=by
 apply propext
 constructor
 .rintro rfl;simp
 .rintro⟨h0,h1,h2,h3⟩
  cases a;cases b
  simp only[Im.st,Im.tb,Im.az,Im.e] at *
  subst_vars
  rfl
def ak7 (a b:Fm):(a=b)=(a.kd=b.kd∧a.nm=b.nm∧a.az=b.az∧a.sb=b.sb∧a.ks=b.ks∧a.on=b.on):=by
 apply propext
 constructor
 .rintro rfl;simp
 .rintro⟨h0,h1,h2,h3,h4,h5⟩
  cases a;cases b
  simp only[Fm.kd,Fm.nm,Fm.az,Fm.sb,Fm.ks,Fm.on] at *
  subst_vars
  rfl
def aDw (a b:Kd):(a=b)=(a.pr=b.pr∧a.ns=b.ns):=by
 apply propext
 constructor
 .rintro rfl;simp
 .rintro⟨h0,h1⟩
  cases a;cases b
  simp only[Kd.pr,Kd.ns] at *
  subst_vars
  rfl
def atf (a b:Rd):(a=b)=(a.tb=b.tb∧a.ns=b.ns∧a.to=b.to):=by
 apply propext
 constructor
 .rintro rfl;simp
 .rintro⟨h0,h1,h2⟩
  cases a;cases b
  simp only[Rd.tb,Rd.ns,Rd.to] at *
  subst_vars
  rfl
def aEy (a b:As):(a=b)=(a.nm=b.nm∧a.e=b.e):=by
 apply propext
 constructor
 .rintro rfl;simp
 .rintro⟨h0,h1⟩
  cases a;cases b
  simp only[As.nm,As.e] at *
  subst_vars
  rfl
def abz (a b:Sm):(a=b)=(a.kd=b.kd∧a.tb=b.tb∧a.nm=b.nm∧a.un=b.un∧a.cs=b.cs∧a.ns=b.ns∧a.kys=b.kys∧a.rfs=b.rfs∧a.chs=b.chs∧a.rws=b.rws∧a.sts=b.sts∧a.wh=b.wh∧a.q=b.q):=by
 apply propext
 constructor
 .rintro rfl;simp
 .rintro⟨h0,h1,h2,h3,h4,h5,h6,h7,h8,h9,h10,h11,h12⟩
  cases a;cases b
  simp only[Sm.kd,Sm.tb,Sm.nm,Sm.un,Sm.cs,Sm.ns,Sm.kys,Sm.rfs,Sm.chs,Sm.rws,Sm.sts,Sm.wh,Sm.q] at *
  subst_vars
  rfl
end Go.Tab
namespace Go.Proofs.YtemdljoideegeaaGreatDoor
open Go Go.Pe Go.Tab
def adH {α:Type} [DecidableEq α] (l m:List α):eqR (fun x y=>decide (x=y)) l m=decide (l=m):=aIR _ l m fun _ _ _ _=>rfl
def cB (a b:Bool):(a == b)=decide (a=b):=by cases a <;> cases b <;> rfl
def aMA (l m:List Od) (hw:lsW odW l≤WL) (K:An→Prop):bp Tryz.prog pr 241 [.of (slC odC l),.of (slC odC m)] [] K↔K ⟨false,[aG (decide (l=m))],[]⟩:=by
 have:=aJG l m (by have:=da odW l (fun x _=>by simp[odW]);simp only[WL] at hw;omega) K
 rwa [adH] at this
def gG (l m:List (List UInt8)) (K:An→Prop):bp Tryz.prog pr 195 [.of (slC bA l),.of (slC bA m)] [] K↔ifP (l.length≤4611686018427387903) (K ⟨false,[aG (decide (l=m))],[]⟩) (abU Tryz.prog pr 195 [.of (slC bA l),.of (slC bA m)] K):=adC (fun h=>by have:=asH l m h;rwa [adH] at this) K
def aaB (l m:List Cd) (K:An→Prop):bp Tryz.prog pr 200 [.of (slC cdC l),.of (slC cdC m)] [] K↔ifP (l.length≤4611686018427387903) (K ⟨false,[aG (decide (l=m))],[]⟩) (abU Tryz.prog pr 200 [.of (slC cdC l),.of (slC cdC m)] K):=adC (fun h=>by have:=asI l m h;rwa [adH] at this) K
def alu (l:List Xp):Prop:=∀ x∈l,∀ y,G1 170 [.of (.agg (xpC x)),.of (.agg (xpC y))] (aG (decide (x=y)))
def efX {l:List Xp} (h:alu l) (hw:lsW xpW l≤WL) (m:List Xp) (K:An→Prop):bp Tryz.prog pr 198 [.of (slC xpC l),.of (slC xpC m),.of (.fn 170 [])] [] K↔K ⟨false,[aG (decide (l=m))],[]⟩:=by
 have h1:=da xpW l fun x _=>aaw x
 simp only[WL] at hw
 have:=aME l m (fun x y=>decide (x=y)) 170 [] ⟨by omega,agw,aff,fun x hx y _=>h x hx y⟩ K
 rwa [adH] at this
def ari (l:List Qy):Prop:=∀ x∈l,∀ y,G1 206 [.of (.agg (qyC x)),.of (.agg (qyC y))] (aG (decide (x=y)))
def efQ {l:List Qy} (h:ari l) (hw:lsW qyW l≤WL) (m:List Qy) (K:An→Prop):bp Tryz.prog pr 205 [.of (slC qyC l),.of (slC qyC m),.of (.fn 206 [])] [] K↔K ⟨false,[aG (decide (l=m))],[]⟩:=by
 have h1:=da qyW l fun x _=>adu x
 simp only[WL] at hw
 have:=aJH l m (fun x y=>decide (x=y)) 206 [] ⟨by omega,al3,aka,fun x hx y _=>h x hx y⟩ K
 rwa [adH] at this
def aMB (l:List Im):Prop:=∀ x∈l,∀ y,G1 243 [.of (.agg (imC x)),.of (.agg (imC y))] (aG (decide (x=y)))
def efI {l:List Im} (h:aMB l) (hw:lsW imW l≤WL) (m:List Im) (K:An→Prop):bp Tryz.prog pr 242 [.of (slC imC l),.of (slC imC m),.of (.fn 243 [])] [] K↔K ⟨false,[aG (decide (l=m))],[]⟩:=by
 have h1:=da imW l fun x _=>adw x
 simp only[WL] at hw
 have:=aMC l m (fun x y=>decide (x=y)) 243 [] ⟨by omega,aGb,aAV,fun x hx y _=>h x hx y⟩ K
 rwa [adH] at this
def aE2 (l:List Fm):Prop:=∀ x∈l,∀ y,G1 245 [.of (.agg (fmC x)),.of (.agg (fmC y))] (aG (decide (x=y)))
def efF {l:List Fm} (h:aE2 l) (hw:lsW fmW l≤WL) (m:List Fm) (K:An→Prop):bp Tryz.prog pr 244 [.of (slC fmC l),.of (slC fmC m),.of (.fn 245 [])] [] K↔K ⟨false,[aG (decide (l=m))],[]⟩:=by
 have h1:=da fmW l fun x _=>abk x
 simp only[WL] at hw
 have:=aMD l m (fun x y=>decide (x=y)) 245 [] ⟨by omega,auH,aqV,fun x hx y _=>h x hx y⟩ K
 rwa [adH] at this
def aiU:=ai (ai (ai (ai @zq @a3n) (ai @a3m (ai @aph @anj))) (ai (ai @apg @ani) (ai @ad3 (ai @cR @eY)))) (ai (ai (ai @agw @aff) (ai @al3 (ai @aka @Q3))) (ai (ai @Q9 (ai @P4 @Q4)) (ai @zT0 (ai @azz (ba aOV)))))
def anH (a b:Xp) (hw:lsW xpW a.ks+lsW qyW a.sb≤WL) (i0:alu a.ks) (i1:ari a.sb):G1 170 [.of (.agg (xpC a)),.of (.agg (xpC b))] (aG (decide (a=b))):=by
 simp only[WL] at hw
 have k0:=efX i0 (by simp only[WL];omega)
 have k1:=efQ i1 (by simp only[WL];omega)
 refine ah rfl aOV azz rfl ?_
 by_cases c0:a.op=b.op
 rotate_left
 .simp -implicitDefEqProofs(maxSteps:=9^9)only[Tryz.f170,↓zA,sevalprocAttr,aiU,c0,k0,k1,bW,cB,cd,fp,ch,ah0 a b,bD,bJ]
 by_cases c1:a.v=b.v
 rotate_left
 .simp -implicitDefEqProofs(maxSteps:=9^9)only[Tryz.f170,↓zA,sevalprocAttr,aiU,aa c0,c1,k0,k1,bW,cB,cd,fp,ch,ah0 a b,bD,bJ]
 by_cases c2:a.tb=b.tb
 rotate_left
 .simp -implicitDefEqProofs(maxSteps:=9^9)only[Tryz.f170,↓zA,sevalprocAttr,aiU,aa c0,aa c1,c2,k0,k1,bW,cB,cd,fp,ch,ah0 a b,bD,bJ]
 by_cases c3:a.nm=b.nm
 rotate_left
 .simp -implicitDefEqProofs(maxSteps:=9^9)only[Tryz.f170,↓zA,sevalprocAttr,aiU,aa c0,aa c1,aa c2,c3,k0,k1,bW,cB,cd,fp,ch,ah0 a b,bD,bJ]
 by_cases c4:a.di=b.di
 rotate_left
 .simp -implicitDefEqProofs(maxSteps:=9^9)only[Tryz.f170,↓zA,sevalprocAttr,aiU,aa c0,aa c1,aa c2,aa c3,c4,k0,k1,bW,cB,cd,fp,ch,ah0 a b,bD,bJ]
 by_cases c5:a.ks=b.ks
 rotate_left
 .simp -implicitDefEqProofs(maxSteps:=9^9)only[Tryz.f170,↓zA,sevalprocAttr,aiU,aa c0,aa c1,aa c2,aa c3,aa c4,c5,k0,k1,bW,cB,cd,fp,ch,ah0 a b,bD,bJ]
 by_cases c6:a.sb=b.sb
 rotate_left
 .simp -implicitDefEqProofs(maxSteps:=9^9)only[Tryz.f170,↓zA,sevalprocAttr,aiU,aa c0,aa c1,aa c2,aa c3,aa c4,aa c5,c6,k0,k1,bW,cB,cd,fp,ch,ah0 a b,bD,bJ]
 simp -implicitDefEqProofs(maxSteps:=9^9)only[Tryz.f170,↓zA,sevalprocAttr,aiU,aa c0,aa c1,aa c2,aa c3,aa c4,aa c5,aa c6,k0,k1,bW,cB,cd,fp,ch,ah0 a b,db,bG]
def aeT:=ai (ai (ai (ai (ai @zq @a3h) (ai @a3g @aVe)) (ai (ai @aSg @apg) (ai @ani @aVd))) (ai (ai (ai @aSf @aGa) (ai @aAU @aph)) (ai (ai @anj @eY) (ai @acL @abb)))) (ai (ai (ai (ai @jq @cR) (ai @al3 @aka)) (ai (ai @aGb @aAV) (ai @auH @aqV))) (ai (ai (ai @agw @aff) (ai @Q3 @P4)) (ai (ai @Q4 @zT0) (ai @ay1 (ba aOn)))))
def awR (a b:Qy) (hw:qyW a≤WL) (i0:ari a.ks) (i1:aMB a.its) (i2:aE2 a.fr) (i3:alu a.wh) (i4:alu a.gr) (i5:alu a.hv):G1 206 [.of (.agg (qyC a)),.of (.agg (qyC b))] (aG (decide (a=b))):=by
 rw[iK] at hw
 simp only[WL] at hw
 have ko:=fun m=>aMA a.od m (by simp only[WL];omega)
 have k0:=efQ i0 (by simp only[WL];omega)
 have k1:=efI i1 (by simp only[WL];omega)
 have k2:=efF i2 (by simp only[WL];omega)
 have k3:=efX i3 (by simp only[WL];omega)
 have k4:=efX i4 (by simp only[WL];omega)
 have k5:=efX i5 (by simp only[WL];omega)
 refine ah rfl aOn ay1 rfl ?_
 by_cases c0:a.op=b.op
 rotate_left
 .simp -implicitDefEqProofs(maxSteps:=9^9)only[Tryz.f206,↓zA,sevalprocAttr,aeT,c0,ko,k0,k1,k2,k3,k4,k5,bW,cB,cd,fp,ch,ae2 a b,bD,bJ]
 by_cases c1:a.al=b.al
 rotate_left
 .simp -implicitDefEqProofs(maxSteps:=9^9)only[Tryz.f206,↓zA,sevalprocAttr,aeT,aa c0,c1,ko,k0,k1,k2,k3,k4,k5,bW,cB,cd,fp,ch,ae2 a b,bD,bJ]
 by_cases c2:a.di=b.di
 rotate_left
 .simp -implicitDefEqProofs(maxSteps:=9^9)only[Tryz.f206,↓zA,sevalprocAttr,aeT,aa c0,aa c1,c2,ko,k0,k1,k2,k3,k4,k5,bW,cB,cd,fp,ch,ae2 a b,bD,bJ]
 by_cases c3:a.li=b.li
 rotate_left
 .simp -implicitDefEqProofs(maxSteps:=9^9)only[Tryz.f206,↓zA,sevalprocAttr,aeT,aa c0,aa c1,aa c2,c3,ko,k0,k1,k2,k3,k4,k5,bW,cB,cd,fp,ch,ae2 a b,bD,bJ]
 by_cases c4:a.sk=b.sk
 rotate_left
 .simp -implicitDefEqProofs(maxSteps:=9^9)only[Tryz.f206,↓zA,sevalprocAttr,aeT,aa c0,aa c1,aa c2,aa c3,c4,ko,k0,k1,k2,k3,k4,k5,bW,cB,cd,fp,ch,ae2 a b,bD,bJ]
 by_cases c5:a.od=b.od
 rotate_left
 .simp -implicitDefEqProofs(maxSteps:=9^9)only[Tryz.f206,↓zA,sevalprocAttr,aeT,aa c0,aa c1,aa c2,aa c3,aa c4,c5,ko,k0,k1,k2,k3,k4,k5,bW,cB,cd,fp,ch,ae2 a b,bD,bJ]
 by_cases c6:a.ks=b.ks
 rotate_left
 .simp -implicitDefEqProofs(maxSteps:=9^9)only[Tryz.f206,↓zA,sevalprocAttr,aeT,aa c0,aa c1,aa c2,aa c3,aa c4,aa c5,c6,ko,k0,k1,k2,k3,k4,k5,bW,cB,cd,fp,ch,ae2 a b,bD,bJ]
 by_cases c7:a.its=b.its
 rotate_left
 .simp -implicitDefEqProofs(maxSteps:=9^9)only[Tryz.f206,↓zA,sevalprocAttr,aeT,aa c0,aa c1,aa c2,aa c3,aa c4,aa c5,aa c6,c7,ko,k0,k1,k2,k3,k4,k5,bW,cB,cd,fp,ch,ae2 a b,bD,bJ]
 by_cases c8:a.fr=b.fr
 rotate_left
 .simp -implicitDefEqProofs(maxSteps:=9^9)only[Tryz.f206,↓zA,sevalprocAttr,aeT,aa c0,aa c1,aa c2,aa c3,aa c4,aa c5,aa c6,aa c7,c8,ko,k0,k1,k2,k3,k4,k5,bW,cB,cd,fp,ch,ae2 a b,bD,bJ]
 by_cases c9:a.wh=b.wh
 rotate_left
 .simp -implicitDefEqProofs(maxSteps:=9^9)only[Tryz.f206,↓zA,sevalprocAttr,aeT,aa c0,aa c1,aa c2,aa c3,aa c4,aa c5,aa c6,aa c7,aa c8,c9,ko,k0,k1,k2,k3,k4,k5,bW,cB,cd,fp,ch,ae2 a b,bD,bJ]
 by_cases c10:a.gr=b.gr
 rotate_left
 .simp -implicitDefEqProofs(maxSteps:=9^9)only[Tryz.f206,↓zA,sevalprocAttr,aeT,aa c0,aa c1,aa c2,aa c3,aa c4,aa c5,aa c6,aa c7,aa c8,aa c9,c10,ko,k0,k1,k2,k3,k4,k5,bW,cB,cd,fp,ch,ae2 a b,bD,bJ]
 by_cases c11:a.hv=b.hv
 rotate_left
 .simp -implicitDefEqProofs(maxSteps:=9^9)only[Tryz.f206,↓zA,sevalprocAttr,aeT,aa c0,aa c1,aa c2,aa c3,aa c4,aa c5,aa c6,aa c7,aa c8,aa c9,aa c10,c11,ko,k0,k1,k2,k3,k4,k5,bW,cB,cd,fp,ch,ae2 a b,bD,bJ]
 simp -implicitDefEqProofs(maxSteps:=9^9)only[Tryz.f206,↓zA,sevalprocAttr,aeT,aa c0,aa c1,aa c2,aa c3,aa c4,aa c5,aa c6,aa c7,aa c8,aa c9,aa c10,aa c11,ko,k0,k1,k2,k3,k4,k5,bW,cB,cd,fp,ch,ae2 a b,db,bG]
def aoy:=ai (ai (ai @zq (ai @a3l @a3k)) (ai @agw (ai @aff @cR))) (ai (ai @abb (ai @P4 @Q4)) (ai (ai @Q9 @zT0) (ai @ayy (ba aNT))))
def awT (a b:Im) (hw:imW a≤WL) (i0:alu [a.e]):G1 243 [.of (.agg (imC a)),.of (.agg (imC b))] (aG (decide (a=b))):=by
 rw[aci] at hw
 simp only[WL] at hw
 have k0:=fun K=>aN.k (i0 a.e (by simp) b.e) K
 refine ah rfl aNT ayy rfl ?_
 by_cases c0:a.st=b.st
 rotate_left
 .simp -implicitDefEqProofs(maxSteps:=9^9)only[Tryz.f243,↓zA,sevalprocAttr,aoy,c0,k0,bW,cB,cd,fp,ch,apG a b,bD,bJ]
 by_cases c1:a.tb=b.tb
 rotate_left
 .simp -implicitDefEqProofs(maxSteps:=9^9)only[Tryz.f243,↓zA,sevalprocAttr,aoy,aa c0,c1,k0,bW,cB,cd,fp,ch,apG a b,bD,bJ]
 by_cases c2:a.az=b.az
 rotate_left
 .simp -implicitDefEqProofs(maxSteps:=9^9)only[Tryz.f243,↓zA,sevalprocAttr,aoy,aa c0,aa c1,c2,k0,bW,cB,cd,fp,ch,apG a b,bD,bJ]
 by_cases c3:a.e=b.e
 rotate_left
 .simp -implicitDefEqProofs(maxSteps:=9^9)only[Tryz.f243,↓zA,sevalprocAttr,aoy,aa c0,aa c1,aa c2,c3,k0,bW,cB,cd,fp,ch,apG a b,bD,bJ]
 simp -implicitDefEqProofs(maxSteps:=9^9)only[Tryz.f243,↓zA,sevalprocAttr,aoy,aa c0,aa c1,aa c2,aa c3,k0,bW,cB,cd,fp,ch,apG a b,db,bG]
def akh:=ai (ai (ai (ai @zq @a3j) (ai @a3i (ai @apg @ani))) (ai (ai @aGa (ai @aAU @aph)) (ai @anj (ai @jq @eY)))) (ai (ai (ai @cR (ai @al3 @aka)) (ai @auH (ai @aqV @agw))) (ai (ai @aff (ai @Q3 @Q9)) (ai @zT0 (ai @ayw (ba aNR)))))
def awU (a b:Fm) (hw:fmW a≤WL) (i0:ari a.sb) (i1:aE2 a.ks) (i2:alu a.on):G1 245 [.of (.agg (fmC a)),.of (.agg (fmC b))] (aG (decide (a=b))):=by
 rw[jg] at hw
 simp only[WL] at hw
 have k0:=efQ i0 (by simp only[WL];omega)
 have k1:=efF i1 (by simp only[WL];omega)
 have k2:=efX i2 (by simp only[WL];omega)
 refine ah rfl aNR ayw rfl ?_
 by_cases c0:a.kd=b.kd
 rotate_left
 .simp -implicitDefEqProofs(maxSteps:=9^9)only[Tryz.f245,↓zA,sevalprocAttr,akh,c0,k0,k1,k2,bW,cB,cd,fp,ch,ak7 a b,bD,bJ]
 by_cases c1:a.nm=b.nm
 rotate_left
 .simp -implicitDefEqProofs(maxSteps:=9^9)only[Tryz.f245,↓zA,sevalprocAttr,akh,aa c0,c1,k0,k1,k2,bW,cB,cd,fp,ch,ak7 a b,bD,bJ]
 by_cases c2:a.az=b.az
 rotate_left
 .simp -implicitDefEqProofs(maxSteps:=9^9)only[Tryz.f245,↓zA,sevalprocAttr,akh,aa c0,aa c1,c2,k0,k1,k2,bW,cB,cd,fp,ch,ak7 a b,bD,bJ]
 by_cases c3:a.sb=b.sb
 rotate_left
 .simp -implicitDefEqProofs(maxSteps:=9^9)only[Tryz.f245,↓zA,sevalprocAttr,akh,aa c0,aa c1,aa c2,c3,k0,k1,k2,bW,cB,cd,fp,ch,ak7 a b,bD,bJ]
 by_cases c4:a.ks=b.ks
 rotate_left
 .simp -implicitDefEqProofs(maxSteps:=9^9)only[Tryz.f245,↓zA,sevalprocAttr,akh,aa c0,aa c1,aa c2,aa c3,c4,k0,k1,k2,bW,cB,cd,fp,ch,ak7 a b,bD,bJ]
 by_cases c5:a.on=b.on
 rotate_left
 .simp -implicitDefEqProofs(maxSteps:=9^9)only[Tryz.f245,↓zA,sevalprocAttr,akh,aa c0,aa c1,aa c2,aa c3,aa c4,c5,k0,k1,k2,bW,cB,cd,fp,ch,ak7 a b,bD,bJ]
 simp -implicitDefEqProofs(maxSteps:=9^9)only[Tryz.f245,↓zA,sevalprocAttr,akh,aa c0,aa c1,aa c2,aa c3,aa c4,aa c5,k0,k1,k2,bW,cB,cd,fp,ch,ak7 a b,db,bG]
theorem akI:∀ n,n≤WL→(∀ a,xpW a≤n→∀ b,G1 170 [.of (.agg (xpC a)),.of (.agg (xpC b))] (aG (decide (a=b))))∧(∀ a,qyW a≤n→∀ b,G1 206 [.of (.agg (qyC a)),.of (.agg (qyC b))] (aG (decide (a=b))))
  ∧ (∀ a,imW a≤n→∀ b,G1 243 [.of (.agg (imC a)),.of (.agg (imC b))] (aG (decide (a=b))))∧(∀ a,fmW a≤n→∀ b,G1 245 [.of (.agg (fmC a)),.of (.agg (fmC b))] (aG (decide (a=b))))
 | 0,_=>⟨fun e h=>by have:=aaw e;omega,fun e h=>by have:=adu e;omega,fun e h=>by have:=adw e;omega,fun e h=>by have:=abk e;omega⟩
 | n+1,hn=>by
  obtain⟨i1,i2,i3,i4⟩:=akI n (by omega)
  have sX:∀ l:List Xp,lsW xpW l≤n+1→alu l:=fun l h x hx=>i1 x (by have:=bQ (w:=xpW) hx;omega)
  have sQ:∀ l:List Qy,lsW qyW l≤n+1→ari l:=fun l h x hx=>i2 x (by have:=bQ (w:=qyW) hx;omega)
  have sI:∀ l:List Im,lsW imW l≤n+1→aMB l:=fun l h x hx=>i3 x (by have:=bQ (w:=imW) hx;omega)
  have sF:∀ l:List Fm,lsW fmW l≤n+1→aE2 l:=fun l h x hx=>i4 x (by have:=bQ (w:=fmW) hx;omega)
  refine⟨fun e h b=>?_,fun e h b=>?_,fun e h b=>?_,fun e h b=>?_⟩
  .have h':=aaU e
   exact anH e b (by omega) (sX _ (by omega)) (sQ _ (by omega))
  .have h':=iK e
   exact awR e b (by omega) (sQ _ (by omega)) (sI _ (by omega)) (sF _ (by omega)) (sX _ (by omega)) (sX _ (by omega)) (sX _ (by omega))
  .have h':=aci e
   exact awT e b (by omega) (fun x hx=>by rw[List.mem_singleton.1 hx];exact i1 _ (by omega))
  .have h':=jg e
   exact awU e b (by omega) (sQ _ (by omega)) (sF _ (by omega)) (sX _ (by omega))
def a0C (l:List Xp) (h:lsW xpW l≤WL):alu l:=fun x hx=>(akI WL (aM _)).1 x (by have:=bQ (w:=xpW) hx;omega)
def a0D (l:List Qy) (h:lsW qyW l≤WL):ari l:=fun x hx=>(akI WL (aM _)).2.1 x (by have:=bQ (w:=qyW) hx;omega)
def aif (a b:Xp) (K:An→Prop):bp Tryz.prog pr 170 [.of (.agg (xpC a)),.of (.agg (xpC b))] [] K↔ifP (xpW a≤WL) (K ⟨false,[aG (decide (a=b))],[]⟩) (abU Tryz.prog pr 170 [.of (.agg (xpC a)),.of (.agg (xpC b))] K):=adC (fun h=>(akI WL (aM _)).1 a h b) K
def aBW:=ai (ai (ai @zq (ai @a3d @a3c)) (ai @auK (ai @aqY @adN))) (ai (ai @bO (ai @P4 @Q4)) (ai @zT0 (ai @azd (ba aOz))))
def awS (a b:Kd) (hw:kdW a≤WL):G1 194 [.of (.agg (kdC a)),.of (.agg (kdC b))] (aG (decide (a=b))):=by
 have hl:a.ns.length≤4611686018427387903:=by have:=da cV a.ns (fun x _=>by simp[cV]);simp only[WL,kdW] at hw;omega
 refine ah rfl aOz azd rfl ?_
 by_cases c0:a.pr=b.pr
 rotate_left
 .simp -implicitDefEqProofs(maxSteps:=9^9)only[Tryz.f194,↓zA,sevalprocAttr,aBW,c0,gG,hl,bW,cB,cd,fp,ch,aDw a b,bD,bJ]
 by_cases c1:a.ns=b.ns
 rotate_left
 .simp -implicitDefEqProofs(maxSteps:=9^9)only[Tryz.f194,↓zA,sevalprocAttr,aBW,aa c0,c1,gG,hl,bW,cB,cd,fp,ch,aDw a b,bD,bJ]
 simp -implicitDefEqProofs(maxSteps:=9^9)only[Tryz.f194,↓zA,sevalprocAttr,aBW,aa c0,aa c1,gG,hl,bW,cB,cd,fp,ch,aDw a b,db,bG]
def asY:=ai (ai (ai @zq @a3b) (ai @a3a (ai @auK @aqY))) (ai (ai @aeo (ai @bO @Q9)) (ai @zT0 (ai @azb (ba aOx))))
def awQ (a b:Rd) (hw:rdW a≤WL):G1 196 [.of (.agg (rdC a)),.of (.agg (rdC b))] (aG (decide (a=b))):=by
 have hl:a.ns.length≤4611686018427387903:=by have:=da cV a.ns (fun x _=>by simp[cV]);simp only[WL,rdW] at hw;omega
 have hl2:a.to.length≤4611686018427387903:=by have:=da cV a.to (fun x _=>by simp[cV]);simp only[WL,rdW] at hw;omega
 refine ah rfl aOx azb rfl ?_
 by_cases c0:a.tb=b.tb
 rotate_left
 .simp -implicitDefEqProofs(maxSteps:=9^9)only[Tryz.f196,↓zA,sevalprocAttr,asY,c0,gG,hl,hl2,bW,cB,cd,fp,ch,atf a b,bD,bJ]
 by_cases c1:a.ns=b.ns
 rotate_left
 .simp -implicitDefEqProofs(maxSteps:=9^9)only[Tryz.f196,↓zA,sevalprocAttr,asY,aa c0,c1,gG,hl,hl2,bW,cB,cd,fp,ch,atf a b,bD,bJ]
 by_cases c2:a.to=b.to
 rotate_left
 .simp -implicitDefEqProofs(maxSteps:=9^9)only[Tryz.f196,↓zA,sevalprocAttr,asY,aa c0,aa c1,c2,gG,hl,hl2,bW,cB,cd,fp,ch,atf a b,bD,bJ]
 simp -implicitDefEqProofs(maxSteps:=9^9)only[Tryz.f196,↓zA,sevalprocAttr,asY,aa c0,aa c1,aa c2,gG,hl,hl2,bW,cB,cd,fp,ch,atf a b,db,bG]
def aBV:=ai (ai (ai @zq @a29) (ai @a28 (ai @agw @aff))) (ai (ai @cR (ai @abO @Q9)) (ai @zT0 (ai @ay8 (ba aOu))))
def awV (a b:As) (hw:asW a≤WL):G1 199 [.of (.agg (asC a)),.of (.agg (asC b))] (aG (decide (a=b))):=by
 have hl:xpW a.e≤WL:=by simp only[asW] at hw;omega
 refine ah rfl aOu ay8 rfl ?_
 by_cases c0:a.nm=b.nm
 rotate_left
 .simp -implicitDefEqProofs(maxSteps:=9^9)only[Tryz.f199,↓zA,sevalprocAttr,aBV,c0,aif,hl,bW,cB,cd,fp,ch,aEy a b,bD,bJ]
 by_cases c1:a.e=b.e
 rotate_left
 .simp -implicitDefEqProofs(maxSteps:=9^9)only[Tryz.f199,↓zA,sevalprocAttr,aBV,aa c0,c1,aif,hl,bW,cB,cd,fp,ch,aEy a b,bD,bJ]
 simp -implicitDefEqProofs(maxSteps:=9^9)only[Tryz.f199,↓zA,sevalprocAttr,aBV,aa c0,aa c1,aif,hl,bW,cB,cd,fp,ch,aEy a b,db,bG]
def a0O:=ai (ai (ai @zq @aph) (ai @anj @cR)) (ai (ai @agw @aff) (ai @zT0 (ai @aza (ba aOw))))
def alW (a b:List Xp) (hw:lsW xpW a≤WL):G1 197 [.of (slC xpC a),.of (slC xpC b)] (aG (decide (a=b))):=by
 refine ah rfl aOw aza rfl ?_
 simp -implicitDefEqProofs(maxSteps:=9^9)only[Tryz.f197,↓zA,sevalprocAttr,a0O,efX (a0C a hw) hw]
def aax (a b:List Xp) (K:An→Prop):bp Tryz.prog pr 197 [.of (slC xpC a),.of (slC xpC b)] [] K↔ifP (lsW xpW a≤WL) (K ⟨false,[aG (decide (a=b))],[]⟩) (abU Tryz.prog pr 197 [.of (slC xpC a),.of (slC xpC b)] K):=adC (alW a b) K
def a7f {l:List Kd} (hw:lsW kdW l≤WL) (m:List Kd) (K:An→Prop):bp Tryz.prog pr 201 [.of (slC kdC l),.of (slC kdC m),.of (.fn 194 [])] [] K↔K ⟨false,[aG (decide (l=m))],[]⟩:=by
 have h1:=da kdW l fun x _=>by simp[kdW]
 have h2:=hw
 simp only[WL] at h2
 have:=aE4 l m (fun x y=>decide (x=y)) 194 [] ⟨by omega,aGm,aA6,fun x hx y _=>awS x y (by have:=bQ (w:=kdW) hx;omega)⟩ K
 rwa [adH] at this
def a7e {l:List Rd} (hw:lsW rdW l≤WL) (m:List Rd) (K:An→Prop):bp Tryz.prog pr 202 [.of (slC rdC l),.of (slC rdC m),.of (.fn 196 [])] [] K↔K ⟨false,[aG (decide (l=m))],[]⟩:=by
 have h1:=da rdW l fun x _=>by simp[rdW]
 have h2:=hw
 simp only[WL] at h2
 have:=aE3 l m (fun x y=>decide (x=y)) 196 [] ⟨by omega,aGl,aA5,fun x hx y _=>awQ x y (by have:=bQ (w:=rdW) hx;omega)⟩ K
 rwa [adH] at this
def a7g {l:List As} (hw:lsW asW l≤WL) (m:List As) (K:An→Prop):bp Tryz.prog pr 204 [.of (slC asC l),.of (slC asC m),.of (.fn 199 [])] [] K↔K ⟨false,[aG (decide (l=m))],[]⟩:=by
 have h1:=da asW l fun x _=>by simp[asW]
 have h2:=hw
 simp only[WL] at h2
 have:=aE5 l m (fun x y=>decide (x=y)) 199 [] ⟨by omega,aGj,aA3,fun x hx y _=>awV x y (by have:=bQ (w:=asW) hx;omega)⟩ K
 rwa [adH] at this
def efR {l:List (List Xp)} (hw:lsW (lsW xpW) l≤WL) (m:List (List Xp)) (K:An→Prop):bp Tryz.prog pr 203 [.of (slC (lsC xpC) l),.of (slC (lsC xpC) m),.of (.fn 197 [])] [] K↔K ⟨false,[aG (decide (l=m))],[]⟩:=by
 have h1:=da (lsW xpW) l fun x _=>by simp[lsW]
 have h2:=hw
 simp only[WL] at h2
 have:=axZ l m (fun x y=>decide (x=y)) 197 [] ⟨by omega,aGk,aA4,fun x hx y _=>alW x y (by have:=bQ (w:=lsW xpW) hx;omega)⟩ K
 rwa [adH] at this
def aen:=ai (ai (ai (ai (ai @zq @a3f) (ai @a3e (ai @aVF @aSH))) (ai (ai @auK @aqY) (ai @aVE (ai @aSG @aVD)))) (ai (ai (ai @aSF @aVC) (ai @aSE (ai @aVB @aSD))) (ai (ai @apg (ai @ani @aba)) (ai @aep (ai @adN @aeo))))) (ai (ai (ai (ai @cR @abO) (ai @eY (ai @bO @ie))) (ai (ai @aGm (ai @aA6 @aGl)) (ai @aA5 (ai @aGk @aA4)))) (ai (ai (ai @aGj @aA3) (ai @al3 (ai @aka @Q3))) (ai (ai @Q9 (ai @P4 @Q4)) (ai @zT0 (ai @aAm (ba aPI))))))
def acv (a b:Sm) (hw:smW a≤WL):G1 118 [.of (.agg (smC a)),.of (.agg (smC b))] (aG (decide (a=b))):=by
 have hw':=hw
 simp only[WL,smW] at hw
 have l1:a.cs.length≤4611686018427387903:=by have:=da cdW a.cs (fun x _=>by simp[cdW]);omega
 have l2:a.ns.length≤4611686018427387903:=by have:=da cV a.ns (fun x _=>by simp[cV]);omega
 have l3:lsW xpW a.chs≤WL:=by simp only[WL];omega
 have l4:lsW xpW a.wh≤WL:=by simp only[WL];omega
 have k1:=a7f (l:=a.kys) (by simp only[WL];omega)
 have k2:=a7e (l:=a.rfs) (by simp only[WL];omega)
 have k3:=efR (l:=a.rws) (by simp only[WL];omega)
 have k4:=a7g (l:=a.sts) (by simp only[WL];omega)
 have k5:=efQ (a0D a.q (by simp only[WL];omega)) (by simp only[WL];omega)
 refine ah rfl aPI aAm rfl ?_
 by_cases c0:a.kd=b.kd
 rotate_left
 .simp -implicitDefEqProofs(maxSteps:=9^9)only[Tryz.f118,↓zA,sevalprocAttr,aen,c0,aaB,gG,aax,l1,l2,l3,l4,k1,k2,k3,k4,k5,bW,cB,cd,fp,ch,abz a b,bD,bJ]
 by_cases c1:a.tb=b.tb
 rotate_left
 .simp -implicitDefEqProofs(maxSteps:=9^9)only[Tryz.f118,↓zA,sevalprocAttr,aen,aa c0,c1,aaB,gG,aax,l1,l2,l3,l4,k1,k2,k3,k4,k5,bW,cB,cd,fp,ch,abz a b,bD,bJ]
 by_cases c2:a.nm=b.nm
 rotate_left
 .simp -implicitDefEqProofs(maxSteps:=9^9)only[Tryz.f118,↓zA,sevalprocAttr,aen,aa c0,aa c1,c2,aaB,gG,aax,l1,l2,l3,l4,k1,k2,k3,k4,k5,bW,cB,cd,fp,ch,abz a b,bD,bJ]
 by_cases c3:a.un=b.un
 rotate_left
 .simp -implicitDefEqProofs(maxSteps:=9^9)only[Tryz.f118,↓zA,sevalprocAttr,aen,aa c0,aa c1,aa c2,c3,aaB,gG,aax,l1,l2,l3,l4,k1,k2,k3,k4,k5,bW,cB,cd,fp,ch,abz a b,bD,bJ]
 by_cases c4:a.cs=b.cs
 rotate_left
 .simp -implicitDefEqProofs(maxSteps:=9^9)only[Tryz.f118,↓zA,sevalprocAttr,aen,aa c0,aa c1,aa c2,aa c3,c4,aaB,gG,aax,l1,l2,l3,l4,k1,k2,k3,k4,k5,bW,cB,cd,fp,ch,abz a b,bD,bJ]
 by_cases c5:a.ns=b.ns
 rotate_left
 .simp -implicitDefEqProofs(maxSteps:=9^9)only[Tryz.f118,↓zA,sevalprocAttr,aen,aa c0,aa c1,aa c2,aa c3,aa c4,c5,aaB,gG,aax,l1,l2,l3,l4,k1,k2,k3,k4,k5,bW,cB,cd,fp,ch,abz a b,bD,bJ]
 by_cases c6:a.kys=b.kys
 rotate_left
 .simp -implicitDefEqProofs(maxSteps:=9^9)only[Tryz.f118,↓zA,sevalprocAttr,aen,aa c0,aa c1,aa c2,aa c3,aa c4,aa c5,c6,aaB,gG,aax,l1,l2,l3,l4,k1,k2,k3,k4,k5,bW,cB,cd,fp,ch,abz a b,bD,bJ]
 by_cases c7:a.rfs=b.rfs
 rotate_left
 .simp -implicitDefEqProofs(maxSteps:=9^9)only[Tryz.f118,↓zA,sevalprocAttr,aen,aa c0,aa c1,aa c2,aa c3,aa c4,aa c5,aa c6,c7,aaB,gG,aax,l1,l2,l3,l4,k1,k2,k3,k4,k5,bW,cB,cd,fp,ch,abz a b,bD,bJ]
 by_cases c8:a.chs=b.chs
 rotate_left
 .simp -implicitDefEqProofs(maxSteps:=9^9)only[Tryz.f118,↓zA,sevalprocAttr,aen,aa c0,aa c1,aa c2,aa c3,aa c4,aa c5,aa c6,aa c7,c8,aaB,gG,aax,l1,l2,l3,l4,k1,k2,k3,k4,k5,bW,cB,cd,fp,ch,abz a b,bD,bJ]
 by_cases c9:a.rws=b.rws
 rotate_left
 .simp -implicitDefEqProofs(maxSteps:=9^9)only[Tryz.f118,↓zA,sevalprocAttr,aen,aa c0,aa c1,aa c2,aa c3,aa c4,aa c5,aa c6,aa c7,aa c8,c9,aaB,gG,aax,l1,l2,l3,l4,k1,k2,k3,k4,k5,bW,cB,cd,fp,ch,abz a b,bD,bJ]
 by_cases c10:a.sts=b.sts
 rotate_left
 .simp -implicitDefEqProofs(maxSteps:=9^9)only[Tryz.f118,↓zA,sevalprocAttr,aen,aa c0,aa c1,aa c2,aa c3,aa c4,aa c5,aa c6,aa c7,aa c8,aa c9,c10,aaB,gG,aax,l1,l2,l3,l4,k1,k2,k3,k4,k5,bW,cB,cd,fp,ch,abz a b,bD,bJ]
 by_cases c11:a.wh=b.wh
 rotate_left
 .simp -implicitDefEqProofs(maxSteps:=9^9)only[Tryz.f118,↓zA,sevalprocAttr,aen,aa c0,aa c1,aa c2,aa c3,aa c4,aa c5,aa c6,aa c7,aa c8,aa c9,aa c10,c11,aaB,gG,aax,l1,l2,l3,l4,k1,k2,k3,k4,k5,bW,cB,cd,fp,ch,abz a b,bD,bJ]
 by_cases c12:a.q=b.q
 rotate_left
 .simp -implicitDefEqProofs(maxSteps:=9^9)only[Tryz.f118,↓zA,sevalprocAttr,aen,aa c0,aa c1,aa c2,aa c3,aa c4,aa c5,aa c6,aa c7,aa c8,aa c9,aa c10,aa c11,c12,aaB,gG,aax,l1,l2,l3,l4,k1,k2,k3,k4,k5,bW,cB,cd,fp,ch,abz a b,bD,bJ]
 simp -implicitDefEqProofs(maxSteps:=9^9)only[Tryz.f118,↓zA,sevalprocAttr,aen,aa c0,aa c1,aa c2,aa c3,aa c4,aa c5,aa c6,aa c7,aa c8,aa c9,aa c10,aa c11,aa c12,aaB,gG,aax,l1,l2,l3,l4,k1,k2,k3,k4,k5,bW,cB,cd,fp,ch,abz a b,db,bG]
def aEu (P:Program) (T:TT) (t:Nat) (u:Option TypeDesc) (n:Int):gY P T t u .andNot (.of (.lit (.int .i64 n))) (.of (.lit (.int .i64 1)))=out (aU (IntKind.i64.wrap ((BitVec.ofInt 64 n &&& ~~~BitVec.ofInt 64 1).toNat:Int))):=by simp[gY,gk,aaK,adj,dE,out];rfl
def axQ (n:Int) (h:ji n=true):IntKind.i64.wrap ((BitVec.ofInt 64 n &&& ~~~BitVec.ofInt 64 1).toNat:Int)=0↔(n=0∨n=1):=by
 simp only[ji,ar] at h
 have hx:∀ b:BitVec 64,(b &&& ~~~(1#64))=0#64↔(b=0#64∨b=1#64):=by
  intro b
  constructor
  .intro e
   have h1:∀ i:Nat,0<i→b.getLsbD i=false:=fun i hi=>by
    have:=congrArg (fun x:BitVec 64=>x.getLsbD i) e
    by_cases h64:i<64
    .have hi0:¬ i=0:=by omega
     simp only[BitVec.getLsbD_and,BitVec.getLsbD_not,BitVec.getLsbD_one,BitVec.getLsbD_zero,h64,hi0,bG,bE,cP,eh,dQ,aX] at this
     exact this
    .exact BitVec.getLsbD_of_ge b i (by omega)
   have z1:∀ i:Nat,(1#64).getLsbD i=decide (i=0):=fun i=>by simp[BitVec.getLsbD_one]
   rcases hb:b.getLsbD 0 with _|_
   .left
    apply BitVec.eq_of_getLsbD_eq
    intro i hi
    rw[BitVec.getLsbD_zero]
    rcases fM i with rfl|hp
    .exact hb
    .exact h1 i hp
   .right
    apply BitVec.eq_of_getLsbD_eq
    intro i hi
    rw[z1]
    rcases fM i with rfl|hp
    .rw[hb];rfl
    .rw[h1 i hp,bP (by omega)]
  .rintro (rfl|rfl) <;> decide
 have ho:∀ m:Int,0≤m→m<18446744073709551616→(IntKind.i64.wrap m=0↔m=0):=fun m h0 h1=>by
  rw[IntKind.wrap_i64]
  omega
 have hlt:=(BitVec.ofInt 64 n &&& ~~~BitVec.ofInt 64 1).isLt
 rw[ho _ (by omega) (by omega)]
 have e1:(((BitVec.ofInt 64 n &&& ~~~BitVec.ofInt 64 1).toNat:Int)=0)↔(BitVec.ofInt 64 n &&& ~~~(1#64))=0#64:=by
  rw[← BitVec.toNat_inj]
  have:BitVec.ofInt 64 1=1#64:=by decide
  rw[this]
  simp
 rw[e1,hx]
 have e2:∀ k:Int,-9223372036854775808≤k→k≤9223372036854775807→(BitVec.ofInt 64 n=BitVec.ofInt 64 k↔n=k):=fun k h1 h2=>by
  constructor
  .intro e
   have:=congrArg BitVec.toInt e
   simp only[BitVec.toInt_ofInt] at this
   simp only[Int.bmod_def] at this
   omega
  .rintro rfl;rfl
 have z0:(0#64)=BitVec.ofInt 64 0:=by decide
 have z1:(1#64)=BitVec.ofInt 64 1:=by decide
 rw[z0,z1,e2 0 (by omega) (by omega),e2 1 (by omega) (by omega)]
def aMM:=ai (ai @zq @zT0) (ai @ayN (ba aN9))
def aTz (n:Int):G1 225 [aU n] (aG (inB n)):=by
 refine ah rfl aN9 ayN rfl ?_
 by_cases h1:-1000000000000000≤n
 .simp -implicitDefEqProofs(maxSteps:=9^9)only[Tryz.f225,↓zA,sevalprocAttr,aMM,h1,inB]
 .simp -implicitDefEqProofs(maxSteps:=9^9)only[Tryz.f225,↓zA,sevalprocAttr,aMM,h1,inB]
def amB (n:Int) (K:An→Prop):bp Tryz.prog pr 225 [.of (ci n)] [] K↔K ⟨false,[aG (inB n)],[]⟩:=aN.k (aTz n) K
def ama (s:ByteArray) (K:An→Prop):bp Tryz.prog pr 223 [.of (aH s),.of (.fn 224 [])] [] K↔K ⟨false,[aU (Lib.idxFunc agY true s)],[]⟩ :=
 aN.k (aN.of_prim (show ixP [.of (aH s),.of (.fn 224 [])] []=_ by unfold ixP;simp only[aA])) K
def aei (v:V):(acC v).length=3:=rfl
def s0:(⟨#[]⟩ : ByteArray)=ByteArray.empty:=rfl
def aiV:=ai (ai (ai @zq (ai @a2Z @aVt)) (ai @aSv (ai @aVs @aSu))) (ai (ai @ad3 (ai @Q3 @Q9)) (ai @zT0 (ai @azC (ba aOY))))
def atG (v:V) (hv:I64 v.n):G1 167 [.of (.agg (acC v))] (aG (hU v)):=by
 refine ah rfl aOY azC rfl ?_
 by_cases k3:v.k=3
 .have e:hU v=(decide (v.n=0)&&afu v.s):=by simp[hU,k3]
  by_cases hn:v.n=0
  .by_cases hl:(v.s.size:Int)≤100
   .have e2:afu v.s=decide (Lib.idxFunc agY true v.s<0):=by
     unfold afu
     have:v.s.size≤100:=by omega
     rw[cy this,dQ]
     by_cases h:v.s.data.toList.all okB=true
     .rw[h,cy ((aAH v.s).2 h)]
     .rw[aa2.2 h,bP fun e=>h ((aAH v.s).1 e)]
    simp -implicitDefEqProofs(maxSteps:=9^9)only[Tryz.f167,↓zA,sevalprocAttr,aiV,amB,ama,Int.reduceEq,aei,k3,hn,hl,e,e2]
   .have e2:afu v.s=false:=by
     unfold afu
     have:¬ v.s.size≤100:=by omega
     rw[bP this,cP]
    simp -implicitDefEqProofs(maxSteps:=9^9)only[Tryz.f167,↓zA,sevalprocAttr,aiV,amB,ama,Int.reduceEq,aei,k3,hn,hl,e,e2]
  .simp -implicitDefEqProofs(maxSteps:=9^9)only[Tryz.f167,↓zA,sevalprocAttr,aiV,amB,ama,Int.reduceEq,aei,k3,hn,e]
 .by_cases hs:v.s=ByteArray.empty
  .by_cases k0:v.k=0
   .have e:hU v=decide (v.n=0):=by simp[hU,k0,hs]
    simp -implicitDefEqProofs(maxSteps:=9^9)only[Tryz.f167,↓zA,sevalprocAttr,aiV,amB,ama,Int.reduceEq,aei,k3,k0,s0,hs,e]
   .by_cases k1:v.k=1
    .have e:hU v=(decide (IntKind.i64.wrap ((BitVec.ofInt 64 v.n &&& ~~~BitVec.ofInt 64 1).toNat:Int)=0)):=by
      have h2:decide (IntKind.i64.wrap ((BitVec.ofInt 64 v.n &&& ~~~BitVec.ofInt 64 1).toNat:Int)=0)=decide (v.n=0∨v.n=1):=fO.2 (axQ v.n (cy hv))
      rw[h2]
      simp[hU,k1,hs]
     simp -implicitDefEqProofs(maxSteps:=9^9)only[Tryz.f167,↓zA,sevalprocAttr,aiV,amB,ama,Int.reduceEq,aei,k3,k0,k1,s0,hs,e,aEu]
    .by_cases k2:v.k=2
     .have e:hU v=inB v.n:=by simp[hU,k2,hs]
      simp -implicitDefEqProofs(maxSteps:=9^9)only[Tryz.f167,↓zA,sevalprocAttr,aiV,amB,ama,Int.reduceEq,aei,k3,k0,k1,k2,s0,hs,e]
     .have e:hU v=false:=by simp[hU,k0,k1,k2,k3]
      simp -implicitDefEqProofs(maxSteps:=9^9)only[Tryz.f167,↓zA,sevalprocAttr,aiV,amB,ama,Int.reduceEq,aei,k3,k0,k1,k2,s0,hs,e]
  .have e:hU v=false:=by simp[hU,k3,hs]
   simp -implicitDefEqProofs(maxSteps:=9^9)only[Tryz.f167,↓zA,sevalprocAttr,aiV,amB,ama,Int.reduceEq,aei,k3,s0,hs,e]
def jm (v:V) (K:An→Prop):bp Tryz.prog pr 167 [.of (.agg (acC v))] [] K↔ifP (I64 v.n) (K ⟨false,[aG (hU v)],[]⟩) (abU Tryz.prog pr 167 [.of (.agg (acC v))] K):=adC (atG v) K
def ahf (a b:Int):Instr.sameNow (.int .i64) (.int .i64 a) (.int .i64 b)=some (decide (a=b)):=by
 simp only[Instr.sameNow]
 by_cases h:a=b
 .subst h;simp
 .simp[h]
def aeb (s:S) (d:Option Nat) (x:X) (r:Nat) (es:List (Value×C)):aCg s d x r (some es)=some ((s.withO (s.objs.set r (Ob.map es))).put d x):=rfl
abbrev il (a b c:Int):C:=.agg (shC ⟨a,b,c⟩)
def aQL:List (Value×C):=[(.int .i64 1,il 0 0 0),(.int .i64 2,il 0 0 0),(.int .i64 3,il 1 1 0),(.int .i64 4,il 1 1 0),(.int .i64 19,il 1 1 0),(.int .i64 22,il 3 3 0),(.int .i64 21,il 2 65 0),(.int .i64 23,il 2 129 0),(.int .i64 24,il 0 64 0),(.int .i64 25,il 0 1 0),(.int .i64 26,il 0 0 1),(.int .i64 27,il 0 0 1),(.int .i64 28,il 1 1 1)]
def two:List Int:=[5,6,7,8,9,10,11,12,13,14,15,16,17,18,20]
def af6 (k:Nat):List (Value×C):=aQL++(two.take k).map fun n=>(.int .i64 n,il 2 2 0)
def aJq (tk:Tk) (a b c d e f g h i j k l m n o:Int):ef tk 15 (Pe.elemOf (TT.of Tryz.prog) 229) (some [(0,[aU a]),(1,[aU b]),(2,[aU c]),(3,[aU d]),(4,[aU e]),(5,[aU f]),(6,[aU g]),(7,[aU h]),(8,[aU i]),(9,[aU j]),(10,[aU k]),(11,[aU l]),(12,[aU m]),(13,[aU n]),(14,[aU o])])=out (.own tk 3 1 [ci a,ci b,ci c,ci d,ci e,ci f,ci g,ci h,ci i,ci j,ci k,ci l,ci m,ci n,ci o] 15):=by rw[aE6];kernel_rfl
def axq (tk:Tk) (e z:Nat) (l:List Int) (n:Nat) (hn:n=l.length) (i:Int):dL (TT.of Tryz.prog) 229 (.own tk e z (fl abi l) n) (.of (.lit (.int .i64 i)))=dL (TT.of Tryz.prog) 229 (.of (slC abi l)) (.of (.lit (.int .i64 i))):=by
 subst hn
 rw[abj aE6 _ _ i _ rfl,abj aE6 _ _ i _ rfl]
theorem a2d:∀ k (h:k<two.length),aeE (.int .i64) (.int .i64 two[k]) (.agg (shC ⟨2,2,0⟩)) (af6 k)=some (af6 (k+1))
 | 0,_=>rfl
 | 1,_=>rfl
 | 2,_=>rfl
 | 3,_=>rfl
 | 4,_=>rfl
 | 5,_=>rfl
 | 6,_=>rfl
 | 7,_=>rfl
 | 8,_=>rfl
 | 9,_=>rfl
 | 10,_=>rfl
 | 11,_=>rfl
 | 12,_=>rfl
 | 13,_=>rfl
 | 14,_=>rfl
 | k+15,h=>absurd h (by simp[two])
def ajG:two.length=15:=rfl
def asZ:=ai (ai (ai @zq @aox) (ai @aMV @aQb)) (ai (ai @Q3 @zT0) (ai @azD (ba aOZ)))
def gd:aN Tryz.prog pr 166 [] [] ⟨false,[.mp 0],[.map (af6 15)]⟩:=by
 refine ah rfl aOZ azD rfl ?_
 simp -implicitDefEqProofs(maxSteps:=9^9)only[Tryz.f166,↓zA,sevalprocAttr,asZ,acx (ht:=aox),aaL (ht:=aox),ab5,agt,aeb,aer,aeE,aa6,ahf,Int.reduceEq,ch,aJq]
 refine bX two.length (fun k s=>s.fr 1=.mp 0∧s.fr 19=.own (.nm 3 0 0) 3 1 (fl abi two) 15∧s.fr 20=aU 15∧s.fr 21=aU k∧s.objs=[.map (af6 k)]) ?_ ?_
 .simp -implicitDefEqProofs(maxSteps:=9^9)only[Tryz.f166,↓zA,sevalprocAttr,asZ]
  exact⟨rfl,rfl⟩
 .rintro k s hk ⟨f1,f19,f20,f21,ho⟩
  have e15:((k:Int)<15)=(k<two.length):=propext (by rw[ajG];omega)
  rcases ap k two.length with c1|c1
  .have hw:=cF k (by rw[ajG] at hk;omega)
   simp -implicitDefEqProofs(maxSteps:=9^9)only[Tryz.f166,↓zA,sevalprocAttr,asZ,f1,f19,f20,f21,ho,e15,c1,axq,ajG,bq c1,hw,acx (ht:=aox),aaL (ht:=aox),ab5,agt,aeb,aer,a2d k c1]
   have c2:k<15:=by rw[ajG] at c1;exact c1
   simp only[c2,aA]
  .have e:k=two.length:=by omega
   subst e
   simp -implicitDefEqProofs(maxSteps:=9^9)only[Tryz.f166,↓zA,sevalprocAttr,asZ,f1,f19,f20,f21,ho,ajG]
def shX (op:Int):X:=match fw op with
 | some (a,b,c)=>.tup [.of (.agg (shC ⟨a,b,c⟩)),aG true]
 | none=>.tup [.agg [aU 0,aU 0,aU 0],aG false]
def arS (n m:Int) (c:C) (es:List (Value×C)) (i:Nat):aa6 (.int .i64) (.int .i64 n) ((.int .i64 m,c)::es) i=if n=m then some (some i) else aa6 (.int .i64) (.int .i64 n) es (i+1):=by
 simp only[aa6,ahf]
 by_cases h:n=m <;> simp[h]
def avx (n:Int) (i:Nat):aa6 (.int .i64) (.int .i64 n) [] i=some none:=rfl
def axj (objs:List Ob) (op:Int) (ho:objs[0]?=some (.map (af6 15))):jk (TT.of Tryz.prog) objs 192 (.mp 0) (.of (.lit (.int .i64 op))) true=out (shX op):=by
 have hm:acN objs (.mp 0)=some (af6 15):=by simp only[acN,ho]
 simp only[jk,aox,gk,hm]
 have e:af6 15=[(.int .i64 1,il 0 0 0),(.int .i64 2,il 0 0 0),(.int .i64 3,il 1 1 0),(.int .i64 4,il 1 1 0),(.int .i64 19,il 1 1 0),(.int .i64 22,il 3 3 0),(.int .i64 21,il 2 65 0),(.int .i64 23,il 2 129 0),(.int .i64 24,il 0 64 0),(.int .i64 25,il 0 1 0),(.int .i64 26,il 0 0 1),(.int .i64 27,il 0 0 1),(.int .i64 28,il 1 1 1),
  (.int .i64 5,il 2 2 0),(.int .i64 6,il 2 2 0),(.int .i64 7,il 2 2 0),(.int .i64 8,il 2 2 0),(.int .i64 9,il 2 2 0),(.int .i64 10,il 2 2 0),(.int .i64 11,il 2 2 0),(.int .i64 12,il 2 2 0),(.int .i64 13,il 2 2 0),(.int .i64 14,il 2 2 0),(.int .i64 15,il 2 2 0),(.int .i64 16,il 2 2 0),(.int .i64 17,il 2 2 0),(.int .i64 18,il 2 2 0),(.int .i64 20,il 2 2 0)]:=rfl
 have hz:ahY (TT.of Tryz.prog) 190=some (.agg [aU 0,aU 0,aU 0]):=by kernel_rfl
 by_cases h:op=1∨op=2∨op=3∨op=4∨op=5∨op=6∨op=7∨op=8∨op=9∨op=10∨op=11∨op=12∨op=13∨op=14∨op=15∨op=16∨op=17∨op=18∨op=19∨op=20∨op=21∨op=22∨op=23∨op=24∨op=25∨op=26∨op=27∨op=28
 .rcases h with h|h|h|h|h|h|h|h|h|h|h|h|h|h|h|h|h|h|h|h|h|h|h|h|h|h|h|h <;> (subst h;rfl)
 .simp only[acn] at h
  rw[e]
  simp only[arS,h,aQ,avx,hz]
  have hs:fw op=none:=by
   unfold fw
   simp only[h,bm,fd,fz,aQ]
   rw[aj (by omega)]
  simp only[shX,hs]
  rfl
def aqv:List (Value×C):=[(.int .i64 5,aH (aD [43])),(.int .i64 6,aH (aD [45])),(.int .i64 7,aH (aD [42])),(.int .i64 8,aH (aD [47])),(.int .i64 9,aH (aD [37])),(.int .i64 10,aH (aD [124,124])),(.int .i64 11,aH (aD [61])),(.int .i64 12,aH (aD [60,62])),(.int .i64 13,aH (aD [60])),(.int .i64 14,aH (aD [60,61])),(.int .i64 15,aH (aD [62])),(.int .i64 16,aH (aD [62,61])),(.int .i64 17,aH (aD [97,110,100])),(.int .i64 18,aH (aD [111,114]))]
def a42:=ai (ai @zq @M89) (ai @zT0 (ai @aHx (ba aXT)))
def aCu:aN Tryz.prog pr 86 [] [] ⟨false,[.mp 0],[.map aqv]⟩:=by
 refine ah rfl aXT aHx rfl ?_
 simp -implicitDefEqProofs(maxSteps:=9^9)only[Tryz.f86,↓zA,sevalprocAttr,a42,acx (ht:=M89),aaL (ht:=M89),ab5,agt,aeb,aer,aeE,aa6,ahf,Int.reduceEq,ch,zW]
 try rfl
def ax9 (K:An→Prop):bp Tryz.prog pr 86 [] [] K↔K ⟨false,[.mp 0],[.map aqv]⟩:=aN.k aCu K
def au1 (objs:List Ob) (r:Nat) (op:Int) (ho:objs[r]?=some (.map aqv)) (h:5≤op∧op≤18):jk (TT.of Tryz.prog) objs 89 (.mp r) (.of (.lit (.int .i64 op))) false=out (.of (aH (aD (aeG op)))):=by
 have hm:acN objs (.mp r)=some aqv:=by simp only[acN,ho]
 simp only[jk,M89,gk,hm]
 obtain⟨h1,h2⟩:=h
 have:op=5∨op=6∨op=7∨op=8∨op=9∨op=10∨op=11∨op=12∨op=13∨op=14∨op=15∨op=16∨op=17∨op=18:=by omega
 rcases this with h|h|h|h|h|h|h|h|h|h|h|h|h|h <;> (subst h;rfl)
def apa {e:Xp} (h:cW e=true):∃ lo hi n,fw e.op=some (lo,hi,n)∧fJ e.op e.v e.tb e.nm e.di e.ks.length=true∧lo≤e.ks.length∧e.ks.length≤hi∧e.sb.length=n:=by
 cases e with
 | mk op v tb nm di ks sb =>
  rw[cW] at h
  simp only[Xp.op,Xp.v,Xp.tb,Xp.nm,Xp.di,Xp.ks,Xp.sb]
  cases hs:fw op with
  | none=>rw[hs] at h;cases h
  | some p =>
   obtain⟨lo,hi,n⟩:=p
   rw[hs] at h
   simp only[ab,dD,ar] at h
   exact⟨lo,hi,n,rfl,h.1.1.1.1,h.1.1.1.2.1,h.1.1.1.2.2,h.1.1.2⟩
def ks1 {α:Type} {l:List α} (h:l.length=1):∃ a,l=[a]:=List.length_eq_one_iff.1 h
def ks2 {α:Type} {l:List α} (h:l.length=2):∃ a b,l=[a,b]:=by
 match l,h with
 | [a,b],_=>exact⟨a,b,rfl⟩
def ks3 {α:Type} {l:List α} (h:l.length=3):∃ a b c,l=[a,b,c]:=by
 match l,h with
 | [a,b,c],_=>exact⟨a,b,c,rfl⟩
def aDJ {s:List UInt8} (h:aa3 s=true):bk s=true:=by
 simp only[aa3,cA,ar] at h
 rcases h with ((rfl|rfl)|rfl)|rfl <;> decide
def arK (op:Int):1≤fG op∧fG op≤9:=by
 unfold fG
 repeat' split
 all_goals omega
def aey:=ai (ai (ai (ai (ai @zq @a60) (ai @aNi @aI8)) (ai (ai @aNh @aI7) (ai @ac4 (ai @ab1 @aez)))) (ai (ai (ai @afI @ad9) (ai @ahP (ai @aNg @aI6))) (ai (ai @aT5 @ati) (ai @apX (ai @aCi @a2r))))) (ai (ai (ai (ai @aZu @a5m) (ai @a2q (ai @aZt @a5l))) (ai (ai @a2p @aZs) (ai @a5k (ai @a2o @aZr)))) (ai (ai (ai @M89 @ad3) (ai @cR (ai @bO @ey))) (ai (ai @Q3 @Q9) (ai @zT0 (ai @aIg (ba aYC))))))
def aY6 (e:Xp) (ok:cW e=true) (hn:ji e.v.n=true) (hvs:e.v.s.size≤1048576) (hkl:e.ks.length≤4611686018427387903) (hk:∀ x∈e.ks,WX x) (hs:∀ q∈e.sb,WQ q):WX e:=by
 intro o h
 obtain⟨lo,hi,m,hsh,how,hlo,hhi,hm⟩:=apa ok
 rw[aFg] at h ⊢
 have lv9:=arK e.op
 have hwl:IntKind.i64.wrap (fG e.op+1)=fG e.op+1:=eX _ (by omega) (by omega)
 refine ah rfl aYC aIg rfl ?_
 by_cases h1:e.op=1
 .have hop:=aa h1
  have kt:=fun K=>aN.k (anE e.v hn hvs) K
  have hT:opT e.op e.v e.tb e.nm e.di (e.ks.map xpP) (e.sb.map qyP)=[ahc e.v]:=by
   rw[h1]
   rfl
  rw[hT] at h ⊢
  try simp only[aR] at h
  have q1:bi o+1≤LIM:=by omega
  simp -implicitDefEqProofs(maxSteps:=9^9)only[Tryz.f28,↓zA,sevalprocAttr,aey,zW,cO,co,ip,hop,kt,dI,gc,bg,q1,aR,am,ch,bd]
  try rfl
 by_cases h2:e.op=2
 .have hop:=aa h2
  simp only[fJ,h2,Int.reduceEq,aQ,aA,ab,cm] at how
  have hnm:bk e.nm=true:=how.1.1.2
  have hmb:gg e.tb=true:=how.1.2
  have e46:=aL [46]
  by_cases htb:e.tb=[]
  .have hT:opT e.op e.v e.tb e.nm e.di (e.ks.map xpP) (e.sb.map qyP)=[bF e.nm]:=by
    rw[h2]
    simp[opT,amm,aF,htb,ab0]
   rw[hT] at h ⊢
   simp only[aR] at h
   have q1:bi o+1≤LIM:=by omega
   simp -implicitDefEqProofs(maxSteps:=9^9)only[Tryz.f28,↓zA,sevalprocAttr,aey,zW,cO,co,ip,hop,h1,dI,htb,aaF _ hnm,bW,q1,aR,am,ch,bd]
   try rfl
  .have htn:bk e.tb=true:=by simpa [gg,htb] using hmb
   have hT:opT e.op e.v e.tb e.nm e.di (e.ks.map xpP) (e.sb.map qyP)=bF e.tb::([46]::([bF e.nm])):=by
    rw[h2]
    simp[opT,amm,aF,htb,ab0]
   rw[hT] at h ⊢
   simp only[aR] at h
   have q1:bi o+1≤LIM:=by omega
   have q2:bi o+1+1≤LIM:=by omega
   have q3:bi o+(1+1)+1≤LIM:=by omega
   simp -implicitDefEqProofs(maxSteps:=9^9)only[Tryz.f28,↓zA,sevalprocAttr,aey,zW,cO,co,ip,hop,h1,dI,htb,aaF _ hnm,aaF _ htn,e46,bW,q1,q2,q3,aR,am,ch,bd]
   try rfl
 by_cases h3:e.op=3
 .have hop:=aa h3
  rw[h3,show fw 3=some (1,1,0) from rfl,ae,bf,bf] at hsh
  obtain⟨rfl,rfl,rfl⟩:=hsh
  obtain⟨x0,hks⟩:=ks1 (l:=e.ks) (by omega)
  have g0:dH e.ks 0=some x0:=by rw[hks];rfl
  have w0:=hk x0 (by rw[hks];simp)
  have k0:=fun n o K=>(acB x0 n w0).k o K
  have e_2d:=aL [45]
  have lv:fG e.op=8:=by rw[h3];rfl
  have hT:opT e.op e.v e.tb e.nm e.di (e.ks.map xpP) (e.sb.map qyP)=[45]::(dY 8 x0):=by
   rw[h3]
   simp only[opT,Int.reduceEq,aQ,aA];rw[hks];rfl
  rw[hT] at h ⊢
  try simp only[aR] at h
  have q1:bi o+1≤LIM:=by omega
  have q2:bi o+1+(dY 8 x0).length≤LIM:=by omega
  simp -implicitDefEqProofs(maxSteps:=9^9)only[Tryz.f28,↓zA,sevalprocAttr,aey,zW,cO,co,ip,hop,h1,h2,g0,k0,lv,e_2d,dI,gc,bg,q1,q2,aR,am,ch,bd]
  try rfl
 by_cases h4:e.op=4
 .have hop:=aa h4
  rw[h4,show fw 4=some (1,1,0) from rfl,ae,bf,bf] at hsh
  obtain⟨rfl,rfl,rfl⟩:=hsh
  obtain⟨x0,hks⟩:=ks1 (l:=e.ks) (by omega)
  have g0:dH e.ks 0=some x0:=by rw[hks];rfl
  have w0:=hk x0 (by rw[hks];simp)
  have k0:=fun n o K=>(acB x0 n w0).k o K
  have abL:=aL [110,111,116]
  have lv:fG e.op=3:=by rw[h4];rfl
  have hT:opT e.op e.v e.tb e.nm e.di (e.ks.map xpP) (e.sb.map qyP)=[110,111,116]::(dY 3 x0):=by
   rw[h4]
   simp only[opT,Int.reduceEq,aQ,aA];rw[hks];rfl
  rw[hT] at h ⊢
  try simp only[aR] at h
  have q1:bi o+1≤LIM:=by omega
  have q2:bi o+1+(dY 3 x0).length≤LIM:=by omega
  simp -implicitDefEqProofs(maxSteps:=9^9)only[Tryz.f28,↓zA,sevalprocAttr,aey,zW,cO,co,ip,hop,h1,h2,h3,g0,k0,lv,abL,dI,gc,bg,q1,q2,aR,am,ch,bd]
  try rfl
 by_cases h19:e.op=19
 .have hop:=aa h19
  rw[h19,show fw 19=some (1,1,0) from rfl,ae,bf,bf] at hsh
  obtain⟨rfl,rfl,rfl⟩:=hsh
  obtain⟨x0,hks⟩:=ks1 (l:=e.ks) (by omega)
  have g0:dH e.ks 0=some x0:=by rw[hks];rfl
  have w0:=hk x0 (by rw[hks];simp)
  have k0:=fun n o K=>(acB x0 n w0).k o K
  have avF:=aL [105,115]
  have aak:=aL [110,117,108,108]
  have hT:opT e.op e.v e.tb e.nm e.di (e.ks.map xpP) (e.sb.map qyP)=dY 5 x0++([105,115]::([[110,117,108,108]])):=by
   rw[h19]
   simp only[opT,Int.reduceEq,aQ,aA];rw[hks];rfl
  rw[hT] at h ⊢
  try simp only[aR] at h
  have q1:bi o+(dY 5 x0).length≤LIM:=by omega
  have q2:bi o+(dY 5 x0).length+2≤LIM:=by omega
  simp -implicitDefEqProofs(maxSteps:=9^9)only[Tryz.f28,↓zA,sevalprocAttr,aey,zW,cO,co,ip,hop,h1,h2,h3,h4,g0,k0,avF,aak,dI,gc,bg,q1,q2,aR,am,ch,bd]
  try rfl
 by_cases h20:e.op=20
 .have hop:=aa h20
  rw[h20,show fw 20=some (2,2,0) from rfl,ae,bf,bf] at hsh
  obtain⟨rfl,rfl,rfl⟩:=hsh
  obtain⟨x0,x1,hks⟩:=ks2 (l:=e.ks) (by omega)
  have g0:dH e.ks 0=some x0:=by rw[hks];rfl
  have w0:=hk x0 (by rw[hks];simp)
  have k0:=fun n o K=>(acB x0 n w0).k o K
  have g1:dH e.ks 1=some x1:=by rw[hks];rfl
  have w1:=hk x1 (by rw[hks];simp)
  have k1:=fun n o K=>(acB x1 n w1).k o K
  have alg:=aL [108,105,107,101]
  have hT:opT e.op e.v e.tb e.nm e.di (e.ks.map xpP) (e.sb.map qyP)=dY 5 x0++([108,105,107,101]::(dY 5 x1)):=by
   rw[h20]
   simp only[opT,Int.reduceEq,aQ,aA];rw[hks];rfl
  rw[hT] at h ⊢
  try simp only[aR] at h
  have q1:bi o+(dY 5 x0).length≤LIM:=by omega
  have q2:bi o+(dY 5 x0).length+1≤LIM:=by omega
  have q3:bi o+((dY 5 x0).length+1)+(dY 5 x1).length≤LIM:=by omega
  simp -implicitDefEqProofs(maxSteps:=9^9)only[Tryz.f28,↓zA,sevalprocAttr,aey,zW,cO,co,ip,hop,h1,h2,h3,h4,h19,g0,k0,g1,k1,alg,dI,gc,bg,q1,q2,q3,aR,am,ch,bd]
  try rfl
 by_cases h22:e.op=22
 .have hop:=aa h22
  rw[h22,show fw 22=some (3,3,0) from rfl,ae,bf,bf] at hsh
  obtain⟨rfl,rfl,rfl⟩:=hsh
  obtain⟨x0,x1,x2,hks⟩:=ks3 (l:=e.ks) (by omega)
  have g0:dH e.ks 0=some x0:=by rw[hks];rfl
  have w0:=hk x0 (by rw[hks];simp)
  have k0:=fun n o K=>(acB x0 n w0).k o K
  have g1:dH e.ks 1=some x1:=by rw[hks];rfl
  have w1:=hk x1 (by rw[hks];simp)
  have k1:=fun n o K=>(acB x1 n w1).k o K
  have g2:dH e.ks 2=some x2:=by rw[hks];rfl
  have w2:=hk x2 (by rw[hks];simp)
  have k2:=fun n o K=>(acB x2 n w2).k o K
  have af2:=aL [98,101,116,119,101,101,110]
  have aoq:=aL [97,110,100]
  have hT:opT e.op e.v e.tb e.nm e.di (e.ks.map xpP) (e.sb.map qyP)=dY 5 x0++([98,101,116,119,101,101,110]::(dY 5 x1++([97,110,100]::(dY 5 x2)))):=by
   rw[h22]
   simp only[opT,Int.reduceEq,aQ,aA];rw[hks];rfl
  rw[hT] at h ⊢
  try simp only[aR] at h
  have q1:bi o+(dY 5 x0).length≤LIM:=by omega
  have q2:bi o+(dY 5 x0).length+1≤LIM:=by omega
  have q3:bi o+((dY 5 x0).length+1)+(dY 5 x1).length≤LIM:=by omega
  have q4:bi o+((dY 5 x0).length+((dY 5 x1).length+1))+1≤LIM:=by omega
  have q5:bi o+((dY 5 x0).length+(((dY 5 x1).length+1)+1))+(dY 5 x2).length≤LIM:=by omega
  simp -implicitDefEqProofs(maxSteps:=9^9)only[Tryz.f28,↓zA,sevalprocAttr,aey,zW,cO,co,ip,hop,h1,h2,h3,h4,h19,h20,g0,k0,g1,k1,g2,k2,af2,aoq,dI,gc,bg,q1,q2,q3,q4,q5,aR,am,ch,bd]
  try rfl
 by_cases h21:e.op=21
 .have hop:=aa h21
  rw[h21,show fw 21=some (2,65,0) from rfl,ae,bf,bf] at hsh
  obtain⟨rfl,rfl,rfl⟩:=hsh
  obtain⟨x0,r,hks⟩ : ∃ x0 r,e.ks=x0::r:=by cases hq:e.ks with
   | nil=>rw[hq] at hlo;simp at hlo
   | cons a r=>exact⟨a,r,rfl⟩
  have g0:dH e.ks 0=some x0:=by rw[hks];rfl
  have w0:=hk x0 (by rw[hks];simp)
  have k0:=fun n o K=>(acB x0 n w0).k o K
  have hs1:=aFx (L:=e.ks) (by omega)
  have hr:e.ks.drop 1=r:=by rw[hks];rfl
  rw[hr] at hs1
  have hrl:r.length≤4611686018427387903:=by rw[hks] at hkl;simp only[aB] at hkl;omega
  have kl:=fun o K=>(ai9 r hrl (fun x hx=>hk x (by rw[hks];exact iC _ hx))).k o K
  have aj2:=aL [105,110]
  have hT:opT e.op e.v e.tb e.nm e.di (e.ks.map xpP) (e.sb.map qyP)=dY 5 x0++([105,110]::(gK r)):=by
   rw[h21]
   simp only[opT,Int.reduceEq,aQ,aA];rw[hks];simp only[aV,aaq,ac6,aja];rfl
  rw[hT] at h ⊢
  try simp only[aR] at h
  have q1:bi o+(dY 5 x0).length≤LIM:=by omega
  have q2:bi o+(dY 5 x0).length+1≤LIM:=by omega
  have q3:bi o+((dY 5 x0).length+1)+(gK r).length≤LIM:=by omega
  simp -implicitDefEqProofs(maxSteps:=9^9)only[Tryz.f28,↓zA,sevalprocAttr,aey,zW,cO,co,ip,hop,h1,h2,h3,h4,h19,h20,h22,g0,k0,hs1,kl,aj2,dI,gc,bg,q1,q2,q3,aR,am,ch,bd]
  try rfl
 by_cases h28:e.op=28
 .have hop:=aa h28
  rw[h28,show fw 28=some (1,1,1) from rfl,ae,bf,bf] at hsh
  obtain⟨rfl,rfl,rfl⟩:=hsh
  obtain⟨q,hsb⟩:=ks1 hm
  have kq:=fun o K=>(aln e q hsb (hs q (by rw[hsb];simp))).k o K
  obtain⟨x0,hks⟩:=ks1 (l:=e.ks) (by omega)
  have g0:dH e.ks 0=some x0:=by rw[hks];rfl
  have w0:=hk x0 (by rw[hks];simp)
  have k0:=fun n o K=>(acB x0 n w0).k o K
  have aj2:=aL [105,110]
  have hT:opT e.op e.v e.tb e.nm e.di (e.ks.map xpP) (e.sb.map qyP)=dY 5 x0++([105,110]::(bI true (qyT q))):=by
   rw[h28]
   simp only[opT,Int.reduceEq,aQ,aA];rw[hks,hsb];rfl
  rw[hT] at h ⊢
  try simp only[aR] at h
  have q1:bi o+(dY 5 x0).length≤LIM:=by omega
  have q2:bi o+(dY 5 x0).length+1≤LIM:=by omega
  have q3:bi o+((dY 5 x0).length+1)+(bI true (qyT q)).length≤LIM:=by omega
  simp -implicitDefEqProofs(maxSteps:=9^9)only[Tryz.f28,↓zA,sevalprocAttr,aey,zW,cO,co,ip,hop,h1,h2,h3,h4,h19,h20,h22,h21,g0,k0,kq,aj2,dI,gc,bg,q1,q2,q3,aR,am,ch,bd]
  try rfl
 by_cases h26:e.op=26
 .have hop:=aa h26
  rw[h26,show fw 26=some (0,0,1) from rfl,ae,bf,bf] at hsh
  obtain⟨rfl,rfl,rfl⟩:=hsh
  obtain⟨q,hsb⟩:=ks1 hm
  have kq:=fun o K=>(aln e q hsb (hs q (by rw[hsb];simp))).k o K
  have hT:opT e.op e.v e.tb e.nm e.di (e.ks.map xpP) (e.sb.map qyP)=bI true (qyT q):=by
   rw[h26]
   simp only[opT,Int.reduceEq,aQ,aA];rw[hsb];rfl
  rw[hT] at h ⊢
  try simp only[aR] at h
  have q1:bi o+(bI true (qyT q)).length≤LIM:=by omega
  simp -implicitDefEqProofs(maxSteps:=9^9)only[Tryz.f28,↓zA,sevalprocAttr,aey,zW,cO,co,ip,hop,h1,h2,h3,h4,h19,h20,h22,h21,h28,kq,dI,gc,bg,q1,aR,am,ch,bd]
  try rfl
 by_cases h27:e.op=27
 .have hop:=aa h27
  rw[h27,show fw 27=some (0,0,1) from rfl,ae,bf,bf] at hsh
  obtain⟨rfl,rfl,rfl⟩:=hsh
  obtain⟨q,hsb⟩:=ks1 hm
  have kq:=fun o K=>(aln e q hsb (hs q (by rw[hsb];simp))).k o K
  have ag6:=aL [101,120,105,115,116,115]
  have hT:opT e.op e.v e.tb e.nm e.di (e.ks.map xpP) (e.sb.map qyP)=[101,120,105,115,116,115]::(bI true (qyT q)):=by
   rw[h27]
   simp only[opT,Int.reduceEq,aQ,aA];rw[hsb];rfl
  rw[hT] at h ⊢
  try simp only[aR] at h
  have q1:bi o+1≤LIM:=by omega
  have q2:bi o+1+(bI true (qyT q)).length≤LIM:=by omega
  simp -implicitDefEqProofs(maxSteps:=9^9)only[Tryz.f28,↓zA,sevalprocAttr,aey,zW,cO,co,ip,hop,h1,h2,h3,h4,h19,h20,h22,h21,h28,h26,kq,ag6,dI,gc,bg,q1,q2,aR,am,ch,bd]
  try rfl
 by_cases h23:e.op=23
 .have hop:=aa h23
  have kc:=fun o K=>(aEj e.ks hkl hk).k o K
  have eC:opT e.op e.v e.tb e.nm e.di (e.ks.map xpP) (e.sb.map qyP)=([99,97,115,101]::(aam (e.ks.map xpP)++[[101,110,100]])):=by rw[h23];rfl
  generalize hcs:([99,97,115,101]::(aam (e.ks.map xpP)++[[101,110,100]]))=CS at *
  rw[eC] at h ⊢
  simp -implicitDefEqProofs(maxSteps:=9^9)only[Tryz.f28,↓zA,sevalprocAttr,aey,zW,cO,co,ip,hop,h1,h2,h3,h4,h19,h20,h22,h21,h28,h26,h27,kc,h]
  try rfl
 by_cases h24:e.op=24
 .have hop:=aa h24
  simp only[fJ,h24,Int.reduceEq,aQ,aA,ab,cm] at how
  have hnm:bk e.nm=true:=how.1.1.2
  have kl:=fun o K=>(ai9 e.ks hkl hk).k o K
  have hT:opT e.op e.v e.tb e.nm e.di (e.ks.map xpP) (e.sb.map qyP)=bF e.nm::(gK e.ks):=by
   rw[h24]
   simp only[opT,Int.reduceEq,aQ,aA,aja]
  rw[hT] at h ⊢
  try simp only[aR] at h
  have q1:bi o+1≤LIM:=by omega
  have q2:bi o+1+(gK e.ks).length≤LIM:=by omega
  simp -implicitDefEqProofs(maxSteps:=9^9)only[Tryz.f28,↓zA,sevalprocAttr,aey,zW,cO,co,ip,hop,h1,h2,h3,h4,h19,h20,h22,h21,h28,h26,h27,h23,aaF _ hnm,kl,dI,gc,bg,q1,q2,aR,am,ch,bd]
  try rfl
 by_cases h25:e.op=25
 .have hop:=aa h25
  simp only[fJ,h25,Int.reduceEq,aQ,aA,ab,cm] at how
  have hnm:bk e.nm=true:=aDJ how.1.2
  have ka:=fun o K=>(aMf e hnm hkl hk).k o K
  have eC:opT e.op e.v e.tb e.nm e.di (e.ks.map xpP) (e.sb.map qyP)=(bF e.nm::bI true (aF e.di [[100,105,115,116,105,110,99,116]]++(aF (decide (e.ks.length=0)) [aaM]++bc true (e.ks.map bv)))):=by rw[h25];simp only[opT,Int.reduceEq,aQ,aA,gP,amZ]
  generalize hcs:(bF e.nm::bI true (aF e.di [[100,105,115,116,105,110,99,116]]++(aF (decide (e.ks.length=0)) [aaM]++bc true (e.ks.map bv))))=CS at *
  rw[eC] at h ⊢
  simp -implicitDefEqProofs(maxSteps:=9^9)only[Tryz.f28,↓zA,sevalprocAttr,aey,zW,cO,co,ip,hop,h1,h2,h3,h4,h19,h20,h22,h21,h28,h26,h27,h23,h24,ka,h]
  try rfl
 have hr:(5≤e.op∧e.op≤18)∧e.ks.length=2:=by
  have e1:fw e.op=if 5≤e.op∧e.op≤20 then some (2,2,0) else none:=by simp only[fw,h1,h2,h3,h4,h19,h20,h22,h21,h28,h26,h27,h23,h24,h25,bm,aQ,fd,fz]
  rw[e1] at hsh
  split at hsh
  .simp only[dX] at hsh
   omega
  .cases hsh
 obtain⟨hr1,hr2⟩:=hr
 obtain⟨x0,x1,hks⟩:=ks2 hr2
 have g0:dH e.ks 0=some x0:=by rw[hks];rfl
 have g1:dH e.ks 1=some x1:=by rw[hks];rfl
 have w0:=hk x0 (by rw[hks];simp)
 have w1:=hk x1 (by rw[hks];simp)
 have k0:=fun n o K=>(acB x0 n w0).k o K
 have k1:=fun n o K=>(acB x1 n w1).k o K
 have hlk:=fun (A:List Ob)=>au1 (A++[.map aqv]) A.length e.op (by simp) hr1
 have hlk1:=fun (a:Ob)=>au1 [a,.map aqv] 1 e.op rfl hr1
 by_cases h4l:fG e.op=4
 .have hT:opT e.op e.v e.tb e.nm e.di (e.ks.map xpP) (e.sb.map qyP)=dY 5 x0++(aeG e.op::(dY 5 x1)):=by
   simp only[opT,h1,h2,h3,h4,h19,h20,h22,h21,h28,h26,h27,h23,h24,h25,aQ,h4l,aA];rw[hks];rfl
  rw[hT] at h ⊢
  simp only[aR] at h
  have q1:bi o+(dY 5 x0).length≤LIM:=by omega
  have q2:bi o+(dY 5 x0).length+1≤LIM:=by omega
  have q3:bi o+((dY 5 x0).length+1)+(dY 5 x1).length≤LIM:=by omega
  simp -implicitDefEqProofs(maxSteps:=9^9)only[Tryz.f28,↓zA,sevalprocAttr,aey,zW,cO,co,ip,ax9,h1,h2,h3,h4,h19,h20,h22,h21,h28,h26,h27,h23,h24,h25,aa h4l,g0,g1,k0,k1,hlk,hlk1,hwl,dI,q1,q2,q3,aR,am,ch,bd]
  try rfl
 .have hT:opT e.op e.v e.tb e.nm e.di (e.ks.map xpP) (e.sb.map qyP)=dY (fG e.op) x0++(aeG e.op::(dY (fG e.op+1) x1)):=by
   simp only[opT,h1,h2,h3,h4,h19,h20,h22,h21,h28,h26,h27,h23,h24,h25,aQ,h4l,aA];rw[hks];rfl
  rw[hT] at h ⊢
  simp only[aR] at h
  have q1:bi o+(dY (fG e.op) x0).length≤LIM:=by omega
  have q2:bi o+(dY (fG e.op) x0).length+1≤LIM:=by omega
  have q3:bi o+((dY (fG e.op) x0).length+1)+(dY (fG e.op+1) x1).length≤LIM:=by omega
  simp -implicitDefEqProofs(maxSteps:=9^9)only[Tryz.f28,↓zA,sevalprocAttr,aey,zW,cO,co,ip,ax9,h1,h2,h3,h4,h19,h20,h22,h21,h28,h26,h27,h23,h24,h25,h4l,g0,g1,k0,k1,hlk,hlk1,hwl,dI,q1,q2,q3,aR,am,ch,bd]
  try rfl
def apD (k:Nat) (h:k<10):Lib.itoa (k:Int)=[UInt8.ofNat (48+k)]:=by
 unfold Lib.itoa
 rw[aj (by omega),dm,Lib.decDigits_one h]
def arM (n:Nat) (h:10≤n):Lib.itoa (n:Int)=Lib.itoa ((n / 10:Nat):Int)++[UInt8.ofNat (48+n % 10)]:=by
 have hd:Lib.decDigits n=Lib.decDigits (n / 10)++[UInt8.ofNat (48+n % 10)]:=by rw[Lib.decDigits,ajs (by omega)]
 unfold Lib.itoa
 rw[aj (by omega),aj (by omega),dm,dm,hd]
def aD6:ByteArray:=⟨#[48,49,50,51,52,53,54,55,56,57]⟩
def aAQ:(⟨#[48,49,50,51,52,53,54,55,56,57]⟩ : ByteArray)=aD6:=rfl
def aRZ:∀ k:Fin 10,aD6.extract k.val (k.val+1)=aD [UInt8.ofNat (48+k.val)]:=by decide +kernel
def arW (k:Nat) (h:k<10):aao (TT.of Tryz.prog) 9 (.of (.lit (.string aD6))) (some (aU k)) (some (aU ((k:Int)+1)))=out (dy (aD [UInt8.ofNat (48+k)])):=by
 have hs:aD6.size=10:=rfl
 have e2:(((k:Int)+1).toNat)=k+1:=by omega
 simp only[aao,T9,bH,ac8,aA,acW,ace,hs]
 rw[aE ⟨by omega,by omega,by omega⟩,dm,e2,aRZ ⟨k,h⟩]
def ar2 (P:Program) (T:TT) (t:Nat) (u:Option TypeDesc) (n:Int):gY P T t u .rem (.of (.lit (.int .i64 n))) (.of (.lit (.int .i64 10)))=out (aU (n.tmod 10)):=by simp[gY,gk,aaK,adj,dE,out]
def ar3 (P:Program) (T:TT) (t:Nat) (u:Option TypeDesc) (n:Int):gY P T t u .quo (.of (.lit (.int .i64 n))) (.of (.lit (.int .i64 10)))=out (aU (IntKind.i64.wrap (n.tdiv 10))):=by simp[gY,gk,aaK,adj,dE,out]
def aKe (k:Nat):(k:Int).tdiv 10=((k / 10:Nat):Int):=rfl
def aJ0 (k:Nat):(k:Int).tmod 10=((k % 10:Nat):Int):=rfl
def aTA:=ai (ai @zq (ai @aCU @avV)) (ai @zT0 (ai @au8 (ba aLG)))
def al0 (n:Nat) (h:n<10):G1 76 [aU n] (dy (aD (Lib.itoa n))):=by
 have h0:(0:Int)≤(n:Int):=by omega
 have h1:(n:Int)<10:=by omega
 have hw:IntKind.i64.wrap ((n:Int)+1)=(n:Int)+1:=eX _ (by omega) (by omega)
 refine ah rfl aLG au8 rfl ?_
 simp -implicitDefEqProofs(maxSteps:=9^9)only[Tryz.f76,↓zA,sevalprocAttr,aTA,U3,U9,aAQ,ar2,ar3,aK,afM,h0,h1,hw,arW n h,apD n h]
def aw4:∀ (m n:Nat),n≤m→n≤9223372036854775807→G1 76 [aU n] (dy (aD (Lib.itoa n))):=by
 intro m
 induction m with
 | zero =>
  intro n hn _
  exact al0 n (by omega)
 | succ m ih =>
  intro n hn hs
  by_cases h:n<10
  .exact al0 n h
  .refine ah rfl aLG au8 rfl ?_
   have h0:(0:Int)≤(n:Int):=by omega
   have h1:¬(n:Int)<10:=by omega
   have h2:¬(n:Int)<0:=by omega
   have hk:=fun K=>aN.k (ih (n / 10) (by omega) (by omega)) K
   have hw0:IntKind.i64.wrap ((n / 10:Nat):Int)=((n / 10:Nat):Int):=eX _ (by omega) (by omega)
   have hw:IntKind.i64.wrap (((n % 10:Nat):Int)+1)=((n % 10:Nat):Int)+1:=eX _ (by omega) (by omega)
   have h3:¬((n % 10:Nat):Int)<0:=by omega
   have hd:=arW (n % 10) (by omega)
   have hl:(Lib.itoa ((n / 10:Nat):Int)).length+1≤gN:=by
    have:=aiH ((n / 10:Nat):Int) (by omega) (by omega)
    unfold gN
    omega
   rw[arM n (by omega)]
   simp -implicitDefEqProofs(maxSteps:=9^9)only[Tryz.f76,↓zA,sevalprocAttr,aTA,U3,U9,aAQ,ar2,ar3,aK,afM,h0,h1,h2,aKe,aJ0,hw0,hw,h3,hk,hd,hl,dN,aA]
def aeC (n:Nat) (h:n≤9223372036854775807) (K:An→Prop):bp Tryz.prog pr 76 [.of (ci (n:Int))] [] K↔K ⟨false,[dy (aD (Lib.itoa n))],[]⟩:=aN.k (aw4 n n (aM _) h) K
def aUe (s:ByteArray) (k:Nat) (h:k<s.size):s.data.toList[k]?=some (s.data.toList[k]'(by simpa using h)):=by simp[h]
def axw (s:ByteArray) (k:Nat) (h:k<s.size):s.extract k (k+1)=aD [s.data.toList[k]'(by simpa using h)]:=by
 apply akB.1
 have hl:k<s.data.toList.length:=by simpa using h
 simp only[ByteArray.data_extract,Array.toList_extract,abv,aD,abB]
 rw[bM hl]
 simp
def ars (s:ByteArray) (k:Nat) (h:k<s.size):aao (TT.of Tryz.prog) 9 (.of (.lit (.string s))) (some (aU k)) (some (aU ((k+1:Nat):Int)))=out (dy (aD [s.data.toList[k]'(by simpa using h)])):=by
 simp only[aao,T9,bH,ac8,aA,acW,ace]
 rw[aE ⟨by omega,by omega,by omega⟩,dm,dm,axw s k h]
def aBE (s:ByteArray) (k:Nat) (h:k<s.size):at8 s k=(s.data.toList[k]'(by simpa using h)).toNat:=by
 unfold at8
 rw[dW,aUe s k h]
 rfl
def aKf (s:ByteArray) (k:Nat) (h:k<s.size):s.data.toList.take (k+1)=s.data.toList.take k++[s.data.toList[k]'(by simpa using h)]:=aaa _
def akg:=ai (ai (ai @zq @a6p) (ai @aCU (ai @avV @ad3))) (ai (ai @Q3 @Q9) (ai @zT0 (ai @aHu (ba aXQ))))
def aw3 (v:V) (hn:v.k=2→0≤v.n∧v.n≤9223372036854775807) (hs:v.s.size≤1048576):G1 89 [.of (.agg (acC v))] (dy (aD (ahc v))):=by
 rw[alI]
 have vl:(acC v).length=3:=rfl
 refine ah rfl aXQ aHu rfl ?_
 by_cases h1:v.k=1
 .by_cases h2:v.n=0
  .have et:txt v=[102,97,108,115,101]:=by unfold txt;rw[aE h1];simp[alm,h2]
   rw[et]
   simp -implicitDefEqProofs(maxSteps:=9^9)only[Tryz.f89,↓zA,sevalprocAttr,akg,vl,h1,h2]
   try rfl
  .have et:txt v=[116,114,117,101]:=by unfold txt;rw[aE h1];simp[alm,h2]
   rw[et]
   simp -implicitDefEqProofs(maxSteps:=9^9)only[Tryz.f89,↓zA,sevalprocAttr,akg,vl,h1,h2]
   try rfl
 by_cases h2:v.k=2
 .obtain⟨n,hv⟩:=iO (hn h2).1
  have hm:=(hn h2).2
  have kn:=fun K=>aeC n (by omega) K
  rw[← hv] at kn
  simp -implicitDefEqProofs(maxSteps:=9^9)only[Tryz.f89,↓zA,sevalprocAttr,akg,vl,h1,h2,kn,txt]
  try rfl
 by_cases h3:v.k=3
 .have el:v.s.data.toList.length=v.s.size:=by simp
  simp -implicitDefEqProofs(maxSteps:=9^9)only[Tryz.f89,↓zA,sevalprocAttr,akg,vl,h1,h2,h3,apy]
  refine bX v.s.size (fun k t=>t.fr 1=.of (.ref [ci 3,ci v.n,aH v.s])∧t.fr 3=dy (aD (39::iL (v.s.data.toList.take k)))∧t.fr 4=aU k) ?_ ?_
  .simp -implicitDefEqProofs(maxSteps:=9^9)only[Tryz.f89,↓zA,sevalprocAttr,akg]
   rfl
  rintro k ⟨frk,obk,ckk⟩ hk ⟨f0,f2,f3⟩
  dsimp only at f0 f2 f3
  have hw:=cF k (by omega)
  have hq:=agq (v.s.data.toList.take k)
  have hq2:(v.s.data.toList.take k).length≤1048576:=by rw[aaj];omega
  by_cases c1:k<v.s.size
  .have hi:=arN (T:=TT.of Tryz.prog) (t:=9) (by rw[T9];rfl) v.s k
   have ht1:=aKf v.s k c1
   have hq1:=anL (v.s.data.toList.take k) (v.s.data.toList[k]'(by simpa using c1))
   rw[← ht1] at hq1
   have l1:(39::iL (v.s.data.toList.take k)).length+1≤gN:=by unfold gN;simp only[aB];omega
   have l2:(39::iL (v.s.data.toList.take k)++[39]).length+1≤gN:=by unfold gN;simp only[aR];omega
   have c1':=aa c1
   by_cases c2:(v.s.data.toList[k]'(by simpa using c1))=39
   .have c3:((at8 v.s k:Nat):Int)=39:=by rw[aBE _ _ c1,c2];rfl
    simp -implicitDefEqProofs(maxSteps:=9^9)only[Tryz.f89,↓zA,sevalprocAttr,akg,f0,f2,f3,aK,hi,dm,c1',c2,c3,hw,ars v.s k c1,aaH,apy,afM,l1,l2]
    rw[hq1,aE c2]
    simp
    unfold gN
    omega
   .have c3:¬ ((at8 v.s k:Nat):Int)=39:=by
     rw[aBE _ _ c1]
     intro e
     apply c2
     apply UInt8.toNat_inj.1
     have:(39:UInt8).toNat=39:=rfl
     omega
    simp -implicitDefEqProofs(maxSteps:=9^9)only[Tryz.f89,↓zA,sevalprocAttr,akg,f0,f2,f3,aK,hi,dm,c1',c3,hw,ars v.s k c1,aaH,apy,afM,l1]
    rw[hq1,aj c2]
    simp
    unfold gN
    omega
  .have e2:v.s.data.toList.take k=v.s.data.toList:=jf (by omega)
   rw[e2] at f2
   have hq3:=agq v.s.data.toList
   have l3:(iL v.s.data.toList).length+1+1≤gN:=by unfold gN;omega
   simp -implicitDefEqProofs(maxSteps:=9^9)only[Tryz.f89,↓zA,sevalprocAttr,akg,f0,f2,f3,aK,c1,apy,afM,txt,h1,h2,h3,l3,dN]
   try rfl
 simp -implicitDefEqProofs(maxSteps:=9^9)only[Tryz.f89,↓zA,sevalprocAttr,akg,vl,h1,h2,h3,txt]
 try rfl
def awa (P:Program) (T:TT) (t:Nat) (u:Option TypeDesc) (n:Int):gY P T t u .rem (.of (.lit (.int .i64 n))) (.of (.lit (.int .i64 2)))=out (aU (n.tmod 2)):=by simp[gY,gk,aaK,adj,dE,out]
def aMX (k:Nat):(k:Int).tmod 2=((k % 2:Nat):Int):=rfl
def atz:=ai (ai (ai @zq @ah5) (ai @agN @cR)) (ai (ai @bO @ey) (ai @zT0 (ai @aHr (ba aXN))))
def asq (l:List Xp) (hl:l.length≤4611686018427387903) (hx:∀ x∈l,RX x):GR 92 [.of (slC xpC l)] ([99,97,115,101]::(aam (l.map xpP)++[[101,110,100]])):=by
 intro h
 have a4A:=aL [99,97,115,101]
 have aDZ:=aL [119,104,101,110]
 have aD0:=aL [116,104,101,110]
 have aD1:=aL [101,108,115,101]
 have avG:=aL [101,110,100]
 have hT2:([99,97,115,101]::(aam (l.map xpP)++[[101,110,100]])).length=([99,97,115,101]::aam (l.map xpP)).length+1:=by simp
 have hT3:[99,97,115,101]::(aam (l.map xpP)++[[101,110,100]])=([99,97,115,101]::aam (l.map xpP))++[[101,110,100]]:=rfl
 rw[hT2] at h
 rw[hT3]
 generalize hT:[99,97,115,101]::aam (l.map xpP)=T at *
 refine ah rfl aXN aHr rfl ?_
 simp -implicitDefEqProofs(maxSteps:=9^9)only[Tryz.f92,↓zA,sevalprocAttr,atz]
 refine bX (l.length / 2) (fun j s=>s.fr 0=.of (slC xpC l)∧s.fr 4=aU ((2*j:Nat):Int)∧s.objs=[]∧∃ A c x i,c<s.clk∧s.fr 3=.own (.nm c x i) 9 1 (fl bA A) A.length∧T=A++aam ((l.drop (2*j)).map xpP)) ?_ ?_
 .simp -implicitDefEqProofs(maxSteps:=9^9)only[Tryz.f92,↓zA,sevalprocAttr,atz,Nat.mul_zero,Int.ofNat_zero]
  exact⟨[[99,97,115,101]],_,_,_,by omega,rfl,hT.symm⟩
 rintro j ⟨frk,obk,ckk⟩ hj ⟨f0,fi,fo,A,c,x,i,hc,fa,E⟩
 dsimp only at f0 fi fo hc fa
 have e2:2*(j+1)=2*j+2:=by omega
 have hm:2*j≤l.length:=by omega
 have hmo:(2*j+1) % 2=1:=by omega
 have hmz:(2*j) % 2=0:=by omega
 generalize 2*j=m at *
 have hw:=cF m (by omega)
 have hw2:IntKind.i64.wrap ((m:Int)+2)=((m+2:Nat):Int):=eX _ (by omega) (by omega)
 by_cases dk:m+1<l.length
 .have d0:m<l.length:=by omega
  have gx:=bq d0
  have gy:=bq dk
  have ed:l.drop m=l[m]::l[m+1]::l.drop (m+2):=by rw[bM d0,bM dk]
  rw[ed,arX] at E
  have ma:=hx l[m] (ay d0)
  have mb:=hx l[m+1] (ay dk)
  generalize l[m]=a at *
  generalize l[m+1]=b at *
  have EL:=congrArg List.length E
  simp only[av,aB] at EL
  have ka:=fun K=>(dP a 1 ma).k (T:=bv a) (by omega) K
  have kb:=fun K=>(dP b 1 mb).k (T:=bv b) (by omega) K
  have E2:T=(A++([119,104,101,110]::(bv a++([116,104,101,110]::bv b))))++aam ((l.drop (m+2)).map xpP):=by rw[E];simp only[aJK]
  simp -implicitDefEqProofs(maxSteps:=9^9)only[Tryz.f92,↓zA,sevalprocAttr,atz,f0,fa,fi,fo,aK,dk,gx,gy,hw,hw2,ka,kb,e2,aDZ,aD0]
  and_intros
  all_goals first|exact okN _ _ (by omega) _|omega|rfl|exact abS (A++([119,104,101,110]::(bv a++([116,104,101,110]::bv b)))) (by omega) (by (try simp only[cJ,cI]) <;> rfl) (by (try simp only[aR]) <;> omega) E2
 have c1:l.length=m+1∨l.length=m:=by omega
 rcases c1 with c1|c1
 .have d0:m<l.length:=by omega
  have gx:=bq d0
  have ed:l.drop m=[l[m]]:=by rw[bM d0,fv (by omega)]
  have ec:aam ([l[m]].map xpP)=[101,108,115,101]::bv l[m]:=rfl
  rw[ed,ec] at E
  have ma:=hx l[m] (ay d0)
  generalize l[m]=a at *
  have EL:=congrArg List.length E
  simp only[av,aB] at EL
  have ka:=fun K=>(dP a 1 ma).k (T:=bv a) (by omega) K
  have ho:l.length % 2=1:=by rw[c1];exact hmo
  have hs:IntKind.i64.wrap ((l.length:Int)-1)=(m:Int):=by rw[show (l.length:Int)-1=(m:Int) by omega];exact eX _ (by omega) (by omega)
  have dk':(m+1<l.length)=False:=aO dk
  subst E
  simp -implicitDefEqProofs(maxSteps:=9^9)only[Tryz.f92,↓zA,sevalprocAttr,atz,f0,fa,fi,fo,aK,dk',gx,hw,hs,ka,awa,aMX,ho,aD1,avG]
  and_intros
  all_goals first|exact okN _ _ (by omega) _|(exact cz (by (try simp only[cJ,cI]) <;> rfl) (by (try simp only[aR]) <;> omega))|omega
 .rw[fv (by omega),bC,aam,cE] at E
  have ho:l.length % 2=0:=by rw[c1];exact hmz
  have dk':(m+1<l.length)=False:=aO dk
  subst E
  simp -implicitDefEqProofs(maxSteps:=9^9)only[Tryz.f92,↓zA,sevalprocAttr,atz,f0,fa,fi,fo,aK,dk',hw,awa,aMX,ho,avG]
  and_intros
  all_goals first|exact okN _ _ (by omega) _|(exact cz (by (try simp only[cJ,cI]) <;> rfl) (by (try simp only[aR]) <;> omega))|omega
def aRC {s:List UInt8} (h:aa3 s=true):bF s=s:=by
 simp only[aa3,cA,ar] at h
 rcases h with ((rfl|rfl)|rfl)|rfl <;> decide +kernel
def aJM:=ai (ai (ai @zq (ai @a3Z @ah5)) (ai (ai @agN @ai3) (ai @ahG @cR))) (ai (ai (ai @bO @ey) (ai @Q9 @P4)) (ai (ai @Q4 @zT0) (ai @apC (ba aDP))))
def asp (e:Xp) (hn:bF e.nm=e.nm) (hl:e.ks.length≤1) (hd:e.ks.length=0→e.di=false) (hx:∀ x∈e.ks,RX x):GR 93 [.of (.agg (xpC e))] (bF e.nm::bI true (aF e.di [[100,105,115,116,105,110,99,116]]++(aF (decide (e.ks.length=0)) [aaM]++bc true (e.ks.map bv)))):=by
 intro h
 have e_28:=aL [40]
 have e_2a:=aL [42]
 have e_29:=aL [41]
 have cj:=aL [100,105,115,116,105,110,99,116]
 rw[hn] at h ⊢
 have hks:e.ks=[]∨∃ y,e.ks=[y]:=by
  rcases hk:e.ks with _|⟨y,_|⟨z,r⟩⟩
  .exact .inl rfl
  .exact .inr ⟨y,rfl⟩
  .rw[hk] at hl;simp at hl
 rcases hks with hk|⟨y,hk⟩
 .have hd:=hd (by rw[hk];rfl)
  have hkl:(e.ks.length:Int)=0:=by rw[hk];rfl
  have eT:e.nm::bI true (aF e.di [[100,105,115,116,105,110,99,116]]++(aF (decide (e.ks.length=0)) [aaM]++bc true (e.ks.map bv)))=[e.nm,[40],[42],[41]]:=by rw[hd,hk];rfl
  rw[eT]
  refine ah rfl aDP apC rfl ?_
  simp -implicitDefEqProofs(maxSteps:=9^9)only[Tryz.f93,↓zA,sevalprocAttr,aJM,hkl,ajn,e_28,e_2a,e_29]
  try rfl
 have hkl:((e.ks.length:Int)=0)=False:=aO (by rw[hk];simp)
 have gx:dH e.ks 0=some y:=by rw[hk];rfl
 have hm:=hx y (by rw[hk];simp)
 by_cases hdi:e.di=true
 .have eT:e.nm::bI true (aF e.di [[100,105,115,116,105,110,99,116]]++(aF (decide (e.ks.length=0)) [aaM]++bc true (e.ks.map bv)))=e.nm::bI true ([100,105,115,116,105,110,99,116]::bv y):=by rw[hdi,hk];simp[aF,bc]
  rw[eT] at h ⊢
  have hl2:(bI true ([100,105,115,116,105,110,99,116]::bv y)).length=(bv y).length+3:=by simp[bI]
  have hl3:fl bA (bI true ([100,105,115,116,105,110,99,116]::bv y))=aH (aD [40])::((aH (aD [100,105,115,116,105,110,99,116])::fl bA (bv y))++[aH (aD [41])]):=by simp only[bI,aA,lpT,rpT,cJ,cI]
  simp only[aB] at h
  have ka:=fun K=>(dP y 1 hm).k (T:=bv y) (by omega) K
  have kr:=fun K=>aN.k (ao2 (aH (aD [100,105,115,116,105,110,99,116])::fl bA (bv y)) (1+(bv y).length) (by rw[aB,acA];omega) (by omega)) K
  refine ah rfl aDP apC rfl ?_
  simp -implicitDefEqProofs(maxSteps:=9^9)only[Tryz.f93,↓zA,sevalprocAttr,aJM,hkl,gx,ka,kr,hdi,e_28,e_2a,e_29,cj]
  refine⟨by omega,by omega,⟨by omega,by omega⟩,cz ?_ (by omega)⟩
  rw[avv,hl3]
  rfl
 .have hdi:e.di=false:=by simpa using hdi
  have eT:e.nm::bI true (aF e.di [[100,105,115,116,105,110,99,116]]++(aF (decide (e.ks.length=0)) [aaM]++bc true (e.ks.map bv)))=e.nm::bI true (bv y):=by rw[hdi,hk];simp[aF,bc]
  rw[eT] at h ⊢
  have hl2:(bI true (bv y)).length=(bv y).length+2:=by simp[bI]
  simp only[aB] at h
  have ka:=fun K=>(dP y 1 hm).k (T:=bv y) (by omega) K
  have kr:=fun K=>aaW (bv y) (by omega) K
  refine ah rfl aDP apC rfl ?_
  simp -implicitDefEqProofs(maxSteps:=9^9)only[Tryz.f93,↓zA,sevalprocAttr,aJM,hkl,gx,ka,kr,hdi,e_28,e_2a,e_29]
  (and_intros <;> first|(exact cz (by (try simp only[cJ,cI]) <;> rfl) (by (try simp only[aR]) <;> omega))|((try simp only[aR]) <;> omega))
def aex:=ai (ai (ai (ai (ai @zq @a6u) (ai @a2n @aZq)) (ai (ai @ahj @afD) (ai @ah5 @agN))) (ai (ai (ai @aCT @avU) (ai @ai3 @ahG)) (ai (ai @am4 @aj8) (ai @a2m @aZp)))) (ai (ai (ai (ai @a2l @aZo) (ai @aNf @aI5)) (ai (ai @a2k @aZn) (ai @eY @ad3))) (ai (ai (ai @cR @bO) (ai @ey @eI)) (ai (ai @Q3 @Q9) (ai @zT0 (ai @aIe (ba aYA))))))
def aFW (e:Xp) (ok:cW e=true) (hn:V64 e.v) (hvs:e.v.s.size≤1048576) (hkl:e.ks.length≤4611686018427387903) (hk:∀ x∈e.ks,RX x) (hs:∀ q∈e.sb,RQ q):RX e:=by
 intro h
 obtain⟨lo,hi,m,hsh,how,hlo,hhi,hm⟩:=apa ok
 rw[aFg] at h ⊢
 have lv9:=arK e.op
 have hwl:IntKind.i64.wrap (fG e.op+1)=fG e.op+1:=eX _ (by omega) (by omega)
 have e_2d:=aL [45]
 have abL:=aL [110,111,116]
 have avF:=aL [105,115]
 have aak:=aL [110,117,108,108]
 have alg:=aL [108,105,107,101]
 have af2:=aL [98,101,116,119,101,101,110]
 have aoq:=aL [97,110,100]
 have aj2:=aL [105,110]
 have ag6:=aL [101,120,105,115,116,115]
 have e_2e:=aL [46]
 refine ah rfl aYA aIe rfl ?_
 by_cases h1:e.op=1
 .have hop:=aa h1
  have hw:e.v.k=2→0≤e.v.n∧e.v.n≤9223372036854775807:=fun h2=>by
   simp only[fJ,h1,aA,ab,cA,ar] at how
   exact⟨by have:=how.1.1.1.2;omega,hn.2.2⟩
  have kt:=fun K=>aN.k (aw3 e.v hw hvs) K
  have hT:opT e.op e.v e.tb e.nm e.di (e.ks.map xpP) (e.sb.map qyP)=[ahc e.v]:=by
   rw[h1]
   rfl
  rw[hT] at h ⊢
  try simp only[aR,bI,aA] at h
  simp -implicitDefEqProofs(maxSteps:=9^9)only[Tryz.f30,↓zA,sevalprocAttr,aex,hop,iY,bg,kt]
  (and_intros <;> first|(exact cz (by (try simp only[cJ,cI]) <;> rfl) (by (try simp only[aR]) <;> omega))|((try simp only[aR]) <;> omega))
 by_cases h2:e.op=2
 .have hop:=aa h2
  simp only[fJ,h2,Int.reduceEq,aQ,aA,ab,cm] at how
  have hnm:bk e.nm=true:=how.1.1.2
  have hmb:gg e.tb=true:=how.1.2
  by_cases htb:e.tb=[]
  .have hT:opT e.op e.v e.tb e.nm e.di (e.ks.map xpP) (e.sb.map qyP)=[bF e.nm]:=by
    rw[h2]
    simp[opT,amm,aF,htb,ab0]
   rw[hT] at h ⊢
   simp -implicitDefEqProofs(maxSteps:=9^9)only[Tryz.f30,↓zA,sevalprocAttr,aex,hop,h1,htb,fX _ hnm,bW,ij]
   (and_intros <;> first|(exact cz (by (try simp only[cJ,cI]) <;> rfl) (by (try simp only[aR]) <;> omega))|((try simp only[aR]) <;> omega))
  .have htn:bk e.tb=true:=by simpa [gg,htb] using hmb
   have hT:opT e.op e.v e.tb e.nm e.di (e.ks.map xpP) (e.sb.map qyP)=[bF e.tb,[46],bF e.nm]:=by
    rw[h2]
    simp[opT,amm,aF,htb,ab0]
   rw[hT] at h ⊢
   simp -implicitDefEqProofs(maxSteps:=9^9)only[Tryz.f30,↓zA,sevalprocAttr,aex,hop,h1,htb,fX _ hnm,fX _ htn,e_2e,bW,ij,iI]
   (and_intros <;> first|(exact cz (by (try simp only[cJ,cI]) <;> rfl) (by (try simp only[aR]) <;> omega))|((try simp only[aR]) <;> omega))
 by_cases h3:e.op=3
 .have hop:=aa h3
  rw[h3,show fw 3=some (1,1,0) from rfl,ae,bf,bf] at hsh
  obtain⟨rfl,rfl,rfl⟩:=hsh
  obtain⟨x0,hks⟩:=ks1 (l:=e.ks) (by omega)
  have g0:dH e.ks 0=some x0:=by rw[hks];rfl
  have w0:=hk x0 (by rw[hks];simp)
  have hT:opT e.op e.v e.tb e.nm e.di (e.ks.map xpP) (e.sb.map qyP)=[45]::(dY 8 x0):=by
   rw[h3]
   simp only[opT,Int.reduceEq,aQ,aA];rw[hks];rfl
  rw[hT] at h ⊢
  try simp only[aR,bI,aA] at h
  have k0:=fun K=>(dP x0 8 w0).k (T:=dY 8 x0) (by omega) K
  simp -implicitDefEqProofs(maxSteps:=9^9)only[Tryz.f30,↓zA,sevalprocAttr,aex,hop,h1,h2,iY,bg,g0,k0,e_2d]
  (and_intros <;> first|(exact cz (by (try simp only[cJ,cI]) <;> rfl) (by (try simp only[aR]) <;> omega))|((try simp only[aR]) <;> omega))
 by_cases h4:e.op=4
 .have hop:=aa h4
  rw[h4,show fw 4=some (1,1,0) from rfl,ae,bf,bf] at hsh
  obtain⟨rfl,rfl,rfl⟩:=hsh
  obtain⟨x0,hks⟩:=ks1 (l:=e.ks) (by omega)
  have g0:dH e.ks 0=some x0:=by rw[hks];rfl
  have w0:=hk x0 (by rw[hks];simp)
  have hT:opT e.op e.v e.tb e.nm e.di (e.ks.map xpP) (e.sb.map qyP)=[110,111,116]::(dY 3 x0):=by
   rw[h4]
   simp only[opT,Int.reduceEq,aQ,aA];rw[hks];rfl
  rw[hT] at h ⊢
  try simp only[aR,bI,aA] at h
  have k0:=fun K=>(dP x0 3 w0).k (T:=dY 3 x0) (by omega) K
  simp -implicitDefEqProofs(maxSteps:=9^9)only[Tryz.f30,↓zA,sevalprocAttr,aex,hop,h1,h2,h3,iY,bg,g0,k0,abL]
  (and_intros <;> first|(exact cz (by (try simp only[cJ,cI]) <;> rfl) (by (try simp only[aR]) <;> omega))|((try simp only[aR]) <;> omega))
 by_cases h19:e.op=19
 .have hop:=aa h19
  rw[h19,show fw 19=some (1,1,0) from rfl,ae,bf,bf] at hsh
  obtain⟨rfl,rfl,rfl⟩:=hsh
  obtain⟨x0,hks⟩:=ks1 (l:=e.ks) (by omega)
  have g0:dH e.ks 0=some x0:=by rw[hks];rfl
  have w0:=hk x0 (by rw[hks];simp)
  have hT:opT e.op e.v e.tb e.nm e.di (e.ks.map xpP) (e.sb.map qyP)=dY 5 x0++([105,115]::([[110,117,108,108]])):=by
   rw[h19]
   simp only[opT,Int.reduceEq,aQ,aA];rw[hks];rfl
  rw[hT] at h ⊢
  try simp only[aR,bI,aA] at h
  have k0:=fun K=>(dP x0 5 w0).k (T:=dY 5 x0) (by omega) K
  simp -implicitDefEqProofs(maxSteps:=9^9)only[Tryz.f30,↓zA,sevalprocAttr,aex,hop,h1,h2,h3,h4,iY,bg,g0,k0,avF,aak]
  (and_intros <;> first|(exact cz (by (try simp only[cJ,cI]) <;> rfl) (by (try simp only[aR]) <;> omega))|((try simp only[aR]) <;> omega))
 by_cases h20:e.op=20
 .have hop:=aa h20
  rw[h20,show fw 20=some (2,2,0) from rfl,ae,bf,bf] at hsh
  obtain⟨rfl,rfl,rfl⟩:=hsh
  obtain⟨x0,x1,hks⟩:=ks2 (l:=e.ks) (by omega)
  have g0:dH e.ks 0=some x0:=by rw[hks];rfl
  have w0:=hk x0 (by rw[hks];simp)
  have g1:dH e.ks 1=some x1:=by rw[hks];rfl
  have w1:=hk x1 (by rw[hks];simp)
  have hT:opT e.op e.v e.tb e.nm e.di (e.ks.map xpP) (e.sb.map qyP)=dY 5 x0++([108,105,107,101]::(dY 5 x1)):=by
   rw[h20]
   simp only[opT,Int.reduceEq,aQ,aA];rw[hks];rfl
  rw[hT] at h ⊢
  try simp only[aR,bI,aA] at h
  have k0:=fun K=>(dP x0 5 w0).k (T:=dY 5 x0) (by omega) K
  have k1:=fun K=>(dP x1 5 w1).k (T:=dY 5 x1) (by omega) K
  simp -implicitDefEqProofs(maxSteps:=9^9)only[Tryz.f30,↓zA,sevalprocAttr,aex,hop,h1,h2,h3,h4,h19,iY,bg,g0,k0,g1,k1,alg]
  (and_intros <;> first|(exact cz (by (try simp only[cJ,cI]) <;> rfl) (by (try simp only[aR]) <;> omega))|((try simp only[aR]) <;> omega))
 by_cases h22:e.op=22
 .have hop:=aa h22
  rw[h22,show fw 22=some (3,3,0) from rfl,ae,bf,bf] at hsh
  obtain⟨rfl,rfl,rfl⟩:=hsh
  obtain⟨x0,x1,x2,hks⟩:=ks3 (l:=e.ks) (by omega)
  have g0:dH e.ks 0=some x0:=by rw[hks];rfl
  have w0:=hk x0 (by rw[hks];simp)
  have g1:dH e.ks 1=some x1:=by rw[hks];rfl
  have w1:=hk x1 (by rw[hks];simp)
  have g2:dH e.ks 2=some x2:=by rw[hks];rfl
  have w2:=hk x2 (by rw[hks];simp)
  have hT:opT e.op e.v e.tb e.nm e.di (e.ks.map xpP) (e.sb.map qyP)=dY 5 x0++([98,101,116,119,101,101,110]::(dY 5 x1++([97,110,100]::(dY 5 x2)))):=by
   rw[h22]
   simp only[opT,Int.reduceEq,aQ,aA];rw[hks];rfl
  rw[hT] at h ⊢
  try simp only[aR,bI,aA] at h
  have k0:=fun K=>(dP x0 5 w0).k (T:=dY 5 x0) (by omega) K
  have k1:=fun K=>(dP x1 5 w1).k (T:=dY 5 x1) (by omega) K
  have k2:=fun K=>(dP x2 5 w2).k (T:=dY 5 x2) (by omega) K
  simp -implicitDefEqProofs(maxSteps:=9^9)only[Tryz.f30,↓zA,sevalprocAttr,aex,hop,h1,h2,h3,h4,h19,h20,iY,bg,g0,k0,g1,k1,g2,k2,af2,aoq]
  (and_intros <;> first|(exact cz (by (try simp only[cJ,cI]) <;> rfl) (by (try simp only[aR]) <;> omega))|((try simp only[aR]) <;> omega))
 by_cases h21:e.op=21
 .have hop:=aa h21
  rw[h21,show fw 21=some (2,65,0) from rfl,ae,bf,bf] at hsh
  obtain⟨rfl,rfl,rfl⟩:=hsh
  obtain⟨x0,r,hks⟩ : ∃ x0 r,e.ks=x0::r:=by cases hq:e.ks with
   | nil=>rw[hq] at hlo;simp at hlo
   | cons a r=>exact⟨a,r,rfl⟩
  have g0:dH e.ks 0=some x0:=by rw[hks];rfl
  have w0:=hk x0 (by rw[hks];simp)
  have hs1:=aFx (L:=e.ks) (by omega)
  have hr:e.ks.drop 1=r:=by rw[hks];rfl
  rw[hr] at hs1
  have hrl:r.length≤4611686018427387903:=by rw[hks] at hkl;simp only[aB] at hkl;omega
  have hT:opT e.op e.v e.tb e.nm e.di (e.ks.map xpP) (e.sb.map qyP)=dY 5 x0++([105,110]::(bI true (bc true (r.map bv)))):=by
   rw[h21]
   simp only[opT,Int.reduceEq,aQ,aA];rw[hks];simp only[aV,aaq,ac6,aja];rfl
  rw[hT] at h ⊢
  try simp only[aR,bI,aA] at h
  have k0:=fun K=>(dP x0 5 w0).k (T:=dY 5 x0) (by omega) K
  have kl:=fun K=>(aeD r hrl (fun x hx=>hk x (by rw[hks];exact iC _ hx))).k (by omega) K
  have hl2:(bI true (bc true (r.map bv))).length=(bc true (r.map bv)).length+2:=by simp[bI]
  have kr:=fun K=>aaW (bc true (r.map bv)) (by omega) K
  simp -implicitDefEqProofs(maxSteps:=9^9)only[Tryz.f30,↓zA,sevalprocAttr,aex,hop,h1,h2,h3,h4,h19,h20,h22,iY,bg,g0,k0,hs1,kl,kr,aj2]
  (and_intros <;> first|(exact cz (by (try simp only[cJ,cI]) <;> rfl) (by (try simp only[aR]) <;> omega))|((try simp only[aR]) <;> omega))
 by_cases h28:e.op=28
 .have hop:=aa h28
  rw[h28,show fw 28=some (1,1,1) from rfl,ae,bf,bf] at hsh
  obtain⟨rfl,rfl,rfl⟩:=hsh
  obtain⟨x0,hks⟩:=ks1 (l:=e.ks) (by omega)
  have g0:dH e.ks 0=some x0:=by rw[hks];rfl
  have w0:=hk x0 (by rw[hks];simp)
  obtain⟨q,hsb⟩:=ks1 hm
  have gq:dH e.sb 0=some q:=by rw[hsb];rfl
  have hT:opT e.op e.v e.tb e.nm e.di (e.ks.map xpP) (e.sb.map qyP)=dY 5 x0++([105,110]::(bI true (qyT q))):=by
   rw[h28]
   simp only[opT,Int.reduceEq,aQ,aA];rw[hks,hsb];rfl
  rw[hT] at h ⊢
  try simp only[aR,bI,aA] at h
  have k0:=fun K=>(dP x0 5 w0).k (T:=dY 5 x0) (by omega) K
  have kq:=fun K=>(hs q (by rw[hsb];simp)).k (by omega) K
  have hl2:(bI true (qyT q)).length=(qyT q).length+2:=by simp[bI]
  have kr:=fun K=>aaW (qyT q) (by omega) K
  simp -implicitDefEqProofs(maxSteps:=9^9)only[Tryz.f30,↓zA,sevalprocAttr,aex,hop,h1,h2,h3,h4,h19,h20,h22,h21,iY,bg,g0,k0,gq,kq,kr,aj2]
  (and_intros <;> first|(exact cz (by (try simp only[cJ,cI]) <;> rfl) (by (try simp only[aR]) <;> omega))|((try simp only[aR]) <;> omega))
 by_cases h23:e.op=23
 .have hop:=aa h23
  have eC:opT e.op e.v e.tb e.nm e.di (e.ks.map xpP) (e.sb.map qyP)=([99,97,115,101]::(aam (e.ks.map xpP)++[[101,110,100]])):=by rw[h23];rfl
  rw[eC] at h ⊢
  have kc:=fun K=>(asq e.ks hkl hk).k h K
  generalize ([99,97,115,101]::(aam (e.ks.map xpP)++[[101,110,100]]))=CS at *
  simp -implicitDefEqProofs(maxSteps:=9^9)only[Tryz.f30,↓zA,sevalprocAttr,aex,hop,h1,h2,h3,h4,h19,h20,h22,h21,h28,kc]
  try rfl
 by_cases h24:e.op=24
 .have hop:=aa h24
  simp only[fJ,h24,Int.reduceEq,aQ,aA,ab,cm] at how
  have hnm:bk e.nm=true:=how.1.1.2
  have hT:opT e.op e.v e.tb e.nm e.di (e.ks.map xpP) (e.sb.map qyP)=bF e.nm::(bI true (bc true (e.ks.map bv))):=by
   rw[h24]
   simp only[opT,Int.reduceEq,aQ,aA,aja];rfl
  rw[hT] at h ⊢
  try simp only[aR,bI,aA] at h
  have kl:=fun K=>(aeD e.ks hkl hk).k (by omega) K
  have hl2:(bI true (bc true (e.ks.map bv))).length=(bc true (e.ks.map bv)).length+2:=by simp[bI]
  have kr:=fun K=>aaW (bc true (e.ks.map bv)) (by omega) K
  simp -implicitDefEqProofs(maxSteps:=9^9)only[Tryz.f30,↓zA,sevalprocAttr,aex,hop,h1,h2,h3,h4,h19,h20,h22,h21,h28,h23,iY,bg,fX _ hnm,kl,kr]
  (and_intros <;> first|(exact cz (by (try simp only[cJ,cI]) <;> rfl) (by (try simp only[aR]) <;> omega))|((try simp only[aR]) <;> omega))
 by_cases h25:e.op=25
 .have hop:=aa h25
  rw[h25,show fw 25=some (0,1,0) from rfl,ae,bf,bf] at hsh
  obtain⟨rfl,rfl,rfl⟩:=hsh
  simp only[fJ,h25,Int.reduceEq,aQ,aA,ab,cm,cA,ar] at how
  have hnm:=aRC how.1.2
  have hdz:e.ks.length=0→e.di=false:=fun h0=>by
   rcases how.2 with h|h
   .omega
   .exact h.2
  have eC:opT e.op e.v e.tb e.nm e.di (e.ks.map xpP) (e.sb.map qyP)=(bF e.nm::bI true (aF e.di [[100,105,115,116,105,110,99,116]]++(aF (decide (e.ks.length=0)) [aaM]++bc true (e.ks.map bv)))):=by rw[h25];simp only[opT,Int.reduceEq,aQ,aA,gP,amZ]
  rw[eC] at h ⊢
  have ka:=fun K=>(asp e hnm hhi hdz hk).k h K
  generalize (bF e.nm::bI true (aF e.di [[100,105,115,116,105,110,99,116]]++(aF (decide (e.ks.length=0)) [aaM]++bc true (e.ks.map bv))))=CS at *
  simp -implicitDefEqProofs(maxSteps:=9^9)only[Tryz.f30,↓zA,sevalprocAttr,aex,hop,h1,h2,h3,h4,h19,h20,h22,h21,h28,h23,h24,ka]
  try rfl
 by_cases h26:e.op=26
 .have hop:=aa h26
  rw[h26,show fw 26=some (0,0,1) from rfl,ae,bf,bf] at hsh
  obtain⟨rfl,rfl,rfl⟩:=hsh
  obtain⟨q,hsb⟩:=ks1 hm
  have gq:dH e.sb 0=some q:=by rw[hsb];rfl
  have hT:opT e.op e.v e.tb e.nm e.di (e.ks.map xpP) (e.sb.map qyP)=bI true (qyT q):=by
   rw[h26]
   simp only[opT,Int.reduceEq,aQ,aA];rw[hsb];rfl
  rw[hT] at h ⊢
  try simp only[aR,bI,aA] at h
  have kq:=fun K=>(hs q (by rw[hsb];simp)).k (by omega) K
  have hl2:(bI true (qyT q)).length=(qyT q).length+2:=by simp[bI]
  have kr:=fun K=>aaW (qyT q) (by omega) K
  simp -implicitDefEqProofs(maxSteps:=9^9)only[Tryz.f30,↓zA,sevalprocAttr,aex,hop,h1,h2,h3,h4,h19,h20,h22,h21,h28,h23,h24,h25,iY,bg,gq,kq,kr]
  try rfl
 by_cases h27:e.op=27
 .have hop:=aa h27
  rw[h27,show fw 27=some (0,0,1) from rfl,ae,bf,bf] at hsh
  obtain⟨rfl,rfl,rfl⟩:=hsh
  obtain⟨q,hsb⟩:=ks1 hm
  have gq:dH e.sb 0=some q:=by rw[hsb];rfl
  have hT:opT e.op e.v e.tb e.nm e.di (e.ks.map xpP) (e.sb.map qyP)=[101,120,105,115,116,115]::(bI true (qyT q)):=by
   rw[h27]
   simp only[opT,Int.reduceEq,aQ,aA];rw[hsb];rfl
  rw[hT] at h ⊢
  try simp only[aR,bI,aA] at h
  have kq:=fun K=>(hs q (by rw[hsb];simp)).k (by omega) K
  have hl2:(bI true (qyT q)).length=(qyT q).length+2:=by simp[bI]
  have kr:=fun K=>aaW (qyT q) (by omega) K
  simp -implicitDefEqProofs(maxSteps:=9^9)only[Tryz.f30,↓zA,sevalprocAttr,aex,hop,h1,h2,h3,h4,h19,h20,h22,h21,h28,h23,h24,h25,h26,iY,bg,gq,kq,kr,ag6]
  (and_intros <;> first|(exact cz (by (try simp only[cJ,cI]) <;> rfl) (by (try simp only[aR]) <;> omega))|((try simp only[aR]) <;> omega))
 have hr:(5≤e.op∧e.op≤18)∧e.ks.length=2:=by
  have e1:fw e.op=if 5≤e.op∧e.op≤20 then some (2,2,0) else none:=by simp only[fw,h1,h2,h3,h4,h19,h20,h22,h21,h28,h23,h24,h25,h26,h27,bm,aQ,fd,fz]
  rw[e1] at hsh
  split at hsh
  .simp only[dX] at hsh
   omega
  .cases hsh
 obtain⟨hr1,hr2⟩:=hr
 obtain⟨x0,x1,hks⟩:=ks2 hr2
 have g0:dH e.ks 0=some x0:=by rw[hks];rfl
 have g1:dH e.ks 1=some x1:=by rw[hks];rfl
 have w0:=hk x0 (by rw[hks];simp)
 have w1:=hk x1 (by rw[hks];simp)
 have ksg:=fun K=>aFV e.op hr1 K
 by_cases h4l:fG e.op=4
 .have hT:opT e.op e.v e.tb e.nm e.di (e.ks.map xpP) (e.sb.map qyP)=dY 5 x0++(aeG e.op::(dY 5 x1)):=by
   simp only[opT,h1,h2,h3,h4,h19,h20,h22,h21,h28,h23,h24,h25,h26,h27,aQ,h4l,aA];rw[hks];rfl
  rw[hT] at h ⊢
  simp only[aR] at h
  have k0:=fun K=>(dP x0 5 w0).k (T:=dY 5 x0) (by omega) K
  have k1:=fun K=>(dP x1 5 w1).k (T:=dY 5 x1) (by omega) K
  simp -implicitDefEqProofs(maxSteps:=9^9)only[Tryz.f30,↓zA,sevalprocAttr,aex,iY,h1,h2,h3,h4,h19,h20,h22,h21,h28,h23,h24,h25,h26,h27,aa h4l,g0,g1,k0,k1,ksg,hwl]
  (and_intros <;> first|(exact cz (by (try simp only[cJ,cI]) <;> rfl) (by (try simp only[aR]) <;> omega))|((try simp only[aR]) <;> omega))
 .have hT:opT e.op e.v e.tb e.nm e.di (e.ks.map xpP) (e.sb.map qyP)=dY (fG e.op) x0++(aeG e.op::(dY (fG e.op+1) x1)):=by
   simp only[opT,h1,h2,h3,h4,h19,h20,h22,h21,h28,h23,h24,h25,h26,h27,aQ,h4l,aA];rw[hks];rfl
  rw[hT] at h ⊢
  simp only[aR] at h
  have k0:=fun K=>(dP x0 (fG e.op) w0).k (T:=dY (fG e.op) x0) (by omega) K
  have k1:=fun K=>(dP x1 (fG e.op+1) w1).k (T:=dY (fG e.op+1) x1) (by omega) K
  simp -implicitDefEqProofs(maxSteps:=9^9)only[Tryz.f30,↓zA,sevalprocAttr,aex,iY,h1,h2,h3,h4,h19,h20,h22,h21,h28,h23,h24,h25,h26,h27,h4l,g0,g1,k0,k1,ksg,hwl]
  (and_intros <;> first|(exact cz (by (try simp only[cJ,cI]) <;> rfl) (by (try simp only[aR]) <;> omega))|((try simp only[aR]) <;> omega))
end Go.Proofs.YtemdljoideegeaaGreatDoor

/-
  Chapter 12's laws: a statement done, what is light, catalogs that are made, the example. Conditions: none.
-/
import Derived.Test.YtjajlmjfddohfaaGreatDoorPa16
set_option linter.defProp false
set_option linter.unusedSectionVars false
set_option maxRecDepth 100000
set_option maxHeartbeats 32000000
namespace Go.Proofs.YtjajlmjfddohfaaGreatDoor
open Go Go.Pe Go.Tab
theorem aO5 (s:Sm) (g:fz s) (hw:smW s≤WL) (hk:s.kd=3):G1 92 [.of (.agg (smC s))] (ah (bO s)):=by
 have hw':=hw
 simp only[WL,smW] at hw'
 obtain⟨_,_,_,_,_,_,_,_,gch,grw,gst,gwh,gq⟩:=g
 have n1:=bh cdW s.cs fun x _=>by simp[cdW]
 have n2:=bh aZ s.ns fun x _=>by simp[aZ]
 have hns:s.ns.length≤4611686018427387903:=by omega
 have kcs:=zCd s.cs (by omega)
 have kky:=zKd s.kys (by simp only[WL];omega)
 have krf:=zRd s.rfs (by simp only[WL];omega)
 have kch:=zX (dQ s.chs gch (by simp only[WL];omega)) (by simp only[WL];omega)
 have krw:=zR s.rws grw (by simp only[WL];omega)
 have kst:=zAs s.sts gst (by simp only[WL];omega)
 have kw:=j5 s.wh (dQ s.wh gwh (by simp only[WL];omega)) (by simp only[WL];omega)
 have kq:=zQ (jN s.q gq (by simp only[WL];omega)) (by simp only[WL];omega)
 have e1:(aE s.cs.length 1 16&&s.cs.all bR)=am s.cs 1 16 bR:=(ay s.cs 1 16 bR).symm
 have e2:(aE s.kys.length 0 64&&s.kys.all cK)=am s.kys 0 64 cK:=(ay s.kys 0 64 cK).symm
 have e3:(aE s.rfs.length 0 64&&s.rfs.all cz)=am s.rfs 0 64 cz:=(ay s.rfs 0 64 cz).symm
 have e4:(aE s.chs.length 0 64&&s.chs.all aK)=am s.chs 0 64 aK:=(ay s.chs 0 64 aK).symm
 have e5:(aE s.q.length 1 1&&s.q.all bA)=am s.q 1 1 bA:=(ay s.q 1 1 bA).symm
 have e6:(aE s.rws.length 1 64&&s.rws.all fun l=>aE l.length 1 16&&l.all aK)=am s.rws 1 64 (fun r=>am r 1 16 aK):=by
  rw[show am s.rws 1 64 (fun r=>am r 1 16 aK)=_ from ay s.rws 1 64 _]
  congr 2
  funext r
  exact (ay r 1 16 aK).symm
 have e7:(aE s.sts.length 1 16&&s.sts.all cA)=am s.sts 1 16 cA:=(ay s.sts 1 16 cA).symm
 have e8:(aE s.wh.length 0 1&&s.wh.all aK)=am s.wh 0 1 aK:=(ay s.wh 0 1 aK).symm
 have e9:(aE s.ns.length 1 16&&s.ns.all aA)=am s.ns 1 16 aA:=(ay s.ns 1 16 aA).symm
 have e10:(aE s.ns.length 0 16&&s.ns.all aA)=am s.ns 0 16 aA:=(ay s.ns 0 16 aA).symm
 have kS:=aPc s hw
 refine aj rfl aa8 iK rfl ?_
 cases b0:aA s.tb
 .by_cases b2:s.tb=[]
  .cases b3:aA s.nm
   .simp -implicitDefEqProofs(maxSteps:=9^9)only[Tryz.f92,↓zA,sevalprocAttr,cR,bO,hk,b0,eq_true b2,b3,bt,bL,e1,e2,e3,e4,e5,e6,e7,e8,e9,e10,ba,bw,hns,kcs,kky,krf,kch,krw,kst,kw,kq,aW,Int.reduceEq,or_self,Bool.or_false,Bool.or_true,Bool.false_or,Bool.true_or,Bool.and_assoc,kS]
   .simp -implicitDefEqProofs(maxSteps:=9^9)only[Tryz.f92,↓zA,sevalprocAttr,cR,bO,hk,b0,eq_true b2,b3,bt,bL,e1,e2,e3,e4,e5,e6,e7,e8,e9,e10,ba,bw,hns,kcs,kky,krf,kch,krw,kst,kw,kq,aW,Int.reduceEq,or_self,Bool.or_false,Bool.or_true,Bool.false_or,Bool.true_or,Bool.and_assoc,kS]
  .simp -implicitDefEqProofs(maxSteps:=9^9)only[Tryz.f92,↓zA,sevalprocAttr,cR,bO,hk,b0,b2,bt,bL,e1,e2,e3,e4,e5,e6,e7,e8,e9,e10,ba,bw,hns,kcs,kky,krf,kch,krw,kst,kw,kq,aW,Int.reduceEq,or_self,Bool.or_false,Bool.or_true,Bool.false_or,Bool.true_or,Bool.and_assoc,kS]
 .by_cases b1:s.nm=[]
  .simp -implicitDefEqProofs(maxSteps:=9^9)only[Tryz.f92,↓zA,sevalprocAttr,cR,bO,hk,b0,eq_true b1,bt,bL,e1,e2,e3,e4,e5,e6,e7,e8,e9,e10,ba,bw,hns,kcs,kky,krf,kch,krw,kst,kw,kq,aW,Int.reduceEq,or_self,Bool.or_false,Bool.or_true,Bool.false_or,Bool.true_or,Bool.and_assoc,kS]
  .by_cases b2:s.tb=[]
   .cases b3:aA s.nm
    .simp -implicitDefEqProofs(maxSteps:=9^9)only[Tryz.f92,↓zA,sevalprocAttr,cR,bO,hk,b0,b1,eq_true b2,b3,bt,bL,e1,e2,e3,e4,e5,e6,e7,e8,e9,e10,ba,bw,hns,kcs,kky,krf,kch,krw,kst,kw,kq,aW,Int.reduceEq,or_self,Bool.or_false,Bool.or_true,Bool.false_or,Bool.true_or,Bool.and_assoc,kS]
    .simp -implicitDefEqProofs(maxSteps:=9^9)only[Tryz.f92,↓zA,sevalprocAttr,cR,bO,hk,b0,b1,eq_true b2,b3,bt,bL,e1,e2,e3,e4,e5,e6,e7,e8,e9,e10,ba,bw,hns,kcs,kky,krf,kch,krw,kst,kw,kq,aW,Int.reduceEq,or_self,Bool.or_false,Bool.or_true,Bool.false_or,Bool.true_or,Bool.and_assoc,kS]
   .simp -implicitDefEqProofs(maxSteps:=9^9)only[Tryz.f92,↓zA,sevalprocAttr,cR,bO,hk,b0,b1,b2,bt,bL,e1,e2,e3,e4,e5,e6,e7,e8,e9,e10,ba,bw,hns,kcs,kky,krf,kch,krw,kst,kw,kq,aW,Int.reduceEq,or_self,Bool.or_false,Bool.or_true,Bool.false_or,Bool.true_or,Bool.and_assoc,kS]
theorem aO4 (s:Sm) (g:fz s) (hw:smW s≤WL) (hk:s.kd=4):G1 92 [.of (.agg (smC s))] (ah (bO s)):=by
 have hw':=hw
 simp only[WL,smW] at hw'
 obtain⟨_,_,_,_,_,_,_,_,gch,grw,gst,gwh,gq⟩:=g
 have n1:=bh cdW s.cs fun x _=>by simp[cdW]
 have n2:=bh aZ s.ns fun x _=>by simp[aZ]
 have hns:s.ns.length≤4611686018427387903:=by omega
 have kcs:=zCd s.cs (by omega)
 have kky:=zKd s.kys (by simp only[WL];omega)
 have krf:=zRd s.rfs (by simp only[WL];omega)
 have kch:=zX (dQ s.chs gch (by simp only[WL];omega)) (by simp only[WL];omega)
 have krw:=zR s.rws grw (by simp only[WL];omega)
 have kst:=zAs s.sts gst (by simp only[WL];omega)
 have kw:=j5 s.wh (dQ s.wh gwh (by simp only[WL];omega)) (by simp only[WL];omega)
 have kq:=zQ (jN s.q gq (by simp only[WL];omega)) (by simp only[WL];omega)
 have e1:(aE s.cs.length 1 16&&s.cs.all bR)=am s.cs 1 16 bR:=(ay s.cs 1 16 bR).symm
 have e2:(aE s.kys.length 0 64&&s.kys.all cK)=am s.kys 0 64 cK:=(ay s.kys 0 64 cK).symm
 have e3:(aE s.rfs.length 0 64&&s.rfs.all cz)=am s.rfs 0 64 cz:=(ay s.rfs 0 64 cz).symm
 have e4:(aE s.chs.length 0 64&&s.chs.all aK)=am s.chs 0 64 aK:=(ay s.chs 0 64 aK).symm
 have e5:(aE s.q.length 1 1&&s.q.all bA)=am s.q 1 1 bA:=(ay s.q 1 1 bA).symm
 have e6:(aE s.rws.length 1 64&&s.rws.all fun l=>aE l.length 1 16&&l.all aK)=am s.rws 1 64 (fun r=>am r 1 16 aK):=by
  rw[show am s.rws 1 64 (fun r=>am r 1 16 aK)=_ from ay s.rws 1 64 _]
  congr 2
  funext r
  exact (ay r 1 16 aK).symm
 have e7:(aE s.sts.length 1 16&&s.sts.all cA)=am s.sts 1 16 cA:=(ay s.sts 1 16 cA).symm
 have e8:(aE s.wh.length 0 1&&s.wh.all aK)=am s.wh 0 1 aK:=(ay s.wh 0 1 aK).symm
 have e9:(aE s.ns.length 1 16&&s.ns.all aA)=am s.ns 1 16 aA:=(ay s.ns 1 16 aA).symm
 have e10:(aE s.ns.length 0 16&&s.ns.all aA)=am s.ns 0 16 aA:=(ay s.ns 0 16 aA).symm
 have kS:=aPb s hw
 refine aj rfl aa8 iK rfl ?_
 cases b0:aA s.tb
 .simp -implicitDefEqProofs(maxSteps:=9^9)only[Tryz.f92,↓zA,sevalprocAttr,cR,bO,hk,b0,bt,bL,e1,e2,e3,e4,e5,e6,e7,e8,e9,e10,ba,bw,hns,kcs,kky,krf,kch,krw,kst,kw,kq,aW,Int.reduceEq,or_self,Bool.or_false,Bool.or_true,Bool.false_or,Bool.true_or,Bool.and_assoc,kS]
 cases b1:am s.ns 0 16 aA
 .simp -implicitDefEqProofs(maxSteps:=9^9)only[Tryz.f92,↓zA,sevalprocAttr,cR,bO,hk,b0,b1,bt,bL,e1,e2,e3,e4,e5,e6,e7,e8,e9,e10,ba,bw,hns,kcs,kky,krf,kch,krw,kst,kw,kq,aW,Int.reduceEq,or_self,Bool.or_false,Bool.or_true,Bool.false_or,Bool.true_or,Bool.and_assoc,kS]
 by_cases b2:s.rws.length=0
 .cases b3:am s.q 1 1 bA
  .by_cases b4:s.q.length=0
   .cases b5:am s.rws 1 64 (fun r=>am r 1 16 aK)
    .simp -implicitDefEqProofs(maxSteps:=9^9)only[Tryz.f92,↓zA,sevalprocAttr,cR,bO,hk,b0,b1,eq_true b2,b3,eq_true b4,b5,bt,bL,e1,e2,e3,e4,e5,e6,e7,e8,e9,e10,ba,bw,hns,kcs,kky,krf,kch,krw,kst,kw,kq,aW,Int.reduceEq,or_self,Bool.or_false,Bool.or_true,Bool.false_or,Bool.true_or,Bool.and_assoc,kS]
    .simp -implicitDefEqProofs(maxSteps:=9^9)only[Tryz.f92,↓zA,sevalprocAttr,cR,bO,hk,b0,b1,eq_true b2,b3,eq_true b4,b5,bt,bL,e1,e2,e3,e4,e5,e6,e7,e8,e9,e10,ba,bw,hns,kcs,kky,krf,kch,krw,kst,kw,kq,aW,Int.reduceEq,or_self,Bool.or_false,Bool.or_true,Bool.false_or,Bool.true_or,Bool.and_assoc,kS]
   .simp -implicitDefEqProofs(maxSteps:=9^9)only[Tryz.f92,↓zA,sevalprocAttr,cR,bO,hk,b0,b1,eq_true b2,b3,b4,bt,bL,e1,e2,e3,e4,e5,e6,e7,e8,e9,e10,ba,bw,hns,kcs,kky,krf,kch,krw,kst,kw,kq,aW,Int.reduceEq,or_self,Bool.or_false,Bool.or_true,Bool.false_or,Bool.true_or,Bool.and_assoc,kS]
  .simp -implicitDefEqProofs(maxSteps:=9^9)only[Tryz.f92,↓zA,sevalprocAttr,cR,bO,hk,b0,b1,eq_true b2,b3,bt,bL,e1,e2,e3,e4,e5,e6,e7,e8,e9,e10,ba,bw,hns,kcs,kky,krf,kch,krw,kst,kw,kq,aW,Int.reduceEq,or_self,Bool.or_false,Bool.or_true,Bool.false_or,Bool.true_or,Bool.and_assoc,kS]
 .by_cases b4:s.q.length=0
  .cases b5:am s.rws 1 64 (fun r=>am r 1 16 aK)
   .simp -implicitDefEqProofs(maxSteps:=9^9)only[Tryz.f92,↓zA,sevalprocAttr,cR,bO,hk,b0,b1,b2,eq_true b4,b5,bt,bL,e1,e2,e3,e4,e5,e6,e7,e8,e9,e10,ba,bw,hns,kcs,kky,krf,kch,krw,kst,kw,kq,aW,Int.reduceEq,or_self,Bool.or_false,Bool.or_true,Bool.false_or,Bool.true_or,Bool.and_assoc,kS]
   .simp -implicitDefEqProofs(maxSteps:=9^9)only[Tryz.f92,↓zA,sevalprocAttr,cR,bO,hk,b0,b1,b2,eq_true b4,b5,bt,bL,e1,e2,e3,e4,e5,e6,e7,e8,e9,e10,ba,bw,hns,kcs,kky,krf,kch,krw,kst,kw,kq,aW,Int.reduceEq,or_self,Bool.or_false,Bool.or_true,Bool.false_or,Bool.true_or,Bool.and_assoc,kS]
  .simp -implicitDefEqProofs(maxSteps:=9^9)only[Tryz.f92,↓zA,sevalprocAttr,cR,bO,hk,b0,b1,b2,b4,bt,bL,e1,e2,e3,e4,e5,e6,e7,e8,e9,e10,ba,bw,hns,kcs,kky,krf,kch,krw,kst,kw,kq,aW,Int.reduceEq,or_self,Bool.or_false,Bool.or_true,Bool.false_or,Bool.true_or,Bool.and_assoc,kS]
theorem aLv (s:Sm) (h:∀ k:Int,1≤k→k≤14→¬s.kd=k):G1 92 [.of (.agg (smC s))] (ah (bO s)):=by
 refine aj rfl aa8 iK rfl ?_
 simp -implicitDefEqProofs(maxSteps:=9^9)only[Tryz.f92,↓zA,sevalprocAttr,cR,bO,ba,h 1 (by decide) (by decide),h 2 (by decide) (by decide),h 3 (by decide) (by decide),h 4 (by decide) (by decide),h 5 (by decide) (by decide),h 6 (by decide) (by decide),h 7 (by decide) (by decide),h 8 (by decide) (by decide),h 9 (by decide) (by decide),h 10 (by decide) (by decide),h 11 (by decide) (by decide),h 12 (by decide) (by decide),h 13 (by decide) (by decide),h 14 (by decide) (by decide),or_self]
theorem aBv (s:Sm) (g:fz s) (hw:smW s≤WL):G1 92 [.of (.agg (smC s))] (ah (bO s)):=by
 by_cases h:1≤s.kd∧s.kd≤14
 .have hk:s.kd=1∨s.kd=2∨s.kd=3∨s.kd=4∨s.kd=5∨s.kd=6∨s.kd=7∨s.kd=8∨s.kd=9∨s.kd=10∨s.kd=11∨s.kd=12∨s.kd=13∨s.kd=14:=by omega
  rcases hk with hk|hk|hk|hk|hk|hk|hk|hk|hk|hk|hk|hk|hk|hk
  .exact aO7 s g hw hk
  .exact aO6 s g hw hk
  .exact aO5 s g hw hk
  .exact aO4 s g hw hk
  .exact aO3 s g hw hk
  .exact aO2 s g hw hk
  .exact aO1 s g hw hk
  .exact aO0 s g hw hk
  .exact aOZ s g hw hk
  .exact aLB s g hw hk
  .exact aLA s g hw hk
  .exact aLz s g hw hk
  .exact aLy s g hw hk
  .exact aLx s g hw hk
 .exact aLv s fun k h1 h2 e=>h (by omega)
def aOJ:=ai (ai (ai @zq (ai @aXm @aWn)) (ai @aTI (ai @aIl @aEP))) (ai (ai @aWm (ai @aTH @fa)) (ai @zT0 (ai @aDH (aw aSE))))
theorem aij (s:Sm) (h:fz s∧smW s≤WL):G1 42 [.of (.agg (smC s))] (ah (cd s)):=by
 have k1:=fun K=>ae.k (aoA s h.2) K
 have k2:=fun K=>ae.k (aBv s h.1 h.2) K
 refine aj rfl aSE aDH rfl ?_
 cases c:iB (ky s)
 .simp -implicitDefEqProofs(maxSteps:=9^9)only[Tryz.f42,↓zA,sevalprocAttr,aOJ,k1,alI,c,cd]
 .simp -implicitDefEqProofs(maxSteps:=9^9)only[Tryz.f42,↓zA,sevalprocAttr,aOJ,k1,k2,alI,c,cd]
theorem aiq (l:List Tb) (h:l.length≤1048576) (K:An→Prop):aG Tryz.prog pr 47 [.of (slC tbC l)] [] K↔K ⟨false,[.own (.nm 0 0 0) 48 6 (fl tbC l) l.length],[]⟩:=ae.k (ae.of_prim (by simp[pr,abA,iw,slC,h,kK (f:=tbC) (z:=6) aiS l])) K
theorem aor (l:List Ix) (h:l.length≤1048576) (K:An→Prop):aG Tryz.prog pr 52 [.of (slC ixC l)] [] K↔K ⟨false,[.own (.nm 0 0 0) 60 5 (fl ixC l) l.length],[]⟩:=ae.k (ae.of_prim (by simp[pr,abA,iw,slC,h,kK (f:=ixC) (z:=5) adQ l])) K
theorem aA2 (l:List Cd) (h:l.length≤1048576) (K:An→Prop):aG Tryz.prog pr 50 [.of (slC cdC l)] [] K↔K ⟨false,[.own (.nm 0 0 0) 53 3 (fl cdC l) l.length],[]⟩:=ae.k (ae.of_prim (by simp[pr,abA,iw,slC,h,kK (f:=cdC) (z:=3) ajc l])) K
theorem aHZ (l:List Xp) (h:l.length≤1048576) (K:An→Prop):aG Tryz.prog pr 51 [.of (slC xpC l)] [] K↔K ⟨false,[.own (.nm 0 0 0) 88 9 (fl xpC l) l.length],[]⟩:=ae.k (ae.of_prim (by simp[pr,abA,iw,slC,h,kK (f:=xpC) (z:=9) aiP l])) K
theorem aOC (l:List Int) (h:l.length≤1048576) (K:An→Prop):aG Tryz.prog pr 55 [.of (slC aV l)] [] K↔K ⟨false,[.own (.nm 0 0 0) 3 1 (fl aV l) l.length],[]⟩:=ae.k (ae.of_prim (by simp[pr,abA,iw,slC,h,kK (f:=aV) (z:=1) (fun _=>rfl) l])) K
def adX:=ai (ai (ai (ai (ai @zq @aYx) (ai @aYw @aYv)) (ai (ai @aiW @afH) (ai @ay6 (ai @asc @aIv)))) (ai (ai (ai @aEZ @ak9) (ai @aif @agu)) (ai (ai @aeq @aYu) (ai @ay3 (ai @ar8 @ay4))))) (ai (ai (ai (ai @ar9 @aYt) (ai @aIx @aE1)) (ai (ai @cU @fa) (ai @dH (ai @fb @dw)))) (ai (ai (ai @cW @bH) (ai @P3 @Q3)) (ai (ai @Q9 @Q4) (ai @zT0 (ai @aD5 (aw aS2))))))
theorem aqx (c:Ct) (s:Sm) (hc:CtB c) (so:fz s) (hs:smW s≤LB):GN 18 [.of (.agg (ctC c)),.of (.agg (smC s))] (doR (cB c s)):=by
 obtain⟨h1,h2,h3,h3',h4,h5,h6,h4'⟩:=abl s hs
 have h7:=hc.x
 have h8:=hc.t
 have hlb:LB=1073741824:=rfl
 have hln:ee=1099511627776:=rfl
 have kst:=fun K=>ae.k (aij s ⟨so,by simp only[WL];omega⟩) K
 have hns:s.ns.length≤4611686018427387903:=by omega
 have kn:=fun K=>ae.k (ad5 c s.nm (by omega)) K
 have kF:=fun K=>ae.k (aaT c s.tb (by omega)) K
 have kR:=fun K=>ae.k (kA c hc) K
 refine aj rfl aS2 aD5 rfl ?_
 cases b0:bz c
 .have F:cB c s=(c,1):=by unfold cB;simp[b0]
  simp -implicitDefEqProofs(maxSteps:=9^9)only[Tryz.f18,↓zA,sevalprocAttr,adX,kR,kst,kn,co,hns,b0,F,br]
  try rfl
 obtain⟨_,_,hlo,hhi,_⟩:=(fd c).1 b0
 have hw1:=aiQ c.nx (by omega) (by omega)
 have e64:((64:Int)≤(c.ixs.length:Int))=(64≤c.ixs.length):=propext (by omega)
 have el:((1099511627776:Int)≤c.nx)=(ee≤c.nx):=propext (by omega)
 by_cases hk:s.kd=2
 rotate_left
 .have F:cB c s=(c,1):=by unfold cB;simp[b0,hk]
  simp -implicitDefEqProofs(maxSteps:=9^9)only[Tryz.f18,↓zA,sevalprocAttr,adX,kR,kst,kn,co,hns,b0,hk,F,br]
  try rfl
 cases b1:cd s
 .have F:cB c s=(c,1):=by unfold cB;simp[b0,hk,b1]
  simp -implicitDefEqProofs(maxSteps:=9^9)only[Tryz.f18,↓zA,sevalprocAttr,adX,kR,kst,kn,co,hns,b0,eq_true hk,b1,F,br]
  try rfl
 cases b2:gg c s.nm
 rotate_left
 .have F:cB c s=(c,7):=by unfold cB;simp[b0,hk,b1,b2]
  simp -implicitDefEqProofs(maxSteps:=9^9)only[Tryz.f18,↓zA,sevalprocAttr,adX,kR,kst,kn,co,hns,b0,eq_true hk,b1,b2,F,br]
  try rfl
 by_cases c3:s.ns.Nodup
 rotate_left
 .have F:cB c s=(c,7):=by unfold cB;simp[b0,hk,b1,b2,c3]
  simp -implicitDefEqProofs(maxSteps:=9^9)only[Tryz.f18,↓zA,sevalprocAttr,adX,kR,kst,kn,co,hns,b0,eq_true hk,b1,b2,c3,F,br]
  try rfl
 by_cases c4:64≤c.ixs.length
 .have F:cB c s=(c,18):=by unfold cB;simp[b0,hk,b1,b2,c3,c4]
  simp -implicitDefEqProofs(maxSteps:=9^9)only[Tryz.f18,↓zA,sevalprocAttr,adX,kR,kst,kn,co,hns,b0,eq_true hk,b1,b2,c3,e64,hw1,el,c4,F,br]
  try rfl
 by_cases c5:ee≤c.nx
 .have F:cB c s=(c,18):=by unfold cB;simp[b0,hk,b1,b2,c3,c5]
  simp -implicitDefEqProofs(maxSteps:=9^9)only[Tryz.f18,↓zA,sevalprocAttr,adX,kR,kst,kn,co,hns,b0,eq_true hk,b1,b2,c3,e64,hw1,el,c4,c5,F,br]
  try rfl
 have hu:cB c s=match bx c s.tb with
   | none=>(c,6)
   | some t=>match bC t.cs s.ns with
    | none=>(c,6)
    | some l=>(⟨c.tbs,c.ixs++[⟨s.nm,c.nx,s.tb,l,s.un⟩],c.nx+1⟩,0):=by
  unfold cB;simp[b0,hk,b1,b2,c3,c4,c5];rfl
 rcases jV (fun t:Tb=>decide (t.nm=s.tb)) c.tbs with ⟨hi,hf⟩|⟨j,hj,hi,hf⟩
 .have hfn:bx c s.tb=none:=hf
  rw[hfn] at hu
  dsimp only at hu
  have kp:=fun K=>ae.k (js ays.cs s.ns (Nat.zero_le _) h3') K
  cases hp:bC ays.cs s.ns with
  | none =>
   simp -implicitDefEqProofs(maxSteps:=9^9)only[Tryz.f18,↓zA,sevalprocAttr,adX,kR,kst,kn,co,hns,b0,eq_true hk,b1,b2,c3,e64,hw1,el,c4,c5,kF,hfn,aaH,kp,hp,ia,hu,br]
   try rfl
  | some l =>
   simp -implicitDefEqProofs(maxSteps:=9^9)only[Tryz.f18,↓zA,sevalprocAttr,adX,kR,kst,kn,co,hns,b0,eq_true hk,b1,b2,c3,e64,hw1,el,c4,c5,kF,hfn,aaH,kp,hp,bP,hu,br]
   try rfl
 have hu2:=hc.tb _ (List.getElem_mem hj)
 have hfn:bx c s.tb=some c.tbs[j]:=hf
 generalize c.tbs[j]=u at *
 have hu1:=hu2.c
 rw[hfn] at hu
 dsimp only at hu
 have kp:=fun K=>ae.k (js u.cs s.ns (by omega) h3') K
 cases hp:bC u.cs s.ns with
 | none =>
  rw[hp] at hu
  simp -implicitDefEqProofs(maxSteps:=9^9)only[Tryz.f18,↓zA,sevalprocAttr,adX,kR,kst,kn,co,hns,b0,eq_true hk,b1,b2,c3,e64,hw1,el,c4,c5,kF,hfn,fq,kp,hp,ia,hu,br]
  try rfl
 | some l =>
  rw[hp] at hu
  dsimp only at hu
  have hl2:c.ixs.length+1≤LIM:=by unfold LIM;omega
  have ct:=fun K=>aiq c.tbs (by omega) K
  have cx:=fun K=>aor c.ixs (by omega) K
  simp -implicitDefEqProofs(maxSteps:=9^9)only[Tryz.f18,↓zA,sevalprocAttr,adX,kR,kst,kn,co,hns,b0,eq_true hk,b1,b2,c3,e64,hw1,el,c4,c5,kF,hfn,fq,kp,hp,bP,hu,br,hl2,ct,cx]
  have e:=acz ixC c.ixs ⟨s.nm,c.nx,s.tb,l,s.un⟩
  exact congrArg (fun y=>some (⟨false,[X.of (C.agg [slC tbC c.tbs,y,ci (c.nx+1)]),ak 0],[]⟩ : An)) e
def aOK:Rf:=⟨[],[],[]⟩
def rR:Rf ⊕ Int→List X
 | .inl x=>[.of (.agg (rfC x)),ak 0]
 | .inr e=>[.of (.agg (rfC aOK)),ak e]
theorem amI (x:Rf):rR (.inl x)=[.of (.agg (rfC x)),ak 0]:=rfl
theorem ab6 (e:Int):rR (.inr e)=[.of (.agg (rfC aOK)),ak e]:=rfl
theorem aOO (o:Option Tb):∃ u b,tbR o=[.of (.agg (tbC u)),ah b]:=by
 cases o with
 | none=>exact⟨_,_,rfl⟩
 | some t=>exact⟨_,_,rfl⟩
def aVC:=ai (ai (ai @zq @aYG) (ai @aq7 @anh)) (ai (ai @il @cV) (ai @zT0 (ai @awY (aw aK6))))
theorem aeK (k:Ky) (q:List Int) (h:k.cs.length≤4611686018427387903):G1 104 [.of (.agg (kyC k)),.of (.ref [slC aV q])] (ah (decide (k.cs=q))):=by
 have ke:=fun K=>anz k.cs q h K
 have er:eqR (fun x y=>decide (x=y)) k.cs q=decide (k.cs=q):=afB _ _ _ fun _ _ _ _=>rfl
 refine aj rfl aK6 awY rfl ?_
 simp -implicitDefEqProofs(maxSteps:=9^9)only[Tryz.f104,↓zA,sevalprocAttr,aVC,ke,er]
def aaw:=ai (ai (ai (ai @zq (ai @aYM @aYL)) (ai (ai @aYK @aYJ) (ai @ay3 @ar8))) (ai (ai (ai @agu @aeq) (ai @aYI @aYH)) (ai (ai @T58 @ayV) (ai @ar1 @cU)))) (ai (ai (ai (ai @dH @dw) (ai @jy @aaC)) (ai (ai @il @cE) (ai @cV @bH))) (ai (ai (ai @aq8 @ani) (ai @Q9 @P3)) (ai (ai @Q3 @zT0) (ai @aDx (aw aSv)))))
theorem aaa (c:Ct) (t:Tb) (f:Rd) (hc:CtB c) (ht1:t.cs.length≤LB) (ht2:t.kys.length≤LB) (ht3:∀ k∈t.kys,k.cs.length≤LB) (hf1:f.ns.length≤LB) (hf2:f.to.length≤LB):GN 56 [.of (.agg (ctC c)),.of (.agg (tbC t)),.of (.agg (rdC f))] (rR (cq c t.nm t.cs t.kys f)):=by
 have h1:=hc.t
 have hlb:LB=1073741824:=rfl
 have kF:=fun K=>ae.k (aaT c f.tb (by omega)) K
 have kp:=fun K=>ae.k (js t.cs f.ns (by omega) hf1) K
 refine aj rfl aSv aDx rfl ?_
 cases hp:bC t.cs f.ns with
 | none =>
  have hr:cq c t.nm t.cs t.kys f=.inr 6:=aGp hp
  simp -implicitDefEqProofs(maxSteps:=9^9)only[Tryz.f56,↓zA,sevalprocAttr,aaw,kp,hp,ia,hr,ab6]
  try rfl
 | some l =>
  have hl:=eJ hp
  have hlr:=kE hp
  by_cases ht:f.tb=t.nm
  .obtain⟨u,b,hu⟩:=aOO (bx c f.tb)
   have ho3:=ht3
   have hto:toT c t.nm t.cs t.kys f t.cs t.kys:=.inl ⟨ht,rfl,rfl⟩
   have hr:=ard (l:=l) hp hto
   have kp2:=fun K=>ae.k (js t.cs f.to (by omega) hf2) K
   cases hp2:bC t.cs f.to with
   | none =>
    rw[hp2] at hr
    dsimp only at hr
    simp -implicitDefEqProofs(maxSteps:=9^9)only[Tryz.f56,↓zA,sevalprocAttr,aaw,kp,hp,bP,kF,av,aU,aN,hu,eq_true ht,kp2,hp2,ia,hr,ab6]
    try rfl
   | some q =>
    rw[hp2] at hr
    dsimp only at hr
    have hl2:=eJ hp2
    have hqr:=kE hp2
    have e11:((l.length:Int)=(q.length:Int))=(l.length=q.length):=propext (by omega)
    by_cases c1:l.length=q.length
    rotate_left
    .rw[if_pos c1] at hr
     simp -implicitDefEqProofs(maxSteps:=9^9)only[Tryz.f56,↓zA,sevalprocAttr,aaw,kp,hp,bP,kF,av,aU,aN,hu,eq_true ht,kp2,hp2,bP,e11,c1,hr,ab6]
     try rfl
    rw[if_neg (fun h=>h c1)] at hr
    have kc:=fun K=>ajp t.kys (fun k=>decide (k.cs=q)) 104 [.ref [slC aV q]] ⟨by omega,aq8,ani,fun k hk=>aeK k q (by have:=ho3 k hk;omega)⟩ K
    have ek:(t.kys.any fun k=>decide (k.cs=q))=fF t.kys q:=rfl
    cases b3:fF t.kys q
    .rw[b3] at hr
     simp only[Bool.not_false,if_true] at hr
     simp -implicitDefEqProofs(maxSteps:=9^9)only[Tryz.f56,↓zA,sevalprocAttr,aaw,kp,hp,bP,kF,av,aU,aN,hu,eq_true ht,kp2,hp2,bP,e11,eq_true c1,kc,ek,b3,hr,ab6]
     try rfl
    rw[b3] at hr
    simp only[Bool.not_true,Bool.false_eq_true,if_false] at hr
    simp -implicitDefEqProofs(maxSteps:=9^9)only[Tryz.f56,↓zA,sevalprocAttr,aaw,kp,hp,bP,kF,av,aU,aN,hu,eq_true ht,kp2,hp2,bP,e11,eq_true c1,kc,ek,b3]
    refine aL (l.length) (fun k tk=>tk.fr 4=.of (.ref [ao (ar t.nm),ci t.id,slC cdC t.cs,slC kyC t.kys,slC rfC t.rfs,slC xpC t.chs])∧tk.fr 5=.of (.ref [slC bd f.ns,ao (ar f.tb),slC bd f.to])∧tk.fr 6=.ptr 0 0∧tk.fr 8=.of (slC aV l)∧tk.fr 10=.ptr 1 0∧tk.fr 12=.of (.ref [slC aV q])∧tk.fr 68=.of (slC aV l)∧tk.fr 69=ak l.length∧tk.fr 70=ak k∧tk.objs=[.var 99 [.nil,dA {data:=#[]},.nil],.var 48 [dA (ar t.nm),ak t.id,.of (slC cdC t.cs),.of (slC kyC t.kys),.of (slC rfC t.rfs),.of (slC xpC t.chs)]]∧db t.cs t.cs l q=db t.cs t.cs (l.drop k) (q.drop k)) ?_ ?_
    .simp -implicitDefEqProofs(maxSteps:=9^9)only[Tryz.f56,↓zA,sevalprocAttr,aaw]
     try exact rfl
     try exact⟨rfl,rfl⟩
    rintro k ⟨frk,obk,ckk⟩ hk ⟨f4,f5,f6,f8,f10,f12,f68,f69,f70,fo,Ek⟩
    dsimp only at f4 f5 f6 f8 f10 f12 f68 f69 f70 fo
    rcases Nat.lt_or_ge k (l.length) with dk|dk
    .have hw:=aQ k (by omega)
     have gx:=ap dk
     have dk':k<q.length:=by omega
     have gy:=ap dk'
     obtain⟨i,hi⟩:=Int.eq_ofNat_of_zero_le (hlr _ (List.getElem_mem dk)).1
     have hi2:=(hlr _ (List.getElem_mem dk)).2
     obtain⟨j,hj⟩:=Int.eq_ofNat_of_zero_le (hqr _ (List.getElem_mem dk')).1
     have hj2:=(hqr _ (List.getElem_mem dk')).2
     rw[aJ dk,aJ dk',db] at Ek
     rw[hi] at hi2 gx Ek
     rw[hj] at hj2 gy Ek
     have hi3:i<t.cs.length:=by omega
     have hj3:j<t.cs.length:=by omega
     have ga:=ap hi3
     have gb:=ap hj3
     have ea:kj t.cs (i:Int)=some t.cs[i].ty:=by simp[kj,hi3]
     have eb:kj t.cs (j:Int)=some t.cs[j].ty:=by simp[kj,hj3]
     rw[ea,eb,decide_eq_true (Int.natCast_nonneg j),decide_eq_true hj2] at Ek
     generalize hpp:t.cs[i]=p at *
     generalize hqq:t.cs[j]=p' at *
     by_cases c7:p.ty=p'.ty
     .have F:db t.cs t.cs l q=db t.cs t.cs (l.drop (k+1)) (q.drop (k+1)):=by rw[Ek,decide_eq_true (congrArg some c7)];rfl
      simp -implicitDefEqProofs(maxSteps:=9^9)only[Tryz.f56,↓zA,sevalprocAttr,aaw,f4,f5,f6,f8,f10,f12,f68,f69,f70,fo,aa,dk,gx,gy,hw,ga,gb,aU,aN,eq_true c7,F]
     .have F:db t.cs t.cs l q=false:=by rw[Ek,decide_eq_false (fun e:some p.ty=some p'.ty=>c7 (Option.some.inj e)),Bool.and_false,Bool.false_and]
      rw[F] at hr
      simp only[Bool.not_false,if_true] at hr
      simp -implicitDefEqProofs(maxSteps:=9^9)only[Tryz.f56,↓zA,sevalprocAttr,aaw,f4,f5,f6,f8,f10,f12,f68,f69,f70,fo,aa,dk,gx,gy,hw,ga,gb,aU,aN,c7,hr,ab6]
      try rfl
    have e:k=l.length:=by omega
    subst e
    rw[List.drop_length,agc] at Ek
    rw[Ek] at hr
    simp only[Bool.not_true,Bool.false_eq_true,if_false] at hr
    simp -implicitDefEqProofs(maxSteps:=9^9)only[Tryz.f56,↓zA,sevalprocAttr,aaw,f4,f5,f6,f8,f10,f12,f68,f69,f70,fo,aa,Nat.lt_irrefl,hr,amI,aU,aN]
    try rfl
  cases hf:bx c f.tb with
  | none =>
   have hr:cq c t.nm t.cs t.kys f=.inr 6:=azd hp ht hf
   simp -implicitDefEqProofs(maxSteps:=9^9)only[Tryz.f56,↓zA,sevalprocAttr,aaw,kp,hp,bP,kF,av,aU,aN,hf,aaH,ht,hr,ab6]
   try rfl
  | some o =>
   have ho:=hc.tb o (aa1 hf).1
   have ho0:=ho.c
   have ho1:=ho.k
   have ho3:=ho.kc
   have hto:toT c t.nm t.cs t.kys f o.cs o.kys:=.inr ⟨ht,o,hf,rfl,rfl⟩
   have hr:=ard (l:=l) hp hto
   have kp2:=fun K=>ae.k (js o.cs f.to (by omega) hf2) K
   cases hp2:bC o.cs f.to with
   | none =>
    rw[hp2] at hr
    dsimp only at hr
    simp -implicitDefEqProofs(maxSteps:=9^9)only[Tryz.f56,↓zA,sevalprocAttr,aaw,kp,hp,bP,kF,av,aU,aN,hf,fq,ht,kp2,hp2,ia,hr,ab6]
    try rfl
   | some q =>
    rw[hp2] at hr
    dsimp only at hr
    have hl2:=eJ hp2
    have hqr:=kE hp2
    have e11:((l.length:Int)=(q.length:Int))=(l.length=q.length):=propext (by omega)
    by_cases c1:l.length=q.length
    rotate_left
    .rw[if_pos c1] at hr
     simp -implicitDefEqProofs(maxSteps:=9^9)only[Tryz.f56,↓zA,sevalprocAttr,aaw,kp,hp,bP,kF,av,aU,aN,hf,fq,ht,kp2,hp2,bP,e11,c1,hr,ab6]
     try rfl
    rw[if_neg (fun h=>h c1)] at hr
    have kc:=fun K=>ajp o.kys (fun k=>decide (k.cs=q)) 104 [.ref [slC aV q]] ⟨by omega,aq8,ani,fun k hk=>aeK k q (by have:=ho3 k hk;omega)⟩ K
    have ek:(o.kys.any fun k=>decide (k.cs=q))=fF o.kys q:=rfl
    cases b3:fF o.kys q
    .rw[b3] at hr
     simp only[Bool.not_false,if_true] at hr
     simp -implicitDefEqProofs(maxSteps:=9^9)only[Tryz.f56,↓zA,sevalprocAttr,aaw,kp,hp,bP,kF,av,aU,aN,hf,fq,ht,kp2,hp2,bP,e11,eq_true c1,kc,ek,b3,hr,ab6]
     try rfl
    rw[b3] at hr
    simp only[Bool.not_true,Bool.false_eq_true,if_false] at hr
    simp -implicitDefEqProofs(maxSteps:=9^9)only[Tryz.f56,↓zA,sevalprocAttr,aaw,kp,hp,bP,kF,av,aU,aN,hf,fq,ht,kp2,hp2,bP,e11,eq_true c1,kc,ek,b3]
    refine aL (l.length) (fun k tk=>tk.fr 4=.of (.ref [ao (ar t.nm),ci t.id,slC cdC t.cs,slC kyC t.kys,slC rfC t.rfs,slC xpC t.chs])∧tk.fr 5=.of (.ref [slC bd f.ns,ao (ar f.tb),slC bd f.to])∧tk.fr 6=.ptr 0 0∧tk.fr 8=.of (slC aV l)∧tk.fr 10=.ptr 1 0∧tk.fr 12=.of (.ref [slC aV q])∧tk.fr 68=.of (slC aV l)∧tk.fr 69=ak l.length∧tk.fr 70=ak k∧tk.objs=[.var 99 [.nil,dA {data:=#[]},.nil],.var 48 [dA (ar o.nm),ak o.id,.of (slC cdC o.cs),.of (slC kyC o.kys),.of (slC rfC o.rfs),.of (slC xpC o.chs)]]∧db t.cs o.cs l q=db t.cs o.cs (l.drop k) (q.drop k)) ?_ ?_
    .simp -implicitDefEqProofs(maxSteps:=9^9)only[Tryz.f56,↓zA,sevalprocAttr,aaw]
     try exact rfl
     try exact⟨rfl,rfl⟩
    rintro k ⟨frk,obk,ckk⟩ hk ⟨f4,f5,f6,f8,f10,f12,f68,f69,f70,fo,Ek⟩
    dsimp only at f4 f5 f6 f8 f10 f12 f68 f69 f70 fo
    rcases Nat.lt_or_ge k (l.length) with dk|dk
    .have hw:=aQ k (by omega)
     have gx:=ap dk
     have dk':k<q.length:=by omega
     have gy:=ap dk'
     obtain⟨i,hi⟩:=Int.eq_ofNat_of_zero_le (hlr _ (List.getElem_mem dk)).1
     have hi2:=(hlr _ (List.getElem_mem dk)).2
     obtain⟨j,hj⟩:=Int.eq_ofNat_of_zero_le (hqr _ (List.getElem_mem dk')).1
     have hj2:=(hqr _ (List.getElem_mem dk')).2
     rw[aJ dk,aJ dk',db] at Ek
     rw[hi] at hi2 gx Ek
     rw[hj] at hj2 gy Ek
     have hi3:i<t.cs.length:=by omega
     have hj3:j<o.cs.length:=by omega
     have ga:=ap hi3
     have gb:=ap hj3
     have ea:kj t.cs (i:Int)=some t.cs[i].ty:=by simp[kj,hi3]
     have eb:kj o.cs (j:Int)=some o.cs[j].ty:=by simp[kj,hj3]
     rw[ea,eb,decide_eq_true (Int.natCast_nonneg j),decide_eq_true hj2] at Ek
     generalize hpp:t.cs[i]=p at *
     generalize hqq:o.cs[j]=p' at *
     by_cases c7:p.ty=p'.ty
     .have F:db t.cs o.cs l q=db t.cs o.cs (l.drop (k+1)) (q.drop (k+1)):=by rw[Ek,decide_eq_true (congrArg some c7)];rfl
      simp -implicitDefEqProofs(maxSteps:=9^9)only[Tryz.f56,↓zA,sevalprocAttr,aaw,f4,f5,f6,f8,f10,f12,f68,f69,f70,fo,aa,dk,gx,gy,hw,ga,gb,aU,aN,eq_true c7,F]
     .have F:db t.cs o.cs l q=false:=by rw[Ek,decide_eq_false (fun e:some p.ty=some p'.ty=>c7 (Option.some.inj e)),Bool.and_false,Bool.false_and]
      rw[F] at hr
      simp only[Bool.not_false,if_true] at hr
      simp -implicitDefEqProofs(maxSteps:=9^9)only[Tryz.f56,↓zA,sevalprocAttr,aaw,f4,f5,f6,f8,f10,f12,f68,f69,f70,fo,aa,dk,gx,gy,hw,ga,gb,aU,aN,c7,hr,ab6]
      try rfl
    have e:k=l.length:=by omega
    subst e
    rw[List.drop_length,agc] at Ek
    rw[Ek] at hr
    simp only[Bool.not_true,Bool.false_eq_true,if_false] at hr
    simp -implicitDefEqProofs(maxSteps:=9^9)only[Tryz.f56,↓zA,sevalprocAttr,aaw,f4,f5,f6,f8,f10,f12,f68,f69,f70,fo,aa,Nat.lt_irrefl,hr,amI,aU,aN]
    try rfl
def a0o:=ai (ai @zq (ai @aYm @aaC)) (ai (ai @Q9 @zT0) (ai @aCX (aw aRW)))
theorem alR (f:Rf) (tb:List UInt8):G1 94 [.of (.agg (rfC f)),.of (.ref [ao (ar tb)])] (ah (decide (f.tb=tb))):=by
 refine aj rfl aRW aCX rfl ?_
 simp -implicitDefEqProofs(maxSteps:=9^9)only[Tryz.f94,↓zA,sevalprocAttr,a0o,av]
def iQ:=ai (ai (ai (ai @zq (ai @aYs @aYr)) (ai @T9 (ai @aYq @agu))) (ai (ai @aeq (ai @aYp @aYo)) (ai (ai @aYn @aWl) (ai @aTG @aYl)))) (ai (ai (ai @cU (ai @dH @fb)) (ai (ai @aaC @d9) (ai @cW @aIk))) (ai (ai @aEO (ai @Q9 @P3)) (ai (ai @Q3 @zT0) (ai @aDG (aw aSD)))))
theorem am4 (c:Ct) (tb:List UInt8) (hc:CtB c):GN 43 [.of (.agg (ctC c)),.of (ao (ar tb))] (doR (eO c tb)):=by
 have hlb:LB=1073741824:=rfl
 have h1:=hc.t
 have h2:=hc.x
 have kF:=fun K=>ae.k (aaT c tb (by omega)) K
 refine aj rfl aSD aDG rfl ?_
 cases hf:bx c tb with
 | none =>
  have F:=ah7 hf
  simp -implicitDefEqProofs(maxSteps:=9^9)only[Tryz.f43,↓zA,sevalprocAttr,iQ,kF,hf,aaH,F,br]
  try rfl
 | some t0 =>
  simp -implicitDefEqProofs(maxSteps:=9^9)only[Tryz.f43,↓zA,sevalprocAttr,iQ,kF,hf,fq]
  refine aL (c.tbs.length) (fun k tk=>tk.fr 2=.of (.ref [slC tbC c.tbs,slC ixC c.ixs,ci c.nx])∧tk.fr 3=.of (.ref [ao (ar tb)])∧tk.fr 4=.ptr 0 0∧tk.fr 8=.ptr 1 0∧tk.fr 26=.of (slC tbC c.tbs)∧tk.fr 27=ak c.tbs.length∧tk.fr 28=ak k∧(c.tbs.any (fun t:Tb=>decide (t.nm≠tb)&&t.rfs.any fun f=>decide (f.tb=tb)))=(c.tbs.drop k).any (fun t:Tb=>decide (t.nm≠tb)&&t.rfs.any fun f=>decide (f.tb=tb))∧∃ T,tk.objs=[.var 27 [.nil,.nil,ak 0],.var 27 [T,.nil,ak c.nx]]∧(((c.tbs.take k).filter (fun t:Tb=>decide (t.nm≠tb))=[]∧T=.nil)∨T=.own (.cell 1 0) 48 6 (fl tbC ((c.tbs.take k).filter (fun t:Tb=>decide (t.nm≠tb)))) ((c.tbs.take k).filter (fun t:Tb=>decide (t.nm≠tb))).length)) ?_ ?_
  .simp -implicitDefEqProofs(maxSteps:=9^9)only[Tryz.f43,↓zA,sevalprocAttr,iQ]
   first|exact⟨_,rfl,by first|exact .inl ⟨rfl,rfl⟩|exact .inl rfl⟩|exact⟨_,rfl⟩|exact⟨rfl,_,rfl,by first|exact .inl ⟨rfl,rfl⟩|exact .inl rfl⟩
  rintro k ⟨frk,obk,ckk⟩ hk ⟨f2,f3,f4,f8,f26,f27,f28,Ek,T,fo,hO⟩
  dsimp only at f2 f3 f4 f8 f26 f27 f28 fo
  rcases Nat.lt_or_ge k (c.tbs.length) with dk|dk
  .have hw:=aQ k (by omega)
   have gx:=ap dk
   have hle:((c.tbs.take k).filter (fun t:Tb=>decide (t.nm≠tb))).length≤k:=Nat.le_trans (List.length_filter_le ..) (by rw[List.length_take];omega)
   have hn:((c.tbs.take k).filter (fun t:Tb=>decide (t.nm≠tb))).length+1≤LIM:=by unfold LIM;omega
   have hu:=hc.tb _ (List.getElem_mem dk)
   rw[aJ dk,List.any_cons] at Ek
   by_cases c0:c.tbs[k].nm=tb
   .rw[gl dk (by simp[c0])]
    rw[decide_eq_false (fun h=>h c0),Bool.false_and,Bool.false_or] at Ek
    generalize c.tbs[k]=x at *
    rcases hO with ⟨hT0,rfl⟩|rfl
    .skip
     simp -implicitDefEqProofs(maxSteps:=9^9)only[Tryz.f43,↓zA,sevalprocAttr,iQ,f2,f3,f4,f8,f26,f27,f28,aa,fo,dk,gx,hw,av,eq_true c0,aU,aN]
     exact⟨Ek,_,rfl,.inl ⟨hT0,rfl⟩⟩
    .skip
     simp -implicitDefEqProofs(maxSteps:=9^9)only[Tryz.f43,↓zA,sevalprocAttr,iQ,f2,f3,f4,f8,f26,f27,f28,aa,fo,dk,gx,hw,av,eq_true c0,aU,aN]
     exact⟨Ek,_,rfl,.inr rfl⟩
   rw[decide_eq_true c0,Bool.true_and] at Ek
   rw[iC dk (by simp[c0])]
   generalize c.tbs[k]=x at *
   generalize (c.tbs.take k).filter (fun t:Tb=>decide (t.nm≠tb))=A at *
   have kc:=fun K=>aOE x.rfs (fun f=>decide (f.tb=tb)) 94 [.ref [ao (ar tb)]] ⟨by have:=hu.f;omega,aIk,aEO,fun f _=>alR f tb⟩ K
   cases b1:x.rfs.any fun f=>decide (f.tb=tb)
   rotate_left
   .rw[b1,Bool.true_or] at Ek
    have F:=agZ hf Ek
    simp -implicitDefEqProofs(maxSteps:=9^9)only[Tryz.f43,↓zA,sevalprocAttr,iQ,f2,f3,f4,f8,f26,f27,f28,aa,fo,dk,gx,hw,av,c0,kc,b1,F,br,aU,aN]
    try rfl
   rw[b1,Bool.false_or] at Ek
   rcases hO with ⟨rfl,rfl⟩|rfl
   .skip
    simp -implicitDefEqProofs(maxSteps:=9^9)only[Tryz.f43,↓zA,sevalprocAttr,iQ,f2,f3,f4,f8,f26,f27,f28,aa,fo,dk,gx,hw,av,c0,kc,b1,aU,aN,ju]
    exact⟨Ek,_,rfl,rfl⟩
   .skip
    simp -implicitDefEqProofs(maxSteps:=9^9)only[Tryz.f43,↓zA,sevalprocAttr,iQ,f2,f3,f4,f8,f26,f27,f28,aa,fo,dk,gx,hw,av,c0,kc,b1,aU,aN,hn]
    exact⟨rfl,Ek,_,rfl,by first|rfl|exact .inr (by rw[dD,d6];rfl)|exact .inr (by rw[dD,d6,List.length_append];rfl)⟩
  have e:k=c.tbs.length:=by omega
  subst e
  rw[List.take_length] at hO
  rw[List.drop_length,List.any_nil] at Ek
  have F:=ah8 hf Ek
  generalize hA:c.tbs.filter (fun t:Tb=>decide (t.nm≠tb))=A at *
  rcases hO with ⟨rfl,rfl⟩|rfl
  .skip
   simp -implicitDefEqProofs(maxSteps:=9^9)only[Tryz.f43,↓zA,sevalprocAttr,iQ,f2,f3,f4,f8,f26,f27,f28,aa,fo,Nat.lt_irrefl,aU,aN]
   refine aL (c.ixs.length) (fun m tm=>tm.fr 3=.of (.ref [ao (ar tb)])∧tm.fr 4=.ptr 0 0∧tm.fr 8=.ptr 1 0∧tm.fr 49=.of (slC ixC c.ixs)∧tm.fr 50=ak c.ixs.length∧tm.fr 51=ak m∧∃ X,tm.objs=[.var 27 [.nil,.nil,ak 0],.var 27 [.nil,X,ak c.nx]]∧(((c.ixs.take m).filter (fun x:Ix=>decide (x.tb≠tb))=[]∧X=.nil)∨X=.own (.cell 1 1) 60 5 (fl ixC ((c.ixs.take m).filter (fun x:Ix=>decide (x.tb≠tb)))) ((c.ixs.take m).filter (fun x:Ix=>decide (x.tb≠tb))).length)) ?_ ?_
   .simp -implicitDefEqProofs(maxSteps:=9^9)only[Tryz.f43,↓zA,sevalprocAttr,iQ,f2,f3,f4,f8,f26,f27,f28,aa,fo]
    exact⟨_,rfl,by first|exact .inl ⟨rfl,rfl⟩|exact .inl rfl⟩
   rintro m ⟨frm,obm,ckm⟩ hm ⟨g3,g4,g8,g49,g50,g51,X,go,hX⟩
   dsimp only at g3 g4 g8 g49 g50 g51 go
   rcases Nat.lt_or_ge m (c.ixs.length) with dm|dm
   .have hw:=aQ m (by omega)
    have gx:=ap dm
    have hle:((c.ixs.take m).filter (fun x:Ix=>decide (x.tb≠tb))).length≤m:=Nat.le_trans (List.length_filter_le ..) (by rw[List.length_take];omega)
    have hn:((c.ixs.take m).filter (fun x:Ix=>decide (x.tb≠tb))).length+1≤LIM:=by unfold LIM;omega
    by_cases c0:c.ixs[m].tb=tb
    .rw[gl dm (by simp[c0])]
     generalize c.ixs[m]=x at *
     rcases hX with ⟨hT0,rfl⟩|rfl
     .skip
      simp -implicitDefEqProofs(maxSteps:=9^9)only[Tryz.f43,↓zA,sevalprocAttr,iQ,g3,g4,g8,g49,g50,g51,aa,go,dm,gx,hw,av,eq_true c0,aU,aN]
      exact⟨_,rfl,.inl ⟨hT0,rfl⟩⟩
     .skip
      simp -implicitDefEqProofs(maxSteps:=9^9)only[Tryz.f43,↓zA,sevalprocAttr,iQ,g3,g4,g8,g49,g50,g51,aa,go,dm,gx,hw,av,eq_true c0,aU,aN]
      exact⟨_,rfl,.inr rfl⟩
    rw[iC dm (by simp[c0])]
    generalize c.ixs[m]=x at *
    generalize (c.ixs.take m).filter (fun x:Ix=>decide (x.tb≠tb))=B at *
    rcases hX with ⟨rfl,rfl⟩|rfl
    .skip
     simp -implicitDefEqProofs(maxSteps:=9^9)only[Tryz.f43,↓zA,sevalprocAttr,iQ,g3,g4,g8,g49,g50,g51,aa,go,dm,gx,hw,av,c0,aU,aN,ju]
     exact⟨_,rfl,rfl⟩
    .skip
     simp -implicitDefEqProofs(maxSteps:=9^9)only[Tryz.f43,↓zA,sevalprocAttr,iQ,g3,g4,g8,g49,g50,g51,aa,go,dm,gx,hw,av,c0,aU,aN,hn]
     exact⟨rfl,_,rfl,by first|rfl|exact .inr (by rw[dD,d6];rfl)|exact .inr (by rw[dD,d6,List.length_append];rfl)⟩
   have e:m=c.ixs.length:=by omega
   subst e
   rw[List.take_length] at hX
   generalize c.ixs.filter (fun x:Ix=>decide (x.tb≠tb))=B at *
   rcases hX with ⟨rfl,rfl⟩|rfl
   .skip
    simp -implicitDefEqProofs(maxSteps:=9^9)only[Tryz.f43,↓zA,sevalprocAttr,iQ,g3,g4,g8,g49,g50,g51,aa,go,Nat.lt_irrefl,aU,aN,F,br]
    try rfl
   .skip
    simp -implicitDefEqProofs(maxSteps:=9^9)only[Tryz.f43,↓zA,sevalprocAttr,iQ,g3,g4,g8,g49,g50,g51,aa,go,Nat.lt_irrefl,aU,aN,F,br]
    try rfl
  .skip
   simp -implicitDefEqProofs(maxSteps:=9^9)only[Tryz.f43,↓zA,sevalprocAttr,iQ,f2,f3,f4,f8,f26,f27,f28,aa,fo,Nat.lt_irrefl,aU,aN]
   refine aL (c.ixs.length) (fun m tm=>tm.fr 3=.of (.ref [ao (ar tb)])∧tm.fr 4=.ptr 0 0∧tm.fr 8=.ptr 1 0∧tm.fr 49=.of (slC ixC c.ixs)∧tm.fr 50=ak c.ixs.length∧tm.fr 51=ak m∧∃ X,tm.objs=[.var 27 [.nil,.nil,ak 0],.var 27 [.own (.cell 1 0) 48 6 (fl tbC A) A.length,X,ak c.nx]]∧(((c.ixs.take m).filter (fun x:Ix=>decide (x.tb≠tb))=[]∧X=.nil)∨X=.own (.cell 1 1) 60 5 (fl ixC ((c.ixs.take m).filter (fun x:Ix=>decide (x.tb≠tb)))) ((c.ixs.take m).filter (fun x:Ix=>decide (x.tb≠tb))).length)) ?_ ?_
   .simp -implicitDefEqProofs(maxSteps:=9^9)only[Tryz.f43,↓zA,sevalprocAttr,iQ,f2,f3,f4,f8,f26,f27,f28,aa,fo]
    exact⟨_,rfl,by first|exact .inl ⟨rfl,rfl⟩|exact .inl rfl⟩
   rintro m ⟨frm,obm,ckm⟩ hm ⟨g3,g4,g8,g49,g50,g51,X,go,hX⟩
   dsimp only at g3 g4 g8 g49 g50 g51 go
   rcases Nat.lt_or_ge m (c.ixs.length) with dm|dm
   .have hw:=aQ m (by omega)
    have gx:=ap dm
    have hle:((c.ixs.take m).filter (fun x:Ix=>decide (x.tb≠tb))).length≤m:=Nat.le_trans (List.length_filter_le ..) (by rw[List.length_take];omega)
    have hn:((c.ixs.take m).filter (fun x:Ix=>decide (x.tb≠tb))).length+1≤LIM:=by unfold LIM;omega
    by_cases c0:c.ixs[m].tb=tb
    .rw[gl dm (by simp[c0])]
     generalize c.ixs[m]=x at *
     rcases hX with ⟨hT0,rfl⟩|rfl
     .skip
      simp -implicitDefEqProofs(maxSteps:=9^9)only[Tryz.f43,↓zA,sevalprocAttr,iQ,g3,g4,g8,g49,g50,g51,aa,go,dm,gx,hw,av,eq_true c0,aU,aN]
      exact⟨_,rfl,.inl ⟨hT0,rfl⟩⟩
     .skip
      simp -implicitDefEqProofs(maxSteps:=9^9)only[Tryz.f43,↓zA,sevalprocAttr,iQ,g3,g4,g8,g49,g50,g51,aa,go,dm,gx,hw,av,eq_true c0,aU,aN]
      exact⟨_,rfl,.inr rfl⟩
    rw[iC dm (by simp[c0])]
    generalize c.ixs[m]=x at *
    generalize (c.ixs.take m).filter (fun x:Ix=>decide (x.tb≠tb))=B at *
    rcases hX with ⟨rfl,rfl⟩|rfl
    .skip
     simp -implicitDefEqProofs(maxSteps:=9^9)only[Tryz.f43,↓zA,sevalprocAttr,iQ,g3,g4,g8,g49,g50,g51,aa,go,dm,gx,hw,av,c0,aU,aN,ju]
     exact⟨_,rfl,rfl⟩
    .skip
     simp -implicitDefEqProofs(maxSteps:=9^9)only[Tryz.f43,↓zA,sevalprocAttr,iQ,g3,g4,g8,g49,g50,g51,aa,go,dm,gx,hw,av,c0,aU,aN,hn]
     exact⟨rfl,_,rfl,by first|rfl|exact .inr (by rw[dD,d6];rfl)|exact .inr (by rw[dD,d6,List.length_append];rfl)⟩
   have e:m=c.ixs.length:=by omega
   subst e
   rw[List.take_length] at hX
   generalize c.ixs.filter (fun x:Ix=>decide (x.tb≠tb))=B at *
   rcases hX with ⟨rfl,rfl⟩|rfl
   .skip
    simp -implicitDefEqProofs(maxSteps:=9^9)only[Tryz.f43,↓zA,sevalprocAttr,iQ,g3,g4,g8,g49,g50,g51,aa,go,Nat.lt_irrefl,aU,aN,F,br]
    try rfl
   .skip
    simp -implicitDefEqProofs(maxSteps:=9^9)only[Tryz.f43,↓zA,sevalprocAttr,iQ,g3,g4,g8,g49,g50,g51,aa,go,Nat.lt_irrefl,aU,aN,F,br]
    try rfl
theorem ie (r:Ct×Int):doR r=[.of (.agg (ctC r.1)),ak r.2]:=rfl
theorem aHj (tk:Tk) (x y:X):bM tk 2 (Pe.elemOf (TT.of Tryz.prog) 132) (some [(0,[x]),(1,[y])])=bB ((X.rds [x,y]).map fun cs=>.own tk 25 1 cs 2):=aUm aUV rfl rfl tk x y
theorem aLj (a b:List Ix):C.sl [slC ixC a,slC ixC b] 2=slC (lsC ixC) [a,b]:=rfl
def a0z:=ai (ai (ai @zq @aYh) (ai @fa @fb)) (ai (ai @Q9 @zT0) (ai @aDE (aw aSB)))
theorem aA0 (x:Ix) (s:Sm):G1 45 [.of (.agg (ixC x)),.of (.ref (smL s))] (ah (decide (x.nm=s.nm))):=by
 refine aj rfl aSB aDE rfl ?_
 simp -implicitDefEqProofs(maxSteps:=9^9)only[Tryz.f45,↓zA,sevalprocAttr,a0z,av]
def ajP:=ai (ai (ai (ai (ai @zq @aYk) (ai @aYj @aYi)) (ai (ai @aiW @afH) (ai @ay6 @asc))) (ai (ai (ai @aWI @aT3) (ai @ay5 @asa)) (ai (ai @aIy @aE2) (ai @ay4 @ar9)))) (ai (ai (ai (ai @aWH @aT2) (ai @cU @fa)) (ai (ai @fb @dH) (ai @cW @ag8))) (ai (ai (ai @aIz @aE3) (ai @P3 @Q3)) (ai (ai @Q9 @zT0) (ai @aD9 (aw aS6)))))
theorem acT (c:Ct) (s:Sm) (hc:CtB c) (so:fz s) (hs:smW s≤LB):GN 14 [.of (.agg (ctC c)),.of (.agg (smC s))] (doR (gw c s)):=by
 obtain⟨h1,h2,h3,h3',h4,h5,h6,h4'⟩:=abl s hs
 have h7:=hc.x
 have h8:=hc.t
 have hlb:LB=1073741824:=rfl
 have hln:ee=1099511627776:=rfl
 have kst:=fun K=>ae.k (aij s ⟨so,by simp only[WL];omega⟩) K
 have kR:=fun K=>ae.k (kA c hc) K
 have kd:=fun K=>ae.k (am4 c s.tb hc) K
 have kf:=fun K=>aio c.ixs (fun x=>decide (x.nm=s.nm)) 45 [.ref (smL s)] ⟨by omega,aIz,aE3,fun x _=>aA0 x s⟩ K
 refine aj rfl aS6 aD9 rfl ?_
 cases b0:bz c
 .have F:=adR (s:=s) (.inl b0)
  simp -implicitDefEqProofs(maxSteps:=9^9)only[Tryz.f14,↓zA,sevalprocAttr,ajP,kR,kst,b0,F,br]
  try rfl
 have hR:=(fd c).1 b0
 have hni:=hR.ni
 have hnt:=hR.nt
 by_cases hk:s.kd=3
 rotate_left
 .have F:=adR (c:=c) (.inr (.inl hk))
  simp -implicitDefEqProofs(maxSteps:=9^9)only[Tryz.f14,↓zA,sevalprocAttr,ajP,kR,kst,b0,hk,F,br]
  try rfl
 cases b1:cd s
 .have F:=adR (c:=c) (.inr (.inr b1))
  simp -implicitDefEqProofs(maxSteps:=9^9)only[Tryz.f14,↓zA,sevalprocAttr,ajP,kR,kst,b0,eq_true hk,b1,F,br]
  try rfl
 by_cases ht:s.tb=[]
 rotate_left
 .have F:=axd b0 hk b1 ht
  simp -implicitDefEqProofs(maxSteps:=9^9)only[Tryz.f14,↓zA,sevalprocAttr,ajP,kR,kst,b0,eq_true hk,b1,ht,kd,ie,F]
  try rfl
 rcases jV (fun x:Ix=>decide (x.nm=s.nm)) c.ixs with ⟨hi,hf⟩|⟨j,hj,hi,hf⟩
 .have F:=axe b0 hk b1 ht hf
  simp -implicitDefEqProofs(maxSteps:=9^9)only[Tryz.f14,↓zA,sevalprocAttr,ajP,kR,kst,b0,eq_true hk,b1,eq_true ht,kf,hi,F,br]
  try rfl
 have gj:=ap hj
 have hnm:=aMW hj hf
 have hcut:=alT (f:=Ix.nm) hj hR.ui
 rw[hnm] at hcut
 have s1:aa7 c.ixs 0 (j:Int)=some (c.ixs.take j):=by simp[aa7];omega
 have s2:aa7 c.ixs (((j+1:Nat):Int)) (c.ixs.length:Int)=some (c.ixs.drop (j+1)):=by simp[aa7];omega
 have hw:=aQ j (by omega)
 have hl1:(c.ixs.take j).length+(c.ixs.drop (j+1)).length≤1048576:=by rw[List.length_take,List.length_drop];omega
 have kcc:=fun K=>ae.k (asG (c.ixs.take j) (c.ixs.drop (j+1)) hl1) K
 have ct:=fun K=>aiq c.tbs (by omega) K
 have ks:=fun K=>akT c c.ixs[j].id hc K
 cases b2:df c c.ixs[j].id
 rotate_left
 .have F:=akk b0 hk b1 ht hf b2
  simp -implicitDefEqProofs(maxSteps:=9^9)only[Tryz.f14,↓zA,sevalprocAttr,ajP,kR,kst,b0,eq_true hk,b1,eq_true ht,kf,hi,fB,gj,ks,b2,F,br]
  try rfl
 have F:=axf b0 hk b1 ht hf b2
 rw[← hcut] at F
 simp -implicitDefEqProofs(maxSteps:=9^9)only[Tryz.f14,↓zA,sevalprocAttr,ajP,kR,kst,b0,eq_true hk,b1,eq_true ht,kf,hi,fB,gj,ks,b2,s1,s2,hw,ct,kcc,aHj,aLj,F,br]
 try rfl
def zc8:=ai (ai (ai (ai @zq @mt9) (ai @a2c @a2b)) (ai (ai @aIF @aE9) (ai @aWY @aUj))) (ai (ai (ai @ay7 @asd) (ai @cU @fa)) (ai (ai @P3 @Q3) (ai @zT0 (ai @aII (aw fi8)))))
theorem aM1 (c:Ct) (s:Sm) (hc:CtB c) (so:fz s) (hs:smW s≤LB) (kC:∀ K,aG Tryz.prog pr 15 [.of (.agg (ctC c)),.of (.agg (smC s))] [] K↔K ⟨false,doR (fC c s),[]⟩):GN 8 [.of (.agg (ctC c)),.of (.agg (smC s))] (doR (doA c s)):=by
 have kI:=fun K=>ae.k (aqx c s hc so hs) K
 have kD:=fun K=>ae.k (acT c s hc so hs) K
 refine aj rfl fi8 aII rfl ?_
 by_cases k1:s.kd=1
 .have F:doA c s=fC c s:=by unfold doA;rw[if_pos k1]
  simp -implicitDefEqProofs(maxSteps:=9^9)only[Tryz.f8,↓zA,sevalprocAttr,zc8,eq_true k1,kC,ie,F]
  try rfl
 by_cases k2:s.kd=2
 .have F:doA c s=cB c s:=by unfold doA;rw[if_neg k1,if_pos k2]
  simp -implicitDefEqProofs(maxSteps:=9^9)only[Tryz.f8,↓zA,sevalprocAttr,zc8,k1,eq_true k2,kI,ie,F]
  try rfl
 have F:doA c s=gw c s:=by unfold doA;rw[if_neg k1,if_neg k2]
 simp -implicitDefEqProofs(maxSteps:=9^9)only[Tryz.f8,↓zA,sevalprocAttr,zc8,k1,k2,kD,ie,F]
 try rfl
theorem aQP (s:Sm) (hw:smW s≤1048576):s.cs.length≤1048576∧s.chs.length≤1048576∧s.rfs.length≤1048576∧∀ k∈s.kys,k.ns.length≤1048576:=by
 unfold smW at hw
 have n1:=eA cdW s.cs fun x=>by simp[cdW]
 have n2:=eA xpW s.chs fun x=>gW x
 have n3:=eA rdW s.rfs fun x=>by simp[rdW]
 refine⟨by omega,by omega,by omega,fun k hk=>?_⟩
 have h4:=bg (w:=kdW) hk
 have h5:=eA aZ k.ns ab1
 simp only[kdW] at h4
 omega
theorem am2 {α:Type} (f:α→List C) (l:List α) (x:α):fl f (l++[x])=fl f l++f x:=by rw[dD,d6]
theorem jk {ckk c:Nat} (h:c<ckk):ckk≠c∧ckk+1≠c∧ckk+1+1≠c∧ckk+1+1+1≠c∧ckk+1+1+1+1≠c∧ckk+1+1+1+1+1≠c∧ckk+1+1+1+1+1+1≠c∧ckk+1+1+1+1+1+1+1≠c∧ckk+1+1+1+1+1+1+1+1≠c∧c≠ckk∧c≠ckk+1∧c≠ckk+1+1∧c≠ckk+1+1+1∧c≠ckk+1+1+1+1∧c≠ckk+1+1+1+1+1∧c≠ckk+1+1+1+1+1+1∧c≠ckk+1+1+1+1+1+1+1∧c≠ckk+1+1+1+1+1+1+1+1:=by refine⟨?_,?_,?_,?_,?_,?_,?_,?_,?_,?_,?_,?_,?_,?_,?_,?_,?_,?_⟩ <;> omega
def gF:=ai (ai (ai (ai (ai @zq (ai @aYF @aYE)) (ai (ai @aYD @aiW) (ai @afH @ay6))) (ai (ai @asc (ai @aWG @aT1)) (ai (ai @aWF @aT0) (ai @aWE @aTZ)))) (ai (ai (ai @aYC (ai @ay4 @ar9)) (ai (ai @aIx @aE1) (ai @aYB @aYA))) (ai (ai @ay3 (ai @ar8 @ay2)) (ai (ai @ar7 @aWD) (ai @aTY @aYz))))) (ai (ai (ai (ai @aWC (ai @aTX @aYy)) (ai (ai @cU @fa) (ai @dH @dw))) (ai (ai @jz (ai @fb @il)) (ai (ai @jy @aaC) (ai @bK @d9)))) (ai (ai (ai @cW (ai @cE @gG)) (ai (ai @jA @kb) (ai @abM @bH))) (ai (ai @P3 (ai @Q3 @Q9)) (ai (ai @Q4 @zT0) (ai @aD8 (aw aS5))))))
theorem agY (c:Ct) (s:Sm) (hc:CtB c) (so:fz s) (hsm:smW s≤1048576):GN 15 [.of (.agg (ctC c)),.of (.agg (smC s))] (doR (fC c s)):=by
 have hs:smW s≤LB:=by simp only[LB];omega
 obtain⟨i1,i2,i3,i4⟩:=aQP s hsm
 obtain⟨h1,h2,h3,h3',h4,h5,h6,h4'⟩:=abl s hs
 have h7:=hc.x
 have h8:=hc.t
 have hlb:LB=1073741824:=rfl
 have hln:ee=1099511627776:=rfl
 have kst:=fun K=>ae.k (aij s ⟨so,by simp only[WL];omega⟩) K
 have kR:=fun K=>ae.k (kA c hc) K
 have ktw:=fun K=>aBC c s hc hs K
 refine aj rfl aS5 aD8 rfl ?_
 cases b0:bz c
 .have F:=abX (s:=s) (.inl b0)
  simp -implicitDefEqProofs(maxSteps:=9^9)only[Tryz.f15,↓zA,sevalprocAttr,gF,kR,kst,ktw,b0,F,br]
  try rfl
 have hR:=(fd c).1 b0
 have hlo:=hR.lo
 have hhi:=hR.hi
 have hw1:=aiQ c.nx (by omega) (by omega)
 have hw2:=apz (c.nx+1) s.kys.length (by omega) (by omega)
 have hwk:IntKind.i64.wrap ((c.ixs.length:Int)+(s.kys.length:Int))=(c.ixs.length:Int)+(s.kys.length:Int):=da _ (by omega) (by omega)
 have e16:((16:Int)<(s.cs.length:Int))=(16<s.cs.length):=propext (by omega)
 have e32:((32:Int)≤(c.tbs.length:Int))=(32≤c.tbs.length):=propext (by omega)
 have e64:((64:Int)<(c.ixs.length:Int)+(s.kys.length:Int))=(64<c.ixs.length+s.kys.length):=propext (by omega)
 have eln:((1099511627776:Int)<c.nx+1+(s.kys.length:Int))=(ee<c.nx+1+(s.kys.length:Int)):=propext (by omega)
 by_cases hk:s.kd=1
 rotate_left
 .have F:=abX (c:=c) (.inr (.inl hk))
  simp -implicitDefEqProofs(maxSteps:=9^9)only[Tryz.f15,↓zA,sevalprocAttr,gF,kR,kst,ktw,b0,hk,F,br]
  try rfl
 cases b1:cd s
 .have F:=abX (c:=c) (.inr (.inr b1))
  simp -implicitDefEqProofs(maxSteps:=9^9)only[Tryz.f15,↓zA,sevalprocAttr,gF,kR,kst,ktw,b0,eq_true hk,b1,F,br]
  try rfl
 cases b2:dc c s
 rotate_left
 .have F:=aoi b0 hk b1 b2
  simp -implicitDefEqProofs(maxSteps:=9^9)only[Tryz.f15,↓zA,sevalprocAttr,gF,kR,kst,ktw,b0,eq_true hk,b1,b2,F,br]
  try rfl
 by_cases c3:16<s.cs.length
 .have F:=jK b0 hk b1 b2 (.inl c3)
  simp -implicitDefEqProofs(maxSteps:=9^9)only[Tryz.f15,↓zA,sevalprocAttr,gF,kR,kst,ktw,b0,eq_true hk,b1,b2,e16,e32,e64,eln,hw1,hw2,hwk,c3,F,br]
  try rfl
 by_cases c4:32≤c.tbs.length
 .have F:=jK b0 hk b1 b2 (.inr (.inl c4))
  simp -implicitDefEqProofs(maxSteps:=9^9)only[Tryz.f15,↓zA,sevalprocAttr,gF,kR,kst,ktw,b0,eq_true hk,b1,b2,e16,e32,e64,eln,hw1,hw2,hwk,c3,c4,F,br]
  try rfl
 by_cases c5:64<c.ixs.length+s.kys.length
 .have F:=jK b0 hk b1 b2 (.inr (.inr (.inl c5)))
  simp -implicitDefEqProofs(maxSteps:=9^9)only[Tryz.f15,↓zA,sevalprocAttr,gF,kR,kst,ktw,b0,eq_true hk,b1,b2,e16,e32,e64,eln,hw1,hw2,hwk,c3,c4,c5,F,br]
  try rfl
 by_cases c6:ee<c.nx+1+(s.kys.length:Int)
 .have F:=jK b0 hk b1 b2 (.inr (.inr (.inr c6)))
  simp -implicitDefEqProofs(maxSteps:=9^9)only[Tryz.f15,↓zA,sevalprocAttr,gF,kR,kst,ktw,b0,eq_true hk,b1,b2,e16,e32,e64,eln,hw1,hw2,hwk,c3,c4,c5,c6,F,br]
  try rfl
 have hgo:=agL b0 hk b1 b2 c3 c4 c5 c6
 have hni:=hR.ni
 have hnt:=hR.nt
 have cc:=fun K=>aA2 s.cs i1 K
 have ce:=fun K=>aHZ s.chs i2 K
 have ct:=fun K=>aiq c.tbs (by omega) K
 have cx:=fun K=>aor c.ixs (by omega) K
 simp -implicitDefEqProofs(maxSteps:=9^9)only[Tryz.f15,↓zA,sevalprocAttr,gF,kR,kst,ktw,b0,eq_true hk,b1,b2,e16,e32,e64,eln,hw1,hw2,hwk,c3,c4,c5,c6,cc,ce,ct,cx]
 refine aL (s.kys.length) (fun k tk=>tk.fr 2=.of (.ref [slC tbC c.tbs,slC ixC c.ixs,ci c.nx])∧tk.fr 3=.of (.ref (smL s))∧tk.fr 4=.ptr 0 0∧tk.fr 6=.ptr 1 0∧tk.fr 7=.ptr 2 0∧tk.fr 90=.of (slC kdC s.kys)∧tk.fr 91=ak s.kys.length∧tk.fr 92=ak k∧∃ A c1 i1 c2 i2 c3 i3 K I,tk.objs=[.var 27 [.nil,.nil,ak 0],.var 48 [dA (ar s.tb),ak c.nx,.own (.nm c1 i1 0) 53 3 (fl cdC s.cs) s.cs.length,K,.nil,.own (.nm c2 i2 0) 88 9 (fl xpC s.chs) s.chs.length],.var 27 [.own (.nm c3 i3 0) 48 6 (fl tbC c.tbs) c.tbs.length,I,ak (c.nx+1+(k:Int))]]∧c1<tk.clk∧c2<tk.clk∧c3<tk.clk∧A.length=k∧fO s.cs (c.nx+1) s.kys=aaL s.cs A (c.nx+1+(k:Int)) (s.kys.drop k)∧((A=[]∧K=.nil∧∃ c4 i4,c4<tk.clk∧c1≠c4∧c2≠c4∧i3≠i4∧I=.own (.nm c4 i4 0) 60 5 (fl ixC c.ixs) c.ixs.length)∨(K=.own (.cell 1 3) 93 3 (fl kyC A) A.length∧I=.own (.cell 2 1) 60 5 (fl ixC (c.ixs++eN s.tb 0 A)) (c.ixs++eN s.tb 0 A).length))) ?_ ?_
 .simp -implicitDefEqProofs(maxSteps:=9^9)only[Tryz.f15,↓zA,sevalprocAttr,gF]
  rw[Int.add_zero]
  exact⟨[],_,_,_,_,_,_,_,_,rfl,by decide,by decide,by decide,rfl,(arr _ _ _).symm,.inl ⟨rfl,rfl,_,_,by decide,by decide,by decide,by decide,rfl⟩⟩
 rintro k ⟨frk,obk,ckk⟩ hk ⟨f2,f3,f4,f6,f7,f90,f91,f92,A,c1,j1,c2,j2,c3,j3,K,I,fo,q1,q2,q3,hA,E,hS⟩
 dsimp only at f2 f3 f4 f6 f7 f90 f91 f92 fo q1 q2 q3 hS
 rcases Nat.lt_or_ge k (s.kys.length) with dk|dk
 .have hw:=aQ k (by omega)
  have gx:=ap dk
  have hq4:=i4 _ (List.getElem_mem dk)
  rw[aJ dk] at E
  generalize s.kys[k]=y at *
  have kp:=fun K=>ae.k (js s.cs y.ns (by omega) (by omega)) K
  have n1:=jk q1
  have n2:=jk q2
  have n3:=jk q3
  have hwn:=apz (c.nx+1) k (by omega) (by omega)
  have hwm:=aiQ (c.nx+1+(k:Int)) (by omega) (by omega)
  cases hp:bC s.cs y.ns with
  | none =>
   rw[an3 hp] at E
   have F:=hgo.trans (alW E)
   simp -implicitDefEqProofs(maxSteps:=9^9)only[Tryz.f15,↓zA,sevalprocAttr,gF,f2,f3,f4,f6,f7,f90,f91,f92,aa,fo,dk,gx,hw,kp,hp,aU,aN,n1,n2,n3,ia,F,br]
   try rfl
  | some l =>
   rw[an2 hp] at E
   have hl:=eJ hp
   have kci:=fun K=>aOC l (by omega) K
   have hk':k≤LB:=by omega
   have hn:A.length+1≤LIM:=by unfold LIM;omega
   have hx1:c.ixs.length+1≤LIM:=by unfold LIM;omega
   have hx2:(c.ixs++eN s.tb 0 A).length+1≤LIM:=by rw[List.length_append,aeT];unfold LIM;omega
   have e1:c.nx+1+(k:Int)+1=c.nx+1+((k+1:Nat):Int):=by omega
   rw[e1] at E
   rcases hS with ⟨rfl,rfl,c4,j4,q4,p1,p2,p3,rfl⟩|⟨rfl,rfl⟩
   .have n4:=jk q4
    simp -implicitDefEqProofs(maxSteps:=9^9)only[Tryz.f15,↓zA,sevalprocAttr,gF,f2,f3,f4,f6,f7,f90,f91,f92,aa,fo,dk,gx,hw,kp,hp,aU,aN,n1,n2,n3,bP,kci,du,h4,hk',and_self,hwn,hwm,ju,hx1,n4,p1,p2,p3]
    rw[e1]
    obtain rfl:k=0:=by simpa using hA.symm
    exact⟨okT ((Z68 _ _ _ _).2 q4) (by omega) _,[⟨y.pr,l,c.nx+1+((0:Nat):Int)⟩],c1,j1,c2,j2,c3,j3,_,_,rfl,by omega,by omega,by omega,rfl,E,.inr ⟨rfl,by rw[dD];rfl⟩⟩
   .skip
    simp -implicitDefEqProofs(maxSteps:=9^9)only[Tryz.f15,↓zA,sevalprocAttr,gF,f2,f3,f4,f6,f7,f90,f91,f92,aa,fo,dk,gx,hw,kp,hp,aU,aN,n1,n2,n3,bP,kci,du,h4,hk',and_self,hwn,hwm,hn,hx2]
    rw[e1]
    have e2:=alA s.tb A ⟨y.pr,l,c.nx+1+(k:Int)⟩
    exact⟨rfl,by rw[aeT];unfold LIM;omega,rfl,A++[⟨y.pr,l,c.nx+1+(k:Int)⟩],c1,j1,c2,j2,c3,j3,_,_,rfl,by omega,by omega,by omega,by rw[List.length_append,hA];rfl,E,.inr ⟨by rw[dD,d6,List.length_append];rfl,by rw[e2,← List.append_assoc,am2,List.length_append,hA];rfl⟩⟩
 have e:k=s.kys.length:=by omega
 subst e
 rw[List.drop_length,aly] at E
 have hqm:=ahQ E
 have hy2:∀ k∈A,k.cs.length≤LB:=fun k hk=>by
  rcases hqm k hk with h|⟨y,hy,h⟩
  .omega
  .have:=h5 y hy
   omega
 have hAL:A.length≤LB:=by omega
 rcases hS with ⟨hA0,hK,c4,j4,q4,p1,p2,p3,hI⟩|⟨hK,hI⟩
 .skip
  subst hK
  subst hI
  simp -implicitDefEqProofs(maxSteps:=9^9)only[Tryz.f15,↓zA,sevalprocAttr,gF,f2,f3,f4,f6,f7,f90,f91,f92,aa,fo,Nat.lt_irrefl,aU,aN]
  refine aL (s.rfs.length) (fun m tm=>tm.fr 2=.of (.ref [slC tbC c.tbs,slC ixC c.ixs,ci c.nx])∧tm.fr 4=.ptr 0 0∧tm.fr 6=.ptr 1 0∧tm.fr 7=.ptr 2 0∧tm.fr 142=.of (slC rdC s.rfs)∧tm.fr 143=ak s.rfs.length∧tm.fr 144=ak m∧∃ Q R,tm.objs=[.var 27 [.nil,.nil,ak 0],.var 48 [dA (ar s.tb),ak c.nx,.own (.nm c1 j1 0) 53 3 (fl cdC s.cs) s.cs.length,.nil,R,.own (.nm c2 j2 0) 88 9 (fl xpC s.chs) s.chs.length],.var 27 [.own (.nm c3 j3 0) 48 6 (fl tbC c.tbs) c.tbs.length,.own (.nm c4 j4 0) 60 5 (fl ixC c.ixs) c.ixs.length,ak (c.nx+1+(s.kys.length:Int))]]∧c1<tm.clk∧c2<tm.clk∧c3<tm.clk∧c4<tm.clk∧Q.length=m∧eE c s.tb s.cs A s.rfs=abz c s.tb s.cs A Q (s.rfs.drop m)∧((Q=[]∧R=.nil)∨R=.own (.cell 1 4) 99 3 (fl rfC Q) Q.length)) ?_ ?_
  .simp -implicitDefEqProofs(maxSteps:=9^9)only[Tryz.f15,↓zA,sevalprocAttr,gF,f2,f3,f4,f6,f7,f90,f91,f92,aa,fo]
   exact⟨[],.nil,rfl,by omega,by omega,by omega,by omega,rfl,(amF _ _ _ _ _).symm,.inl ⟨rfl,rfl⟩⟩
  rintro m ⟨frm,obm,ckm⟩ hm ⟨g2,g4,g6,g7,g142,g143,g144,Q,R,go,r1,r2,r3,r4,hQ,E2,hS⟩
  dsimp only at g2 g4 g6 g7 g142 g143 g144 go hS r1 r2 r3 r4
  rcases Nat.lt_or_ge m (s.rfs.length) with dm|dm
  .have hw:=aQ m (by omega)
   have gx:=ap dm
   have hf1:=h6 _ (List.getElem_mem dm)
   rw[aJ dm] at E2
   generalize s.rfs[m]=y at *
   have n1:=jk r1
   have n2:=jk r2
   have n3:=jk r3
   have hn:Q.length+1≤LIM:=by unfold LIM;omega
   have n4:=jk r4
   rcases hS with ⟨rfl,rfl⟩|rfl
   .have kr:∀ K,aG Tryz.prog pr 56 [.of (.agg (ctC c)),.of (.agg [ao (ar s.tb),ci c.nx,slC cdC s.cs,C.sl [] 0,C.sl [] 0,slC xpC s.chs]),.of (.agg (rdC y))] [] K↔K ⟨false,rR (cq c s.tb s.cs A y),[]⟩:=fun K=>by subst hA0;exact ae.k (aaa c ⟨s.tb,c.nx,s.cs,[],[],s.chs⟩ y hc (by show s.cs.length≤LB;omega) hAL hy2 hf1.1 hf1.2) K
    cases hm:cq c s.tb s.cs A y with
    | inr e =>
     have he:e≠0:=ac8 hm
     rw[gH hm] at E2
     have F:=hgo.trans (abt E E2)
     simp -implicitDefEqProofs(maxSteps:=9^9)only[Tryz.f15,↓zA,sevalprocAttr,gF,g2,g4,g6,g7,g142,g143,g144,aa,go,dm,gx,hw,aU,aN,n1,n2,n3,n4,kr,hm,ab6,he,F,br]
     try rfl
    | inl x =>
     rw[acA hm] at E2
     simp -implicitDefEqProofs(maxSteps:=9^9)only[Tryz.f15,↓zA,sevalprocAttr,gF,g2,g4,g6,g7,g142,g143,g144,aa,go,dm,gx,hw,aU,aN,n1,n2,n3,n4,kr,hm,amI,ju]
     exact⟨[x],_,rfl,by omega,by omega,by omega,by omega,by simp only[List.length_nil] at hQ;simp only[List.length_cons,List.length_nil];omega,E2,.inr rfl⟩
   .have kr:∀ K,aG Tryz.prog pr 56 [.of (.agg (ctC c)),.of (.agg [ao (ar s.tb),ci c.nx,slC cdC s.cs,C.sl [] 0,slC rfC Q,slC xpC s.chs]),.of (.agg (rdC y))] [] K↔K ⟨false,rR (cq c s.tb s.cs A y),[]⟩:=fun K=>by subst hA0;exact ae.k (aaa c ⟨s.tb,c.nx,s.cs,[],Q,s.chs⟩ y hc (by show s.cs.length≤LB;omega) hAL hy2 hf1.1 hf1.2) K
    cases hm:cq c s.tb s.cs A y with
    | inr e =>
     have he:e≠0:=ac8 hm
     rw[gH hm] at E2
     have F:=hgo.trans (abt E E2)
     simp -implicitDefEqProofs(maxSteps:=9^9)only[Tryz.f15,↓zA,sevalprocAttr,gF,g2,g4,g6,g7,g142,g143,g144,aa,go,dm,gx,hw,aU,aN,n1,n2,n3,n4,kr,hm,ab6,he,F,br]
     try rfl
    | inl x =>
     rw[acA hm] at E2
     simp -implicitDefEqProofs(maxSteps:=9^9)only[Tryz.f15,↓zA,sevalprocAttr,gF,g2,g4,g6,g7,g142,g143,g144,aa,go,dm,gx,hw,aU,aN,n1,n2,n3,n4,kr,hm,amI,hn]
     exact⟨rfl,Q++[x],_,rfl,by omega,by omega,by omega,by omega,by rw[List.length_append,hQ];rfl,E2,.inr (by rw[am2,List.length_append];rfl)⟩
  have e:m=s.rfs.length:=by omega
  subst e
  rw[List.drop_length,ahs] at E2
  have F:=hgo.trans (adI E E2)
  have n1:=jk r1
  have n2:=jk r2
  have n3:=jk r3
  have l2:c.tbs.length+1≤LIM:=by unfold LIM;omega
  have n4:=jk r4
  rcases hS with ⟨rfl,rfl⟩|rfl
  .skip
   simp -implicitDefEqProofs(maxSteps:=9^9)only[Tryz.f15,↓zA,sevalprocAttr,gF,g2,g4,g6,g7,g142,g143,g144,aa,go,Nat.lt_irrefl,aU,aN,n1,n2,n3,n4,p1,p2,p3,p1.symm,p2.symm,p3.symm,l2,F,br]
   refine⟨okT ((Z68 _ _ _ _).2 r3) (by omega) _,?_⟩
   subst hA0
   rw[show c.ixs++eN s.tb 0 []=c.ixs from List.append_nil _]
   exact congrArg (fun y=>some (⟨false,[X.of (C.agg [y,slC ixC c.ixs,ci (c.nx+1+(s.kys.length:Int))]),ak 0],[]⟩ : An)) (acz tbC c.tbs ⟨s.tb,c.nx,s.cs,[],[],s.chs⟩)
  .skip
   simp -implicitDefEqProofs(maxSteps:=9^9)only[Tryz.f15,↓zA,sevalprocAttr,gF,g2,g4,g6,g7,g142,g143,g144,aa,go,Nat.lt_irrefl,aU,aN,n1,n2,n3,n4,p1,p2,p3,p1.symm,p2.symm,p3.symm,l2,F,br]
   refine⟨okT ((Z68 _ _ _ _).2 r3) (by omega) _,?_⟩
   subst hA0
   rw[show c.ixs++eN s.tb 0 []=c.ixs from List.append_nil _]
   exact congrArg (fun y=>some (⟨false,[X.of (C.agg [y,slC ixC c.ixs,ci (c.nx+1+(s.kys.length:Int))]),ak 0],[]⟩ : An)) (acz tbC c.tbs ⟨s.tb,c.nx,s.cs,[],Q,s.chs⟩)
 .skip
  subst hK
  subst hI
  simp -implicitDefEqProofs(maxSteps:=9^9)only[Tryz.f15,↓zA,sevalprocAttr,gF,f2,f3,f4,f6,f7,f90,f91,f92,aa,fo,Nat.lt_irrefl,aU,aN]
  refine aL (s.rfs.length) (fun m tm=>tm.fr 2=.of (.ref [slC tbC c.tbs,slC ixC c.ixs,ci c.nx])∧tm.fr 4=.ptr 0 0∧tm.fr 6=.ptr 1 0∧tm.fr 7=.ptr 2 0∧tm.fr 142=.of (slC rdC s.rfs)∧tm.fr 143=ak s.rfs.length∧tm.fr 144=ak m∧∃ Q R,tm.objs=[.var 27 [.nil,.nil,ak 0],.var 48 [dA (ar s.tb),ak c.nx,.own (.nm c1 j1 0) 53 3 (fl cdC s.cs) s.cs.length,.own (.cell 1 3) 93 3 (fl kyC A) A.length,R,.own (.nm c2 j2 0) 88 9 (fl xpC s.chs) s.chs.length],.var 27 [.own (.nm c3 j3 0) 48 6 (fl tbC c.tbs) c.tbs.length,.own (.cell 2 1) 60 5 (fl ixC (c.ixs++eN s.tb 0 A)) (c.ixs++eN s.tb 0 A).length,ak (c.nx+1+(s.kys.length:Int))]]∧c1<tm.clk∧c2<tm.clk∧c3<tm.clk∧Q.length=m∧eE c s.tb s.cs A s.rfs=abz c s.tb s.cs A Q (s.rfs.drop m)∧((Q=[]∧R=.nil)∨R=.own (.cell 1 4) 99 3 (fl rfC Q) Q.length)) ?_ ?_
  .simp -implicitDefEqProofs(maxSteps:=9^9)only[Tryz.f15,↓zA,sevalprocAttr,gF,f2,f3,f4,f6,f7,f90,f91,f92,aa,fo]
   exact⟨[],.nil,rfl,by omega,by omega,by omega,rfl,(amF _ _ _ _ _).symm,.inl ⟨rfl,rfl⟩⟩
  rintro m ⟨frm,obm,ckm⟩ hm ⟨g2,g4,g6,g7,g142,g143,g144,Q,R,go,r1,r2,r3,hQ,E2,hS⟩
  dsimp only at g2 g4 g6 g7 g142 g143 g144 go hS r1 r2 r3
  rcases Nat.lt_or_ge m (s.rfs.length) with dm|dm
  .have hw:=aQ m (by omega)
   have gx:=ap dm
   have hf1:=h6 _ (List.getElem_mem dm)
   rw[aJ dm] at E2
   generalize s.rfs[m]=y at *
   have n1:=jk r1
   have n2:=jk r2
   have n3:=jk r3
   have hn:Q.length+1≤LIM:=by unfold LIM;omega
   rcases hS with ⟨rfl,rfl⟩|rfl
   .have kr:∀ K,aG Tryz.prog pr 56 [.of (.agg (ctC c)),.of (.agg [ao (ar s.tb),ci c.nx,slC cdC s.cs,slC kyC A,C.sl [] 0,slC xpC s.chs]),.of (.agg (rdC y))] [] K↔K ⟨false,rR (cq c s.tb s.cs A y),[]⟩:=fun K=>ae.k (aaa c ⟨s.tb,c.nx,s.cs,A,[],s.chs⟩ y hc (by show s.cs.length≤LB;omega) hAL hy2 hf1.1 hf1.2) K
    cases hm:cq c s.tb s.cs A y with
    | inr e =>
     have he:e≠0:=ac8 hm
     rw[gH hm] at E2
     have F:=hgo.trans (abt E E2)
     simp -implicitDefEqProofs(maxSteps:=9^9)only[Tryz.f15,↓zA,sevalprocAttr,gF,g2,g4,g6,g7,g142,g143,g144,aa,go,dm,gx,hw,aU,aN,n1,n2,n3,kr,hm,ab6,he,F,br]
     try rfl
    | inl x =>
     rw[acA hm] at E2
     simp -implicitDefEqProofs(maxSteps:=9^9)only[Tryz.f15,↓zA,sevalprocAttr,gF,g2,g4,g6,g7,g142,g143,g144,aa,go,dm,gx,hw,aU,aN,n1,n2,n3,kr,hm,amI,ju]
     exact⟨[x],_,rfl,by omega,by omega,by omega,by simp only[List.length_nil] at hQ;simp only[List.length_cons,List.length_nil];omega,E2,.inr rfl⟩
   .have kr:∀ K,aG Tryz.prog pr 56 [.of (.agg (ctC c)),.of (.agg (tbC ⟨s.tb,c.nx,s.cs,A,Q,s.chs⟩)),.of (.agg (rdC y))] [] K↔K ⟨false,rR (cq c s.tb s.cs A y),[]⟩:=fun K=>ae.k (aaa c ⟨s.tb,c.nx,s.cs,A,Q,s.chs⟩ y hc (by show s.cs.length≤LB;omega) hAL hy2 hf1.1 hf1.2) K
    cases hm:cq c s.tb s.cs A y with
    | inr e =>
     have he:e≠0:=ac8 hm
     rw[gH hm] at E2
     have F:=hgo.trans (abt E E2)
     simp -implicitDefEqProofs(maxSteps:=9^9)only[Tryz.f15,↓zA,sevalprocAttr,gF,g2,g4,g6,g7,g142,g143,g144,aa,go,dm,gx,hw,aU,aN,n1,n2,n3,kr,hm,ab6,he,F,br]
     try rfl
    | inl x =>
     rw[acA hm] at E2
     simp -implicitDefEqProofs(maxSteps:=9^9)only[Tryz.f15,↓zA,sevalprocAttr,gF,g2,g4,g6,g7,g142,g143,g144,aa,go,dm,gx,hw,aU,aN,n1,n2,n3,kr,hm,amI,hn]
     exact⟨rfl,Q++[x],_,rfl,by omega,by omega,by omega,by rw[List.length_append,hQ];rfl,E2,.inr (by rw[am2,List.length_append];rfl)⟩
  have e:m=s.rfs.length:=by omega
  subst e
  rw[List.drop_length,ahs] at E2
  have F:=hgo.trans (adI E E2)
  have n1:=jk r1
  have n2:=jk r2
  have n3:=jk r3
  have l2:c.tbs.length+1≤LIM:=by unfold LIM;omega
  rcases hS with ⟨rfl,rfl⟩|rfl
  .skip
   simp -implicitDefEqProofs(maxSteps:=9^9)only[Tryz.f15,↓zA,sevalprocAttr,gF,g2,g4,g6,g7,g142,g143,g144,aa,go,Nat.lt_irrefl,aU,aN,n1,n2,n3,l2,F,br]
   refine⟨okT ((Z68 _ _ _ _).2 r3) (by omega) _,?_⟩
   rw[← List.length_append]
   exact congrArg (fun y=>some (⟨false,[X.of (C.agg [y,slC ixC (c.ixs++eN s.tb 0 A),ci (c.nx+1+(s.kys.length:Int))]),ak 0],[]⟩ : An)) (acz tbC c.tbs ⟨s.tb,c.nx,s.cs,A,[],s.chs⟩)
  .skip
   simp -implicitDefEqProofs(maxSteps:=9^9)only[Tryz.f15,↓zA,sevalprocAttr,gF,g2,g4,g6,g7,g142,g143,g144,aa,go,Nat.lt_irrefl,aU,aN,n1,n2,n3,l2,F,br]
   refine⟨okT ((Z68 _ _ _ _).2 r3) (by omega) _,?_⟩
   rw[← List.length_append]
   exact congrArg (fun y=>some (⟨false,[X.of (C.agg [y,slC ixC (c.ixs++eN s.tb 0 A),ci (c.nx+1+(s.kys.length:Int))]),ak 0],[]⟩ : An)) (acz tbC c.tbs ⟨s.tb,c.nx,s.cs,A,Q,s.chs⟩)
def jO:=ai (ai (ai @zq (ai @a03 @a02)) (ai (ai @a01 @cU) (ai @dH @fb))) (ai (ai (ai @d9 @cW) (ai @P3 @Q3)) (ai (ai @Q9 @zT0) (ai @aDl (aw aSj))))
theorem ap1 (c:Ct) (tb nm:List UInt8) (h1:c.tbs.length≤LB) (h2:c.ixs.length≤LB):G1 68 [.of (.agg (ctC c)),.of (ao (ar tb)),.of (ao (ar nm))] (.of (.agg (ctC (jQ c tb nm)))):=by
 have hlb:LB=1073741824:=rfl
 refine aj rfl aSj aDl rfl ?_
 simp -implicitDefEqProofs(maxSteps:=9^9)only[Tryz.f68,↓zA,sevalprocAttr,jO]
 refine aL (c.tbs.length) (fun k tk=>tk.fr 1=dA (ar tb)∧tk.fr 2=dA (ar nm)∧tk.fr 3=.of (.ref [slC tbC c.tbs,slC ixC c.ixs,ci c.nx])∧tk.fr 6=.ptr 0 0∧tk.fr 7=.ptr 1 0∧tk.fr 8=ak k∧∃ T,tk.objs=[.var 27 [.nil,.nil,ak 0],.var 27 [T,.nil,ak c.nx]]∧(((c.tbs.take k).filter (fun t:Tb=>decide (t.nm≠tb))=[]∧T=.nil)∨T=.own (.cell 1 0) 48 6 (fl tbC ((c.tbs.take k).filter (fun t:Tb=>decide (t.nm≠tb)))) ((c.tbs.take k).filter (fun t:Tb=>decide (t.nm≠tb))).length)) ?_ ?_
 .simp -implicitDefEqProofs(maxSteps:=9^9)only[Tryz.f68,↓zA,sevalprocAttr,jO]
  exact⟨_,rfl,by first|exact .inl ⟨rfl,rfl⟩|exact .inl rfl⟩
 rintro k ⟨frk,obk,ckk⟩ hk ⟨f1,f2,f3,f6,f7,f8,T,fo,hO⟩
 dsimp only at f1 f2 f3 f6 f7 f8 fo
 rcases Nat.lt_or_ge k (c.tbs.length) with dk|dk
 .have hw:=aQ k (by omega)
  have gx:=ap dk
  have hle:((c.tbs.take k).filter (fun t:Tb=>decide (t.nm≠tb))).length≤k:=Nat.le_trans (List.length_filter_le ..) (by rw[List.length_take];omega)
  have hn:((c.tbs.take k).filter (fun t:Tb=>decide (t.nm≠tb))).length+1≤LIM:=by unfold LIM;omega
  by_cases c0:c.tbs[k].nm=tb
  .rw[gl dk (by simp[c0])]
   generalize c.tbs[k]=x at *
   simp -implicitDefEqProofs(maxSteps:=9^9)only[Tryz.f68,↓zA,sevalprocAttr,jO,f1,f2,f3,f6,f7,f8,aa,fo,dk,gx,hw,av,eq_true c0]
   exact⟨_,rfl,hO⟩
  rw[iC dk (by simp[c0])]
  generalize c.tbs[k]=x at *
  generalize (c.tbs.take k).filter (fun t:Tb=>decide (t.nm≠tb))=A at *
  rcases hO with ⟨rfl,rfl⟩|rfl
  .skip
   simp -implicitDefEqProofs(maxSteps:=9^9)only[Tryz.f68,↓zA,sevalprocAttr,jO,f1,f2,f3,f6,f7,f8,aa,fo,dk,gx,hw,av,c0,aU,aN,ju]
   exact⟨_,rfl,rfl⟩
  .skip
   simp -implicitDefEqProofs(maxSteps:=9^9)only[Tryz.f68,↓zA,sevalprocAttr,jO,f1,f2,f3,f6,f7,f8,aa,fo,dk,gx,hw,av,c0,aU,aN,hn]
   exact⟨rfl,_,rfl,by first|rfl|exact .inr (by rw[dD,d6];rfl)|exact .inr (by rw[dD,d6,List.length_append];rfl)⟩
 have e:k=c.tbs.length:=by omega
 subst e
 rw[List.take_length] at hO
 generalize hA:c.tbs.filter (fun t:Tb=>decide (t.nm≠tb))=A at *
 rcases hO with ⟨rfl,rfl⟩|rfl
 .skip
  simp -implicitDefEqProofs(maxSteps:=9^9)only[Tryz.f68,↓zA,sevalprocAttr,jO,f1,f2,f3,f6,f7,f8,aa,fo,Nat.lt_irrefl,aU,aN]
  refine aL (c.ixs.length) (fun m tm=>tm.fr 1=dA (ar tb)∧tm.fr 2=dA (ar nm)∧tm.fr 3=.of (.ref [slC tbC c.tbs,slC ixC c.ixs,ci c.nx])∧tm.fr 6=.ptr 0 0∧tm.fr 7=.ptr 1 0∧tm.fr 9=ak m∧∃ X,tm.objs=[.var 27 [.nil,.nil,ak 0],.var 27 [.nil,X,ak c.nx]]∧(((c.ixs.take m).filter (fun x:Ix=>decide (x.tb≠tb)&&decide (x.nm≠nm))=[]∧X=.nil)∨X=.own (.cell 1 1) 60 5 (fl ixC ((c.ixs.take m).filter (fun x:Ix=>decide (x.tb≠tb)&&decide (x.nm≠nm)))) ((c.ixs.take m).filter (fun x:Ix=>decide (x.tb≠tb)&&decide (x.nm≠nm))).length)) ?_ ?_
  .simp -implicitDefEqProofs(maxSteps:=9^9)only[Tryz.f68,↓zA,sevalprocAttr,jO,f1,f2,f3,f6,f7,f8,aa,fo]
   exact⟨_,rfl,by first|exact .inl ⟨rfl,rfl⟩|exact .inl rfl⟩
  rintro m ⟨frm,obm,ckm⟩ hm ⟨g1,g2,g3,g6,g7,g9,X,go,hX⟩
  dsimp only at g1 g2 g3 g6 g7 g9 go
  rcases Nat.lt_or_ge m (c.ixs.length) with dm|dm
  .have hw:=aQ m (by omega)
   have gx:=ap dm
   have hle:((c.ixs.take m).filter (fun x:Ix=>decide (x.tb≠tb)&&decide (x.nm≠nm))).length≤m:=Nat.le_trans (List.length_filter_le ..) (by rw[List.length_take];omega)
   have hn:((c.ixs.take m).filter (fun x:Ix=>decide (x.tb≠tb)&&decide (x.nm≠nm))).length+1≤LIM:=by unfold LIM;omega
   by_cases c0:c.ixs[m].tb=tb
   .rw[gl dm (by simp[c0])]
    generalize c.ixs[m]=x at *
    simp -implicitDefEqProofs(maxSteps:=9^9)only[Tryz.f68,↓zA,sevalprocAttr,jO,g1,g2,g3,g6,g7,g9,aa,go,dm,gx,hw,av,eq_true c0,aU,aN]
    exact⟨_,rfl,hX⟩
   by_cases c2:c.ixs[m].nm=nm
   .rw[gl dm (by simp[c2])]
    generalize c.ixs[m]=x at *
    simp -implicitDefEqProofs(maxSteps:=9^9)only[Tryz.f68,↓zA,sevalprocAttr,jO,g1,g2,g3,g6,g7,g9,aa,go,dm,gx,hw,av,c0,eq_true c2,aU,aN]
    exact⟨_,rfl,hX⟩
   rw[iC dm (by simp[c0,c2])]
   generalize c.ixs[m]=x at *
   generalize (c.ixs.take m).filter (fun x:Ix=>decide (x.tb≠tb)&&decide (x.nm≠nm))=B at *
   rcases hX with ⟨rfl,rfl⟩|rfl
   .skip
    simp -implicitDefEqProofs(maxSteps:=9^9)only[Tryz.f68,↓zA,sevalprocAttr,jO,g1,g2,g3,g6,g7,g9,aa,go,dm,gx,hw,av,c0,c2,aU,aN,ju]
    exact⟨_,rfl,rfl⟩
   .skip
    simp -implicitDefEqProofs(maxSteps:=9^9)only[Tryz.f68,↓zA,sevalprocAttr,jO,g1,g2,g3,g6,g7,g9,aa,go,dm,gx,hw,av,c0,c2,aU,aN,hn]
    exact⟨rfl,_,rfl,by first|rfl|exact .inr (by rw[dD,d6];rfl)|exact .inr (by rw[dD,d6,List.length_append];rfl)⟩
  have e:m=c.ixs.length:=by omega
  subst e
  rw[List.take_length] at hX
  have hW:jQ c tb nm=⟨c.tbs.filter (fun t:Tb=>decide (t.nm≠tb)),c.ixs.filter (fun x:Ix=>decide (x.tb≠tb)&&decide (x.nm≠nm)),c.nx⟩:=rfl
  rw[hA] at hW
  generalize c.ixs.filter (fun x:Ix=>decide (x.tb≠tb)&&decide (x.nm≠nm))=B at *
  rcases hX with ⟨rfl,rfl⟩|rfl
  .skip
   simp -implicitDefEqProofs(maxSteps:=9^9)only[Tryz.f68,↓zA,sevalprocAttr,jO,g1,g2,g3,g6,g7,g9,aa,go,Nat.lt_irrefl,aU,aN,hW]
   try rfl
  .skip
   simp -implicitDefEqProofs(maxSteps:=9^9)only[Tryz.f68,↓zA,sevalprocAttr,jO,g1,g2,g3,g6,g7,g9,aa,go,Nat.lt_irrefl,aU,aN,hW]
   try rfl
 .skip
  simp -implicitDefEqProofs(maxSteps:=9^9)only[Tryz.f68,↓zA,sevalprocAttr,jO,f1,f2,f3,f6,f7,f8,aa,fo,Nat.lt_irrefl,aU,aN]
  refine aL (c.ixs.length) (fun m tm=>tm.fr 1=dA (ar tb)∧tm.fr 2=dA (ar nm)∧tm.fr 3=.of (.ref [slC tbC c.tbs,slC ixC c.ixs,ci c.nx])∧tm.fr 6=.ptr 0 0∧tm.fr 7=.ptr 1 0∧tm.fr 9=ak m∧∃ X,tm.objs=[.var 27 [.nil,.nil,ak 0],.var 27 [.own (.cell 1 0) 48 6 (fl tbC A) A.length,X,ak c.nx]]∧(((c.ixs.take m).filter (fun x:Ix=>decide (x.tb≠tb)&&decide (x.nm≠nm))=[]∧X=.nil)∨X=.own (.cell 1 1) 60 5 (fl ixC ((c.ixs.take m).filter (fun x:Ix=>decide (x.tb≠tb)&&decide (x.nm≠nm)))) ((c.ixs.take m).filter (fun x:Ix=>decide (x.tb≠tb)&&decide (x.nm≠nm))).length)) ?_ ?_
  .simp -implicitDefEqProofs(maxSteps:=9^9)only[Tryz.f68,↓zA,sevalprocAttr,jO,f1,f2,f3,f6,f7,f8,aa,fo]
   exact⟨_,rfl,by first|exact .inl ⟨rfl,rfl⟩|exact .inl rfl⟩
  rintro m ⟨frm,obm,ckm⟩ hm ⟨g1,g2,g3,g6,g7,g9,X,go,hX⟩
  dsimp only at g1 g2 g3 g6 g7 g9 go
  rcases Nat.lt_or_ge m (c.ixs.length) with dm|dm
  .have hw:=aQ m (by omega)
   have gx:=ap dm
   have hle:((c.ixs.take m).filter (fun x:Ix=>decide (x.tb≠tb)&&decide (x.nm≠nm))).length≤m:=Nat.le_trans (List.length_filter_le ..) (by rw[List.length_take];omega)
   have hn:((c.ixs.take m).filter (fun x:Ix=>decide (x.tb≠tb)&&decide (x.nm≠nm))).length+1≤LIM:=by unfold LIM;omega
   by_cases c0:c.ixs[m].tb=tb
   .rw[gl dm (by simp[c0])]
    generalize c.ixs[m]=x at *
    simp -implicitDefEqProofs(maxSteps:=9^9)only[Tryz.f68,↓zA,sevalprocAttr,jO,g1,g2,g3,g6,g7,g9,aa,go,dm,gx,hw,av,eq_true c0,aU,aN]
    exact⟨_,rfl,hX⟩
   by_cases c2:c.ixs[m].nm=nm
   .rw[gl dm (by simp[c2])]
    generalize c.ixs[m]=x at *
    simp -implicitDefEqProofs(maxSteps:=9^9)only[Tryz.f68,↓zA,sevalprocAttr,jO,g1,g2,g3,g6,g7,g9,aa,go,dm,gx,hw,av,c0,eq_true c2,aU,aN]
    exact⟨_,rfl,hX⟩
   rw[iC dm (by simp[c0,c2])]
   generalize c.ixs[m]=x at *
   generalize (c.ixs.take m).filter (fun x:Ix=>decide (x.tb≠tb)&&decide (x.nm≠nm))=B at *
   rcases hX with ⟨rfl,rfl⟩|rfl
   .skip
    simp -implicitDefEqProofs(maxSteps:=9^9)only[Tryz.f68,↓zA,sevalprocAttr,jO,g1,g2,g3,g6,g7,g9,aa,go,dm,gx,hw,av,c0,c2,aU,aN,ju]
    exact⟨_,rfl,rfl⟩
   .skip
    simp -implicitDefEqProofs(maxSteps:=9^9)only[Tryz.f68,↓zA,sevalprocAttr,jO,g1,g2,g3,g6,g7,g9,aa,go,dm,gx,hw,av,c0,c2,aU,aN,hn]
    exact⟨rfl,_,rfl,by first|rfl|exact .inr (by rw[dD,d6];rfl)|exact .inr (by rw[dD,d6,List.length_append];rfl)⟩
  have e:m=c.ixs.length:=by omega
  subst e
  rw[List.take_length] at hX
  have hW:jQ c tb nm=⟨c.tbs.filter (fun t:Tb=>decide (t.nm≠tb)),c.ixs.filter (fun x:Ix=>decide (x.tb≠tb)&&decide (x.nm≠nm)),c.nx⟩:=rfl
  rw[hA] at hW
  generalize c.ixs.filter (fun x:Ix=>decide (x.tb≠tb)&&decide (x.nm≠nm))=B at *
  rcases hX with ⟨rfl,rfl⟩|rfl
  .skip
   simp -implicitDefEqProofs(maxSteps:=9^9)only[Tryz.f68,↓zA,sevalprocAttr,jO,g1,g2,g3,g6,g7,g9,aa,go,Nat.lt_irrefl,aU,aN,hW]
   try rfl
  .skip
   simp -implicitDefEqProofs(maxSteps:=9^9)only[Tryz.f68,↓zA,sevalprocAttr,jO,g1,g2,g3,g6,g7,g9,aa,go,Nat.lt_irrefl,aU,aN,hW]
   try rfl
theorem anE (c:Ct) (tb nm:List UInt8) (h1:c.tbs.length≤LB) (h2:c.ixs.length≤LB) (K:An→Prop):aG Tryz.prog pr 68 [.of (.agg (ctC c)),.of (ao (ar tb)),.of (ao (ar nm))] [] K↔K ⟨false,[.of (.agg (ctC (jQ c tb nm)))],[]⟩:=ae.k (ap1 c tb nm h1 h2) K
theorem akl (r:Ct×Int):doR r=[.of (.agg (ctC r.1)),ak r.2]:=rfl
def afY:=ai (ai (ai (ai @zq (ai @a00 @a0Z)) (ai (ai @a0Y @apG) (ai @al5 @ay1))) (ai (ai @ar6 (ai @agt @aep)) (ai (ai @aWy @aTT) (ai @aWx @aTS)))) (ai (ai (ai @apF (ai @al4 @aIt)) (ai (ai @aEX @cU) (ai @fa @fb))) (ai (ai @cW (ai @P3 @Q3)) (ai (ai @Q9 @zT0) (ai @aD2 (aw aSZ)))))
theorem aqL (c:Ct) (s:Sm) (hc:CtB c) (hs:smW s≤LB):GN 21 [.of (.agg (ctC c)),.of (.agg (smC s))] (doR (gw c s)):=by
 obtain⟨h1,h2,h3,h3',h4,h5,h6,h4'⟩:=abl s hs
 have h7:=hc.x
 have h8:=hc.t
 have hlb:LB=1073741824:=rfl
 have hln:ee=1099511627776:=rfl
 have kst:=fun K=>ae.k (ae8 s (by simp only[WL];omega)) K
 have kR:=fun K=>adz c hc K
 have ka:=fun K=>ae.k (acJ c s.tb (by omega)) K
 have kt:=fun K=>aqC c s.tb hc K
 have ki:=fun K=>ady c s.nm (by omega) K
 have kw1:∀ K,aG Tryz.prog pr 68 [.of (.agg (ctC c)),.of (ao (ar s.tb)),.of (ao {data:=#[]})] [] K↔K ⟨false,[.of (.agg (ctC (jQ c s.tb [])))],[]⟩:=fun K=>anE c s.tb [] (by omega) (by omega) K
 have kw2:∀ K,aG Tryz.prog pr 68 [.of (.agg (ctC c)),.of (ao {data:=#[]}),.of (ao (ar s.nm))] [] K↔K ⟨false,[.of (.agg (ctC (jQ c [] s.nm)))],[]⟩:=fun K=>anE c [] s.nm (by omega) (by omega) K
 refine aj rfl aSZ aD2 rfl ?_
 cases b0:bz c
 .have F:=adR (s:=s) (.inl b0)
  simp -implicitDefEqProofs(maxSteps:=9^9)only[Tryz.f21,↓zA,sevalprocAttr,afY,kR,kst,b0,F,br]
  try rfl
 have hR:=(fd c).1 b0
 by_cases hk:s.kd=3
 rotate_left
 .have F:=adR (c:=c) (.inr (.inl hk))
  simp -implicitDefEqProofs(maxSteps:=9^9)only[Tryz.f21,↓zA,sevalprocAttr,afY,kR,kst,b0,hk,F,br]
  try rfl
 cases b1:cd s
 .have F:=adR (c:=c) (.inr (.inr b1))
  simp -implicitDefEqProofs(maxSteps:=9^9)only[Tryz.f21,↓zA,sevalprocAttr,afY,kR,kst,b0,eq_true hk,b1,F,br]
  try rfl
 by_cases ht:s.tb=[]
 rotate_left
 .have F0:=axd b0 hk b1 ht
  rcases jV (fun t:Tb=>decide (t.nm=s.tb)) c.tbs with ⟨hi,hf⟩|⟨j,hj,hi,hf⟩
  .have hfn:bx c s.tb=none:=hf
   have F:=F0.trans (ah7 hfn)
   simp -implicitDefEqProofs(maxSteps:=9^9)only[Tryz.f21,↓zA,sevalprocAttr,afY,kR,kst,b0,eq_true hk,b1,ht,ka,hi,F,br]
   try rfl
  have hfn:bx c s.tb=some c.tbs[j]:=hf
  cases b2:(c.tbs.any fun t=>decide (t.nm≠s.tb)&&t.rfs.any fun f=>decide (f.tb=s.tb))
  rotate_left
  .have F:=F0.trans (agZ hfn b2)
   simp -implicitDefEqProofs(maxSteps:=9^9)only[Tryz.f21,↓zA,sevalprocAttr,afY,kR,kst,b0,eq_true hk,b1,ht,ka,hi,fB,kt,b2,F,br]
   try rfl
  have F:=F0.trans (ah8 hfn b2)
  have F2:=aBe hR s.tb
  unfold acX at F2
  rw[← F2] at F
  simp -implicitDefEqProofs(maxSteps:=9^9)only[Tryz.f21,↓zA,sevalprocAttr,afY,kR,kst,b0,eq_true hk,b1,ht,ka,hi,fB,kt,b2,kw1,F,br]
  try rfl
 rcases jV (fun x:Ix=>decide (x.nm=s.nm)) c.ixs with ⟨hi,hf⟩|⟨j,hj,hi,hf⟩
 .have F:=axe b0 hk b1 ht hf
  simp -implicitDefEqProofs(maxSteps:=9^9)only[Tryz.f21,↓zA,sevalprocAttr,afY,kR,kst,b0,eq_true hk,b1,eq_true ht,ki,hi,F,br]
  try rfl
 have gj:=ap hj
 have ks:=fun K=>ajB c c.ixs[j] hc K
 cases b2:df c c.ixs[j].id
 rotate_left
 .have F:=akk b0 hk b1 ht hf b2
  simp -implicitDefEqProofs(maxSteps:=9^9)only[Tryz.f21,↓zA,sevalprocAttr,afY,kR,kst,b0,eq_true hk,b1,eq_true ht,ki,hi,fB,gj,ks,b2,F,br]
  try rfl
 have F:=axf b0 hk b1 ht hf b2
 have F2:=aBd hR s.nm
 unfold ai2 at F2
 rw[← F2] at F
 simp -implicitDefEqProofs(maxSteps:=9^9)only[Tryz.f21,↓zA,sevalprocAttr,afY,kR,kst,b0,eq_true hk,b1,eq_true ht,ki,hi,fB,gj,ks,b2,kw2,F,br]
 try rfl
def zc9:=ai (ai (ai (ai @zq @a0M) (ai @a0L @a0K)) (ai (ai @aWX @aUi) (ai @aWW @aUh))) (ai (ai (ai @aWV @aUg) (ai @cU @fa)) (ai (ai @P3 @Q3) (ai @zT0 (ai @aIH (aw fi9)))))
theorem aOB (c:Ct) (s:Sm) (hc:CtB c) (hs:smW s≤LB) (kC:∀ K,aG Tryz.prog pr 19 [.of (.agg (ctC c)),.of (.agg (smC s))] [] K↔K ⟨false,doR (fC c s),[]⟩):GN 9 [.of (.agg (ctC c)),.of (.agg (smC s))] (doR (doA c s)):=by
 have kI:=fun K=>ae.k (aoS c s hc hs) K
 have kD:=fun K=>ae.k (aqL c s hc hs) K
 refine aj rfl fi9 aIH rfl ?_
 by_cases k1:s.kd=1
 .have F:doA c s=fC c s:=by unfold doA;rw[if_pos k1]
  simp -implicitDefEqProofs(maxSteps:=9^9)only[Tryz.f9,↓zA,sevalprocAttr,zc9,eq_true k1,kC,akl,F]
  try rfl
 by_cases k2:s.kd=2
 .have F:doA c s=cB c s:=by unfold doA;rw[if_neg k1,if_pos k2]
  simp -implicitDefEqProofs(maxSteps:=9^9)only[Tryz.f9,↓zA,sevalprocAttr,zc9,k1,eq_true k2,kI,akl,F]
  try rfl
 have F:doA c s=gw c s:=by unfold doA;rw[if_neg k1,if_neg k2]
 simp -implicitDefEqProofs(maxSteps:=9^9)only[Tryz.f9,↓zA,sevalprocAttr,zc9,k1,k2,kD,akl,F]
 try rfl
def abZ:=ai (ai (ai (ai (ai @zq @a1n) (ai @a1m @a1l)) (ai (ai @apG @al5) (ai @ay1 (ai @ar6 @aWB)))) (ai (ai (ai @aTW @aWA) (ai @aTV (ai @aWz @aTU))) (ai (ai @a1e @ay0) (ai @ar5 (ai @cU @fa))))) (ai (ai (ai (ai @dH @dw) (ai @jz @fb)) (ai (ai @bK @il) (ai @d9 (ai @cW @cE)))) (ai (ai (ai @gG @dR) (ai @kb (ai @cV @P3))) (ai (ai @Q3 @Q9) (ai @zT0 (ai @aD4 (aw aS1))))))
theorem amL (c:Ct) (s:Sm) (hc:CtB c) (hs:smW s≤LB):GN 19 [.of (.agg (ctC c)),.of (.agg (smC s))] (doR (fC c s)):=by
 obtain⟨h1,h2,h3,h3',h4,h5,h6,h4'⟩:=abl s hs
 have h7:=hc.x
 have h8:=hc.t
 have hlb:LB=1073741824:=rfl
 have hln:ee=1099511627776:=rfl
 have kst:=fun K=>ae.k (ae8 s (by simp only[WL];omega)) K
 have kR:=fun K=>adz c hc K
 have kdb:=fun K=>aG8 c s hc hs K
 refine aj rfl aS1 aD4 rfl ?_
 cases b0:bz c
 .have F:=abX (s:=s) (.inl b0)
  simp -implicitDefEqProofs(maxSteps:=9^9)only[Tryz.f19,↓zA,sevalprocAttr,abZ,kR,kst,kdb,b0,F,br]
  try rfl
 have hR:=(fd c).1 b0
 have hlo:=hR.lo
 have hhi:=hR.hi
 have hw1:=aiQ c.nx (by omega) (by omega)
 have hw2:=apz (c.nx+1) s.kys.length (by omega) (by omega)
 have hwk:IntKind.i64.wrap ((c.ixs.length:Int)+(s.kys.length:Int))=(c.ixs.length:Int)+(s.kys.length:Int):=da _ (by omega) (by omega)
 have e16:((16:Int)<(s.cs.length:Int))=(16<s.cs.length):=propext (by omega)
 have e32:((32:Int)≤(c.tbs.length:Int))=(32≤c.tbs.length):=propext (by omega)
 have e64:((64:Int)<(c.ixs.length:Int)+(s.kys.length:Int))=(64<c.ixs.length+s.kys.length):=propext (by omega)
 have eln:((1099511627776:Int)<c.nx+1+(s.kys.length:Int))=(ee<c.nx+1+(s.kys.length:Int)):=propext (by omega)
 by_cases hk:s.kd=1
 rotate_left
 .have F:=abX (c:=c) (.inr (.inl hk))
  simp -implicitDefEqProofs(maxSteps:=9^9)only[Tryz.f19,↓zA,sevalprocAttr,abZ,kR,kst,kdb,b0,hk,F,br]
  try rfl
 cases b1:cd s
 .have F:=abX (c:=c) (.inr (.inr b1))
  simp -implicitDefEqProofs(maxSteps:=9^9)only[Tryz.f19,↓zA,sevalprocAttr,abZ,kR,kst,kdb,b0,eq_true hk,b1,F,br]
  try rfl
 cases b2:dc c s
 rotate_left
 .have F:=aoi b0 hk b1 b2
  simp -implicitDefEqProofs(maxSteps:=9^9)only[Tryz.f19,↓zA,sevalprocAttr,abZ,kR,kst,kdb,b0,eq_true hk,b1,b2,F,br]
  try rfl
 by_cases c3:16<s.cs.length
 .have F:=jK b0 hk b1 b2 (.inl c3)
  simp -implicitDefEqProofs(maxSteps:=9^9)only[Tryz.f19,↓zA,sevalprocAttr,abZ,kR,kst,kdb,b0,eq_true hk,b1,b2,e16,e32,e64,eln,hw1,hw2,hwk,c3,F,br]
  try rfl
 by_cases c4:32≤c.tbs.length
 .have F:=jK b0 hk b1 b2 (.inr (.inl c4))
  simp -implicitDefEqProofs(maxSteps:=9^9)only[Tryz.f19,↓zA,sevalprocAttr,abZ,kR,kst,kdb,b0,eq_true hk,b1,b2,e16,e32,e64,eln,hw1,hw2,hwk,c3,c4,F,br]
  try rfl
 by_cases c5:64<c.ixs.length+s.kys.length
 .have F:=jK b0 hk b1 b2 (.inr (.inr (.inl c5)))
  simp -implicitDefEqProofs(maxSteps:=9^9)only[Tryz.f19,↓zA,sevalprocAttr,abZ,kR,kst,kdb,b0,eq_true hk,b1,b2,e16,e32,e64,eln,hw1,hw2,hwk,c3,c4,c5,F,br]
  try rfl
 by_cases c6:ee<c.nx+1+(s.kys.length:Int)
 .have F:=jK b0 hk b1 b2 (.inr (.inr (.inr c6)))
  simp -implicitDefEqProofs(maxSteps:=9^9)only[Tryz.f19,↓zA,sevalprocAttr,abZ,kR,kst,kdb,b0,eq_true hk,b1,b2,e16,e32,e64,eln,hw1,hw2,hwk,c3,c4,c5,c6,F,br]
  try rfl
 have hgo:=agL b0 hk b1 b2 c3 c4 c5 c6
 have kk:=fun K=>aMb s c.nx hs (by omega) hhi K
 cases hq:fO s.cs (c.nx+1) s.kys with
 | none =>
  have F:=hgo.trans (alW hq)
  simp -implicitDefEqProofs(maxSteps:=9^9)only[Tryz.f19,↓zA,sevalprocAttr,abZ,kR,kst,kdb,b0,eq_true hk,b1,b2,e16,e32,e64,eln,hw1,hw2,hwk,c3,c4,c5,c6,kk,hq,aw4,F,br]
  try rfl
 | some kys =>
  have hql:=an1 hq
  have hqm:=ahQ hq
  have hy1:kys.length≤LB:=by omega
  have hy2:∀ k∈kys,k.cs.length≤LB:=fun k hk=>by
   rcases hqm k hk with h|⟨y,hy,h⟩
   .omega
   .have:=h5 y hy
    omega
  have kf:=fun K=>ayJ c s kys hc hs hy1 hy2 K
  cases hr:eE c s.tb s.cs kys s.rfs with
  | inr e =>
   have he:e≠0:=agx hr
   have F:=hgo.trans (abt hq hr)
   simp -implicitDefEqProofs(maxSteps:=9^9)only[Tryz.f19,↓zA,sevalprocAttr,abZ,kR,kst,kdb,b0,eq_true hk,b1,b2,e16,e32,e64,eln,hw1,hw2,hwk,c3,c4,c5,c6,kk,hq,ai4,kf,hr,ael,he,F,br]
   try rfl
  | inl rfs =>
   have F:=hgo.trans (adI hq hr)
   have l1:c.tbs.length≤LIM:=by unfold LIM;omega
   have l2:c.tbs.length+1≤LIM:=by unfold LIM;omega
   have l3:s.cs.length≤LIM:=by unfold LIM;omega
   have l4:s.chs.length≤LIM:=by
    have:=eA xpW s.chs fun x=>gW x
    unfold smW at hs
    unfold LIM
    omega
   have l5:c.ixs.length≤LIM:=by unfold LIM;omega
   have hkl:((kys.length:Nat):Int)=(s.kys.length:Int):=by rw[hql]
   simp -implicitDefEqProofs(maxSteps:=9^9)only[Tryz.f19,↓zA,sevalprocAttr,abZ,kR,kst,kdb,b0,eq_true hk,b1,b2,e16,e32,e64,eln,hw1,hw2,hwk,c3,c4,c5,c6,kk,hq,ai4,kf,hr,aG1,aU,aN,l1,l2,l3,l4,l5]
   refine aL (kys.length) (fun k tk=>tk.fr 2=.of (.ref [slC tbC c.tbs,slC ixC c.ixs,ci c.nx])∧tk.fr 3=.of (.ref (smL s))∧tk.fr 4=.ptr 0 0∧tk.fr 6=.of (slC kyC kys)∧tk.fr 9=.ptr 1 0∧tk.fr 10=ak k∧∃ B n,tk.objs=[.var 27 [.nil,.nil,ak 0],.var 27 [.own (.cell 1 0) 48 6 (fl tbC c.tbs++[ao (ar s.tb),ci c.nx,slC cdC s.cs,slC kyC kys,slC rfC rfs,slC xpC s.chs]) (c.tbs.length+1),.own (.cell 1 1) 60 5 B n,ak c.nx]]∧B=fl ixC (c.ixs++eN s.tb 0 (kys.take k))∧n=(c.ixs++eN s.tb 0 (kys.take k)).length) ?_ ?_
   .simp -implicitDefEqProofs(maxSteps:=9^9)only[Tryz.f19,↓zA,sevalprocAttr,abZ]
    exact⟨_,_,rfl,by simp[eN],by simp[eN]⟩
   rintro k ⟨frk,obk,ckk⟩ hk ⟨f2,f3,f4,f6,f9,f10,B,n,fo,hB,hn⟩
   dsimp only at f2 f3 f4 f6 f9 f10 fo
   rcases Nat.lt_or_ge k (kys.length) with dk|dk
   .have hw:=aQ k (by omega)
    have gx:=ap dk
    have hq':=hy2 _ (List.getElem_mem dk)
    have et:=azu s.tb kys k dk
    have hl:(eN s.tb 0 (kys.take k)).length=k:=by rw[aeT,List.length_take];omega
    have hn1:n+1≤LIM:=by rw[hn,List.length_append];unfold LIM;omega
    have hk':k<LB:=by omega
    generalize kys[k]=y at *
    have l6:y.cs.length≤LIM:=by unfold LIM;omega
    simp -implicitDefEqProofs(maxSteps:=9^9)only[Tryz.f19,↓zA,sevalprocAttr,abZ,f2,f3,f4,f6,f9,f10,aa,fo,dk,gx,hw,ab7,h4,hk',and_self,aU,aN,hn1,l6]
    first|refine⟨_,_,rfl,?_,?_⟩|refine⟨rfl,_,_,rfl,?_,?_⟩
    .rw[et,← List.append_assoc,dD,d6,hB];rfl
    .rw[et];simp only[List.length_append,List.length_cons,List.length_nil] at hn ⊢;omega
   have e:k=kys.length:=by omega
   subst e
   rw[List.take_length] at hB hn
   simp -implicitDefEqProofs(maxSteps:=9^9)only[Tryz.f19,↓zA,sevalprocAttr,abZ,f2,f3,f4,f6,f9,f10,aa,fo,Nat.lt_irrefl,aU,aN,hw1,hw2,hkl,F,br]
   subst hB
   subst hn
   exact congrArg (fun y=>some (⟨false,[X.of (C.agg [y,slC ixC (c.ixs++eN s.tb 0 kys),ci (c.nx+1+(s.kys.length:Int))]),ak 0],[]⟩ : An)) (acz tbC c.tbs ⟨s.tb,c.nx,s.cs,kys,rfs,s.chs⟩)
def acv:=ai (ai (ai (ai @zq (ai @aZn @aZm)) (ai (ai @aZl @aZk) (ai @apE @al3))) (ai (ai @aZj (ai @aZi @apD)) (ai (ai @al2 @dH) (ai @dw @bK)))) (ai (ai (ai @il (ai @aaC @cE)) (ai (ai @dR @kb) (ai @abM @cV))) (ai (ai @Q9 (ai @P3 @Q3)) (ai (ai @Q4 @zT0) (ai @aD1 (aw aSY)))))
theorem aoO (t:Tb) (ht:TbB t):G1 22 [.of (.agg (tbC t)),.of (.agg (tbC t))] (ah true):=by
 have hlb:LB=1073741824:=rfl
 have h1:=ht.c
 have h2:=ht.k
 have h3:=ht.f
 have h4:=ht.h
 have h5:=ht.kc
 have h6:=ht.fc
 have h7:=ht.ft
 have h8:=eA xpW t.chs fun x=>gW x
 refine aj rfl aSY aD1 rfl ?_
 simp -implicitDefEqProofs(maxSteps:=9^9)only[Tryz.f22,↓zA,sevalprocAttr,acv,av,aR,cC,eh,decide_true,Bool.not_true,List.append_eq,List.append_toArray,List.cons_append,List.nil_append]
 refine aL (t.cs.length) (fun k tk=>tk.fr 2=.of (.ref [ao (ar t.nm),ci t.id,slC cdC t.cs,slC kyC t.kys,slC rfC t.rfs,slC xpC t.chs])∧tk.fr 3=.of (.ref [ao (ar t.nm),ci t.id,slC cdC t.cs,slC kyC t.kys,slC rfC t.rfs,slC xpC t.chs])∧tk.fr 5=ak k∧tk.objs=[]) ?_ ?_
 .simp -implicitDefEqProofs(maxSteps:=9^9)only[Tryz.f22,↓zA,sevalprocAttr,acv]
  try exact rfl
 rintro k ⟨frk,obk,ckk⟩ hk ⟨f2,f3,f5,fo⟩
 dsimp only at f2 f3 f5 fo
 rcases Nat.lt_or_ge k (t.cs.length) with dk|dk
 .have hw:=aQ k (by omega)
  have gx:=ap dk
  generalize t.cs[k]=x at *
  simp -implicitDefEqProofs(maxSteps:=9^9)only[Tryz.f22,↓zA,sevalprocAttr,acv,f2,f3,f5,fo,aa,dk,gx,hw,av,aR,cC,eh,decide_true,Bool.not_true,List.append_eq,List.append_toArray,List.cons_append,List.nil_append]
 have ek:k=t.cs.length:=by omega
 subst ek
 simp -implicitDefEqProofs(maxSteps:=9^9)only[Tryz.f22,↓zA,sevalprocAttr,acv,f2,f3,f5,fo,aa,Nat.lt_irrefl,av,aR,cC,eh,decide_true,Bool.not_true,List.append_eq,List.append_toArray,List.cons_append,List.nil_append]
 refine aL (t.kys.length) (fun m tm=>tm.fr 2=.of (.ref [ao (ar t.nm),ci t.id,slC cdC t.cs,slC kyC t.kys,slC rfC t.rfs,slC xpC t.chs])∧tm.fr 3=.of (.ref [ao (ar t.nm),ci t.id,slC cdC t.cs,slC kyC t.kys,slC rfC t.rfs,slC xpC t.chs])∧tm.fr 6=ak m∧tm.objs=[]) ?_ ?_
 .simp -implicitDefEqProofs(maxSteps:=9^9)only[Tryz.f22,↓zA,sevalprocAttr,acv,f2,f3,f5,fo,aa]
  try exact rfl
 rintro m ⟨frm,obm,ckm⟩ hm ⟨g2,g3,g6,go⟩
 dsimp only at g2 g3 g6 go
 rcases Nat.lt_or_ge m (t.kys.length) with dm|dm
 .have hw:=aQ m (by omega)
  have gx:=ap dm
  have hq:=h5 _ (List.getElem_mem dm)
  generalize t.kys[m]=x at *
  have hq':x.cs.length≤4611686018427387903:=by omega
  simp -implicitDefEqProofs(maxSteps:=9^9)only[Tryz.f22,↓zA,sevalprocAttr,acv,g2,g3,g6,go,aa,dm,gx,hw,act,hq',av,aR,cC,eh,decide_true,Bool.not_true,List.append_eq,List.append_toArray,List.cons_append,List.nil_append]
 have em:m=t.kys.length:=by omega
 subst em
 simp -implicitDefEqProofs(maxSteps:=9^9)only[Tryz.f22,↓zA,sevalprocAttr,acv,g2,g3,g6,go,aa,Nat.lt_irrefl,av,aR,cC,eh,decide_true,Bool.not_true,List.append_eq,List.append_toArray,List.cons_append,List.nil_append]
 refine aL (t.rfs.length) (fun n tn=>tn.fr 2=.of (.ref [ao (ar t.nm),ci t.id,slC cdC t.cs,slC kyC t.kys,slC rfC t.rfs,slC xpC t.chs])∧tn.fr 3=.of (.ref [ao (ar t.nm),ci t.id,slC cdC t.cs,slC kyC t.kys,slC rfC t.rfs,slC xpC t.chs])∧tn.fr 9=ak n∧tn.objs=[]) ?_ ?_
 .simp -implicitDefEqProofs(maxSteps:=9^9)only[Tryz.f22,↓zA,sevalprocAttr,acv,g2,g3,g6,go,aa]
  try exact rfl
 rintro n ⟨frn,obn,ckn⟩ hn ⟨i2,i3,i9,io⟩
 dsimp only at i2 i3 i9 io
 rcases Nat.lt_or_ge n (t.rfs.length) with dn|dn
 .have hw:=aQ n (by omega)
  have gx:=ap dn
  have hq:=h6 _ (List.getElem_mem dn)
  have hq2:=h7 _ (List.getElem_mem dn)
  generalize t.rfs[n]=x at *
  have hq':x.cs.length≤4611686018427387903:=by omega
  have hq2':x.to.length≤4611686018427387903:=by omega
  simp -implicitDefEqProofs(maxSteps:=9^9)only[Tryz.f22,↓zA,sevalprocAttr,acv,i2,i3,i9,io,aa,dn,gx,hw,act,hq',hq2',av,aR,cC,eh,decide_true,Bool.not_true,List.append_eq,List.append_toArray,List.cons_append,List.nil_append]
 have en:n=t.rfs.length:=by omega
 subst en
 simp -implicitDefEqProofs(maxSteps:=9^9)only[Tryz.f22,↓zA,sevalprocAttr,acv,i2,i3,i9,io,aa,Nat.lt_irrefl,av,aR,cC,eh,decide_true,Bool.not_true,List.append_eq,List.append_toArray,List.cons_append,List.nil_append]
 refine aL (t.chs.length) (fun p tp=>tp.fr 2=.of (.ref [ao (ar t.nm),ci t.id,slC cdC t.cs,slC kyC t.kys,slC rfC t.rfs,slC xpC t.chs])∧tp.fr 3=.of (.ref [ao (ar t.nm),ci t.id,slC cdC t.cs,slC kyC t.kys,slC rfC t.rfs,slC xpC t.chs])∧tp.fr 12=ak p∧tp.objs=[]) ?_ ?_
 .simp -implicitDefEqProofs(maxSteps:=9^9)only[Tryz.f22,↓zA,sevalprocAttr,acv,i2,i3,i9,io,aa]
  try exact rfl
 rintro p ⟨frp,obp,ckp⟩ hp ⟨j2,j3,j12,jo⟩
 dsimp only at j2 j3 j12 jo
 rcases Nat.lt_or_ge p (t.chs.length) with dp|dp
 .have hw:=aQ p (by omega)
  have gx:=ap dp
  have hx:=fun K=>aqH t.chs[p] (by have:=bg (w:=xpW) (List.getElem_mem dp);simp only[WL];omega) K
  generalize t.chs[p]=x at *
  simp -implicitDefEqProofs(maxSteps:=9^9)only[Tryz.f22,↓zA,sevalprocAttr,acv,j2,j3,j12,jo,aa,dp,gx,hw,hx,av,aR,cC,eh,decide_true,Bool.not_true,List.append_eq,List.append_toArray,List.cons_append,List.nil_append]
 have ep:p=t.chs.length:=by omega
 subst ep
 simp -implicitDefEqProofs(maxSteps:=9^9)only[Tryz.f22,↓zA,sevalprocAttr,acv,j2,j3,j12,jo,aa,Nat.lt_irrefl,av,aR,cC,eh,decide_true,Bool.not_true,List.append_eq,List.append_toArray,List.cons_append,List.nil_append]
def aya:=ai (ai (ai @zq (ai @aZf @aZe)) (ai (ai @apE @al3) (ai @fb @cW))) (ai (ai (ai @cV @Q9) (ai @P3 @Q3)) (ai (ai @Q4 @zT0) (ai @aD0 (aw aSX))))
theorem akv (l:List Ix) (hl:l.length≤LB) (hx:∀ x∈l,x.cs.length≤LB):G1 23 [.of (slC ixC l),.of (slC ixC l)] (ah true):=by
 have hlb:LB=1073741824:=rfl
 refine aj rfl aSX aD0 rfl ?_
 simp -implicitDefEqProofs(maxSteps:=9^9)only[Tryz.f23,↓zA,sevalprocAttr,aya,av,aR,cC,eh,decide_true,Bool.not_true,List.append_eq,List.append_toArray,List.cons_append,List.nil_append]
 refine aL (l.length) (fun k tk=>tk.fr 0=.of (slC ixC l)∧tk.fr 1=.of (slC ixC l)∧tk.fr 5=ak k∧tk.objs=[]) ?_ ?_
 .simp -implicitDefEqProofs(maxSteps:=9^9)only[Tryz.f23,↓zA,sevalprocAttr,aya]
  try exact rfl
 rintro k ⟨frk,obk,ckk⟩ hk ⟨f0,f1,f5,fo⟩
 dsimp only at f0 f1 f5 fo
 rcases Nat.lt_or_ge k (l.length) with dk|dk
 .have hw:=aQ k (by omega)
  have gx:=ap dk
  have hq:=hx _ (List.getElem_mem dk)
  generalize l[k]=x at *
  have hq':x.cs.length≤4611686018427387903:=by omega
  simp -implicitDefEqProofs(maxSteps:=9^9)only[Tryz.f23,↓zA,sevalprocAttr,aya,f0,f1,f5,fo,aa,dk,gx,hw,act,hq',av,aR,cC,eh,decide_true,Bool.not_true,List.append_eq,List.append_toArray,List.cons_append,List.nil_append]
 have e:k=l.length:=by omega
 subst e
 simp -implicitDefEqProofs(maxSteps:=9^9)only[Tryz.f23,↓zA,sevalprocAttr,aya,f0,f1,f5,fo,aa,Nat.lt_irrefl,av,aR,cC,eh,decide_true,Bool.not_true,List.append_eq,List.append_toArray,List.cons_append,List.nil_append]
def ayr:=ai (ai (ai (ai @zq @aZh) (ai @aZg @aWU)) (ai (ai @aUf @aWT) (ai @aUe @cU))) (ai (ai (ai @dH @fb) (ai @d9 @cW)) (ai (ai @P3 @Q3) (ai @zT0 (ai @aEd (aw aTa)))))
theorem aFl (c:Ct) (hc:CtB c):G1 10 [.of (.agg (ctC c)),.of (.agg (ctC c))] (ah true):=by
 have hlb:LB=1073741824:=rfl
 have h1:=hc.t
 have ks:=fun K=>ae.k (akv c.ixs hc.x hc.ix) K
 refine aj rfl aTa aEd rfl ?_
 simp -implicitDefEqProofs(maxSteps:=9^9)only[Tryz.f10,↓zA,sevalprocAttr,ayr,av,aR,cC,eh,decide_true,Bool.not_true,List.append_eq,List.append_toArray,List.cons_append,List.nil_append]
 refine aL (c.tbs.length) (fun k tk=>tk.fr 2=.of (.ref [slC tbC c.tbs,slC ixC c.ixs,ci c.nx])∧tk.fr 3=.of (.ref [slC tbC c.tbs,slC ixC c.ixs,ci c.nx])∧tk.fr 5=ak k∧tk.objs=[]) ?_ ?_
 .simp -implicitDefEqProofs(maxSteps:=9^9)only[Tryz.f10,↓zA,sevalprocAttr,ayr]
  try exact rfl
 rintro k ⟨frk,obk,ckk⟩ hk ⟨f2,f3,f5,fo⟩
 dsimp only at f2 f3 f5 fo
 rcases Nat.lt_or_ge k (c.tbs.length) with dk|dk
 .have hw:=aQ k (by omega)
  have gx:=ap dk
  have kt:=fun K=>ae.k (aoO _ (hc.tb _ (List.getElem_mem dk))) K
  generalize c.tbs[k]=x at *
  simp -implicitDefEqProofs(maxSteps:=9^9)only[Tryz.f10,↓zA,sevalprocAttr,ayr,f2,f3,f5,fo,aa,dk,gx,hw,kt,av,aR,cC,eh,decide_true,Bool.not_true,List.append_eq,List.append_toArray,List.cons_append,List.nil_append]
 have e:k=c.tbs.length:=by omega
 subst e
 simp -implicitDefEqProofs(maxSteps:=9^9)only[Tryz.f10,↓zA,sevalprocAttr,ayr,f2,f3,f5,fo,aa,Nat.lt_irrefl,ks,av,aR,cC,eh,decide_true,Bool.not_true,List.append_eq,List.append_toArray,List.cons_append,List.nil_append]
theorem asr (c:Ct) (hc:CtB c) (K:An→Prop):aG Tryz.prog pr 10 [.of (.agg (ctC c)),.of (.agg (ctC c))] [] K↔K ⟨false,[ah true],[]⟩:=ae.k (aFl c hc) K
theorem aG9 (c:Ct) (s:Sm) (hc:CtB c) (so:fz s) (hs:smW s≤1048576) (K:An→Prop):aG Tryz.prog pr 8 [.of (.agg (ctC c)),.of (.agg (smC s))] [] K↔K ⟨false,doR (doA c s),[]⟩:=ae.k (aM1 c s hc so (Nat.le_trans hs afc) fun K=>ae.k (agY c s hc so hs) K) K
theorem aHY (c:Ct) (s:Sm) (hc:CtB c) (hs:smW s≤LB) (K:An→Prop):aG Tryz.prog pr 9 [.of (.agg (ctC c)),.of (.agg (smC s))] [] K↔K ⟨false,doR (doA c s),[]⟩:=ae.k (aOB c s hc hs fun K=>ae.k (amL c s hc hs) K) K
def zc7:=ai (ai (ai @zq @a2a) (ai @aWZ @aUk)) (ai (ai @fa @zT0) (ai @aIJ (aw fi7)))
theorem azr (s:Sm) (hs:smW s≤WL):G1 7 [.of (.agg (smC s))] (ah (aed s)):=by
 have kz:=fun K=>ae.k (aFk s hs) K
 have e:∀ n:Nat,decide ((n:Int)≤200)=decide (n≤200):=fun n=>decide_eq_decide.2 (by omega)
 refine aj rfl fi7 aIJ rfl ?_
 simp -implicitDefEqProofs(maxSteps:=9^9)only[Tryz.f7,↓zA,sevalprocAttr,zc7,kz,e]
 try rfl
theorem ai1 (s:Sm) (hs:smW s≤1048576) (K:An→Prop):aG Tryz.prog pr 7 [.of (.agg (smC s))] [] K↔K ⟨false,[ah (aed s)],[]⟩:=ae.k (azr s (by simp only[WL];omega)) K
def ag7:=ai (ai (ai @zq (ai @a1Y @a1X)) (ai @ayY (ai @apO @aGk))) (ai (ai @aAe (ai @cU @fa)) (ai (ai @ajQ @zT0) (ai @aEa (aw aS7))))
theorem aCI (l:List Sm) (hl:apQ l):G1 13 [.of (slC smC l)] (.of (.agg (ctC (l.foldl jC ct0)))):=by
 obtain⟨hl1,hl2⟩:=hl
 refine aj rfl aS7 aEa rfl ?_
 simp -implicitDefEqProofs(maxSteps:=9^9)only[Tryz.f13,↓zA,sevalprocAttr,ag7]
 refine aL (l.length) (fun k tk=>tk.fr 0=.of (slC smC l)∧tk.fr 2=.ptr 0 0∧tk.fr 3=.ptr 1 0∧tk.fr 4=ak k∧∃ c O,tk.objs=[.var 27 [.nil,.nil,ak 0],.var 27 O]∧CtB c∧Right c∧l.foldl jC ct0=(l.drop k).foldl jC c∧((c=ct0∧O=[.nil,.nil,ak 1])∨O=[.of (slC tbC c.tbs),.of (slC ixC c.ixs),ak c.nx])) ?_ ?_
 .simp -implicitDefEqProofs(maxSteps:=9^9)only[Tryz.f13,↓zA,sevalprocAttr,ag7]
  exact⟨ct0,_,rfl,alV,ada,rfl,.inl ⟨rfl,rfl⟩⟩
 rintro k ⟨frk,obk,ckk⟩ hk ⟨f0,f2,f3,f4,c,O,fo,hc,hr,E,hO⟩
 dsimp only at f0 f2 f3 f4 fo hO
 rcases Nat.lt_or_ge k (l.length) with dk|dk
 .have hw:=aQ k (by omega)
  have gx:=ap dk
  obtain⟨so,hs⟩:=hl2 _ (List.getElem_mem dk)
  rw[aJ dk,List.foldl_cons] at E
  generalize l[k]=s at *
  have hlt:=fun K=>ai1 s hs K
  have hst:=aqj hc hr so hs
  have kD:=fun K=>aHY c s hc (Nat.le_trans hs afc) K
  cases b:aed s
  .rw[show jC c s=c by unfold jC;rw[b];rfl] at E
   rcases hO with ⟨hc0,rfl⟩|rfl
   .skip
    simp -implicitDefEqProofs(maxSteps:=9^9)only[Tryz.f13,↓zA,sevalprocAttr,ag7,f0,f2,f3,f4,aa,fo,dk,gx,hw,hlt,b,aU,aN]
    exact⟨c,_,rfl,hc,hr,E,.inl ⟨hc0,rfl⟩⟩
   .skip
    simp -implicitDefEqProofs(maxSteps:=9^9)only[Tryz.f13,↓zA,sevalprocAttr,ag7,f0,f2,f3,f4,aa,fo,dk,gx,hw,hlt,b,aU,aN]
    exact⟨c,_,rfl,hc,hr,E,.inr rfl⟩
  have es:jC c s=(doA c s).1:=by unfold jC;rw[b];rfl
  rw[es] at E hst
  rcases hO with ⟨hc0,rfl⟩|rfl
  .subst hc0
   have kD0:∀ K,aG Tryz.prog pr 9 [.of (.agg [.sl [] 0,.sl [] 0,ci 1]),.of (.agg (smC s))] [] K↔K ⟨false,doR (doA ct0 s),[]⟩:=kD
   simp -implicitDefEqProofs(maxSteps:=9^9)only[Tryz.f13,↓zA,sevalprocAttr,ag7,f0,f2,f3,f4,aa,fo,dk,gx,hw,hlt,b,kD0,ie,aU,aN]
   exact⟨_,_,rfl,hst.1,hst.2,E,.inr rfl⟩
  .skip
   simp -implicitDefEqProofs(maxSteps:=9^9)only[Tryz.f13,↓zA,sevalprocAttr,ag7,f0,f2,f3,f4,aa,fo,dk,gx,hw,hlt,b,kD,ie,aU,aN]
   exact⟨_,_,rfl,hst.1,hst.2,E,.inr rfl⟩
 have e:k=l.length:=by omega
 subst e
 rw[List.drop_length,List.foldl_nil] at E
 rcases hO with ⟨rfl,rfl⟩|rfl
 .skip
  simp -implicitDefEqProofs(maxSteps:=9^9)only[Tryz.f13,↓zA,sevalprocAttr,ag7,f0,f2,f3,f4,aa,fo,Nat.lt_irrefl,E,aU,aN]
  try rfl
 .skip
  simp -implicitDefEqProofs(maxSteps:=9^9)only[Tryz.f13,↓zA,sevalprocAttr,ag7,f0,f2,f3,f4,aa,fo,Nat.lt_irrefl,E,aU,aN]
  try rfl
def exX:Ix:=⟨[116,95,49],2,[116],[0],true⟩
def zc6:=ai (ai (ai (ai @zq (ai @mt0 @aIF)) (ai (ai @aE9 @mt2) (ai @ay7 @asd))) (ai (ai @mt6 (ai @agu @aeq)) (ai (ai @mt8 @aiW) (ai @afH @cU)))) (ai (ai (ai @fa (ai @dH @dw)) (ai (ai @jz @fb) (ai @cW @cE))) (ai (ai (ai @bH @gG) (ai @P3 @Q3)) (ai (ai @Q9 @zT0) (ai @aIK (aw fi6)))))
theorem aAn  : G1 6 [] (ah true):=by
 have kC0:=fun K=>ae.k (agY ct0 exS alV aEx aLb) K
 rw[akh] at kC0
 have kC:∀ K,aG Tryz.prog pr 15 [.of (.agg [.sl [] 0,.sl [] 0,ci 1]),.of (.agg [ci 1,ao {data:=#[116]},ao {data:=#[]},.sl [ao {data:=#[97]},ci 2,cb false] 1,.sl [] 0,cb false,.sl [cb false,.sl [ao {data:=#[97]}] 1] 1,.sl [] 0,.sl [] 0,.sl [] 0,.sl [] 0,.sl [] 0,.sl [] 0])] [] K↔K ⟨false,doR (exC,0),[]⟩:=kC0
 have kD0:=fun K=>ae.k (acT exC (fY [] [116,95,49]) aLc (ah6 _ _) (Nat.le_trans (arO _ _) (by decide))) K
 rw[aG3] at kD0
 have kD:∀ K,aG Tryz.prog pr 14 [.of (.agg (ctC exC)),.of (.agg [ci 3,ao {data:=#[]},ao {data:=#[116,95,49]},.sl [] 0,.sl [] 0,cb false,.sl [] 0,.sl [] 0,.sl [] 0,.sl [] 0,.sl [] 0,.sl [] 0,.sl [] 0])] [] K↔K ⟨false,doR (exC,17),[]⟩:=kD0
 have kF0:=fun K=>ae.k (aaT exC [116] (by decide)) K
 rw[aG2] at kF0
 have kF:∀ K,aG Tryz.prog pr 16 [.of (.agg (ctC exC)),.of (ao {data:=#[116]})] [] K↔K ⟨false,tbR (some exT),[]⟩:=kF0
 have kR:=fun K=>ae.k (kA exC aLc) K
 rw[(fd _).2 aof] at kR
 have hl:((exC.ixs.length:Nat):Int)=1:=rfl
 have gj:ey exC.ixs 0=some exX:=rfl
 have hn:(exC.nx=3)=True:=eq_true rfl
 have hi:(exT.id=1)=True:=eq_true rfl
 have hx:(exX.id=2)=True:=eq_true rfl
 have hs:(ar exX.nm={data:=#[116,95,49]})=True:=eq_true rfl
 refine aj rfl fi6 aIK rfl ?_
 simp -implicitDefEqProofs(maxSteps:=9^9)only[Tryz.f6,↓zA,sevalprocAttr,zc6,kC,kD,kF,kR,br,fq,hl,gj,hn,hi,hx,hs]
theorem fm (K:An→Prop):aG Tryz.prog pr 6 [] [] K↔K ⟨false,[ah true],[]⟩:=ae.k aAn K
end Go.Proofs.YtjajlmjfddohfaaGreatDoor

/-
  Chapter 9: which statements may be, as the program tells it: each kind. Conditions: none.
-/
import Derived.Test.YtjajlmjfddohfaaGreatDoorPa15
set_option linter.defProp false
set_option linter.unusedSectionVars false
set_option maxRecDepth 100000
set_option maxHeartbeats 32000000
namespace Go.Proofs.YtjajlmjfddohfaaGreatDoor
open Go Go.Pe Go.Tab
theorem abK:∀ (bs:List Bool) (ls:List UInt8),(pick bs ls).length≤ls.length
 | [],_=>by simp[pick]
 | _::_,[]=>by simp[pick]
 | true::r,c::l=>by simp only[pick,if_true,List.length_cons];have:=abK r l;omega
 | false::r,c::l=>by simp only[pick,Bool.false_eq_true,if_false,List.length_cons];have:=abK r l;omega
theorem ahg (l:List Xp) (a b:Nat):am l (a:Int) (b:Int) aK=bL l a b:=by
 unfold am bL aE
 have e1:decide ((a:Int)≤(l.length:Int))=decide (a≤l.length):=decide_eq_decide.2 (by omega)
 have e2:decide ((l.length:Int)≤(b:Int))=decide (l.length≤b):=decide_eq_decide.2 (by omega)
 rw[e1,e2]
theorem akG (l:List (List UInt8)) (a b:Nat):am l (a:Int) (b:Int) aA=bt l a b:=by
 unfold am bt aE
 have e1:decide ((a:Int)≤(l.length:Int))=decide (a≤l.length):=decide_eq_decide.2 (by omega)
 have e2:decide ((l.length:Int)≤(b:Int))=decide (l.length≤b):=decide_eq_decide.2 (by omega)
 rw[e1,e2]
theorem azZ (s:Sm):fS s=ajb s:=by
 have:=ahg s.chs 0 64
 unfold fS ajb
 rw[← this]
 rfl
theorem cg (a:List UInt8):(ar a=({data:=#[116]}:ByteArray))=(a=[116]):=av a [116]
theorem cj (a:List UInt8):(ar a=({data:=#[110]}:ByteArray))=(a=[110]):=av a [110]
theorem ch (a:List UInt8):(ar a=({data:=#[113]}:ByteArray))=(a=[113]):=av a [113]
theorem dW (s:Sm) (K:An→Prop):aG Tryz.prog pr 158 [.of (ao (ar (bj s))),.of (ao {data:=#[116,99,107,102,104]})] [] K↔K ⟨false,[ah (dP (bj s) [116,99,107,102,104])],[]⟩:=ae.k (ac9 (bj s) [116,99,107,102,104] (by have h:=abK (dI s) cZ;have h2:cZ.length=12:=rfl;unfold bj;omega) (by simp)) K
theorem dU (s:Sm) (K:An→Prop):aG Tryz.prog pr 158 [.of (ao (ar (bj s))),.of (ao {data:=#[116,110,109,117]})] [] K↔K ⟨false,[ah (dP (bj s) [116,110,109,117])],[]⟩:=ae.k (ac9 (bj s) [116,110,109,117] (by have h:=abK (dI s) cZ;have h2:cZ.length=12:=rfl;unfold bj;omega) (by simp)) K
theorem dT (s:Sm) (K:An→Prop):aG Tryz.prog pr 158 [.of (ao (ar (bj s))),.of (ao {data:=#[116,109,114,113]})] [] K↔K ⟨false,[ah (dP (bj s) [116,109,114,113])],[]⟩:=ae.k (ac9 (bj s) [116,109,114,113] (by have h:=abK (dI s) cZ;have h2:cZ.length=12:=rfl;unfold bj;omega) (by simp)) K
theorem dS (s:Sm) (K:An→Prop):aG Tryz.prog pr 158 [.of (ao (ar (bj s))),.of (ao {data:=#[116,115,119]})] [] K↔K ⟨false,[ah (dP (bj s) [116,115,119])],[]⟩:=ae.k (ac9 (bj s) [116,115,119] (by have h:=abK (dI s) cZ;have h2:cZ.length=12:=rfl;unfold bj;omega) (by simp)) K
theorem dV (s:Sm) (K:An→Prop):aG Tryz.prog pr 158 [.of (ao (ar (bj s))),.of (ao {data:=#[116,119]})] [] K↔K ⟨false,[ah (dP (bj s) [116,119])],[]⟩:=ae.k (ac9 (bj s) [116,119] (by have h:=abK (dI s) cZ;have h2:cZ.length=12:=rfl;unfold bj;omega) (by simp)) K
def cH:=ai (ai (ai (ai (ai @zq @a1v) (ai @aQn @aN1)) (ai (ai @aQm @aN0) (ai @ab8 @aaQ))) (ai (ai (ai @aQl @aNZ) (ai @aCk @axK)) (ai (ai @aQk @aNX) (ai @alc @ajf)))) (ai (ai (ai (ai @aQj @aNW) (ai @aft @adS)) (ai (ai @fa @dY) (ai @j0 @bK))) (ai (ai (ai @fT @ec) (ai @bH @P3)) (ai (ai @Q3 @Q9) (ai @zT0 (ai @gQ (aw j7))))))
theorem cm (n:Nat):((n:Int)=1)=(n=1):=propext (by omega)
theorem aOY (s:Sm) (hw:smW s≤WL) (hk:s.kd=1):G1 110 [.of (.agg (smC s))] (ah (dP (bj s) [116,99,107,102,104]&&(aA s.tb&&fS s))):=by
 have hw2:=hw
 simp only[WL,smW] at hw2
 have n1:=bh aZ s.ns fun x _=>by simp[aZ]
 have hns:s.ns.length≤4611686018427387903:=by omega
 have hcr:=fun K=>ae.k (eD s hw) K
 have hq1:lsW qyW s.q≤WL:=by simp only[WL];omega
 have hwh:lsW xpW s.wh≤WL:=by simp only[WL];omega
 have hrw:lsW (lsW xpW) s.rws≤WL:=by simp only[WL];omega
 have hst:lsW asW s.sts≤WL:=by simp only[WL];omega
 have kq:=fun n K=>ae.k (cP s.q n hq1 (jM s.q hq1)) K
 have kw:=fun a b K=>ae.k (cN s.wh a b hwh (iP s.wh hwh)) K
 have kr:=fun K=>ae.k (fL s.rws hrw) K
 have ks:=fun K=>ae.k (fJ s.sts hst) K
 have k1:(s.kd=1)=True:=eq_true hk
 have k2:(s.kd=2)=False:=eq_false (by omega)
 have k3:(s.kd=3)=False:=eq_false (by omega)
 have k4:(s.kd=4)=False:=eq_false (by omega)
 have k5:(s.kd=5)=False:=eq_false (by omega)
 have k6:(s.kd=6)=False:=eq_false (by omega)
 have k7:(s.kd=7)=False:=eq_false (by omega)
 have k8:(s.kd=8)=False:=eq_false (by omega)
 have k9:(s.kd=9)=False:=eq_false (by omega)
 have k10:(s.kd=10)=False:=eq_false (by omega)
 have k11:(s.kd=11)=False:=eq_false (by omega)
 have k12:(s.kd=12)=False:=eq_false (by omega)
 have k13:(s.kd=13)=False:=eq_false (by omega)
 have k14:(s.kd=14)=False:=eq_false (by omega)
 refine aj rfl j7 gQ rfl ?_
 cases b0:dP (bj s) [116,99,107,102,104]
 .simp -implicitDefEqProofs(maxSteps:=9^9)only[Tryz.f110,↓zA,sevalprocAttr,cH,bD,aO,bo,hns,hcr,kq,kw,kr,ks,dW,dU,dT,dS,dV,bS,aW,cm,cg,cj,ch,bI,k1,k2,k3,k4,k5,k6,k7,k8,k9,k10,k11,k12,k13,k14,b0]
 cases b1:aA s.tb
 .simp -implicitDefEqProofs(maxSteps:=9^9)only[Tryz.f110,↓zA,sevalprocAttr,cH,bD,aO,bo,hns,hcr,kq,kw,kr,ks,dW,dU,dT,dS,dV,bS,aW,cm,cg,cj,ch,bI,k1,k2,k3,k4,k5,k6,k7,k8,k9,k10,k11,k12,k13,k14,b0,b1]
 simp -implicitDefEqProofs(maxSteps:=9^9)only[Tryz.f110,↓zA,sevalprocAttr,cH,bD,aO,bo,hns,hcr,kq,kw,kr,ks,dW,dU,dT,dS,dV,bS,aW,cm,cg,cj,ch,bI,k1,k2,k3,k4,k5,k6,k7,k8,k9,k10,k11,k12,k13,k14,b0,b1]
theorem aOW (s:Sm) (hw:smW s≤WL) (hk:s.kd=2):G1 110 [.of (.agg (smC s))] (ah (dP (bj s) [116,110,109,117]&&(aA s.tb&&(aA s.nm&&am s.ns 1 16 aA)))):=by
 have hw2:=hw
 simp only[WL,smW] at hw2
 have n1:=bh aZ s.ns fun x _=>by simp[aZ]
 have hns:s.ns.length≤4611686018427387903:=by omega
 have hcr:=fun K=>ae.k (eD s hw) K
 have hq1:lsW qyW s.q≤WL:=by simp only[WL];omega
 have hwh:lsW xpW s.wh≤WL:=by simp only[WL];omega
 have hrw:lsW (lsW xpW) s.rws≤WL:=by simp only[WL];omega
 have hst:lsW asW s.sts≤WL:=by simp only[WL];omega
 have kq:=fun n K=>ae.k (cP s.q n hq1 (jM s.q hq1)) K
 have kw:=fun a b K=>ae.k (cN s.wh a b hwh (iP s.wh hwh)) K
 have kr:=fun K=>ae.k (fL s.rws hrw) K
 have ks:=fun K=>ae.k (fJ s.sts hst) K
 have k1:(s.kd=1)=False:=eq_false (by omega)
 have k2:(s.kd=2)=True:=eq_true hk
 have k3:(s.kd=3)=False:=eq_false (by omega)
 have k4:(s.kd=4)=False:=eq_false (by omega)
 have k5:(s.kd=5)=False:=eq_false (by omega)
 have k6:(s.kd=6)=False:=eq_false (by omega)
 have k7:(s.kd=7)=False:=eq_false (by omega)
 have k8:(s.kd=8)=False:=eq_false (by omega)
 have k9:(s.kd=9)=False:=eq_false (by omega)
 have k10:(s.kd=10)=False:=eq_false (by omega)
 have k11:(s.kd=11)=False:=eq_false (by omega)
 have k12:(s.kd=12)=False:=eq_false (by omega)
 have k13:(s.kd=13)=False:=eq_false (by omega)
 have k14:(s.kd=14)=False:=eq_false (by omega)
 refine aj rfl j7 gQ rfl ?_
 cases b0:dP (bj s) [116,110,109,117]
 .simp -implicitDefEqProofs(maxSteps:=9^9)only[Tryz.f110,↓zA,sevalprocAttr,cH,bD,aO,bo,hns,hcr,kq,kw,kr,ks,dW,dU,dT,dS,dV,bS,aW,cm,cg,cj,ch,bI,k1,k2,k3,k4,k5,k6,k7,k8,k9,k10,k11,k12,k13,k14,b0]
 cases b1:aA s.tb
 .simp -implicitDefEqProofs(maxSteps:=9^9)only[Tryz.f110,↓zA,sevalprocAttr,cH,bD,aO,bo,hns,hcr,kq,kw,kr,ks,dW,dU,dT,dS,dV,bS,aW,cm,cg,cj,ch,bI,k1,k2,k3,k4,k5,k6,k7,k8,k9,k10,k11,k12,k13,k14,b0,b1]
 cases b2:aA s.nm
 .simp -implicitDefEqProofs(maxSteps:=9^9)only[Tryz.f110,↓zA,sevalprocAttr,cH,bD,aO,bo,hns,hcr,kq,kw,kr,ks,dW,dU,dT,dS,dV,bS,aW,cm,cg,cj,ch,bI,k1,k2,k3,k4,k5,k6,k7,k8,k9,k10,k11,k12,k13,k14,b0,b1,b2]
 simp -implicitDefEqProofs(maxSteps:=9^9)only[Tryz.f110,↓zA,sevalprocAttr,cH,bD,aO,bo,hns,hcr,kq,kw,kr,ks,dW,dU,dT,dS,dV,bS,aW,cm,cg,cj,ch,bI,k1,k2,k3,k4,k5,k6,k7,k8,k9,k10,k11,k12,k13,k14,b0,b1,b2]
theorem aOV (s:Sm) (hw:smW s≤WL) (hk:s.kd=4):G1 110 [.of (.agg (smC s))] (ah (dP (bj s) [116,109,114,113]&&(ayT s&&(aA s.tb&&(am s.ns 0 16 aA&&(((s.rws.all fun r=>am r 1 16 aK)&&decide (s.rws.length≤64))&&s.q.all bA)))))):=by
 have hw2:=hw
 simp only[WL,smW] at hw2
 have n1:=bh aZ s.ns fun x _=>by simp[aZ]
 have hns:s.ns.length≤4611686018427387903:=by omega
 have hcr:=fun K=>ae.k (eD s hw) K
 have hq1:lsW qyW s.q≤WL:=by simp only[WL];omega
 have hwh:lsW xpW s.wh≤WL:=by simp only[WL];omega
 have hrw:lsW (lsW xpW) s.rws≤WL:=by simp only[WL];omega
 have hst:lsW asW s.sts≤WL:=by simp only[WL];omega
 have kq:=fun n K=>ae.k (cP s.q n hq1 (jM s.q hq1)) K
 have kw:=fun a b K=>ae.k (cN s.wh a b hwh (iP s.wh hwh)) K
 have kr:=fun K=>ae.k (fL s.rws hrw) K
 have ks:=fun K=>ae.k (fJ s.sts hst) K
 have k1:(s.kd=1)=False:=eq_false (by omega)
 have k2:(s.kd=2)=False:=eq_false (by omega)
 have k3:(s.kd=3)=False:=eq_false (by omega)
 have k4:(s.kd=4)=True:=eq_true hk
 have k5:(s.kd=5)=False:=eq_false (by omega)
 have k6:(s.kd=6)=False:=eq_false (by omega)
 have k7:(s.kd=7)=False:=eq_false (by omega)
 have k8:(s.kd=8)=False:=eq_false (by omega)
 have k9:(s.kd=9)=False:=eq_false (by omega)
 have k10:(s.kd=10)=False:=eq_false (by omega)
 have k11:(s.kd=11)=False:=eq_false (by omega)
 have k12:(s.kd=12)=False:=eq_false (by omega)
 have k13:(s.kd=13)=False:=eq_false (by omega)
 have k14:(s.kd=14)=False:=eq_false (by omega)
 refine aj rfl j7 gQ rfl ?_
 have eo:ayT s=((decide (0<s.rws.length)&&decide (s.q.length=0))||(decide (s.rws.length=0)&&decide (s.q.length=1))):=rfl
 by_cases r0:s.rws.length=0
 .have r1:¬0<s.rws.length:=by omega
  by_cases q1:s.q.length=1
  .have q0:¬s.q.length=0:=by omega
   have al:(s.rws.all fun r=>am r 1 16 aK)=true:=by rw[List.eq_nil_of_length_eq_zero r0];rfl
   cases d0:dP (bj s) [116,109,114,113]
   .simp -implicitDefEqProofs(maxSteps:=9^9)only[Tryz.f110,↓zA,sevalprocAttr,cH,bD,aO,bo,hns,hcr,kq,kw,kr,ks,dW,dU,dT,dS,dV,bS,aW,cm,cg,cj,ch,bI,k1,k2,k3,k4,k5,k6,k7,k8,k9,k10,k11,k12,k13,k14,eo,r0,q1,q0,Nat.lt_irrefl,al,d0]
   cases d1:aA s.tb
   .simp -implicitDefEqProofs(maxSteps:=9^9)only[Tryz.f110,↓zA,sevalprocAttr,cH,bD,aO,bo,hns,hcr,kq,kw,kr,ks,dW,dU,dT,dS,dV,bS,aW,cm,cg,cj,ch,bI,k1,k2,k3,k4,k5,k6,k7,k8,k9,k10,k11,k12,k13,k14,eo,r0,q1,q0,Nat.lt_irrefl,al,d0,d1]
   cases d2:am s.ns 0 16 aA
   .simp -implicitDefEqProofs(maxSteps:=9^9)only[Tryz.f110,↓zA,sevalprocAttr,cH,bD,aO,bo,hns,hcr,kq,kw,kr,ks,dW,dU,dT,dS,dV,bS,aW,cm,cg,cj,ch,bI,k1,k2,k3,k4,k5,k6,k7,k8,k9,k10,k11,k12,k13,k14,eo,r0,q1,q0,Nat.lt_irrefl,al,d0,d1,d2]
   simp -implicitDefEqProofs(maxSteps:=9^9)only[Tryz.f110,↓zA,sevalprocAttr,cH,bD,aO,bo,hns,hcr,kq,kw,kr,ks,dW,dU,dT,dS,dV,bS,aW,cm,cg,cj,ch,bI,k1,k2,k3,k4,k5,k6,k7,k8,k9,k10,k11,k12,k13,k14,eo,r0,q1,q0,Nat.lt_irrefl,al,d0,d1,d2]
  .cases b0:dP (bj s) [116,109,114,113]
   .simp -implicitDefEqProofs(maxSteps:=9^9)only[Tryz.f110,↓zA,sevalprocAttr,cH,bD,aO,bo,hns,hcr,kq,kw,kr,ks,dW,dU,dT,dS,dV,bS,aW,cm,cg,cj,ch,bI,k1,k2,k3,k4,k5,k6,k7,k8,k9,k10,k11,k12,k13,k14,eo,r0,q1,b0,Nat.lt_irrefl]
   .simp -implicitDefEqProofs(maxSteps:=9^9)only[Tryz.f110,↓zA,sevalprocAttr,cH,bD,aO,bo,hns,hcr,kq,kw,kr,ks,dW,dU,dT,dS,dV,bS,aW,cm,cg,cj,ch,bI,k1,k2,k3,k4,k5,k6,k7,k8,k9,k10,k11,k12,k13,k14,eo,r0,q1,b0,Nat.lt_irrefl]
 .have r1:0<s.rws.length:=by omega
  by_cases q0:s.q.length=0
  .have eq:s.q=[]:=List.eq_nil_of_length_eq_zero q0
   cases d0:dP (bj s) [116,109,114,113]
   .simp -implicitDefEqProofs(maxSteps:=9^9)only[Tryz.f110,↓zA,sevalprocAttr,cH,bD,aO,bo,hns,hcr,kq,kw,kr,ks,dW,dU,dT,dS,dV,bS,aW,cm,cg,cj,ch,bI,k1,k2,k3,k4,k5,k6,k7,k8,k9,k10,k11,k12,k13,k14,eo,r0,r1,q0,d0]
   cases d1:aA s.tb
   .simp -implicitDefEqProofs(maxSteps:=9^9)only[Tryz.f110,↓zA,sevalprocAttr,cH,bD,aO,bo,hns,hcr,kq,kw,kr,ks,dW,dU,dT,dS,dV,bS,aW,cm,cg,cj,ch,bI,k1,k2,k3,k4,k5,k6,k7,k8,k9,k10,k11,k12,k13,k14,eo,r0,r1,q0,d0,d1]
   cases d2:am s.ns 0 16 aA
   .simp -implicitDefEqProofs(maxSteps:=9^9)only[Tryz.f110,↓zA,sevalprocAttr,cH,bD,aO,bo,hns,hcr,kq,kw,kr,ks,dW,dU,dT,dS,dV,bS,aW,cm,cg,cj,ch,bI,k1,k2,k3,k4,k5,k6,k7,k8,k9,k10,k11,k12,k13,k14,eo,r0,r1,q0,d0,d1,d2]
   cases d3:((s.rws.all fun r=>am r 1 16 aK)&&decide (s.rws.length≤64))
   .simp -implicitDefEqProofs(maxSteps:=9^9)only[Tryz.f110,↓zA,sevalprocAttr,cH,bD,aO,bo,hns,hcr,kq,kw,kr,ks,dW,dU,dT,dS,dV,bS,aW,cm,cg,cj,ch,bI,k1,k2,k3,k4,k5,k6,k7,k8,k9,k10,k11,k12,k13,k14,eo,r0,r1,q0,d0,d1,d2,d3]
   simp -implicitDefEqProofs(maxSteps:=9^9)only[Tryz.f110,↓zA,sevalprocAttr,cH,bD,aO,bo,hns,hcr,kq,kw,kr,ks,dW,dU,dT,dS,dV,bS,aW,cm,cg,cj,ch,bI,k1,k2,k3,k4,k5,k6,k7,k8,k9,k10,k11,k12,k13,k14,eo,r0,r1,q0,d0,d1,d2,d3]
  .cases b0:dP (bj s) [116,109,114,113]
   .simp -implicitDefEqProofs(maxSteps:=9^9)only[Tryz.f110,↓zA,sevalprocAttr,cH,bD,aO,bo,hns,hcr,kq,kw,kr,ks,dW,dU,dT,dS,dV,bS,aW,cm,cg,cj,ch,bI,k1,k2,k3,k4,k5,k6,k7,k8,k9,k10,k11,k12,k13,k14,eo,r0,r1,q0,b0]
   .simp -implicitDefEqProofs(maxSteps:=9^9)only[Tryz.f110,↓zA,sevalprocAttr,cH,bD,aO,bo,hns,hcr,kq,kw,kr,ks,dW,dU,dT,dS,dV,bS,aW,cm,cg,cj,ch,bI,k1,k2,k3,k4,k5,k6,k7,k8,k9,k10,k11,k12,k13,k14,eo,r0,r1,q0,b0]
theorem aOU (s:Sm) (hw:smW s≤WL) (hk:s.kd=5):G1 110 [.of (.agg (smC s))] (ah (dP (bj s) [116,115,119]&&(aA s.tb&&((s.sts.all cA&&(decide (1≤s.sts.length)&&decide (s.sts.length≤16)))&&am s.wh 0 1 aK)))):=by
 have hw2:=hw
 simp only[WL,smW] at hw2
 have n1:=bh aZ s.ns fun x _=>by simp[aZ]
 have hns:s.ns.length≤4611686018427387903:=by omega
 have hcr:=fun K=>ae.k (eD s hw) K
 have hq1:lsW qyW s.q≤WL:=by simp only[WL];omega
 have hwh:lsW xpW s.wh≤WL:=by simp only[WL];omega
 have hrw:lsW (lsW xpW) s.rws≤WL:=by simp only[WL];omega
 have hst:lsW asW s.sts≤WL:=by simp only[WL];omega
 have kq:=fun n K=>ae.k (cP s.q n hq1 (jM s.q hq1)) K
 have kw:=fun a b K=>ae.k (cN s.wh a b hwh (iP s.wh hwh)) K
 have kr:=fun K=>ae.k (fL s.rws hrw) K
 have ks:=fun K=>ae.k (fJ s.sts hst) K
 have k1:(s.kd=1)=False:=eq_false (by omega)
 have k2:(s.kd=2)=False:=eq_false (by omega)
 have k3:(s.kd=3)=False:=eq_false (by omega)
 have k4:(s.kd=4)=False:=eq_false (by omega)
 have k5:(s.kd=5)=True:=eq_true hk
 have k6:(s.kd=6)=False:=eq_false (by omega)
 have k7:(s.kd=7)=False:=eq_false (by omega)
 have k8:(s.kd=8)=False:=eq_false (by omega)
 have k9:(s.kd=9)=False:=eq_false (by omega)
 have k10:(s.kd=10)=False:=eq_false (by omega)
 have k11:(s.kd=11)=False:=eq_false (by omega)
 have k12:(s.kd=12)=False:=eq_false (by omega)
 have k13:(s.kd=13)=False:=eq_false (by omega)
 have k14:(s.kd=14)=False:=eq_false (by omega)
 refine aj rfl j7 gQ rfl ?_
 cases b0:dP (bj s) [116,115,119]
 .simp -implicitDefEqProofs(maxSteps:=9^9)only[Tryz.f110,↓zA,sevalprocAttr,cH,bD,aO,bo,hns,hcr,kq,kw,kr,ks,dW,dU,dT,dS,dV,bS,aW,cm,cg,cj,ch,bI,k1,k2,k3,k4,k5,k6,k7,k8,k9,k10,k11,k12,k13,k14,b0]
 cases b1:aA s.tb
 .simp -implicitDefEqProofs(maxSteps:=9^9)only[Tryz.f110,↓zA,sevalprocAttr,cH,bD,aO,bo,hns,hcr,kq,kw,kr,ks,dW,dU,dT,dS,dV,bS,aW,cm,cg,cj,ch,bI,k1,k2,k3,k4,k5,k6,k7,k8,k9,k10,k11,k12,k13,k14,b0,b1]
 cases b2:(s.sts.all cA&&(decide (1≤s.sts.length)&&decide (s.sts.length≤16)))
 .simp -implicitDefEqProofs(maxSteps:=9^9)only[Tryz.f110,↓zA,sevalprocAttr,cH,bD,aO,bo,hns,hcr,kq,kw,kr,ks,dW,dU,dT,dS,dV,bS,aW,cm,cg,cj,ch,bI,k1,k2,k3,k4,k5,k6,k7,k8,k9,k10,k11,k12,k13,k14,b0,b1,b2]
 simp -implicitDefEqProofs(maxSteps:=9^9)only[Tryz.f110,↓zA,sevalprocAttr,cH,bD,aO,bo,hns,hcr,kq,kw,kr,ks,dW,dU,dT,dS,dV,bS,aW,cm,cg,cj,ch,bI,k1,k2,k3,k4,k5,k6,k7,k8,k9,k10,k11,k12,k13,k14,b0,b1,b2]
theorem aOX (s:Sm) (hw:smW s≤WL) (hk:s.kd=6):G1 110 [.of (.agg (smC s))] (ah (dP (bj s) [116,119]&&(aA s.tb&&am s.wh 0 1 aK))):=by
 have hw2:=hw
 simp only[WL,smW] at hw2
 have n1:=bh aZ s.ns fun x _=>by simp[aZ]
 have hns:s.ns.length≤4611686018427387903:=by omega
 have hcr:=fun K=>ae.k (eD s hw) K
 have hq1:lsW qyW s.q≤WL:=by simp only[WL];omega
 have hwh:lsW xpW s.wh≤WL:=by simp only[WL];omega
 have hrw:lsW (lsW xpW) s.rws≤WL:=by simp only[WL];omega
 have hst:lsW asW s.sts≤WL:=by simp only[WL];omega
 have kq:=fun n K=>ae.k (cP s.q n hq1 (jM s.q hq1)) K
 have kw:=fun a b K=>ae.k (cN s.wh a b hwh (iP s.wh hwh)) K
 have kr:=fun K=>ae.k (fL s.rws hrw) K
 have ks:=fun K=>ae.k (fJ s.sts hst) K
 have k1:(s.kd=1)=False:=eq_false (by omega)
 have k2:(s.kd=2)=False:=eq_false (by omega)
 have k3:(s.kd=3)=False:=eq_false (by omega)
 have k4:(s.kd=4)=False:=eq_false (by omega)
 have k5:(s.kd=5)=False:=eq_false (by omega)
 have k6:(s.kd=6)=True:=eq_true hk
 have k7:(s.kd=7)=False:=eq_false (by omega)
 have k8:(s.kd=8)=False:=eq_false (by omega)
 have k9:(s.kd=9)=False:=eq_false (by omega)
 have k10:(s.kd=10)=False:=eq_false (by omega)
 have k11:(s.kd=11)=False:=eq_false (by omega)
 have k12:(s.kd=12)=False:=eq_false (by omega)
 have k13:(s.kd=13)=False:=eq_false (by omega)
 have k14:(s.kd=14)=False:=eq_false (by omega)
 refine aj rfl j7 gQ rfl ?_
 cases b0:dP (bj s) [116,119]
 .simp -implicitDefEqProofs(maxSteps:=9^9)only[Tryz.f110,↓zA,sevalprocAttr,cH,bD,aO,bo,hns,hcr,kq,kw,kr,ks,dW,dU,dT,dS,dV,bS,aW,cm,cg,cj,ch,bI,k1,k2,k3,k4,k5,k6,k7,k8,k9,k10,k11,k12,k13,k14,b0]
 cases b1:aA s.tb
 .simp -implicitDefEqProofs(maxSteps:=9^9)only[Tryz.f110,↓zA,sevalprocAttr,cH,bD,aO,bo,hns,hcr,kq,kw,kr,ks,dW,dU,dT,dS,dV,bS,aW,cm,cg,cj,ch,bI,k1,k2,k3,k4,k5,k6,k7,k8,k9,k10,k11,k12,k13,k14,b0,b1]
 simp -implicitDefEqProofs(maxSteps:=9^9)only[Tryz.f110,↓zA,sevalprocAttr,cH,bD,aO,bo,hns,hcr,kq,kw,kr,ks,dW,dU,dT,dS,dV,bS,aW,cm,cg,cj,ch,bI,k1,k2,k3,k4,k5,k6,k7,k8,k9,k10,k11,k12,k13,k14,b0,b1]
theorem aLu (s:Sm) (hw:smW s≤WL) (hk:s.kd=7):G1 110 [.of (.agg (smC s))] (ah (decide (bj s=[113])&&(decide (s.q.length=1)&&s.q.all bA))):=by
 have hw2:=hw
 simp only[WL,smW] at hw2
 have n1:=bh aZ s.ns fun x _=>by simp[aZ]
 have hns:s.ns.length≤4611686018427387903:=by omega
 have hcr:=fun K=>ae.k (eD s hw) K
 have hq1:lsW qyW s.q≤WL:=by simp only[WL];omega
 have hwh:lsW xpW s.wh≤WL:=by simp only[WL];omega
 have hrw:lsW (lsW xpW) s.rws≤WL:=by simp only[WL];omega
 have hst:lsW asW s.sts≤WL:=by simp only[WL];omega
 have kq:=fun n K=>ae.k (cP s.q n hq1 (jM s.q hq1)) K
 have kw:=fun a b K=>ae.k (cN s.wh a b hwh (iP s.wh hwh)) K
 have kr:=fun K=>ae.k (fL s.rws hrw) K
 have ks:=fun K=>ae.k (fJ s.sts hst) K
 have k1:(s.kd=1)=False:=eq_false (by omega)
 have k2:(s.kd=2)=False:=eq_false (by omega)
 have k3:(s.kd=3)=False:=eq_false (by omega)
 have k4:(s.kd=4)=False:=eq_false (by omega)
 have k5:(s.kd=5)=False:=eq_false (by omega)
 have k6:(s.kd=6)=False:=eq_false (by omega)
 have k7:(s.kd=7)=True:=eq_true hk
 have k8:(s.kd=8)=False:=eq_false (by omega)
 have k9:(s.kd=9)=False:=eq_false (by omega)
 have k10:(s.kd=10)=False:=eq_false (by omega)
 have k11:(s.kd=11)=False:=eq_false (by omega)
 have k12:(s.kd=12)=False:=eq_false (by omega)
 have k13:(s.kd=13)=False:=eq_false (by omega)
 have k14:(s.kd=14)=False:=eq_false (by omega)
 refine aj rfl j7 gQ rfl ?_
 by_cases b0:bj s=[113]
 rotate_left
 .simp -implicitDefEqProofs(maxSteps:=9^9)only[Tryz.f110,↓zA,sevalprocAttr,cH,bD,aO,bo,hns,hcr,kq,kw,kr,ks,dW,dU,dT,dS,dV,bS,aW,cm,cg,cj,ch,bI,k1,k2,k3,k4,k5,k6,k7,k8,k9,k10,k11,k12,k13,k14,b0]
 by_cases b1:s.q.length=1
 rotate_left
 .simp -implicitDefEqProofs(maxSteps:=9^9)only[Tryz.f110,↓zA,sevalprocAttr,cH,bD,aO,bo,hns,hcr,kq,kw,kr,ks,dW,dU,dT,dS,dV,bS,aW,cm,cg,cj,ch,bI,k1,k2,k3,k4,k5,k6,k7,k8,k9,k10,k11,k12,k13,k14,eq_true b0,b1]
 simp -implicitDefEqProofs(maxSteps:=9^9)only[Tryz.f110,↓zA,sevalprocAttr,cH,bD,aO,bo,hns,hcr,kq,kw,kr,ks,dW,dU,dT,dS,dV,bS,aW,cm,cg,cj,ch,bI,k1,k2,k3,k4,k5,k6,k7,k8,k9,k10,k11,k12,k13,k14,eq_true b0,b1]
theorem aFS (s:Sm) (hw:smW s≤WL) (hk:s.kd=11):G1 110 [.of (.agg (smC s))] (ah (decide (bj s=[113])&&(decide (s.q.length=1)&&s.q.all bA))):=by
 have hw2:=hw
 simp only[WL,smW] at hw2
 have n1:=bh aZ s.ns fun x _=>by simp[aZ]
 have hns:s.ns.length≤4611686018427387903:=by omega
 have hcr:=fun K=>ae.k (eD s hw) K
 have hq1:lsW qyW s.q≤WL:=by simp only[WL];omega
 have hwh:lsW xpW s.wh≤WL:=by simp only[WL];omega
 have hrw:lsW (lsW xpW) s.rws≤WL:=by simp only[WL];omega
 have hst:lsW asW s.sts≤WL:=by simp only[WL];omega
 have kq:=fun n K=>ae.k (cP s.q n hq1 (jM s.q hq1)) K
 have kw:=fun a b K=>ae.k (cN s.wh a b hwh (iP s.wh hwh)) K
 have kr:=fun K=>ae.k (fL s.rws hrw) K
 have ks:=fun K=>ae.k (fJ s.sts hst) K
 have k1:(s.kd=1)=False:=eq_false (by omega)
 have k2:(s.kd=2)=False:=eq_false (by omega)
 have k3:(s.kd=3)=False:=eq_false (by omega)
 have k4:(s.kd=4)=False:=eq_false (by omega)
 have k5:(s.kd=5)=False:=eq_false (by omega)
 have k6:(s.kd=6)=False:=eq_false (by omega)
 have k7:(s.kd=7)=False:=eq_false (by omega)
 have k8:(s.kd=8)=False:=eq_false (by omega)
 have k9:(s.kd=9)=False:=eq_false (by omega)
 have k10:(s.kd=10)=False:=eq_false (by omega)
 have k11:(s.kd=11)=True:=eq_true hk
 have k12:(s.kd=12)=False:=eq_false (by omega)
 have k13:(s.kd=13)=False:=eq_false (by omega)
 have k14:(s.kd=14)=False:=eq_false (by omega)
 refine aj rfl j7 gQ rfl ?_
 by_cases b0:bj s=[113]
 rotate_left
 .simp -implicitDefEqProofs(maxSteps:=9^9)only[Tryz.f110,↓zA,sevalprocAttr,cH,bD,aO,bo,hns,hcr,kq,kw,kr,ks,dW,dU,dT,dS,dV,bS,aW,cm,cg,cj,ch,bI,k1,k2,k3,k4,k5,k6,k7,k8,k9,k10,k11,k12,k13,k14,b0]
 by_cases b1:s.q.length=1
 rotate_left
 .simp -implicitDefEqProofs(maxSteps:=9^9)only[Tryz.f110,↓zA,sevalprocAttr,cH,bD,aO,bo,hns,hcr,kq,kw,kr,ks,dW,dU,dT,dS,dV,bS,aW,cm,cg,cj,ch,bI,k1,k2,k3,k4,k5,k6,k7,k8,k9,k10,k11,k12,k13,k14,eq_true b0,b1]
 simp -implicitDefEqProofs(maxSteps:=9^9)only[Tryz.f110,↓zA,sevalprocAttr,cH,bD,aO,bo,hns,hcr,kq,kw,kr,ks,dW,dU,dT,dS,dV,bS,aW,cm,cg,cj,ch,bI,k1,k2,k3,k4,k5,k6,k7,k8,k9,k10,k11,k12,k13,k14,eq_true b0,b1]
theorem aLt (s:Sm) (hw:smW s≤WL) (hk:s.kd=8):G1 110 [.of (.agg (smC s))] (ah (decide (bj s=[]))):=by
 have hw2:=hw
 simp only[WL,smW] at hw2
 have n1:=bh aZ s.ns fun x _=>by simp[aZ]
 have hns:s.ns.length≤4611686018427387903:=by omega
 have hcr:=fun K=>ae.k (eD s hw) K
 have hq1:lsW qyW s.q≤WL:=by simp only[WL];omega
 have hwh:lsW xpW s.wh≤WL:=by simp only[WL];omega
 have hrw:lsW (lsW xpW) s.rws≤WL:=by simp only[WL];omega
 have hst:lsW asW s.sts≤WL:=by simp only[WL];omega
 have kq:=fun n K=>ae.k (cP s.q n hq1 (jM s.q hq1)) K
 have kw:=fun a b K=>ae.k (cN s.wh a b hwh (iP s.wh hwh)) K
 have kr:=fun K=>ae.k (fL s.rws hrw) K
 have ks:=fun K=>ae.k (fJ s.sts hst) K
 have k1:(s.kd=1)=False:=eq_false (by omega)
 have k2:(s.kd=2)=False:=eq_false (by omega)
 have k3:(s.kd=3)=False:=eq_false (by omega)
 have k4:(s.kd=4)=False:=eq_false (by omega)
 have k5:(s.kd=5)=False:=eq_false (by omega)
 have k6:(s.kd=6)=False:=eq_false (by omega)
 have k7:(s.kd=7)=False:=eq_false (by omega)
 have k8:(s.kd=8)=True:=eq_true hk
 have k9:(s.kd=9)=False:=eq_false (by omega)
 have k10:(s.kd=10)=False:=eq_false (by omega)
 have k11:(s.kd=11)=False:=eq_false (by omega)
 have k12:(s.kd=12)=False:=eq_false (by omega)
 have k13:(s.kd=13)=False:=eq_false (by omega)
 have k14:(s.kd=14)=False:=eq_false (by omega)
 refine aj rfl j7 gQ rfl ?_
 simp -implicitDefEqProofs(maxSteps:=9^9)only[Tryz.f110,↓zA,sevalprocAttr,cH,bD,aO,bo,hns,hcr,kq,kw,kr,ks,dW,dU,dT,dS,dV,bS,aW,cm,cg,cj,ch,bI,k1,k2,k3,k4,k5,k6,k7,k8,k9,k10,k11,k12,k13,k14,true_and]
theorem aLs (s:Sm) (hw:smW s≤WL) (hk:s.kd=9):G1 110 [.of (.agg (smC s))] (ah (decide (bj s=[]))):=by
 have hw2:=hw
 simp only[WL,smW] at hw2
 have n1:=bh aZ s.ns fun x _=>by simp[aZ]
 have hns:s.ns.length≤4611686018427387903:=by omega
 have hcr:=fun K=>ae.k (eD s hw) K
 have hq1:lsW qyW s.q≤WL:=by simp only[WL];omega
 have hwh:lsW xpW s.wh≤WL:=by simp only[WL];omega
 have hrw:lsW (lsW xpW) s.rws≤WL:=by simp only[WL];omega
 have hst:lsW asW s.sts≤WL:=by simp only[WL];omega
 have kq:=fun n K=>ae.k (cP s.q n hq1 (jM s.q hq1)) K
 have kw:=fun a b K=>ae.k (cN s.wh a b hwh (iP s.wh hwh)) K
 have kr:=fun K=>ae.k (fL s.rws hrw) K
 have ks:=fun K=>ae.k (fJ s.sts hst) K
 have k1:(s.kd=1)=False:=eq_false (by omega)
 have k2:(s.kd=2)=False:=eq_false (by omega)
 have k3:(s.kd=3)=False:=eq_false (by omega)
 have k4:(s.kd=4)=False:=eq_false (by omega)
 have k5:(s.kd=5)=False:=eq_false (by omega)
 have k6:(s.kd=6)=False:=eq_false (by omega)
 have k7:(s.kd=7)=False:=eq_false (by omega)
 have k8:(s.kd=8)=False:=eq_false (by omega)
 have k9:(s.kd=9)=True:=eq_true hk
 have k10:(s.kd=10)=False:=eq_false (by omega)
 have k11:(s.kd=11)=False:=eq_false (by omega)
 have k12:(s.kd=12)=False:=eq_false (by omega)
 have k13:(s.kd=13)=False:=eq_false (by omega)
 have k14:(s.kd=14)=False:=eq_false (by omega)
 refine aj rfl j7 gQ rfl ?_
 simp -implicitDefEqProofs(maxSteps:=9^9)only[Tryz.f110,↓zA,sevalprocAttr,cH,bD,aO,bo,hns,hcr,kq,kw,kr,ks,dW,dU,dT,dS,dV,bS,aW,cm,cg,cj,ch,bI,k1,k2,k3,k4,k5,k6,k7,k8,k9,k10,k11,k12,k13,k14,true_and]
theorem aFR (s:Sm) (hw:smW s≤WL) (hk:s.kd=10):G1 110 [.of (.agg (smC s))] (ah (decide (bj s=[]))):=by
 have hw2:=hw
 simp only[WL,smW] at hw2
 have n1:=bh aZ s.ns fun x _=>by simp[aZ]
 have hns:s.ns.length≤4611686018427387903:=by omega
 have hcr:=fun K=>ae.k (eD s hw) K
 have hq1:lsW qyW s.q≤WL:=by simp only[WL];omega
 have hwh:lsW xpW s.wh≤WL:=by simp only[WL];omega
 have hrw:lsW (lsW xpW) s.rws≤WL:=by simp only[WL];omega
 have hst:lsW asW s.sts≤WL:=by simp only[WL];omega
 have kq:=fun n K=>ae.k (cP s.q n hq1 (jM s.q hq1)) K
 have kw:=fun a b K=>ae.k (cN s.wh a b hwh (iP s.wh hwh)) K
 have kr:=fun K=>ae.k (fL s.rws hrw) K
 have ks:=fun K=>ae.k (fJ s.sts hst) K
 have k1:(s.kd=1)=False:=eq_false (by omega)
 have k2:(s.kd=2)=False:=eq_false (by omega)
 have k3:(s.kd=3)=False:=eq_false (by omega)
 have k4:(s.kd=4)=False:=eq_false (by omega)
 have k5:(s.kd=5)=False:=eq_false (by omega)
 have k6:(s.kd=6)=False:=eq_false (by omega)
 have k7:(s.kd=7)=False:=eq_false (by omega)
 have k8:(s.kd=8)=False:=eq_false (by omega)
 have k9:(s.kd=9)=False:=eq_false (by omega)
 have k10:(s.kd=10)=True:=eq_true hk
 have k11:(s.kd=11)=False:=eq_false (by omega)
 have k12:(s.kd=12)=False:=eq_false (by omega)
 have k13:(s.kd=13)=False:=eq_false (by omega)
 have k14:(s.kd=14)=False:=eq_false (by omega)
 refine aj rfl j7 gQ rfl ?_
 simp -implicitDefEqProofs(maxSteps:=9^9)only[Tryz.f110,↓zA,sevalprocAttr,cH,bD,aO,bo,hns,hcr,kq,kw,kr,ks,dW,dU,dT,dS,dV,bS,aW,cm,cg,cj,ch,bI,k1,k2,k3,k4,k5,k6,k7,k8,k9,k10,k11,k12,k13,k14,true_and]
theorem aFQ (s:Sm) (hw:smW s≤WL) (hk:s.kd=12):G1 110 [.of (.agg (smC s))] (ah (decide (bj s=[]))):=by
 have hw2:=hw
 simp only[WL,smW] at hw2
 have n1:=bh aZ s.ns fun x _=>by simp[aZ]
 have hns:s.ns.length≤4611686018427387903:=by omega
 have hcr:=fun K=>ae.k (eD s hw) K
 have hq1:lsW qyW s.q≤WL:=by simp only[WL];omega
 have hwh:lsW xpW s.wh≤WL:=by simp only[WL];omega
 have hrw:lsW (lsW xpW) s.rws≤WL:=by simp only[WL];omega
 have hst:lsW asW s.sts≤WL:=by simp only[WL];omega
 have kq:=fun n K=>ae.k (cP s.q n hq1 (jM s.q hq1)) K
 have kw:=fun a b K=>ae.k (cN s.wh a b hwh (iP s.wh hwh)) K
 have kr:=fun K=>ae.k (fL s.rws hrw) K
 have ks:=fun K=>ae.k (fJ s.sts hst) K
 have k1:(s.kd=1)=False:=eq_false (by omega)
 have k2:(s.kd=2)=False:=eq_false (by omega)
 have k3:(s.kd=3)=False:=eq_false (by omega)
 have k4:(s.kd=4)=False:=eq_false (by omega)
 have k5:(s.kd=5)=False:=eq_false (by omega)
 have k6:(s.kd=6)=False:=eq_false (by omega)
 have k7:(s.kd=7)=False:=eq_false (by omega)
 have k8:(s.kd=8)=False:=eq_false (by omega)
 have k9:(s.kd=9)=False:=eq_false (by omega)
 have k10:(s.kd=10)=False:=eq_false (by omega)
 have k11:(s.kd=11)=False:=eq_false (by omega)
 have k12:(s.kd=12)=True:=eq_true hk
 have k13:(s.kd=13)=False:=eq_false (by omega)
 have k14:(s.kd=14)=False:=eq_false (by omega)
 refine aj rfl j7 gQ rfl ?_
 simp -implicitDefEqProofs(maxSteps:=9^9)only[Tryz.f110,↓zA,sevalprocAttr,cH,bD,aO,bo,hns,hcr,kq,kw,kr,ks,dW,dU,dT,dS,dV,bS,aW,cm,cg,cj,ch,bI,k1,k2,k3,k4,k5,k6,k7,k8,k9,k10,k11,k12,k13,k14,true_and]
theorem aFP (s:Sm) (hw:smW s≤WL) (hk:s.kd=13):G1 110 [.of (.agg (smC s))] (ah (decide (bj s=[]))):=by
 have hw2:=hw
 simp only[WL,smW] at hw2
 have n1:=bh aZ s.ns fun x _=>by simp[aZ]
 have hns:s.ns.length≤4611686018427387903:=by omega
 have hcr:=fun K=>ae.k (eD s hw) K
 have hq1:lsW qyW s.q≤WL:=by simp only[WL];omega
 have hwh:lsW xpW s.wh≤WL:=by simp only[WL];omega
 have hrw:lsW (lsW xpW) s.rws≤WL:=by simp only[WL];omega
 have hst:lsW asW s.sts≤WL:=by simp only[WL];omega
 have kq:=fun n K=>ae.k (cP s.q n hq1 (jM s.q hq1)) K
 have kw:=fun a b K=>ae.k (cN s.wh a b hwh (iP s.wh hwh)) K
 have kr:=fun K=>ae.k (fL s.rws hrw) K
 have ks:=fun K=>ae.k (fJ s.sts hst) K
 have k1:(s.kd=1)=False:=eq_false (by omega)
 have k2:(s.kd=2)=False:=eq_false (by omega)
 have k3:(s.kd=3)=False:=eq_false (by omega)
 have k4:(s.kd=4)=False:=eq_false (by omega)
 have k5:(s.kd=5)=False:=eq_false (by omega)
 have k6:(s.kd=6)=False:=eq_false (by omega)
 have k7:(s.kd=7)=False:=eq_false (by omega)
 have k8:(s.kd=8)=False:=eq_false (by omega)
 have k9:(s.kd=9)=False:=eq_false (by omega)
 have k10:(s.kd=10)=False:=eq_false (by omega)
 have k11:(s.kd=11)=False:=eq_false (by omega)
 have k12:(s.kd=12)=False:=eq_false (by omega)
 have k13:(s.kd=13)=True:=eq_true hk
 have k14:(s.kd=14)=False:=eq_false (by omega)
 refine aj rfl j7 gQ rfl ?_
 simp -implicitDefEqProofs(maxSteps:=9^9)only[Tryz.f110,↓zA,sevalprocAttr,cH,bD,aO,bo,hns,hcr,kq,kw,kr,ks,dW,dU,dT,dS,dV,bS,aW,cm,cg,cj,ch,bI,k1,k2,k3,k4,k5,k6,k7,k8,k9,k10,k11,k12,k13,k14,true_and]
theorem aFO (s:Sm) (hw:smW s≤WL) (hk:s.kd=14):G1 110 [.of (.agg (smC s))] (ah (decide (bj s=[]))):=by
 have hw2:=hw
 simp only[WL,smW] at hw2
 have n1:=bh aZ s.ns fun x _=>by simp[aZ]
 have hns:s.ns.length≤4611686018427387903:=by omega
 have hcr:=fun K=>ae.k (eD s hw) K
 have hq1:lsW qyW s.q≤WL:=by simp only[WL];omega
 have hwh:lsW xpW s.wh≤WL:=by simp only[WL];omega
 have hrw:lsW (lsW xpW) s.rws≤WL:=by simp only[WL];omega
 have hst:lsW asW s.sts≤WL:=by simp only[WL];omega
 have kq:=fun n K=>ae.k (cP s.q n hq1 (jM s.q hq1)) K
 have kw:=fun a b K=>ae.k (cN s.wh a b hwh (iP s.wh hwh)) K
 have kr:=fun K=>ae.k (fL s.rws hrw) K
 have ks:=fun K=>ae.k (fJ s.sts hst) K
 have k1:(s.kd=1)=False:=eq_false (by omega)
 have k2:(s.kd=2)=False:=eq_false (by omega)
 have k3:(s.kd=3)=False:=eq_false (by omega)
 have k4:(s.kd=4)=False:=eq_false (by omega)
 have k5:(s.kd=5)=False:=eq_false (by omega)
 have k6:(s.kd=6)=False:=eq_false (by omega)
 have k7:(s.kd=7)=False:=eq_false (by omega)
 have k8:(s.kd=8)=False:=eq_false (by omega)
 have k9:(s.kd=9)=False:=eq_false (by omega)
 have k10:(s.kd=10)=False:=eq_false (by omega)
 have k11:(s.kd=11)=False:=eq_false (by omega)
 have k12:(s.kd=12)=False:=eq_false (by omega)
 have k13:(s.kd=13)=False:=eq_false (by omega)
 have k14:(s.kd=14)=True:=eq_true hk
 refine aj rfl j7 gQ rfl ?_
 simp -implicitDefEqProofs(maxSteps:=9^9)only[Tryz.f110,↓zA,sevalprocAttr,cH,bD,aO,bo,hns,hcr,kq,kw,kr,ks,dW,dU,dT,dS,dV,bS,aW,cm,cg,cj,ch,bI,k1,k2,k3,k4,k5,k6,k7,k8,k9,k10,k11,k12,k13,k14,true_and]
theorem aLw (s:Sm) (hw:smW s≤WL) (hk:s.kd=3):G1 110 [.of (.agg (smC s))] (ah ((decide (bj s=[116])&&aA s.tb)||(decide (bj s=[110])&&aA s.nm))):=by
 have hw2:=hw
 simp only[WL,smW] at hw2
 have n1:=bh aZ s.ns fun x _=>by simp[aZ]
 have hns:s.ns.length≤4611686018427387903:=by omega
 have hcr:=fun K=>ae.k (eD s hw) K
 have hq1:lsW qyW s.q≤WL:=by simp only[WL];omega
 have hwh:lsW xpW s.wh≤WL:=by simp only[WL];omega
 have hrw:lsW (lsW xpW) s.rws≤WL:=by simp only[WL];omega
 have hst:lsW asW s.sts≤WL:=by simp only[WL];omega
 have kq:=fun n K=>ae.k (cP s.q n hq1 (jM s.q hq1)) K
 have kw:=fun a b K=>ae.k (cN s.wh a b hwh (iP s.wh hwh)) K
 have kr:=fun K=>ae.k (fL s.rws hrw) K
 have ks:=fun K=>ae.k (fJ s.sts hst) K
 have k1:(s.kd=1)=False:=eq_false (by omega)
 have k2:(s.kd=2)=False:=eq_false (by omega)
 have k3:(s.kd=3)=True:=eq_true hk
 have k4:(s.kd=4)=False:=eq_false (by omega)
 have k5:(s.kd=5)=False:=eq_false (by omega)
 have k6:(s.kd=6)=False:=eq_false (by omega)
 have k7:(s.kd=7)=False:=eq_false (by omega)
 have k8:(s.kd=8)=False:=eq_false (by omega)
 have k9:(s.kd=9)=False:=eq_false (by omega)
 have k10:(s.kd=10)=False:=eq_false (by omega)
 have k11:(s.kd=11)=False:=eq_false (by omega)
 have k12:(s.kd=12)=False:=eq_false (by omega)
 have k13:(s.kd=13)=False:=eq_false (by omega)
 have k14:(s.kd=14)=False:=eq_false (by omega)
 refine aj rfl j7 gQ rfl ?_
 by_cases c1:bj s=[116]
 .have c3:¬bj s=[110]:=by rw[c1];decide
  cases b2:aA s.tb
  .simp -implicitDefEqProofs(maxSteps:=9^9)only[Tryz.f110,↓zA,sevalprocAttr,cH,bD,aO,bo,hns,hcr,kq,kw,kr,ks,dW,dU,dT,dS,dV,bS,aW,cm,cg,cj,ch,bI,k1,k2,k3,k4,k5,k6,k7,k8,k9,k10,k11,k12,k13,k14,eq_true c1,b2,c3]
  .simp -implicitDefEqProofs(maxSteps:=9^9)only[Tryz.f110,↓zA,sevalprocAttr,cH,bD,aO,bo,hns,hcr,kq,kw,kr,ks,dW,dU,dT,dS,dV,bS,aW,cm,cg,cj,ch,bI,k1,k2,k3,k4,k5,k6,k7,k8,k9,k10,k11,k12,k13,k14,eq_true c1,b2,c3]
 .by_cases c3:bj s=[110]
  .simp -implicitDefEqProofs(maxSteps:=9^9)only[Tryz.f110,↓zA,sevalprocAttr,cH,bD,aO,bo,hns,hcr,kq,kw,kr,ks,dW,dU,dT,dS,dV,bS,aW,cm,cg,cj,ch,bI,k1,k2,k3,k4,k5,k6,k7,k8,k9,k10,k11,k12,k13,k14,c1,eq_true c3]
  .simp -implicitDefEqProofs(maxSteps:=9^9)only[Tryz.f110,↓zA,sevalprocAttr,cH,bD,aO,bo,hns,hcr,kq,kw,kr,ks,dW,dU,dT,dS,dV,bS,aW,cm,cg,cj,ch,bI,k1,k2,k3,k4,k5,k6,k7,k8,k9,k10,k11,k12,k13,k14,c1,c3]
theorem aBG (s:Sm) (hw:smW s≤WL) (h:¬s.kd=1∧¬s.kd=2∧¬s.kd=3∧¬s.kd=4∧¬s.kd=5∧¬s.kd=6∧¬s.kd=7∧¬s.kd=8∧¬s.kd=9∧¬s.kd=10∧¬s.kd=11∧¬s.kd=12∧¬s.kd=13∧¬s.kd=14):G1 110 [.of (.agg (smC s))] (ah false):=by
 obtain⟨k1,k2,k3,k4,k5,k6,k7,k8,k9,k10,k11,k12,k13,k14⟩:=h
 refine aj rfl j7 gQ rfl ?_
 simp -implicitDefEqProofs(maxSteps:=9^9)only[Tryz.f110,↓zA,sevalprocAttr,cH,bD,k1,k2,k3,k4,k5,k6,k7,k8,k9,k10,k11,k12,k13,k14]
theorem atc (s:Sm) (hw:smW s≤WL):G1 110 [.of (.agg (smC s))] (ah (bO s)):=by
 have z1:=akG s.ns 1 16
 have z2:=akG s.ns 0 16
 have z3:=ahg s.wh 0 1
 have z4:(s.rws.all fun r=>am r 1 16 aK)=(s.rws.all fun l=>bL l 1 16):=by
  congr 1
  funext r
  exact ahg r 1 16
 rw[← aFT s,← azZ s]
 unfold ayD
 by_cases k1:s.kd=1
 .rw[if_pos k1];exact aOY s hw k1
 rw[if_neg k1]
 by_cases k2:s.kd=2
 .rw[if_pos k2,← z1];exact aOW s hw k2
 rw[if_neg k2]
 by_cases k3:s.kd=3
 .rw[if_pos k3];exact aLw s hw k3
 rw[if_neg k3]
 by_cases k4:s.kd=4
 .rw[if_pos k4,← z2,← z4];exact aOV s hw k4
 rw[if_neg k4]
 by_cases k5:s.kd=5
 .rw[if_pos k5,← z3];exact aOU s hw k5
 rw[if_neg k5]
 by_cases k6:s.kd=6
 .rw[if_pos k6,← z3];exact aOX s hw k6
 rw[if_neg k6]
 by_cases k7:s.kd=7
 .rw[if_pos (.inl k7)];exact aLu s hw k7
 by_cases k11:s.kd=11
 .rw[if_pos (.inr k11)];exact aFS s hw k11
 rw[if_neg (fun h=>h.elim k7 k11)]
 by_cases k8:s.kd=8
 .rw[if_pos (.inl k8)];exact aLt s hw k8
 by_cases k9:s.kd=9
 .rw[if_pos (.inr (.inl k9))];exact aLs s hw k9
 by_cases k10:s.kd=10
 .rw[if_pos (.inr (.inr (.inl k10)))];exact aFR s hw k10
 by_cases k12:s.kd=12
 .rw[if_pos (.inr (.inr (.inr (.inl k12))))];exact aFQ s hw k12
 by_cases k13:s.kd=13
 .rw[if_pos (.inr (.inr (.inr (.inr (.inl k13)))))];exact aFP s hw k13
 by_cases k14:s.kd=14
 .rw[if_pos (.inr (.inr (.inr (.inr (.inr k14)))))];exact aFO s hw k14
 rw[if_neg (by simp[k8,k9,k10,k12,k13,k14])]
 exact aBG s hw ⟨k1,k2,k3,k4,k5,k6,k7,k8,k9,k10,k11,k12,k13,k14⟩
def aOI:=ai (ai (ai @zq (ai @a0V @aQG)) (ai @aOk (ai @aIw @aE0))) (ai (ai @aCx (ai @axX @fa)) (ai @zT0 (ai @aDu (aw aSs))))
theorem ae8 (s:Sm) (hw:smW s≤WL):G1 59 [.of (.agg (smC s))] (ah (cd s)):=by
 have k1:=fun K=>ae.k (atc s hw) K
 have k2:=fun K=>ae.k (amd s hw) K
 have er:cd s=(bO s&&iB (ky s)):=by unfold cd;exact Bool.and_comm _ _
 rw[er]
 refine aj rfl aSs aDu rfl ?_
 have k3:=fun K=>ae.k (ajA (ky s)) K
 cases b1:bO s
 .simp -implicitDefEqProofs(maxSteps:=9^9)only[Tryz.f59,↓zA,sevalprocAttr,aOI,k1,b1]
 .simp -implicitDefEqProofs(maxSteps:=9^9)only[Tryz.f59,↓zA,sevalprocAttr,aOI,k1,k2,k3,b1]
def doR (r:Ct×Int):List X:=[.of (.agg (ctC r.1)),ak r.2]
theorem br (c:Ct) (e:Int):doR (c,e)=[.of (.agg (ctC c)),ak e]:=rfl
theorem acz {α:Type} (f:α→List C) (l:List α) (x:α):C.sl (fl f l++f x) (l.length+1)=slC f (l++[x]):=by
 unfold slC
 rw[dD,d6,List.length_append]
 rfl
def ae3:=ai (ai (ai (ai (ai @zq @a1a) (ai @aQL @a09)) (ai (ai @apG @al5) (ai @ay1 @ar6))) (ai (ai (ai @apF @al4) (ai @aIu @aEY)) (ai (ai @agt @aep) (ai @ayZ @ar4)))) (ai (ai (ai (ai @a05 @cU) (ai @fa @dH)) (ai (ai @fb @dw) (ai @d9 @cW))) (ai (ai (ai @bH @P3) (ai @Q3 @Q9)) (ai (ai @Q4 @zT0) (ai @aD3 (aw aS0)))))
theorem aoS (c:Ct) (s:Sm) (hc:CtB c) (hs:smW s≤LB):GN 20 [.of (.agg (ctC c)),.of (.agg (smC s))] (doR (cB c s)):=by
 obtain⟨h1,h2,h3,h3',h4,h5,h6,h4'⟩:=abl s hs
 have h7:=hc.x
 have h8:=hc.t
 have hlb:LB=1073741824:=rfl
 have hln:ee=1099511627776:=rfl
 have kst:=fun K=>ae.k (ae8 s (by simp only[WL];omega)) K
 have hns:s.ns.length≤4611686018427387903:=by omega
 have ki:=fun K=>ady c s.nm (by omega) K
 have ka:=fun K=>ae.k (acJ c s.tb (by omega)) K
 have en:=an7 c s.nm
 have kR:=fun K=>adz c hc K
 refine aj rfl aS0 aD3 rfl ?_
 cases b0:bz c
 .have F:cB c s=(c,1):=by unfold cB;simp[b0]
  simp -implicitDefEqProofs(maxSteps:=9^9)only[Tryz.f20,↓zA,sevalprocAttr,ae3,kR,kst,ki,ka,en,cY,hns,b0,F,br]
  try rfl
 obtain⟨_,_,hlo,hhi,_⟩:=(fd c).1 b0
 have hw1:=aiQ c.nx (by omega) (by omega)
 have e64:((64:Int)≤(c.ixs.length:Int))=(64≤c.ixs.length):=propext (by omega)
 have el:((1099511627776:Int)<c.nx+1)=(ee≤c.nx):=propext (by omega)
 by_cases hk:s.kd=2
 rotate_left
 .have F:cB c s=(c,1):=by unfold cB;simp[b0,hk]
  simp -implicitDefEqProofs(maxSteps:=9^9)only[Tryz.f20,↓zA,sevalprocAttr,ae3,kR,kst,ki,ka,en,cY,hns,b0,hk,F,br]
  try rfl
 cases b1:cd s
 .have F:cB c s=(c,1):=by unfold cB;simp[b0,hk,b1]
  simp -implicitDefEqProofs(maxSteps:=9^9)only[Tryz.f20,↓zA,sevalprocAttr,ae3,kR,kst,ki,ka,en,cY,hns,b0,eq_true hk,b1,F,br]
  try rfl
 cases b2:gg c s.nm
 rotate_left
 .have F:cB c s=(c,7):=by unfold cB;simp[b0,hk,b1,b2]
  simp -implicitDefEqProofs(maxSteps:=9^9)only[Tryz.f20,↓zA,sevalprocAttr,ae3,kR,kst,ki,ka,en,cY,hns,b0,eq_true hk,b1,b2,F,br]
  try rfl
 by_cases c3:s.ns.Nodup
 rotate_left
 .have F:cB c s=(c,7):=by unfold cB;simp[b0,hk,b1,b2,c3]
  simp -implicitDefEqProofs(maxSteps:=9^9)only[Tryz.f20,↓zA,sevalprocAttr,ae3,kR,kst,ki,ka,en,cY,hns,b0,eq_true hk,b1,b2,c3,F,br]
  try rfl
 by_cases c4:64≤c.ixs.length
 .have F:cB c s=(c,18):=by unfold cB;simp[b0,hk,b1,b2,c3,c4]
  simp -implicitDefEqProofs(maxSteps:=9^9)only[Tryz.f20,↓zA,sevalprocAttr,ae3,kR,kst,ki,ka,en,cY,hns,b0,eq_true hk,b1,b2,c3,e64,hw1,el,c4,F,br]
  try rfl
 by_cases c5:ee≤c.nx
 .have F:cB c s=(c,18):=by unfold cB;simp[b0,hk,b1,b2,c3,c5]
  simp -implicitDefEqProofs(maxSteps:=9^9)only[Tryz.f20,↓zA,sevalprocAttr,ae3,kR,kst,ki,ka,en,cY,hns,b0,eq_true hk,b1,b2,c3,e64,hw1,el,c4,c5,F,br]
  try rfl
 have hu:cB c s=match bx c s.tb with
   | none=>(c,6)
   | some t=>match bC t.cs s.ns with
    | none=>(c,6)
    | some l=>(⟨c.tbs,c.ixs++[⟨s.nm,c.nx,s.tb,l,s.un⟩],c.nx+1⟩,0):=by
  unfold cB;simp[b0,hk,b1,b2,c3,c4,c5];rfl
 rcases jV (fun t:Tb=>decide (t.nm=s.tb)) c.tbs with ⟨hi,hf⟩|⟨j,hj,hi,hf⟩
 .have hfn:bx c s.tb=none:=hf
  rw[hfn] at hu
  simp -implicitDefEqProofs(maxSteps:=9^9)only[Tryz.f20,↓zA,sevalprocAttr,ae3,kR,kst,ki,ka,en,cY,hns,b0,eq_true hk,b1,b2,c3,e64,hw1,el,c4,c5,hi,hu,br]
  try rfl
 have gj:=ap hj
 have hu2:=hc.tb _ (List.getElem_mem hj)
 have hfn:bx c s.tb=some c.tbs[j]:=hf
 generalize c.tbs[j]=u at *
 have hu1:=hu2.c
 rw[hfn] at hu
 dsimp only at hu
 have kp:=fun K=>abg u.cs s.ns (by omega) h3' K
 cases hp:bC u.cs s.ns with
 | none =>
  rw[hp] at hu
  simp -implicitDefEqProofs(maxSteps:=9^9)only[Tryz.f20,↓zA,sevalprocAttr,ae3,kR,kst,ki,ka,en,cY,hns,b0,eq_true hk,b1,b2,c3,e64,hw1,el,c4,c5,hi,fB,gj,kp,hp,ia,hu,br]
  try rfl
 | some l =>
  rw[hp] at hu
  dsimp only at hu
  have hl1:c.ixs.length≤LIM:=by unfold LIM;omega
  have hl2:c.ixs.length+1≤LIM:=by unfold LIM;omega
  simp -implicitDefEqProofs(maxSteps:=9^9)only[Tryz.f20,↓zA,sevalprocAttr,ae3,kR,kst,ki,ka,en,cY,hns,b0,eq_true hk,b1,b2,c3,e64,hw1,el,c4,c5,hi,fB,gj,kp,hp,bP,hu,br,hl1,hl2]
  have e:=acz ixC c.ixs ⟨s.nm,c.nx,s.tb,l,s.un⟩
  exact congrArg (fun y=>some (⟨false,[X.of (C.agg [slC tbC c.tbs,y,ci (c.nx+1)]),ak 0],[]⟩ : An)) e
theorem Z4c {α:Type} (l:List α):(l=[])=(l.length=0):=propext List.length_eq_zero_iff.symm
theorem aIg {l:List (List Xp)} (hw:lsW (lsW xpW) l≤WL):∀ x∈l,lsW xpW x≤WL:=fun x hx=>by have:=bg (w:=lsW xpW) hx;omega
theorem aPe (s:Sm) (hw:smW s≤WL) (K:An→Prop):aG Tryz.prog pr 150 [.of (.agg [ci 0,ao {data:=#[]},ao (ar s.nm),C.sl [] 0,slC bd s.ns,cb s.un,C.sl [] 0,C.sl [] 0,C.sl [] 0,slC (lsC xpC) s.rws,slC asC s.sts,slC xpC s.wh,slC qyC s.q]),.of (.agg [ci 0,ao {data:=#[]},ao {data:=#[]},C.sl [] 0,C.sl [] 0,cb false,C.sl [] 0,C.sl [] 0,C.sl [] 0,C.sl [] 0,C.sl [] 0,C.sl [] 0,C.sl [] 0])] [] K↔K ⟨false,[ah (decide (s.nm=[])&&decide (s.ns=[])&&!s.un&&decide (s.rws.length=0)&&decide (s.sts.length=0)&&decide (s.wh.length=0)&&decide (s.q.length=0))],[]⟩:=by
 have h:=i7 (.mk 0 [] s.nm [] s.ns s.un [] [] [] s.rws s.sts s.wh s.q) (.mk 0 [] [] [] [] false [] [] [] [] [] [] []) (by simp only[smW,bG,WL,aZ,lsW,List.map_nil,List.sum_nil,List.length_nil] at hw ⊢;omega)
 have e4:smC (.mk 0 [] s.nm [] s.ns s.un [] [] [] s.rws s.sts s.wh s.q)=[ci 0,ao {data:=#[]},ao (ar s.nm),C.sl [] 0,slC bd s.ns,cb s.un,C.sl [] 0,C.sl [] 0,C.sl [] 0,slC (lsC xpC) s.rws,slC asC s.sts,slC xpC s.wh,slC qyC s.q]:=by rw[eu];rfl
 have e5:smC (.mk 0 [] [] [] [] false [] [] [] [] [] [] [])=[ci 0,ao {data:=#[]},ao {data:=#[]},C.sl [] 0,C.sl [] 0,cb false,C.sl [] 0,C.sl [] 0,C.sl [] 0,C.sl [] 0,C.sl [] 0,C.sl [] 0,C.sl [] 0]:=by rw[eu];rfl
 rw[e4,e5] at h
 have e6:∀ i:Decidable (Sm.mk 0 [] s.nm [] s.ns s.un [] [] [] s.rws s.sts s.wh s.q=Sm.mk 0 [] [] [] [] false [] [] [] [] [] [] []),@decide _ i=(decide (s.nm=[])&&decide (s.ns=[])&&!s.un&&decide (s.rws.length=0)&&decide (s.sts.length=0)&&decide (s.wh.length=0)&&decide (s.q.length=0)):=fun i=>by
  rw[Bool.eq_iff_iff]
  simp only[decide_eq_true_eq,Bool.and_eq_true,Bool.not_eq_true',and_assoc,gX,Z4c,true_and,and_true,and_comm,and_left_comm]
 rw[e6] at h
 exact ae.k h K
theorem aPd (s:Sm) (hw:smW s≤WL) (K:An→Prop):aG Tryz.prog pr 150 [.of (.agg [ci 0,ao {data:=#[]},ao {data:=#[]},slC cdC s.cs,C.sl [] 0,cb false,slC kdC s.kys,slC rdC s.rfs,slC xpC s.chs,slC (lsC xpC) s.rws,slC asC s.sts,slC xpC s.wh,slC qyC s.q]),.of (.agg [ci 0,ao {data:=#[]},ao {data:=#[]},C.sl [] 0,C.sl [] 0,cb false,C.sl [] 0,C.sl [] 0,C.sl [] 0,C.sl [] 0,C.sl [] 0,C.sl [] 0,C.sl [] 0])] [] K↔K ⟨false,[ah (decide (s.cs.length=0)&&decide (s.kys.length=0)&&decide (s.rfs.length=0)&&decide (s.chs.length=0)&&decide (s.rws.length=0)&&decide (s.sts.length=0)&&decide (s.wh.length=0)&&decide (s.q.length=0))],[]⟩:=by
 have h:=i7 (.mk 0 [] [] s.cs [] false s.kys s.rfs s.chs s.rws s.sts s.wh s.q) (.mk 0 [] [] [] [] false [] [] [] [] [] [] []) (by simp only[smW,bG,WL,aZ,lsW,List.map_nil,List.sum_nil,List.length_nil] at hw ⊢;omega)
 have e4:smC (.mk 0 [] [] s.cs [] false s.kys s.rfs s.chs s.rws s.sts s.wh s.q)=[ci 0,ao {data:=#[]},ao {data:=#[]},slC cdC s.cs,C.sl [] 0,cb false,slC kdC s.kys,slC rdC s.rfs,slC xpC s.chs,slC (lsC xpC) s.rws,slC asC s.sts,slC xpC s.wh,slC qyC s.q]:=by rw[eu];rfl
 have e5:smC (.mk 0 [] [] [] [] false [] [] [] [] [] [] [])=[ci 0,ao {data:=#[]},ao {data:=#[]},C.sl [] 0,C.sl [] 0,cb false,C.sl [] 0,C.sl [] 0,C.sl [] 0,C.sl [] 0,C.sl [] 0,C.sl [] 0,C.sl [] 0]:=by rw[eu];rfl
 rw[e4,e5] at h
 have e6:∀ i:Decidable (Sm.mk 0 [] [] s.cs [] false s.kys s.rfs s.chs s.rws s.sts s.wh s.q=Sm.mk 0 [] [] [] [] false [] [] [] [] [] [] []),@decide _ i=(decide (s.cs.length=0)&&decide (s.kys.length=0)&&decide (s.rfs.length=0)&&decide (s.chs.length=0)&&decide (s.rws.length=0)&&decide (s.sts.length=0)&&decide (s.wh.length=0)&&decide (s.q.length=0)):=fun i=>by
  rw[Bool.eq_iff_iff]
  simp only[decide_eq_true_eq,Bool.and_eq_true,Bool.not_eq_true',and_assoc,gX,Z4c,true_and,and_true,and_comm,and_left_comm]
 rw[e6] at h
 exact ae.k h K
theorem aPc (s:Sm) (hw:smW s≤WL) (K:An→Prop):aG Tryz.prog pr 150 [.of (.agg [ci 0,ao {data:=#[]},ao {data:=#[]},slC cdC s.cs,slC bd s.ns,cb s.un,slC kdC s.kys,slC rdC s.rfs,slC xpC s.chs,slC (lsC xpC) s.rws,slC asC s.sts,slC xpC s.wh,slC qyC s.q]),.of (.agg [ci 0,ao {data:=#[]},ao {data:=#[]},C.sl [] 0,C.sl [] 0,cb false,C.sl [] 0,C.sl [] 0,C.sl [] 0,C.sl [] 0,C.sl [] 0,C.sl [] 0,C.sl [] 0])] [] K↔K ⟨false,[ah (decide (s.cs.length=0)&&decide (s.ns.length=0)&&!s.un&&decide (s.kys.length=0)&&decide (s.rfs.length=0)&&decide (s.chs.length=0)&&decide (s.rws.length=0)&&decide (s.sts.length=0)&&decide (s.wh.length=0)&&decide (s.q.length=0))],[]⟩:=by
 have h:=i7 (.mk 0 [] [] s.cs s.ns s.un s.kys s.rfs s.chs s.rws s.sts s.wh s.q) (.mk 0 [] [] [] [] false [] [] [] [] [] [] []) (by simp only[smW,bG,WL,aZ,lsW,List.map_nil,List.sum_nil,List.length_nil] at hw ⊢;omega)
 have e4:smC (.mk 0 [] [] s.cs s.ns s.un s.kys s.rfs s.chs s.rws s.sts s.wh s.q)=[ci 0,ao {data:=#[]},ao {data:=#[]},slC cdC s.cs,slC bd s.ns,cb s.un,slC kdC s.kys,slC rdC s.rfs,slC xpC s.chs,slC (lsC xpC) s.rws,slC asC s.sts,slC xpC s.wh,slC qyC s.q]:=by rw[eu];rfl
 have e5:smC (.mk 0 [] [] [] [] false [] [] [] [] [] [] [])=[ci 0,ao {data:=#[]},ao {data:=#[]},C.sl [] 0,C.sl [] 0,cb false,C.sl [] 0,C.sl [] 0,C.sl [] 0,C.sl [] 0,C.sl [] 0,C.sl [] 0,C.sl [] 0]:=by rw[eu];rfl
 rw[e4,e5] at h
 have e6:∀ i:Decidable (Sm.mk 0 [] [] s.cs s.ns s.un s.kys s.rfs s.chs s.rws s.sts s.wh s.q=Sm.mk 0 [] [] [] [] false [] [] [] [] [] [] []),@decide _ i=(decide (s.cs.length=0)&&decide (s.ns.length=0)&&!s.un&&decide (s.kys.length=0)&&decide (s.rfs.length=0)&&decide (s.chs.length=0)&&decide (s.rws.length=0)&&decide (s.sts.length=0)&&decide (s.wh.length=0)&&decide (s.q.length=0)):=fun i=>by
  rw[Bool.eq_iff_iff]
  simp only[decide_eq_true_eq,Bool.and_eq_true,Bool.not_eq_true',and_assoc,gX,Z4c,true_and,and_true,and_comm,and_left_comm]
 rw[e6] at h
 exact ae.k h K
theorem aPb (s:Sm) (hw:smW s≤WL) (K:An→Prop):aG Tryz.prog pr 150 [.of (.agg [ci 0,ao {data:=#[]},ao (ar s.nm),slC cdC s.cs,C.sl [] 0,cb s.un,slC kdC s.kys,slC rdC s.rfs,slC xpC s.chs,C.sl [] 0,slC asC s.sts,slC xpC s.wh,C.sl [] 0]),.of (.agg [ci 0,ao {data:=#[]},ao {data:=#[]},C.sl [] 0,C.sl [] 0,cb false,C.sl [] 0,C.sl [] 0,C.sl [] 0,C.sl [] 0,C.sl [] 0,C.sl [] 0,C.sl [] 0])] [] K↔K ⟨false,[ah (decide (s.nm=[])&&decide (s.cs.length=0)&&!s.un&&decide (s.kys.length=0)&&decide (s.rfs.length=0)&&decide (s.chs.length=0)&&decide (s.sts.length=0)&&decide (s.wh.length=0))],[]⟩:=by
 have h:=i7 (.mk 0 [] s.nm s.cs [] s.un s.kys s.rfs s.chs [] s.sts s.wh []) (.mk 0 [] [] [] [] false [] [] [] [] [] [] []) (by simp only[smW,bG,WL,aZ,lsW,List.map_nil,List.sum_nil,List.length_nil] at hw ⊢;omega)
 have e4:smC (.mk 0 [] s.nm s.cs [] s.un s.kys s.rfs s.chs [] s.sts s.wh [])=[ci 0,ao {data:=#[]},ao (ar s.nm),slC cdC s.cs,C.sl [] 0,cb s.un,slC kdC s.kys,slC rdC s.rfs,slC xpC s.chs,C.sl [] 0,slC asC s.sts,slC xpC s.wh,C.sl [] 0]:=by rw[eu];rfl
 have e5:smC (.mk 0 [] [] [] [] false [] [] [] [] [] [] [])=[ci 0,ao {data:=#[]},ao {data:=#[]},C.sl [] 0,C.sl [] 0,cb false,C.sl [] 0,C.sl [] 0,C.sl [] 0,C.sl [] 0,C.sl [] 0,C.sl [] 0,C.sl [] 0]:=by rw[eu];rfl
 rw[e4,e5] at h
 have e6:∀ i:Decidable (Sm.mk 0 [] s.nm s.cs [] s.un s.kys s.rfs s.chs [] s.sts s.wh []=Sm.mk 0 [] [] [] [] false [] [] [] [] [] [] []),@decide _ i=(decide (s.nm=[])&&decide (s.cs.length=0)&&!s.un&&decide (s.kys.length=0)&&decide (s.rfs.length=0)&&decide (s.chs.length=0)&&decide (s.sts.length=0)&&decide (s.wh.length=0)):=fun i=>by
  rw[Bool.eq_iff_iff]
  simp only[decide_eq_true_eq,Bool.and_eq_true,Bool.not_eq_true',and_assoc,gX,Z4c,true_and,and_true,and_comm,and_left_comm]
 rw[e6] at h
 exact ae.k h K
theorem aPa (s:Sm) (hw:smW s≤WL) (K:An→Prop):aG Tryz.prog pr 150 [.of (.agg [ci 0,ao {data:=#[]},ao (ar s.nm),slC cdC s.cs,slC bd s.ns,cb s.un,slC kdC s.kys,slC rdC s.rfs,slC xpC s.chs,slC (lsC xpC) s.rws,C.sl [] 0,C.sl [] 0,slC qyC s.q]),.of (.agg [ci 0,ao {data:=#[]},ao {data:=#[]},C.sl [] 0,C.sl [] 0,cb false,C.sl [] 0,C.sl [] 0,C.sl [] 0,C.sl [] 0,C.sl [] 0,C.sl [] 0,C.sl [] 0])] [] K↔K ⟨false,[ah (decide (s.nm=[])&&decide (s.cs.length=0)&&decide (s.ns.length=0)&&!s.un&&decide (s.kys.length=0)&&decide (s.rfs.length=0)&&decide (s.chs.length=0)&&decide (s.rws.length=0)&&decide (s.q.length=0))],[]⟩:=by
 have h:=i7 (.mk 0 [] s.nm s.cs s.ns s.un s.kys s.rfs s.chs s.rws [] [] s.q) (.mk 0 [] [] [] [] false [] [] [] [] [] [] []) (by simp only[smW,bG,WL,aZ,lsW,List.map_nil,List.sum_nil,List.length_nil] at hw ⊢;omega)
 have e4:smC (.mk 0 [] s.nm s.cs s.ns s.un s.kys s.rfs s.chs s.rws [] [] s.q)=[ci 0,ao {data:=#[]},ao (ar s.nm),slC cdC s.cs,slC bd s.ns,cb s.un,slC kdC s.kys,slC rdC s.rfs,slC xpC s.chs,slC (lsC xpC) s.rws,C.sl [] 0,C.sl [] 0,slC qyC s.q]:=by rw[eu];rfl
 have e5:smC (.mk 0 [] [] [] [] false [] [] [] [] [] [] [])=[ci 0,ao {data:=#[]},ao {data:=#[]},C.sl [] 0,C.sl [] 0,cb false,C.sl [] 0,C.sl [] 0,C.sl [] 0,C.sl [] 0,C.sl [] 0,C.sl [] 0,C.sl [] 0]:=by rw[eu];rfl
 rw[e4,e5] at h
 have e6:∀ i:Decidable (Sm.mk 0 [] s.nm s.cs s.ns s.un s.kys s.rfs s.chs s.rws [] [] s.q=Sm.mk 0 [] [] [] [] false [] [] [] [] [] [] []),@decide _ i=(decide (s.nm=[])&&decide (s.cs.length=0)&&decide (s.ns.length=0)&&!s.un&&decide (s.kys.length=0)&&decide (s.rfs.length=0)&&decide (s.chs.length=0)&&decide (s.rws.length=0)&&decide (s.q.length=0)):=fun i=>by
  rw[Bool.eq_iff_iff]
  simp only[decide_eq_true_eq,Bool.and_eq_true,Bool.not_eq_true',and_assoc,gX,Z4c,true_and,and_true,and_comm,and_left_comm]
 rw[e6] at h
 exact ae.k h K
theorem aO9 (s:Sm) (hw:smW s≤WL) (K:An→Prop):aG Tryz.prog pr 150 [.of (.agg [ci 0,ao {data:=#[]},ao (ar s.nm),slC cdC s.cs,slC bd s.ns,cb s.un,slC kdC s.kys,slC rdC s.rfs,slC xpC s.chs,slC (lsC xpC) s.rws,slC asC s.sts,C.sl [] 0,slC qyC s.q]),.of (.agg [ci 0,ao {data:=#[]},ao {data:=#[]},C.sl [] 0,C.sl [] 0,cb false,C.sl [] 0,C.sl [] 0,C.sl [] 0,C.sl [] 0,C.sl [] 0,C.sl [] 0,C.sl [] 0])] [] K↔K ⟨false,[ah (decide (s.nm=[])&&decide (s.cs.length=0)&&decide (s.ns.length=0)&&!s.un&&decide (s.kys.length=0)&&decide (s.rfs.length=0)&&decide (s.chs.length=0)&&decide (s.rws.length=0)&&decide (s.sts.length=0)&&decide (s.q.length=0))],[]⟩:=by
 have h:=i7 (.mk 0 [] s.nm s.cs s.ns s.un s.kys s.rfs s.chs s.rws s.sts [] s.q) (.mk 0 [] [] [] [] false [] [] [] [] [] [] []) (by simp only[smW,bG,WL,aZ,lsW,List.map_nil,List.sum_nil,List.length_nil] at hw ⊢;omega)
 have e4:smC (.mk 0 [] s.nm s.cs s.ns s.un s.kys s.rfs s.chs s.rws s.sts [] s.q)=[ci 0,ao {data:=#[]},ao (ar s.nm),slC cdC s.cs,slC bd s.ns,cb s.un,slC kdC s.kys,slC rdC s.rfs,slC xpC s.chs,slC (lsC xpC) s.rws,slC asC s.sts,C.sl [] 0,slC qyC s.q]:=by rw[eu];rfl
 have e5:smC (.mk 0 [] [] [] [] false [] [] [] [] [] [] [])=[ci 0,ao {data:=#[]},ao {data:=#[]},C.sl [] 0,C.sl [] 0,cb false,C.sl [] 0,C.sl [] 0,C.sl [] 0,C.sl [] 0,C.sl [] 0,C.sl [] 0,C.sl [] 0]:=by rw[eu];rfl
 rw[e4,e5] at h
 have e6:∀ i:Decidable (Sm.mk 0 [] s.nm s.cs s.ns s.un s.kys s.rfs s.chs s.rws s.sts [] s.q=Sm.mk 0 [] [] [] [] false [] [] [] [] [] [] []),@decide _ i=(decide (s.nm=[])&&decide (s.cs.length=0)&&decide (s.ns.length=0)&&!s.un&&decide (s.kys.length=0)&&decide (s.rfs.length=0)&&decide (s.chs.length=0)&&decide (s.rws.length=0)&&decide (s.sts.length=0)&&decide (s.q.length=0)):=fun i=>by
  rw[Bool.eq_iff_iff]
  simp only[decide_eq_true_eq,Bool.and_eq_true,Bool.not_eq_true',and_assoc,gX,Z4c,true_and,and_true,and_comm,and_left_comm]
 rw[e6] at h
 exact ae.k h K
theorem aBD (s:Sm) (hw:smW s≤WL) (K:An→Prop):aG Tryz.prog pr 150 [.of (.agg [ci 0,ao {data:=#[]},ao (ar s.nm),slC cdC s.cs,slC bd s.ns,cb s.un,slC kdC s.kys,slC rdC s.rfs,slC xpC s.chs,slC (lsC xpC) s.rws,slC asC s.sts,slC xpC s.wh,C.sl [] 0]),.of (.agg [ci 0,ao {data:=#[]},ao {data:=#[]},C.sl [] 0,C.sl [] 0,cb false,C.sl [] 0,C.sl [] 0,C.sl [] 0,C.sl [] 0,C.sl [] 0,C.sl [] 0,C.sl [] 0])] [] K↔K ⟨false,[ah (decide (s.nm=[])&&decide (s.cs.length=0)&&decide (s.ns.length=0)&&!s.un&&decide (s.kys.length=0)&&decide (s.rfs.length=0)&&decide (s.chs.length=0)&&decide (s.rws.length=0)&&decide (s.sts.length=0)&&decide (s.wh.length=0))],[]⟩:=by
 have h:=i7 (.mk 0 [] s.nm s.cs s.ns s.un s.kys s.rfs s.chs s.rws s.sts s.wh []) (.mk 0 [] [] [] [] false [] [] [] [] [] [] []) (by simp only[smW,bG,WL,aZ,lsW,List.map_nil,List.sum_nil,List.length_nil] at hw ⊢;omega)
 have e4:smC (.mk 0 [] s.nm s.cs s.ns s.un s.kys s.rfs s.chs s.rws s.sts s.wh [])=[ci 0,ao {data:=#[]},ao (ar s.nm),slC cdC s.cs,slC bd s.ns,cb s.un,slC kdC s.kys,slC rdC s.rfs,slC xpC s.chs,slC (lsC xpC) s.rws,slC asC s.sts,slC xpC s.wh,C.sl [] 0]:=by rw[eu];rfl
 have e5:smC (.mk 0 [] [] [] [] false [] [] [] [] [] [] [])=[ci 0,ao {data:=#[]},ao {data:=#[]},C.sl [] 0,C.sl [] 0,cb false,C.sl [] 0,C.sl [] 0,C.sl [] 0,C.sl [] 0,C.sl [] 0,C.sl [] 0,C.sl [] 0]:=by rw[eu];rfl
 rw[e4,e5] at h
 have e6:∀ i:Decidable (Sm.mk 0 [] s.nm s.cs s.ns s.un s.kys s.rfs s.chs s.rws s.sts s.wh []=Sm.mk 0 [] [] [] [] false [] [] [] [] [] [] []),@decide _ i=(decide (s.nm=[])&&decide (s.cs.length=0)&&decide (s.ns.length=0)&&!s.un&&decide (s.kys.length=0)&&decide (s.rfs.length=0)&&decide (s.chs.length=0)&&decide (s.rws.length=0)&&decide (s.sts.length=0)&&decide (s.wh.length=0)):=fun i=>by
  rw[Bool.eq_iff_iff]
  simp only[decide_eq_true_eq,Bool.and_eq_true,Bool.not_eq_true',and_assoc,gX,Z4c,true_and,and_true,and_comm,and_left_comm]
 rw[e6] at h
 exact ae.k h K
theorem afl (s:Sm) (hw:smW s≤WL) (K:An→Prop):aG Tryz.prog pr 150 [.of (.agg [ci 0,ao {data:=#[]},ao (ar s.nm),slC cdC s.cs,slC bd s.ns,cb s.un,slC kdC s.kys,slC rdC s.rfs,slC xpC s.chs,slC (lsC xpC) s.rws,slC asC s.sts,slC xpC s.wh,slC qyC s.q]),.of (.agg [ci 0,ao {data:=#[]},ao {data:=#[]},C.sl [] 0,C.sl [] 0,cb false,C.sl [] 0,C.sl [] 0,C.sl [] 0,C.sl [] 0,C.sl [] 0,C.sl [] 0,C.sl [] 0])] [] K↔K ⟨false,[ah (decide (s.nm=[])&&decide (s.cs.length=0)&&decide (s.ns.length=0)&&!s.un&&decide (s.kys.length=0)&&decide (s.rfs.length=0)&&decide (s.chs.length=0)&&decide (s.rws.length=0)&&decide (s.sts.length=0)&&decide (s.wh.length=0)&&decide (s.q.length=0))],[]⟩:=by
 have h:=i7 (.mk 0 [] s.nm s.cs s.ns s.un s.kys s.rfs s.chs s.rws s.sts s.wh s.q) (.mk 0 [] [] [] [] false [] [] [] [] [] [] []) (by simp only[smW,bG,WL,aZ,lsW,List.map_nil,List.sum_nil,List.length_nil] at hw ⊢;omega)
 have e4:smC (.mk 0 [] s.nm s.cs s.ns s.un s.kys s.rfs s.chs s.rws s.sts s.wh s.q)=[ci 0,ao {data:=#[]},ao (ar s.nm),slC cdC s.cs,slC bd s.ns,cb s.un,slC kdC s.kys,slC rdC s.rfs,slC xpC s.chs,slC (lsC xpC) s.rws,slC asC s.sts,slC xpC s.wh,slC qyC s.q]:=by rw[eu];rfl
 have e5:smC (.mk 0 [] [] [] [] false [] [] [] [] [] [] [])=[ci 0,ao {data:=#[]},ao {data:=#[]},C.sl [] 0,C.sl [] 0,cb false,C.sl [] 0,C.sl [] 0,C.sl [] 0,C.sl [] 0,C.sl [] 0,C.sl [] 0,C.sl [] 0]:=by rw[eu];rfl
 rw[e4,e5] at h
 have e6:∀ i:Decidable (Sm.mk 0 [] s.nm s.cs s.ns s.un s.kys s.rfs s.chs s.rws s.sts s.wh s.q=Sm.mk 0 [] [] [] [] false [] [] [] [] [] [] []),@decide _ i=(decide (s.nm=[])&&decide (s.cs.length=0)&&decide (s.ns.length=0)&&!s.un&&decide (s.kys.length=0)&&decide (s.rfs.length=0)&&decide (s.chs.length=0)&&decide (s.rws.length=0)&&decide (s.sts.length=0)&&decide (s.wh.length=0)&&decide (s.q.length=0)):=fun i=>by
  rw[Bool.eq_iff_iff]
  simp only[decide_eq_true_eq,Bool.and_eq_true,Bool.not_eq_true',and_assoc,gX,Z4c,true_and,and_true,and_comm,and_left_comm]
 rw[e6] at h
 exact ae.k h K
theorem zCd (l:List Cd) (h:l.length≤4611686018427387903) (a b:Int) (K:An→Prop):aG Tryz.prog pr 135 [.of (slC cdC l),.of (ci a),.of (ci b),.of (.fn 136 [])] [] K↔K ⟨false,[ah (am l a b bR)],[]⟩:=asS l a b bR _ [] ⟨h,aCr,axR,fun x _=>aHd x⟩ K
theorem zKd (l:List Kd) (hw:lsW kdW l≤WL) (a b:Int) (K:An→Prop):aG Tryz.prog pr 137 [.of (slC kdC l),.of (ci a),.of (ci b),.of (.fn 138 [])] [] K↔K ⟨false,[ah (am l a b cK)],[]⟩:=by
 have h1:=bh kdW l fun x _=>by simp[kdW]
 refine asR l a b cK _ [] ⟨by simp only[WL] at hw;omega,aCq,axQ,fun x hx=>aGA x ?_⟩ K
 have h2:=bg (w:=kdW) hx
 have h3:=bh aZ x.ns fun x _=>by simp[aZ]
 simp only[WL,kdW] at *
 omega
theorem zRd (l:List Rd) (hw:lsW rdW l≤WL) (a b:Int) (K:An→Prop):aG Tryz.prog pr 139 [.of (slC rdC l),.of (ci a),.of (ci b),.of (.fn 140 [])] [] K↔K ⟨false,[ah (am l a b cz)],[]⟩:=by
 have h1:=bh rdW l fun x _=>by simp[rdW]
 refine asQ l a b cz _ [] ⟨by simp only[WL] at hw;omega,aCp,axP,fun x hx=>ayK x ?_⟩ K
 have h2:=bg (w:=rdW) hx
 have h3:=bh aZ x.ns fun x _=>by simp[aZ]
 have h4:=bh aZ x.to fun x _=>by simp[aZ]
 simp only[WL,rdW] at *
 omega
theorem zR (l:List (List Xp)) (g:lsP (lsP d8) l) (hw:lsW (lsW xpW) l≤WL) (a b:Int) (K:An→Prop):aG Tryz.prog pr 145 [.of (slC (lsC xpC) l),.of (ci a),.of (ci b),.of (.fn 146 [])] [] K↔K ⟨false,[ah (am l a b fun r=>am r 1 16 aK)],[]⟩:=by
 have h1:=bh (lsW xpW) l fun x _=>by simp[lsW]
 exact aqb l a b _ _ [] ⟨by simp only[WL] at hw;omega,aCo,axO,fun x hx=>aFX x (dQ x (g x hx) (aIg hw x hx)) (aIg hw x hx)⟩ K
def aH9:=ai (ai (ai @zq (ai @aXM @abi)) (ai @aas (ai @abk @aau))) (ai (ai @bK (ai @j0 @Q9)) (ai @zT0 (ai @awk (aw aKs))))
theorem at0 (a:As) (g:d8 a.e) (hw:asW a≤WL):G1 148 [.of (.agg (asC a))] (ah (cA a)):=by
 have k1:=fun K=>ae.k ((ahA WL (Nat.le_refl _)).1 a.e g (by simp only[asW] at hw;omega)) K
 refine aj rfl aKs awk rfl ?_
 cases c:aA a.nm
 .simp -implicitDefEqProofs(maxSteps:=9^9)only[Tryz.f148,↓zA,sevalprocAttr,aH9,ba,c,cA]
 .simp -implicitDefEqProofs(maxSteps:=9^9)only[Tryz.f148,↓zA,sevalprocAttr,aH9,ba,c,k1,cA]
theorem zAs (l:List As) (g:lsP aBb l) (hw:lsW asW l≤WL) (a b:Int) (K:An→Prop):aG Tryz.prog pr 147 [.of (slC asC l),.of (ci a),.of (ci b),.of (.fn 148 [])] [] K↔K ⟨false,[ah (am l a b cA)],[]⟩:=by
 have h1:=bh asW l fun x _=>by simp[asW]
 exact asT l a b cA _ [] ⟨by simp only[WL] at hw;omega,aCn,axN,fun x hx=>at0 x (g x hx).2 (by have:=bg (w:=asW) hx;omega)⟩ K
def cR:=ai (ai (ai (ai (ai @zq (ai @aXL @aXK)) (ai @abi (ai @aas @aQx))) (ai (ai @aOb (ai @aQw @aOa)) (ai (ai @aQv @aN9) (ai @afu @adT)))) (ai (ai (ai @aq4 (ai @ane @ald)) (ai (ai @ajg @aQu) (ai @aN8 @aQt))) (ai (ai @aN7 (ai @aCm @axM)) (ai (ai @aQs @aN6) (ai @fa @dY))))) (ai (ai (ai (ai @dw (ai @jz @jy)) (ai (ai @bK @j0) (ai @fT @ec))) (ai (ai @bH (ai @aCr @axR)) (ai (ai @aCq @axQ) (ai @aCp @axP)))) (ai (ai (ai @abk (ai @aau @ahE)) (ai (ai @afE @aCo) (ai @axO @aCn))) (ai (ai @axN (ai @Q9 @P3)) (ai (ai @Q3 @zT0) (ai @iK (aw aa8))))))
theorem aO7 (s:Sm) (g:fz s) (hw:smW s≤WL) (hk:s.kd=1):G1 92 [.of (.agg (smC s))] (ah (bO s)):=by
 have hw':=hw
 simp only[WL,smW] at hw'
 obtain⟨_,_,_,_,_,_,_,_,gch,grw,gst,gwh,gq⟩:=g
 have n1:=bh cdW s.cs fun x _=>by simp[cdW]
 have n2:=bh aZ s.ns fun x _=>by simp[aZ]
 have hns:s.ns.length≤4611686018427387903:=by omega
 have kcs:=zCd s.cs (by omega)
 have kky:=zKd s.kys (by simp only[WL];omega)
 have krf:=zRd s.rfs (by simp only[WL];omega)
 have kch:=zX (dQ s.chs gch (by simp only[WL];omega)) (by simp only[WL];omega)
 have krw:=zR s.rws grw (by simp only[WL];omega)
 have kst:=zAs s.sts gst (by simp only[WL];omega)
 have kw:=j5 s.wh (dQ s.wh gwh (by simp only[WL];omega)) (by simp only[WL];omega)
 have kq:=zQ (jN s.q gq (by simp only[WL];omega)) (by simp only[WL];omega)
 have e1:(aE s.cs.length 1 16&&s.cs.all bR)=am s.cs 1 16 bR:=(ay s.cs 1 16 bR).symm
 have e2:(aE s.kys.length 0 64&&s.kys.all cK)=am s.kys 0 64 cK:=(ay s.kys 0 64 cK).symm
 have e3:(aE s.rfs.length 0 64&&s.rfs.all cz)=am s.rfs 0 64 cz:=(ay s.rfs 0 64 cz).symm
 have e4:(aE s.chs.length 0 64&&s.chs.all aK)=am s.chs 0 64 aK:=(ay s.chs 0 64 aK).symm
 have e5:(aE s.q.length 1 1&&s.q.all bA)=am s.q 1 1 bA:=(ay s.q 1 1 bA).symm
 have e6:(aE s.rws.length 1 64&&s.rws.all fun l=>aE l.length 1 16&&l.all aK)=am s.rws 1 64 (fun r=>am r 1 16 aK):=by
  rw[show am s.rws 1 64 (fun r=>am r 1 16 aK)=_ from ay s.rws 1 64 _]
  congr 2
  funext r
  exact (ay r 1 16 aK).symm
 have e7:(aE s.sts.length 1 16&&s.sts.all cA)=am s.sts 1 16 cA:=(ay s.sts 1 16 cA).symm
 have e8:(aE s.wh.length 0 1&&s.wh.all aK)=am s.wh 0 1 aK:=(ay s.wh 0 1 aK).symm
 have e9:(aE s.ns.length 1 16&&s.ns.all aA)=am s.ns 1 16 aA:=(ay s.ns 1 16 aA).symm
 have e10:(aE s.ns.length 0 16&&s.ns.all aA)=am s.ns 0 16 aA:=(ay s.ns 0 16 aA).symm
 have kS:=aPe s hw
 refine aj rfl aa8 iK rfl ?_
 cases b0:aA s.tb
 .simp -implicitDefEqProofs(maxSteps:=9^9)only[Tryz.f92,↓zA,sevalprocAttr,cR,bO,hk,b0,bt,bL,e1,e2,e3,e4,e5,e6,e7,e8,e9,e10,ba,bw,hns,kcs,kky,krf,kch,krw,kst,kw,kq,aW,Int.reduceEq,or_self,Bool.or_false,Bool.or_true,Bool.false_or,Bool.true_or,Bool.and_assoc,kS]
 cases b1:am s.cs 1 16 bR
 .simp -implicitDefEqProofs(maxSteps:=9^9)only[Tryz.f92,↓zA,sevalprocAttr,cR,bO,hk,b0,b1,bt,bL,e1,e2,e3,e4,e5,e6,e7,e8,e9,e10,ba,bw,hns,kcs,kky,krf,kch,krw,kst,kw,kq,aW,Int.reduceEq,or_self,Bool.or_false,Bool.or_true,Bool.false_or,Bool.true_or,Bool.and_assoc,kS]
 cases b2:am s.kys 0 64 cK
 .simp -implicitDefEqProofs(maxSteps:=9^9)only[Tryz.f92,↓zA,sevalprocAttr,cR,bO,hk,b0,b1,b2,bt,bL,e1,e2,e3,e4,e5,e6,e7,e8,e9,e10,ba,bw,hns,kcs,kky,krf,kch,krw,kst,kw,kq,aW,Int.reduceEq,or_self,Bool.or_false,Bool.or_true,Bool.false_or,Bool.true_or,Bool.and_assoc,kS]
 cases b3:am s.rfs 0 64 cz
 .simp -implicitDefEqProofs(maxSteps:=9^9)only[Tryz.f92,↓zA,sevalprocAttr,cR,bO,hk,b0,b1,b2,b3,bt,bL,e1,e2,e3,e4,e5,e6,e7,e8,e9,e10,ba,bw,hns,kcs,kky,krf,kch,krw,kst,kw,kq,aW,Int.reduceEq,or_self,Bool.or_false,Bool.or_true,Bool.false_or,Bool.true_or,Bool.and_assoc,kS]
 cases b4:am s.chs 0 64 aK
 .simp -implicitDefEqProofs(maxSteps:=9^9)only[Tryz.f92,↓zA,sevalprocAttr,cR,bO,hk,b0,b1,b2,b3,b4,bt,bL,e1,e2,e3,e4,e5,e6,e7,e8,e9,e10,ba,bw,hns,kcs,kky,krf,kch,krw,kst,kw,kq,aW,Int.reduceEq,or_self,Bool.or_false,Bool.or_true,Bool.false_or,Bool.true_or,Bool.and_assoc,kS]
 simp -implicitDefEqProofs(maxSteps:=9^9)only[Tryz.f92,↓zA,sevalprocAttr,cR,bO,hk,b0,b1,b2,b3,b4,bt,bL,e1,e2,e3,e4,e5,e6,e7,e8,e9,e10,ba,bw,hns,kcs,kky,krf,kch,krw,kst,kw,kq,aW,Int.reduceEq,or_self,Bool.or_false,Bool.or_true,Bool.false_or,Bool.true_or,Bool.and_assoc,kS]
theorem aO6 (s:Sm) (g:fz s) (hw:smW s≤WL) (hk:s.kd=2):G1 92 [.of (.agg (smC s))] (ah (bO s)):=by
 have hw':=hw
 simp only[WL,smW] at hw'
 obtain⟨_,_,_,_,_,_,_,_,gch,grw,gst,gwh,gq⟩:=g
 have n1:=bh cdW s.cs fun x _=>by simp[cdW]
 have n2:=bh aZ s.ns fun x _=>by simp[aZ]
 have hns:s.ns.length≤4611686018427387903:=by omega
 have kcs:=zCd s.cs (by omega)
 have kky:=zKd s.kys (by simp only[WL];omega)
 have krf:=zRd s.rfs (by simp only[WL];omega)
 have kch:=zX (dQ s.chs gch (by simp only[WL];omega)) (by simp only[WL];omega)
 have krw:=zR s.rws grw (by simp only[WL];omega)
 have kst:=zAs s.sts gst (by simp only[WL];omega)
 have kw:=j5 s.wh (dQ s.wh gwh (by simp only[WL];omega)) (by simp only[WL];omega)
 have kq:=zQ (jN s.q gq (by simp only[WL];omega)) (by simp only[WL];omega)
 have e1:(aE s.cs.length 1 16&&s.cs.all bR)=am s.cs 1 16 bR:=(ay s.cs 1 16 bR).symm
 have e2:(aE s.kys.length 0 64&&s.kys.all cK)=am s.kys 0 64 cK:=(ay s.kys 0 64 cK).symm
 have e3:(aE s.rfs.length 0 64&&s.rfs.all cz)=am s.rfs 0 64 cz:=(ay s.rfs 0 64 cz).symm
 have e4:(aE s.chs.length 0 64&&s.chs.all aK)=am s.chs 0 64 aK:=(ay s.chs 0 64 aK).symm
 have e5:(aE s.q.length 1 1&&s.q.all bA)=am s.q 1 1 bA:=(ay s.q 1 1 bA).symm
 have e6:(aE s.rws.length 1 64&&s.rws.all fun l=>aE l.length 1 16&&l.all aK)=am s.rws 1 64 (fun r=>am r 1 16 aK):=by
  rw[show am s.rws 1 64 (fun r=>am r 1 16 aK)=_ from ay s.rws 1 64 _]
  congr 2
  funext r
  exact (ay r 1 16 aK).symm
 have e7:(aE s.sts.length 1 16&&s.sts.all cA)=am s.sts 1 16 cA:=(ay s.sts 1 16 cA).symm
 have e8:(aE s.wh.length 0 1&&s.wh.all aK)=am s.wh 0 1 aK:=(ay s.wh 0 1 aK).symm
 have e9:(aE s.ns.length 1 16&&s.ns.all aA)=am s.ns 1 16 aA:=(ay s.ns 1 16 aA).symm
 have e10:(aE s.ns.length 0 16&&s.ns.all aA)=am s.ns 0 16 aA:=(ay s.ns 0 16 aA).symm
 have kS:=aPd s hw
 refine aj rfl aa8 iK rfl ?_
 cases b0:aA s.tb
 .simp -implicitDefEqProofs(maxSteps:=9^9)only[Tryz.f92,↓zA,sevalprocAttr,cR,bO,hk,b0,bt,bL,e1,e2,e3,e4,e5,e6,e7,e8,e9,e10,ba,bw,hns,kcs,kky,krf,kch,krw,kst,kw,kq,aW,Int.reduceEq,or_self,Bool.or_false,Bool.or_true,Bool.false_or,Bool.true_or,Bool.and_assoc,kS]
 cases b1:aA s.nm
 .simp -implicitDefEqProofs(maxSteps:=9^9)only[Tryz.f92,↓zA,sevalprocAttr,cR,bO,hk,b0,b1,bt,bL,e1,e2,e3,e4,e5,e6,e7,e8,e9,e10,ba,bw,hns,kcs,kky,krf,kch,krw,kst,kw,kq,aW,Int.reduceEq,or_self,Bool.or_false,Bool.or_true,Bool.false_or,Bool.true_or,Bool.and_assoc,kS]
 cases b2:am s.ns 1 16 aA
 .simp -implicitDefEqProofs(maxSteps:=9^9)only[Tryz.f92,↓zA,sevalprocAttr,cR,bO,hk,b0,b1,b2,bt,bL,e1,e2,e3,e4,e5,e6,e7,e8,e9,e10,ba,bw,hns,kcs,kky,krf,kch,krw,kst,kw,kq,aW,Int.reduceEq,or_self,Bool.or_false,Bool.or_true,Bool.false_or,Bool.true_or,Bool.and_assoc,kS]
 simp -implicitDefEqProofs(maxSteps:=9^9)only[Tryz.f92,↓zA,sevalprocAttr,cR,bO,hk,b0,b1,b2,bt,bL,e1,e2,e3,e4,e5,e6,e7,e8,e9,e10,ba,bw,hns,kcs,kky,krf,kch,krw,kst,kw,kq,aW,Int.reduceEq,or_self,Bool.or_false,Bool.or_true,Bool.false_or,Bool.true_or,Bool.and_assoc,kS]
theorem aO3 (s:Sm) (g:fz s) (hw:smW s≤WL) (hk:s.kd=5):G1 92 [.of (.agg (smC s))] (ah (bO s)):=by
 have hw':=hw
 simp only[WL,smW] at hw'
 obtain⟨_,_,_,_,_,_,_,_,gch,grw,gst,gwh,gq⟩:=g
 have n1:=bh cdW s.cs fun x _=>by simp[cdW]
 have n2:=bh aZ s.ns fun x _=>by simp[aZ]
 have hns:s.ns.length≤4611686018427387903:=by omega
 have kcs:=zCd s.cs (by omega)
 have kky:=zKd s.kys (by simp only[WL];omega)
 have krf:=zRd s.rfs (by simp only[WL];omega)
 have kch:=zX (dQ s.chs gch (by simp only[WL];omega)) (by simp only[WL];omega)
 have krw:=zR s.rws grw (by simp only[WL];omega)
 have kst:=zAs s.sts gst (by simp only[WL];omega)
 have kw:=j5 s.wh (dQ s.wh gwh (by simp only[WL];omega)) (by simp only[WL];omega)
 have kq:=zQ (jN s.q gq (by simp only[WL];omega)) (by simp only[WL];omega)
 have e1:(aE s.cs.length 1 16&&s.cs.all bR)=am s.cs 1 16 bR:=(ay s.cs 1 16 bR).symm
 have e2:(aE s.kys.length 0 64&&s.kys.all cK)=am s.kys 0 64 cK:=(ay s.kys 0 64 cK).symm
 have e3:(aE s.rfs.length 0 64&&s.rfs.all cz)=am s.rfs 0 64 cz:=(ay s.rfs 0 64 cz).symm
 have e4:(aE s.chs.length 0 64&&s.chs.all aK)=am s.chs 0 64 aK:=(ay s.chs 0 64 aK).symm
 have e5:(aE s.q.length 1 1&&s.q.all bA)=am s.q 1 1 bA:=(ay s.q 1 1 bA).symm
 have e6:(aE s.rws.length 1 64&&s.rws.all fun l=>aE l.length 1 16&&l.all aK)=am s.rws 1 64 (fun r=>am r 1 16 aK):=by
  rw[show am s.rws 1 64 (fun r=>am r 1 16 aK)=_ from ay s.rws 1 64 _]
  congr 2
  funext r
  exact (ay r 1 16 aK).symm
 have e7:(aE s.sts.length 1 16&&s.sts.all cA)=am s.sts 1 16 cA:=(ay s.sts 1 16 cA).symm
 have e8:(aE s.wh.length 0 1&&s.wh.all aK)=am s.wh 0 1 aK:=(ay s.wh 0 1 aK).symm
 have e9:(aE s.ns.length 1 16&&s.ns.all aA)=am s.ns 1 16 aA:=(ay s.ns 1 16 aA).symm
 have e10:(aE s.ns.length 0 16&&s.ns.all aA)=am s.ns 0 16 aA:=(ay s.ns 0 16 aA).symm
 have kS:=aPa s hw
 refine aj rfl aa8 iK rfl ?_
 cases b0:aA s.tb
 .simp -implicitDefEqProofs(maxSteps:=9^9)only[Tryz.f92,↓zA,sevalprocAttr,cR,bO,hk,b0,bt,bL,e1,e2,e3,e4,e5,e6,e7,e8,e9,e10,ba,bw,hns,kcs,kky,krf,kch,krw,kst,kw,kq,aW,Int.reduceEq,or_self,Bool.or_false,Bool.or_true,Bool.false_or,Bool.true_or,Bool.and_assoc,kS]
 cases b1:am s.sts 1 16 cA
 .simp -implicitDefEqProofs(maxSteps:=9^9)only[Tryz.f92,↓zA,sevalprocAttr,cR,bO,hk,b0,b1,bt,bL,e1,e2,e3,e4,e5,e6,e7,e8,e9,e10,ba,bw,hns,kcs,kky,krf,kch,krw,kst,kw,kq,aW,Int.reduceEq,or_self,Bool.or_false,Bool.or_true,Bool.false_or,Bool.true_or,Bool.and_assoc,kS]
 cases b2:am s.wh 0 1 aK
 .simp -implicitDefEqProofs(maxSteps:=9^9)only[Tryz.f92,↓zA,sevalprocAttr,cR,bO,hk,b0,b1,b2,bt,bL,e1,e2,e3,e4,e5,e6,e7,e8,e9,e10,ba,bw,hns,kcs,kky,krf,kch,krw,kst,kw,kq,aW,Int.reduceEq,or_self,Bool.or_false,Bool.or_true,Bool.false_or,Bool.true_or,Bool.and_assoc,kS]
 simp -implicitDefEqProofs(maxSteps:=9^9)only[Tryz.f92,↓zA,sevalprocAttr,cR,bO,hk,b0,b1,b2,bt,bL,e1,e2,e3,e4,e5,e6,e7,e8,e9,e10,ba,bw,hns,kcs,kky,krf,kch,krw,kst,kw,kq,aW,Int.reduceEq,or_self,Bool.or_false,Bool.or_true,Bool.false_or,Bool.true_or,Bool.and_assoc,kS]
theorem aO2 (s:Sm) (g:fz s) (hw:smW s≤WL) (hk:s.kd=6):G1 92 [.of (.agg (smC s))] (ah (bO s)):=by
 have hw':=hw
 simp only[WL,smW] at hw'
 obtain⟨_,_,_,_,_,_,_,_,gch,grw,gst,gwh,gq⟩:=g
 have n1:=bh cdW s.cs fun x _=>by simp[cdW]
 have n2:=bh aZ s.ns fun x _=>by simp[aZ]
 have hns:s.ns.length≤4611686018427387903:=by omega
 have kcs:=zCd s.cs (by omega)
 have kky:=zKd s.kys (by simp only[WL];omega)
 have krf:=zRd s.rfs (by simp only[WL];omega)
 have kch:=zX (dQ s.chs gch (by simp only[WL];omega)) (by simp only[WL];omega)
 have krw:=zR s.rws grw (by simp only[WL];omega)
 have kst:=zAs s.sts gst (by simp only[WL];omega)
 have kw:=j5 s.wh (dQ s.wh gwh (by simp only[WL];omega)) (by simp only[WL];omega)
 have kq:=zQ (jN s.q gq (by simp only[WL];omega)) (by simp only[WL];omega)
 have e1:(aE s.cs.length 1 16&&s.cs.all bR)=am s.cs 1 16 bR:=(ay s.cs 1 16 bR).symm
 have e2:(aE s.kys.length 0 64&&s.kys.all cK)=am s.kys 0 64 cK:=(ay s.kys 0 64 cK).symm
 have e3:(aE s.rfs.length 0 64&&s.rfs.all cz)=am s.rfs 0 64 cz:=(ay s.rfs 0 64 cz).symm
 have e4:(aE s.chs.length 0 64&&s.chs.all aK)=am s.chs 0 64 aK:=(ay s.chs 0 64 aK).symm
 have e5:(aE s.q.length 1 1&&s.q.all bA)=am s.q 1 1 bA:=(ay s.q 1 1 bA).symm
 have e6:(aE s.rws.length 1 64&&s.rws.all fun l=>aE l.length 1 16&&l.all aK)=am s.rws 1 64 (fun r=>am r 1 16 aK):=by
  rw[show am s.rws 1 64 (fun r=>am r 1 16 aK)=_ from ay s.rws 1 64 _]
  congr 2
  funext r
  exact (ay r 1 16 aK).symm
 have e7:(aE s.sts.length 1 16&&s.sts.all cA)=am s.sts 1 16 cA:=(ay s.sts 1 16 cA).symm
 have e8:(aE s.wh.length 0 1&&s.wh.all aK)=am s.wh 0 1 aK:=(ay s.wh 0 1 aK).symm
 have e9:(aE s.ns.length 1 16&&s.ns.all aA)=am s.ns 1 16 aA:=(ay s.ns 1 16 aA).symm
 have e10:(aE s.ns.length 0 16&&s.ns.all aA)=am s.ns 0 16 aA:=(ay s.ns 0 16 aA).symm
 have kS:=aO9 s hw
 refine aj rfl aa8 iK rfl ?_
 cases b0:aA s.tb
 .simp -implicitDefEqProofs(maxSteps:=9^9)only[Tryz.f92,↓zA,sevalprocAttr,cR,bO,hk,b0,bt,bL,e1,e2,e3,e4,e5,e6,e7,e8,e9,e10,ba,bw,hns,kcs,kky,krf,kch,krw,kst,kw,kq,aW,Int.reduceEq,or_self,Bool.or_false,Bool.or_true,Bool.false_or,Bool.true_or,Bool.and_assoc,kS]
 cases b1:am s.wh 0 1 aK
 .simp -implicitDefEqProofs(maxSteps:=9^9)only[Tryz.f92,↓zA,sevalprocAttr,cR,bO,hk,b0,b1,bt,bL,e1,e2,e3,e4,e5,e6,e7,e8,e9,e10,ba,bw,hns,kcs,kky,krf,kch,krw,kst,kw,kq,aW,Int.reduceEq,or_self,Bool.or_false,Bool.or_true,Bool.false_or,Bool.true_or,Bool.and_assoc,kS]
 simp -implicitDefEqProofs(maxSteps:=9^9)only[Tryz.f92,↓zA,sevalprocAttr,cR,bO,hk,b0,b1,bt,bL,e1,e2,e3,e4,e5,e6,e7,e8,e9,e10,ba,bw,hns,kcs,kky,krf,kch,krw,kst,kw,kq,aW,Int.reduceEq,or_self,Bool.or_false,Bool.or_true,Bool.false_or,Bool.true_or,Bool.and_assoc,kS]
theorem aO1 (s:Sm) (g:fz s) (hw:smW s≤WL) (hk:s.kd=7):G1 92 [.of (.agg (smC s))] (ah (bO s)):=by
 have hw':=hw
 simp only[WL,smW] at hw'
 obtain⟨_,_,_,_,_,_,_,_,gch,grw,gst,gwh,gq⟩:=g
 have n1:=bh cdW s.cs fun x _=>by simp[cdW]
 have n2:=bh aZ s.ns fun x _=>by simp[aZ]
 have hns:s.ns.length≤4611686018427387903:=by omega
 have kcs:=zCd s.cs (by omega)
 have kky:=zKd s.kys (by simp only[WL];omega)
 have krf:=zRd s.rfs (by simp only[WL];omega)
 have kch:=zX (dQ s.chs gch (by simp only[WL];omega)) (by simp only[WL];omega)
 have krw:=zR s.rws grw (by simp only[WL];omega)
 have kst:=zAs s.sts gst (by simp only[WL];omega)
 have kw:=j5 s.wh (dQ s.wh gwh (by simp only[WL];omega)) (by simp only[WL];omega)
 have kq:=zQ (jN s.q gq (by simp only[WL];omega)) (by simp only[WL];omega)
 have e1:(aE s.cs.length 1 16&&s.cs.all bR)=am s.cs 1 16 bR:=(ay s.cs 1 16 bR).symm
 have e2:(aE s.kys.length 0 64&&s.kys.all cK)=am s.kys 0 64 cK:=(ay s.kys 0 64 cK).symm
 have e3:(aE s.rfs.length 0 64&&s.rfs.all cz)=am s.rfs 0 64 cz:=(ay s.rfs 0 64 cz).symm
 have e4:(aE s.chs.length 0 64&&s.chs.all aK)=am s.chs 0 64 aK:=(ay s.chs 0 64 aK).symm
 have e5:(aE s.q.length 1 1&&s.q.all bA)=am s.q 1 1 bA:=(ay s.q 1 1 bA).symm
 have e6:(aE s.rws.length 1 64&&s.rws.all fun l=>aE l.length 1 16&&l.all aK)=am s.rws 1 64 (fun r=>am r 1 16 aK):=by
  rw[show am s.rws 1 64 (fun r=>am r 1 16 aK)=_ from ay s.rws 1 64 _]
  congr 2
  funext r
  exact (ay r 1 16 aK).symm
 have e7:(aE s.sts.length 1 16&&s.sts.all cA)=am s.sts 1 16 cA:=(ay s.sts 1 16 cA).symm
 have e8:(aE s.wh.length 0 1&&s.wh.all aK)=am s.wh 0 1 aK:=(ay s.wh 0 1 aK).symm
 have e9:(aE s.ns.length 1 16&&s.ns.all aA)=am s.ns 1 16 aA:=(ay s.ns 1 16 aA).symm
 have e10:(aE s.ns.length 0 16&&s.ns.all aA)=am s.ns 0 16 aA:=(ay s.ns 0 16 aA).symm
 have kS:=aBD s hw
 refine aj rfl aa8 iK rfl ?_
 by_cases b0:s.tb=[]
 rotate_left
 .simp -implicitDefEqProofs(maxSteps:=9^9)only[Tryz.f92,↓zA,sevalprocAttr,cR,bO,hk,or_true,true_or,b0,bt,bL,e1,e2,e3,e4,e5,e6,e7,e8,e9,e10,ba,bw,hns,kcs,kky,krf,kch,krw,kst,kw,kq,aW,Int.reduceEq,or_self,Bool.or_false,Bool.or_true,Bool.false_or,Bool.true_or,Bool.and_assoc,kS]
 cases b1:am s.q 1 1 bA
 .simp -implicitDefEqProofs(maxSteps:=9^9)only[Tryz.f92,↓zA,sevalprocAttr,cR,bO,hk,or_true,true_or,eq_true b0,b1,bt,bL,e1,e2,e3,e4,e5,e6,e7,e8,e9,e10,ba,bw,hns,kcs,kky,krf,kch,krw,kst,kw,kq,aW,Int.reduceEq,or_self,Bool.or_false,Bool.or_true,Bool.false_or,Bool.true_or,Bool.and_assoc,kS]
 simp -implicitDefEqProofs(maxSteps:=9^9)only[Tryz.f92,↓zA,sevalprocAttr,cR,bO,hk,or_true,true_or,eq_true b0,b1,bt,bL,e1,e2,e3,e4,e5,e6,e7,e8,e9,e10,ba,bw,hns,kcs,kky,krf,kch,krw,kst,kw,kq,aW,Int.reduceEq,or_self,Bool.or_false,Bool.or_true,Bool.false_or,Bool.true_or,Bool.and_assoc,kS]
theorem aLA (s:Sm) (g:fz s) (hw:smW s≤WL) (hk:s.kd=11):G1 92 [.of (.agg (smC s))] (ah (bO s)):=by
 have hw':=hw
 simp only[WL,smW] at hw'
 obtain⟨_,_,_,_,_,_,_,_,gch,grw,gst,gwh,gq⟩:=g
 have n1:=bh cdW s.cs fun x _=>by simp[cdW]
 have n2:=bh aZ s.ns fun x _=>by simp[aZ]
 have hns:s.ns.length≤4611686018427387903:=by omega
 have kcs:=zCd s.cs (by omega)
 have kky:=zKd s.kys (by simp only[WL];omega)
 have krf:=zRd s.rfs (by simp only[WL];omega)
 have kch:=zX (dQ s.chs gch (by simp only[WL];omega)) (by simp only[WL];omega)
 have krw:=zR s.rws grw (by simp only[WL];omega)
 have kst:=zAs s.sts gst (by simp only[WL];omega)
 have kw:=j5 s.wh (dQ s.wh gwh (by simp only[WL];omega)) (by simp only[WL];omega)
 have kq:=zQ (jN s.q gq (by simp only[WL];omega)) (by simp only[WL];omega)
 have e1:(aE s.cs.length 1 16&&s.cs.all bR)=am s.cs 1 16 bR:=(ay s.cs 1 16 bR).symm
 have e2:(aE s.kys.length 0 64&&s.kys.all cK)=am s.kys 0 64 cK:=(ay s.kys 0 64 cK).symm
 have e3:(aE s.rfs.length 0 64&&s.rfs.all cz)=am s.rfs 0 64 cz:=(ay s.rfs 0 64 cz).symm
 have e4:(aE s.chs.length 0 64&&s.chs.all aK)=am s.chs 0 64 aK:=(ay s.chs 0 64 aK).symm
 have e5:(aE s.q.length 1 1&&s.q.all bA)=am s.q 1 1 bA:=(ay s.q 1 1 bA).symm
 have e6:(aE s.rws.length 1 64&&s.rws.all fun l=>aE l.length 1 16&&l.all aK)=am s.rws 1 64 (fun r=>am r 1 16 aK):=by
  rw[show am s.rws 1 64 (fun r=>am r 1 16 aK)=_ from ay s.rws 1 64 _]
  congr 2
  funext r
  exact (ay r 1 16 aK).symm
 have e7:(aE s.sts.length 1 16&&s.sts.all cA)=am s.sts 1 16 cA:=(ay s.sts 1 16 cA).symm
 have e8:(aE s.wh.length 0 1&&s.wh.all aK)=am s.wh 0 1 aK:=(ay s.wh 0 1 aK).symm
 have e9:(aE s.ns.length 1 16&&s.ns.all aA)=am s.ns 1 16 aA:=(ay s.ns 1 16 aA).symm
 have e10:(aE s.ns.length 0 16&&s.ns.all aA)=am s.ns 0 16 aA:=(ay s.ns 0 16 aA).symm
 have kS:=aBD s hw
 refine aj rfl aa8 iK rfl ?_
 by_cases b0:s.tb=[]
 rotate_left
 .simp -implicitDefEqProofs(maxSteps:=9^9)only[Tryz.f92,↓zA,sevalprocAttr,cR,bO,hk,or_true,true_or,b0,bt,bL,e1,e2,e3,e4,e5,e6,e7,e8,e9,e10,ba,bw,hns,kcs,kky,krf,kch,krw,kst,kw,kq,aW,Int.reduceEq,or_self,Bool.or_false,Bool.or_true,Bool.false_or,Bool.true_or,Bool.and_assoc,kS]
 cases b1:am s.q 1 1 bA
 .simp -implicitDefEqProofs(maxSteps:=9^9)only[Tryz.f92,↓zA,sevalprocAttr,cR,bO,hk,or_true,true_or,eq_true b0,b1,bt,bL,e1,e2,e3,e4,e5,e6,e7,e8,e9,e10,ba,bw,hns,kcs,kky,krf,kch,krw,kst,kw,kq,aW,Int.reduceEq,or_self,Bool.or_false,Bool.or_true,Bool.false_or,Bool.true_or,Bool.and_assoc,kS]
 simp -implicitDefEqProofs(maxSteps:=9^9)only[Tryz.f92,↓zA,sevalprocAttr,cR,bO,hk,or_true,true_or,eq_true b0,b1,bt,bL,e1,e2,e3,e4,e5,e6,e7,e8,e9,e10,ba,bw,hns,kcs,kky,krf,kch,krw,kst,kw,kq,aW,Int.reduceEq,or_self,Bool.or_false,Bool.or_true,Bool.false_or,Bool.true_or,Bool.and_assoc,kS]
theorem aO0 (s:Sm) (g:fz s) (hw:smW s≤WL) (hk:s.kd=8):G1 92 [.of (.agg (smC s))] (ah (bO s)):=by
 have hw':=hw
 simp only[WL,smW] at hw'
 obtain⟨_,_,_,_,_,_,_,_,gch,grw,gst,gwh,gq⟩:=g
 have n1:=bh cdW s.cs fun x _=>by simp[cdW]
 have n2:=bh aZ s.ns fun x _=>by simp[aZ]
 have hns:s.ns.length≤4611686018427387903:=by omega
 have kcs:=zCd s.cs (by omega)
 have kky:=zKd s.kys (by simp only[WL];omega)
 have krf:=zRd s.rfs (by simp only[WL];omega)
 have kch:=zX (dQ s.chs gch (by simp only[WL];omega)) (by simp only[WL];omega)
 have krw:=zR s.rws grw (by simp only[WL];omega)
 have kst:=zAs s.sts gst (by simp only[WL];omega)
 have kw:=j5 s.wh (dQ s.wh gwh (by simp only[WL];omega)) (by simp only[WL];omega)
 have kq:=zQ (jN s.q gq (by simp only[WL];omega)) (by simp only[WL];omega)
 have e1:(aE s.cs.length 1 16&&s.cs.all bR)=am s.cs 1 16 bR:=(ay s.cs 1 16 bR).symm
 have e2:(aE s.kys.length 0 64&&s.kys.all cK)=am s.kys 0 64 cK:=(ay s.kys 0 64 cK).symm
 have e3:(aE s.rfs.length 0 64&&s.rfs.all cz)=am s.rfs 0 64 cz:=(ay s.rfs 0 64 cz).symm
 have e4:(aE s.chs.length 0 64&&s.chs.all aK)=am s.chs 0 64 aK:=(ay s.chs 0 64 aK).symm
 have e5:(aE s.q.length 1 1&&s.q.all bA)=am s.q 1 1 bA:=(ay s.q 1 1 bA).symm
 have e6:(aE s.rws.length 1 64&&s.rws.all fun l=>aE l.length 1 16&&l.all aK)=am s.rws 1 64 (fun r=>am r 1 16 aK):=by
  rw[show am s.rws 1 64 (fun r=>am r 1 16 aK)=_ from ay s.rws 1 64 _]
  congr 2
  funext r
  exact (ay r 1 16 aK).symm
 have e7:(aE s.sts.length 1 16&&s.sts.all cA)=am s.sts 1 16 cA:=(ay s.sts 1 16 cA).symm
 have e8:(aE s.wh.length 0 1&&s.wh.all aK)=am s.wh 0 1 aK:=(ay s.wh 0 1 aK).symm
 have e9:(aE s.ns.length 1 16&&s.ns.all aA)=am s.ns 1 16 aA:=(ay s.ns 1 16 aA).symm
 have e10:(aE s.ns.length 0 16&&s.ns.all aA)=am s.ns 0 16 aA:=(ay s.ns 0 16 aA).symm
 have kS:=afl s hw
 refine aj rfl aa8 iK rfl ?_
 by_cases b0:s.tb=[]
 rotate_left
 .simp -implicitDefEqProofs(maxSteps:=9^9)only[Tryz.f92,↓zA,sevalprocAttr,cR,bO,hk,or_true,true_or,or_false,false_or,b0,bt,bL,e1,e2,e3,e4,e5,e6,e7,e8,e9,e10,ba,bw,hns,kcs,kky,krf,kch,krw,kst,kw,kq,aW,Int.reduceEq,or_self,Bool.or_false,Bool.or_true,Bool.false_or,Bool.true_or,Bool.and_assoc,kS]
 simp -implicitDefEqProofs(maxSteps:=9^9)only[Tryz.f92,↓zA,sevalprocAttr,cR,bO,hk,or_true,true_or,or_false,false_or,eq_true b0,bt,bL,e1,e2,e3,e4,e5,e6,e7,e8,e9,e10,ba,bw,hns,kcs,kky,krf,kch,krw,kst,kw,kq,aW,Int.reduceEq,or_self,Bool.or_false,Bool.or_true,Bool.false_or,Bool.true_or,Bool.and_assoc,kS]
theorem aOZ (s:Sm) (g:fz s) (hw:smW s≤WL) (hk:s.kd=9):G1 92 [.of (.agg (smC s))] (ah (bO s)):=by
 have hw':=hw
 simp only[WL,smW] at hw'
 obtain⟨_,_,_,_,_,_,_,_,gch,grw,gst,gwh,gq⟩:=g
 have n1:=bh cdW s.cs fun x _=>by simp[cdW]
 have n2:=bh aZ s.ns fun x _=>by simp[aZ]
 have hns:s.ns.length≤4611686018427387903:=by omega
 have kcs:=zCd s.cs (by omega)
 have kky:=zKd s.kys (by simp only[WL];omega)
 have krf:=zRd s.rfs (by simp only[WL];omega)
 have kch:=zX (dQ s.chs gch (by simp only[WL];omega)) (by simp only[WL];omega)
 have krw:=zR s.rws grw (by simp only[WL];omega)
 have kst:=zAs s.sts gst (by simp only[WL];omega)
 have kw:=j5 s.wh (dQ s.wh gwh (by simp only[WL];omega)) (by simp only[WL];omega)
 have kq:=zQ (jN s.q gq (by simp only[WL];omega)) (by simp only[WL];omega)
 have e1:(aE s.cs.length 1 16&&s.cs.all bR)=am s.cs 1 16 bR:=(ay s.cs 1 16 bR).symm
 have e2:(aE s.kys.length 0 64&&s.kys.all cK)=am s.kys 0 64 cK:=(ay s.kys 0 64 cK).symm
 have e3:(aE s.rfs.length 0 64&&s.rfs.all cz)=am s.rfs 0 64 cz:=(ay s.rfs 0 64 cz).symm
 have e4:(aE s.chs.length 0 64&&s.chs.all aK)=am s.chs 0 64 aK:=(ay s.chs 0 64 aK).symm
 have e5:(aE s.q.length 1 1&&s.q.all bA)=am s.q 1 1 bA:=(ay s.q 1 1 bA).symm
 have e6:(aE s.rws.length 1 64&&s.rws.all fun l=>aE l.length 1 16&&l.all aK)=am s.rws 1 64 (fun r=>am r 1 16 aK):=by
  rw[show am s.rws 1 64 (fun r=>am r 1 16 aK)=_ from ay s.rws 1 64 _]
  congr 2
  funext r
  exact (ay r 1 16 aK).symm
 have e7:(aE s.sts.length 1 16&&s.sts.all cA)=am s.sts 1 16 cA:=(ay s.sts 1 16 cA).symm
 have e8:(aE s.wh.length 0 1&&s.wh.all aK)=am s.wh 0 1 aK:=(ay s.wh 0 1 aK).symm
 have e9:(aE s.ns.length 1 16&&s.ns.all aA)=am s.ns 1 16 aA:=(ay s.ns 1 16 aA).symm
 have e10:(aE s.ns.length 0 16&&s.ns.all aA)=am s.ns 0 16 aA:=(ay s.ns 0 16 aA).symm
 have kS:=afl s hw
 refine aj rfl aa8 iK rfl ?_
 by_cases b0:s.tb=[]
 rotate_left
 .simp -implicitDefEqProofs(maxSteps:=9^9)only[Tryz.f92,↓zA,sevalprocAttr,cR,bO,hk,or_true,true_or,or_false,false_or,b0,bt,bL,e1,e2,e3,e4,e5,e6,e7,e8,e9,e10,ba,bw,hns,kcs,kky,krf,kch,krw,kst,kw,kq,aW,Int.reduceEq,or_self,Bool.or_false,Bool.or_true,Bool.false_or,Bool.true_or,Bool.and_assoc,kS]
 simp -implicitDefEqProofs(maxSteps:=9^9)only[Tryz.f92,↓zA,sevalprocAttr,cR,bO,hk,or_true,true_or,or_false,false_or,eq_true b0,bt,bL,e1,e2,e3,e4,e5,e6,e7,e8,e9,e10,ba,bw,hns,kcs,kky,krf,kch,krw,kst,kw,kq,aW,Int.reduceEq,or_self,Bool.or_false,Bool.or_true,Bool.false_or,Bool.true_or,Bool.and_assoc,kS]
theorem aLB (s:Sm) (g:fz s) (hw:smW s≤WL) (hk:s.kd=10):G1 92 [.of (.agg (smC s))] (ah (bO s)):=by
 have hw':=hw
 simp only[WL,smW] at hw'
 obtain⟨_,_,_,_,_,_,_,_,gch,grw,gst,gwh,gq⟩:=g
 have n1:=bh cdW s.cs fun x _=>by simp[cdW]
 have n2:=bh aZ s.ns fun x _=>by simp[aZ]
 have hns:s.ns.length≤4611686018427387903:=by omega
 have kcs:=zCd s.cs (by omega)
 have kky:=zKd s.kys (by simp only[WL];omega)
 have krf:=zRd s.rfs (by simp only[WL];omega)
 have kch:=zX (dQ s.chs gch (by simp only[WL];omega)) (by simp only[WL];omega)
 have krw:=zR s.rws grw (by simp only[WL];omega)
 have kst:=zAs s.sts gst (by simp only[WL];omega)
 have kw:=j5 s.wh (dQ s.wh gwh (by simp only[WL];omega)) (by simp only[WL];omega)
 have kq:=zQ (jN s.q gq (by simp only[WL];omega)) (by simp only[WL];omega)
 have e1:(aE s.cs.length 1 16&&s.cs.all bR)=am s.cs 1 16 bR:=(ay s.cs 1 16 bR).symm
 have e2:(aE s.kys.length 0 64&&s.kys.all cK)=am s.kys 0 64 cK:=(ay s.kys 0 64 cK).symm
 have e3:(aE s.rfs.length 0 64&&s.rfs.all cz)=am s.rfs 0 64 cz:=(ay s.rfs 0 64 cz).symm
 have e4:(aE s.chs.length 0 64&&s.chs.all aK)=am s.chs 0 64 aK:=(ay s.chs 0 64 aK).symm
 have e5:(aE s.q.length 1 1&&s.q.all bA)=am s.q 1 1 bA:=(ay s.q 1 1 bA).symm
 have e6:(aE s.rws.length 1 64&&s.rws.all fun l=>aE l.length 1 16&&l.all aK)=am s.rws 1 64 (fun r=>am r 1 16 aK):=by
  rw[show am s.rws 1 64 (fun r=>am r 1 16 aK)=_ from ay s.rws 1 64 _]
  congr 2
  funext r
  exact (ay r 1 16 aK).symm
 have e7:(aE s.sts.length 1 16&&s.sts.all cA)=am s.sts 1 16 cA:=(ay s.sts 1 16 cA).symm
 have e8:(aE s.wh.length 0 1&&s.wh.all aK)=am s.wh 0 1 aK:=(ay s.wh 0 1 aK).symm
 have e9:(aE s.ns.length 1 16&&s.ns.all aA)=am s.ns 1 16 aA:=(ay s.ns 1 16 aA).symm
 have e10:(aE s.ns.length 0 16&&s.ns.all aA)=am s.ns 0 16 aA:=(ay s.ns 0 16 aA).symm
 have kS:=afl s hw
 refine aj rfl aa8 iK rfl ?_
 by_cases b0:s.tb=[]
 rotate_left
 .simp -implicitDefEqProofs(maxSteps:=9^9)only[Tryz.f92,↓zA,sevalprocAttr,cR,bO,hk,or_true,true_or,or_false,false_or,b0,bt,bL,e1,e2,e3,e4,e5,e6,e7,e8,e9,e10,ba,bw,hns,kcs,kky,krf,kch,krw,kst,kw,kq,aW,Int.reduceEq,or_self,Bool.or_false,Bool.or_true,Bool.false_or,Bool.true_or,Bool.and_assoc,kS]
 simp -implicitDefEqProofs(maxSteps:=9^9)only[Tryz.f92,↓zA,sevalprocAttr,cR,bO,hk,or_true,true_or,or_false,false_or,eq_true b0,bt,bL,e1,e2,e3,e4,e5,e6,e7,e8,e9,e10,ba,bw,hns,kcs,kky,krf,kch,krw,kst,kw,kq,aW,Int.reduceEq,or_self,Bool.or_false,Bool.or_true,Bool.false_or,Bool.true_or,Bool.and_assoc,kS]
theorem aLz (s:Sm) (g:fz s) (hw:smW s≤WL) (hk:s.kd=12):G1 92 [.of (.agg (smC s))] (ah (bO s)):=by
 have hw':=hw
 simp only[WL,smW] at hw'
 obtain⟨_,_,_,_,_,_,_,_,gch,grw,gst,gwh,gq⟩:=g
 have n1:=bh cdW s.cs fun x _=>by simp[cdW]
 have n2:=bh aZ s.ns fun x _=>by simp[aZ]
 have hns:s.ns.length≤4611686018427387903:=by omega
 have kcs:=zCd s.cs (by omega)
 have kky:=zKd s.kys (by simp only[WL];omega)
 have krf:=zRd s.rfs (by simp only[WL];omega)
 have kch:=zX (dQ s.chs gch (by simp only[WL];omega)) (by simp only[WL];omega)
 have krw:=zR s.rws grw (by simp only[WL];omega)
 have kst:=zAs s.sts gst (by simp only[WL];omega)
 have kw:=j5 s.wh (dQ s.wh gwh (by simp only[WL];omega)) (by simp only[WL];omega)
 have kq:=zQ (jN s.q gq (by simp only[WL];omega)) (by simp only[WL];omega)
 have e1:(aE s.cs.length 1 16&&s.cs.all bR)=am s.cs 1 16 bR:=(ay s.cs 1 16 bR).symm
 have e2:(aE s.kys.length 0 64&&s.kys.all cK)=am s.kys 0 64 cK:=(ay s.kys 0 64 cK).symm
 have e3:(aE s.rfs.length 0 64&&s.rfs.all cz)=am s.rfs 0 64 cz:=(ay s.rfs 0 64 cz).symm
 have e4:(aE s.chs.length 0 64&&s.chs.all aK)=am s.chs 0 64 aK:=(ay s.chs 0 64 aK).symm
 have e5:(aE s.q.length 1 1&&s.q.all bA)=am s.q 1 1 bA:=(ay s.q 1 1 bA).symm
 have e6:(aE s.rws.length 1 64&&s.rws.all fun l=>aE l.length 1 16&&l.all aK)=am s.rws 1 64 (fun r=>am r 1 16 aK):=by
  rw[show am s.rws 1 64 (fun r=>am r 1 16 aK)=_ from ay s.rws 1 64 _]
  congr 2
  funext r
  exact (ay r 1 16 aK).symm
 have e7:(aE s.sts.length 1 16&&s.sts.all cA)=am s.sts 1 16 cA:=(ay s.sts 1 16 cA).symm
 have e8:(aE s.wh.length 0 1&&s.wh.all aK)=am s.wh 0 1 aK:=(ay s.wh 0 1 aK).symm
 have e9:(aE s.ns.length 1 16&&s.ns.all aA)=am s.ns 1 16 aA:=(ay s.ns 1 16 aA).symm
 have e10:(aE s.ns.length 0 16&&s.ns.all aA)=am s.ns 0 16 aA:=(ay s.ns 0 16 aA).symm
 have kS:=afl s hw
 refine aj rfl aa8 iK rfl ?_
 by_cases b0:s.tb=[]
 rotate_left
 .simp -implicitDefEqProofs(maxSteps:=9^9)only[Tryz.f92,↓zA,sevalprocAttr,cR,bO,hk,or_true,true_or,or_false,false_or,b0,bt,bL,e1,e2,e3,e4,e5,e6,e7,e8,e9,e10,ba,bw,hns,kcs,kky,krf,kch,krw,kst,kw,kq,aW,Int.reduceEq,or_self,Bool.or_false,Bool.or_true,Bool.false_or,Bool.true_or,Bool.and_assoc,kS]
 simp -implicitDefEqProofs(maxSteps:=9^9)only[Tryz.f92,↓zA,sevalprocAttr,cR,bO,hk,or_true,true_or,or_false,false_or,eq_true b0,bt,bL,e1,e2,e3,e4,e5,e6,e7,e8,e9,e10,ba,bw,hns,kcs,kky,krf,kch,krw,kst,kw,kq,aW,Int.reduceEq,or_self,Bool.or_false,Bool.or_true,Bool.false_or,Bool.true_or,Bool.and_assoc,kS]
theorem aLy (s:Sm) (g:fz s) (hw:smW s≤WL) (hk:s.kd=13):G1 92 [.of (.agg (smC s))] (ah (bO s)):=by
 have hw':=hw
 simp only[WL,smW] at hw'
 obtain⟨_,_,_,_,_,_,_,_,gch,grw,gst,gwh,gq⟩:=g
 have n1:=bh cdW s.cs fun x _=>by simp[cdW]
 have n2:=bh aZ s.ns fun x _=>by simp[aZ]
 have hns:s.ns.length≤4611686018427387903:=by omega
 have kcs:=zCd s.cs (by omega)
 have kky:=zKd s.kys (by simp only[WL];omega)
 have krf:=zRd s.rfs (by simp only[WL];omega)
 have kch:=zX (dQ s.chs gch (by simp only[WL];omega)) (by simp only[WL];omega)
 have krw:=zR s.rws grw (by simp only[WL];omega)
 have kst:=zAs s.sts gst (by simp only[WL];omega)
 have kw:=j5 s.wh (dQ s.wh gwh (by simp only[WL];omega)) (by simp only[WL];omega)
 have kq:=zQ (jN s.q gq (by simp only[WL];omega)) (by simp only[WL];omega)
 have e1:(aE s.cs.length 1 16&&s.cs.all bR)=am s.cs 1 16 bR:=(ay s.cs 1 16 bR).symm
 have e2:(aE s.kys.length 0 64&&s.kys.all cK)=am s.kys 0 64 cK:=(ay s.kys 0 64 cK).symm
 have e3:(aE s.rfs.length 0 64&&s.rfs.all cz)=am s.rfs 0 64 cz:=(ay s.rfs 0 64 cz).symm
 have e4:(aE s.chs.length 0 64&&s.chs.all aK)=am s.chs 0 64 aK:=(ay s.chs 0 64 aK).symm
 have e5:(aE s.q.length 1 1&&s.q.all bA)=am s.q 1 1 bA:=(ay s.q 1 1 bA).symm
 have e6:(aE s.rws.length 1 64&&s.rws.all fun l=>aE l.length 1 16&&l.all aK)=am s.rws 1 64 (fun r=>am r 1 16 aK):=by
  rw[show am s.rws 1 64 (fun r=>am r 1 16 aK)=_ from ay s.rws 1 64 _]
  congr 2
  funext r
  exact (ay r 1 16 aK).symm
 have e7:(aE s.sts.length 1 16&&s.sts.all cA)=am s.sts 1 16 cA:=(ay s.sts 1 16 cA).symm
 have e8:(aE s.wh.length 0 1&&s.wh.all aK)=am s.wh 0 1 aK:=(ay s.wh 0 1 aK).symm
 have e9:(aE s.ns.length 1 16&&s.ns.all aA)=am s.ns 1 16 aA:=(ay s.ns 1 16 aA).symm
 have e10:(aE s.ns.length 0 16&&s.ns.all aA)=am s.ns 0 16 aA:=(ay s.ns 0 16 aA).symm
 have kS:=afl s hw
 refine aj rfl aa8 iK rfl ?_
 by_cases b0:s.tb=[]
 rotate_left
 .simp -implicitDefEqProofs(maxSteps:=9^9)only[Tryz.f92,↓zA,sevalprocAttr,cR,bO,hk,or_true,true_or,or_false,false_or,b0,bt,bL,e1,e2,e3,e4,e5,e6,e7,e8,e9,e10,ba,bw,hns,kcs,kky,krf,kch,krw,kst,kw,kq,aW,Int.reduceEq,or_self,Bool.or_false,Bool.or_true,Bool.false_or,Bool.true_or,Bool.and_assoc,kS]
 simp -implicitDefEqProofs(maxSteps:=9^9)only[Tryz.f92,↓zA,sevalprocAttr,cR,bO,hk,or_true,true_or,or_false,false_or,eq_true b0,bt,bL,e1,e2,e3,e4,e5,e6,e7,e8,e9,e10,ba,bw,hns,kcs,kky,krf,kch,krw,kst,kw,kq,aW,Int.reduceEq,or_self,Bool.or_false,Bool.or_true,Bool.false_or,Bool.true_or,Bool.and_assoc,kS]
theorem aLx (s:Sm) (g:fz s) (hw:smW s≤WL) (hk:s.kd=14):G1 92 [.of (.agg (smC s))] (ah (bO s)):=by
 have hw':=hw
 simp only[WL,smW] at hw'
 obtain⟨_,_,_,_,_,_,_,_,gch,grw,gst,gwh,gq⟩:=g
 have n1:=bh cdW s.cs fun x _=>by simp[cdW]
 have n2:=bh aZ s.ns fun x _=>by simp[aZ]
 have hns:s.ns.length≤4611686018427387903:=by omega
 have kcs:=zCd s.cs (by omega)
 have kky:=zKd s.kys (by simp only[WL];omega)
 have krf:=zRd s.rfs (by simp only[WL];omega)
 have kch:=zX (dQ s.chs gch (by simp only[WL];omega)) (by simp only[WL];omega)
 have krw:=zR s.rws grw (by simp only[WL];omega)
 have kst:=zAs s.sts gst (by simp only[WL];omega)
 have kw:=j5 s.wh (dQ s.wh gwh (by simp only[WL];omega)) (by simp only[WL];omega)
 have kq:=zQ (jN s.q gq (by simp only[WL];omega)) (by simp only[WL];omega)
 have e1:(aE s.cs.length 1 16&&s.cs.all bR)=am s.cs 1 16 bR:=(ay s.cs 1 16 bR).symm
 have e2:(aE s.kys.length 0 64&&s.kys.all cK)=am s.kys 0 64 cK:=(ay s.kys 0 64 cK).symm
 have e3:(aE s.rfs.length 0 64&&s.rfs.all cz)=am s.rfs 0 64 cz:=(ay s.rfs 0 64 cz).symm
 have e4:(aE s.chs.length 0 64&&s.chs.all aK)=am s.chs 0 64 aK:=(ay s.chs 0 64 aK).symm
 have e5:(aE s.q.length 1 1&&s.q.all bA)=am s.q 1 1 bA:=(ay s.q 1 1 bA).symm
 have e6:(aE s.rws.length 1 64&&s.rws.all fun l=>aE l.length 1 16&&l.all aK)=am s.rws 1 64 (fun r=>am r 1 16 aK):=by
  rw[show am s.rws 1 64 (fun r=>am r 1 16 aK)=_ from ay s.rws 1 64 _]
  congr 2
  funext r
  exact (ay r 1 16 aK).symm
 have e7:(aE s.sts.length 1 16&&s.sts.all cA)=am s.sts 1 16 cA:=(ay s.sts 1 16 cA).symm
 have e8:(aE s.wh.length 0 1&&s.wh.all aK)=am s.wh 0 1 aK:=(ay s.wh 0 1 aK).symm
 have e9:(aE s.ns.length 1 16&&s.ns.all aA)=am s.ns 1 16 aA:=(ay s.ns 1 16 aA).symm
 have e10:(aE s.ns.length 0 16&&s.ns.all aA)=am s.ns 0 16 aA:=(ay s.ns 0 16 aA).symm
 have kS:=afl s hw
 refine aj rfl aa8 iK rfl ?_
 by_cases b0:s.tb=[]
 rotate_left
 .simp -implicitDefEqProofs(maxSteps:=9^9)only[Tryz.f92,↓zA,sevalprocAttr,cR,bO,hk,or_true,true_or,or_false,false_or,b0,bt,bL,e1,e2,e3,e4,e5,e6,e7,e8,e9,e10,ba,bw,hns,kcs,kky,krf,kch,krw,kst,kw,kq,aW,Int.reduceEq,or_self,Bool.or_false,Bool.or_true,Bool.false_or,Bool.true_or,Bool.and_assoc,kS]
 simp -implicitDefEqProofs(maxSteps:=9^9)only[Tryz.f92,↓zA,sevalprocAttr,cR,bO,hk,or_true,true_or,or_false,false_or,eq_true b0,bt,bL,e1,e2,e3,e4,e5,e6,e7,e8,e9,e10,ba,bw,hns,kcs,kky,krf,kch,krw,kst,kw,kq,aW,Int.reduceEq,or_self,Bool.or_false,Bool.or_true,Bool.false_or,Bool.true_or,Bool.and_assoc,kS]
end Go.Proofs.YtjajlmjfddohfaaGreatDoor

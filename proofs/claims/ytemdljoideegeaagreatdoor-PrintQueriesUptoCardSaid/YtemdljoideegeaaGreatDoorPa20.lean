/-
  Chapter 11's example and its two laws. Conditions: none.
-/
import Derived.Test.YtemdljoideegeaaGreatDoorPa19
set_option linter.defProp false
set_option linter.unusedSectionVars false
set_option maxRecDepth 100000
set_option maxHeartbeats 64000000
namespace Go.Proofs.YtemdljoideegeaaGreatDoor
open Go Go.Pe Go.Tab
theorem afW:∀ (bs:List Bool) (ls:List UInt8),(pick bs ls).length≤ls.length
 | [],_=>by simp[pick]
 | _::_,[]=>by simp[pick]
 | true::r,c::l=>by simp only[pick,aA,aB];have:=afW r l;omega
 | false::r,c::l=>by simp only[pick,aW,aQ,aB];have:=afW r l;omega
def alK (l:List Xp) (a b:Nat):bu l (a:Int) (b:Int) cW=dV l a b:=by
 unfold bu dV dD
 have e1:decide ((a:Int)≤(l.length:Int))=decide (a≤l.length):=fO.2 (by omega)
 have e2:decide ((l.length:Int)≤(b:Int))=decide (l.length≤b):=fO.2 (by omega)
 rw[e1,e2]
def aoL (l:List (List UInt8)) (a b:Nat):bu l (a:Int) (b:Int) bk=df l a b:=by
 unfold bu df dD
 have e1:decide ((a:Int)≤(l.length:Int))=decide (a≤l.length):=fO.2 (by omega)
 have e2:decide ((l.length:Int)≤(b:Int))=decide (l.length≤b):=fO.2 (by omega)
 rw[e1,e2]
def aD7 (s:Sm):age s=anh s:=by
 have:=alK s.chs 0 64
 unfold age anh
 rw[← this]
 rfl
def aUf (a:List UInt8):(aD a=({data:=#[116]}:ByteArray))=(a=[116]):=bW a [116]
def aUh (a:List UInt8):(aD a=({data:=#[110]}:ByteArray))=(a=[110]):=bW a [110]
def aUg (a:List UInt8):(aD a=({data:=#[113]}:ByteArray))=(a=[113]):=bW a [113]
def a7c (s:Sm) (K:An→Prop):bp Tryz.prog pr 126 [.of (aH (aD (cD s))),.of (aH {data:=#[116,99,107,102,104]})] [] K↔K ⟨false,[aG (hZ (cD s) [116,99,107,102,104])],[]⟩:=aN.k (ahD (cD s) [116,99,107,102,104] (by have h:=afW (hC s) gv;have h2:gv.length=12:=rfl;unfold cD;omega) (by simp)) K
def a7a (s:Sm) (K:An→Prop):bp Tryz.prog pr 126 [.of (aH (aD (cD s))),.of (aH {data:=#[116,110,109,117]})] [] K↔K ⟨false,[aG (hZ (cD s) [116,110,109,117])],[]⟩:=aN.k (ahD (cD s) [116,110,109,117] (by have h:=afW (hC s) gv;have h2:gv.length=12:=rfl;unfold cD;omega) (by simp)) K
def a69 (s:Sm) (K:An→Prop):bp Tryz.prog pr 126 [.of (aH (aD (cD s))),.of (aH {data:=#[116,109,114,113]})] [] K↔K ⟨false,[aG (hZ (cD s) [116,109,114,113])],[]⟩:=aN.k (ahD (cD s) [116,109,114,113] (by have h:=afW (hC s) gv;have h2:gv.length=12:=rfl;unfold cD;omega) (by simp)) K
def a68 (s:Sm) (K:An→Prop):bp Tryz.prog pr 126 [.of (aH (aD (cD s))),.of (aH {data:=#[116,115,119]})] [] K↔K ⟨false,[aG (hZ (cD s) [116,115,119])],[]⟩:=aN.k (ahD (cD s) [116,115,119] (by have h:=afW (hC s) gv;have h2:gv.length=12:=rfl;unfold cD;omega) (by simp)) K
def a7b (s:Sm) (K:An→Prop):bp Tryz.prog pr 126 [.of (aH (aD (cD s))),.of (aH {data:=#[116,119]})] [] K↔K ⟨false,[aG (hZ (cD s) [116,119])],[]⟩:=aN.k (ahD (cD s) [116,119] (by have h:=afW (hC s) gv;have h2:gv.length=12:=rfl;unfold cD;omega) (by simp)) K
def gZ:=ai (ai (ai (ai (ai @zq @a6e) (ai @aWa @aTc)) (ai (ai @aV9 @aTb) (ai @ahx @agf))) (ai (ai (ai @aV8 @aTa) (ai @aGM @aBw)) (ai (ai @aV7 @aS9) (ai @apk @ano)))) (ai (ai (ai (ai @aV6 @aS8) (ai @ajQ @aik)) (ai (ai @aba @eY) (ai @abO @cR))) (ai (ai (ai @ie @eI) (ai @bO @Q3)) (ai (ai @Q9 @zT0) (ai @acg (ba afm)))))
def aWt (n:Nat):((n:Int)=1)=(n=1):=propext (by omega)
def stW (s:Sm) (hw:smW s≤WL):s.ns.length≤4611686018427387903∧lsW qyW s.q≤WL∧lsW xpW s.wh≤WL∧lsW (lsW xpW) s.rws≤WL∧lsW asW s.sts≤WL:=by
 simp only[WL,smW] at *
 have n1:=da cV s.ns fun x _=>by simp[cV]
 omega
def stF (s:Sm) (hw:smW s≤WL):=ai (stW s hw).1 (ai (fun (K:An→Prop)=>aN.k (axy s hw) K) (ai (fun n (K:An→Prop)=>aN.k (ags s.q n (stW s hw).2.1 (a0y s.q (stW s hw).2.1)) K) (ai (fun a b (K:An→Prop)=>aN.k (adc s.wh a b (stW s hw).2.2.1 (awp s.wh (stW s hw).2.2.1)) K) (ai (fun (K:An→Prop)=>aN.k (aFM s.rws (stW s hw).2.2.2.1) K) (fun (K:An→Prop)=>aN.k (aFJ s.sts (stW s hw).2.2.2.2) K)))))
def zst:=ai (ai (ai @avz (ai @dc @aeB)) (ai (ai @a7c @a7a) (ai @a69 @a68))) (ai (ai (ai @a7b @aNF) (ai @gB @aWt)) (ai (ai @aUf @aUh) (ai @aUg @ij)))
def aUn (s:Sm) (hw:smW s≤WL) (hk:s.kd=1):G1 50 [.of (.agg (smC s))] (aG (hZ (cD s) [116,99,107,102,104]&&(bk s.tb&&age s))):=by
 have F:=stF s hw
 have kd:∀ c:Int,(s.kd=c)=(1=c):=fun c=>by rw[hk]
 refine ah rfl afm acg rfl ?_
 cases b0:hZ (cD s) [116,99,107,102,104]
 .simp -implicitDefEqProofs(maxSteps:=9^9)only[Tryz.f50,↓zA,sevalprocAttr,gZ,zst,F,kd,Int.reduceEq,b0]
 cases b1:bk s.tb
 .simp -implicitDefEqProofs(maxSteps:=9^9)only[Tryz.f50,↓zA,sevalprocAttr,gZ,zst,F,kd,Int.reduceEq,b0,b1]
 simp -implicitDefEqProofs(maxSteps:=9^9)only[Tryz.f50,↓zA,sevalprocAttr,gZ,zst,F,kd,Int.reduceEq,b0,b1]
def aUl (s:Sm) (hw:smW s≤WL) (hk:s.kd=2):G1 50 [.of (.agg (smC s))] (aG (hZ (cD s) [116,110,109,117]&&(bk s.tb&&(bk s.nm&&bu s.ns 1 16 bk)))):=by
 have F:=stF s hw
 have kd:∀ c:Int,(s.kd=c)=(2=c):=fun c=>by rw[hk]
 refine ah rfl afm acg rfl ?_
 cases b0:hZ (cD s) [116,110,109,117]
 .simp -implicitDefEqProofs(maxSteps:=9^9)only[Tryz.f50,↓zA,sevalprocAttr,gZ,zst,F,kd,Int.reduceEq,b0]
 cases b1:bk s.tb
 .simp -implicitDefEqProofs(maxSteps:=9^9)only[Tryz.f50,↓zA,sevalprocAttr,gZ,zst,F,kd,Int.reduceEq,b0,b1]
 cases b2:bk s.nm
 .simp -implicitDefEqProofs(maxSteps:=9^9)only[Tryz.f50,↓zA,sevalprocAttr,gZ,zst,F,kd,Int.reduceEq,b0,b1,b2]
 simp -implicitDefEqProofs(maxSteps:=9^9)only[Tryz.f50,↓zA,sevalprocAttr,gZ,zst,F,kd,Int.reduceEq,b0,b1,b2]
def aUk (s:Sm) (hw:smW s≤WL) (hk:s.kd=4):G1 50 [.of (.agg (smC s))] (aG (hZ (cD s) [116,109,114,113]&&(aCQ s&&(bk s.tb&&(bu s.ns 0 16 bk&&(((s.rws.all fun r=>bu r 1 16 cW)&&decide (s.rws.length≤64))&&s.q.all d7)))))):=by
 have F:=stF s hw
 have kd:∀ c:Int,(s.kd=c)=(4=c):=fun c=>by rw[hk]
 refine ah rfl afm acg rfl ?_
 have eo:aCQ s=((decide (0<s.rws.length)&&decide (s.q.length=0))||(decide (s.rws.length=0)&&decide (s.q.length=1))):=rfl
 by_cases r0:s.rws.length=0
 .have r1:¬0<s.rws.length:=by omega
  by_cases q1:s.q.length=1
  .have q0:¬s.q.length=0:=by omega
   have al:(s.rws.all fun r=>bu r 1 16 cW)=true:=by rw[aJ r0];rfl
   cases d0:hZ (cD s) [116,109,114,113]
   .simp -implicitDefEqProofs(maxSteps:=9^9)only[Tryz.f50,↓zA,sevalprocAttr,gZ,zst,F,kd,Int.reduceEq,eo,r0,q1,q0,au,al,d0]
   cases d1:bk s.tb
   .simp -implicitDefEqProofs(maxSteps:=9^9)only[Tryz.f50,↓zA,sevalprocAttr,gZ,zst,F,kd,Int.reduceEq,eo,r0,q1,q0,au,al,d0,d1]
   cases d2:bu s.ns 0 16 bk
   .simp -implicitDefEqProofs(maxSteps:=9^9)only[Tryz.f50,↓zA,sevalprocAttr,gZ,zst,F,kd,Int.reduceEq,eo,r0,q1,q0,au,al,d0,d1,d2]
   simp -implicitDefEqProofs(maxSteps:=9^9)only[Tryz.f50,↓zA,sevalprocAttr,gZ,zst,F,kd,Int.reduceEq,eo,r0,q1,q0,au,al,d0,d1,d2]
  .cases b0:hZ (cD s) [116,109,114,113]
   .simp -implicitDefEqProofs(maxSteps:=9^9)only[Tryz.f50,↓zA,sevalprocAttr,gZ,zst,F,kd,Int.reduceEq,eo,r0,q1,b0,au]
   .simp -implicitDefEqProofs(maxSteps:=9^9)only[Tryz.f50,↓zA,sevalprocAttr,gZ,zst,F,kd,Int.reduceEq,eo,r0,q1,b0,au]
 .have r1:0<s.rws.length:=by omega
  by_cases q0:s.q.length=0
  .have eq:s.q=[]:=aJ q0
   cases d0:hZ (cD s) [116,109,114,113]
   .simp -implicitDefEqProofs(maxSteps:=9^9)only[Tryz.f50,↓zA,sevalprocAttr,gZ,zst,F,kd,Int.reduceEq,eo,r0,r1,q0,d0]
   cases d1:bk s.tb
   .simp -implicitDefEqProofs(maxSteps:=9^9)only[Tryz.f50,↓zA,sevalprocAttr,gZ,zst,F,kd,Int.reduceEq,eo,r0,r1,q0,d0,d1]
   cases d2:bu s.ns 0 16 bk
   .simp -implicitDefEqProofs(maxSteps:=9^9)only[Tryz.f50,↓zA,sevalprocAttr,gZ,zst,F,kd,Int.reduceEq,eo,r0,r1,q0,d0,d1,d2]
   cases d3:((s.rws.all fun r=>bu r 1 16 cW)&&decide (s.rws.length≤64))
   .simp -implicitDefEqProofs(maxSteps:=9^9)only[Tryz.f50,↓zA,sevalprocAttr,gZ,zst,F,kd,Int.reduceEq,eo,r0,r1,q0,d0,d1,d2,d3]
   simp -implicitDefEqProofs(maxSteps:=9^9)only[Tryz.f50,↓zA,sevalprocAttr,gZ,zst,F,kd,Int.reduceEq,eo,r0,r1,q0,d0,d1,d2,d3]
  .cases b0:hZ (cD s) [116,109,114,113]
   .simp -implicitDefEqProofs(maxSteps:=9^9)only[Tryz.f50,↓zA,sevalprocAttr,gZ,zst,F,kd,Int.reduceEq,eo,r0,r1,q0,b0]
   .simp -implicitDefEqProofs(maxSteps:=9^9)only[Tryz.f50,↓zA,sevalprocAttr,gZ,zst,F,kd,Int.reduceEq,eo,r0,r1,q0,b0]
def aUj (s:Sm) (hw:smW s≤WL) (hk:s.kd=5):G1 50 [.of (.agg (smC s))] (aG (hZ (cD s) [116,115,119]&&(bk s.tb&&((s.sts.all aca&&(decide (1≤s.sts.length)&&decide (s.sts.length≤16)))&&bu s.wh 0 1 cW)))):=by
 have F:=stF s hw
 have kd:∀ c:Int,(s.kd=c)=(5=c):=fun c=>by rw[hk]
 refine ah rfl afm acg rfl ?_
 cases b0:hZ (cD s) [116,115,119]
 .simp -implicitDefEqProofs(maxSteps:=9^9)only[Tryz.f50,↓zA,sevalprocAttr,gZ,zst,F,kd,Int.reduceEq,b0]
 cases b1:bk s.tb
 .simp -implicitDefEqProofs(maxSteps:=9^9)only[Tryz.f50,↓zA,sevalprocAttr,gZ,zst,F,kd,Int.reduceEq,b0,b1]
 cases b2:(s.sts.all aca&&(decide (1≤s.sts.length)&&decide (s.sts.length≤16)))
 .simp -implicitDefEqProofs(maxSteps:=9^9)only[Tryz.f50,↓zA,sevalprocAttr,gZ,zst,F,kd,Int.reduceEq,b0,b1,b2]
 simp -implicitDefEqProofs(maxSteps:=9^9)only[Tryz.f50,↓zA,sevalprocAttr,gZ,zst,F,kd,Int.reduceEq,b0,b1,b2]
def aUm (s:Sm) (hw:smW s≤WL) (hk:s.kd=6):G1 50 [.of (.agg (smC s))] (aG (hZ (cD s) [116,119]&&(bk s.tb&&bu s.wh 0 1 cW))):=by
 have F:=stF s hw
 have kd:∀ c:Int,(s.kd=c)=(6=c):=fun c=>by rw[hk]
 refine ah rfl afm acg rfl ?_
 cases b0:hZ (cD s) [116,119]
 .simp -implicitDefEqProofs(maxSteps:=9^9)only[Tryz.f50,↓zA,sevalprocAttr,gZ,zst,F,kd,Int.reduceEq,b0]
 cases b1:bk s.tb
 .simp -implicitDefEqProofs(maxSteps:=9^9)only[Tryz.f50,↓zA,sevalprocAttr,gZ,zst,F,kd,Int.reduceEq,b0,b1]
 simp -implicitDefEqProofs(maxSteps:=9^9)only[Tryz.f50,↓zA,sevalprocAttr,gZ,zst,F,kd,Int.reduceEq,b0,b1]
def aQq (s:Sm) (hw:smW s≤WL) (hk:s.kd=7):G1 50 [.of (.agg (smC s))] (aG (decide (cD s=[113])&&(decide (s.q.length=1)&&s.q.all d7))):=by
 have F:=stF s hw
 have kd:∀ c:Int,(s.kd=c)=(7=c):=fun c=>by rw[hk]
 refine ah rfl afm acg rfl ?_
 by_cases b0:cD s=[113]
 rotate_left
 .simp -implicitDefEqProofs(maxSteps:=9^9)only[Tryz.f50,↓zA,sevalprocAttr,gZ,zst,F,kd,Int.reduceEq,b0]
 by_cases b1:s.q.length=1
 rotate_left
 .simp -implicitDefEqProofs(maxSteps:=9^9)only[Tryz.f50,↓zA,sevalprocAttr,gZ,zst,F,kd,Int.reduceEq,aa b0,b1]
 simp -implicitDefEqProofs(maxSteps:=9^9)only[Tryz.f50,↓zA,sevalprocAttr,gZ,zst,F,kd,Int.reduceEq,aa b0,b1]
def aKq (s:Sm) (hw:smW s≤WL) (hk:s.kd=11):G1 50 [.of (.agg (smC s))] (aG (decide (cD s=[113])&&(decide (s.q.length=1)&&s.q.all d7))):=by
 have F:=stF s hw
 have kd:∀ c:Int,(s.kd=c)=(11=c):=fun c=>by rw[hk]
 refine ah rfl afm acg rfl ?_
 by_cases b0:cD s=[113]
 rotate_left
 .simp -implicitDefEqProofs(maxSteps:=9^9)only[Tryz.f50,↓zA,sevalprocAttr,gZ,zst,F,kd,Int.reduceEq,b0]
 by_cases b1:s.q.length=1
 rotate_left
 .simp -implicitDefEqProofs(maxSteps:=9^9)only[Tryz.f50,↓zA,sevalprocAttr,gZ,zst,F,kd,Int.reduceEq,aa b0,b1]
 simp -implicitDefEqProofs(maxSteps:=9^9)only[Tryz.f50,↓zA,sevalprocAttr,gZ,zst,F,kd,Int.reduceEq,aa b0,b1]
def aQp (s:Sm) (hw:smW s≤WL) (hk:s.kd=8):G1 50 [.of (.agg (smC s))] (aG (decide (cD s=[]))):=by
 have F:=stF s hw
 have kd:∀ c:Int,(s.kd=c)=(8=c):=fun c=>by rw[hk]
 refine ah rfl afm acg rfl ?_
 simp -implicitDefEqProofs(maxSteps:=9^9)only[Tryz.f50,↓zA,sevalprocAttr,gZ,zst,F,kd,Int.reduceEq,cX]
def aQo (s:Sm) (hw:smW s≤WL) (hk:s.kd=9):G1 50 [.of (.agg (smC s))] (aG (decide (cD s=[]))):=by
 have F:=stF s hw
 have kd:∀ c:Int,(s.kd=c)=(9=c):=fun c=>by rw[hk]
 refine ah rfl afm acg rfl ?_
 simp -implicitDefEqProofs(maxSteps:=9^9)only[Tryz.f50,↓zA,sevalprocAttr,gZ,zst,F,kd,Int.reduceEq,cX]
def aKp (s:Sm) (hw:smW s≤WL) (hk:s.kd=10):G1 50 [.of (.agg (smC s))] (aG (decide (cD s=[]))):=by
 have F:=stF s hw
 have kd:∀ c:Int,(s.kd=c)=(10=c):=fun c=>by rw[hk]
 refine ah rfl afm acg rfl ?_
 simp -implicitDefEqProofs(maxSteps:=9^9)only[Tryz.f50,↓zA,sevalprocAttr,gZ,zst,F,kd,Int.reduceEq,cX]
def aKo (s:Sm) (hw:smW s≤WL) (hk:s.kd=12):G1 50 [.of (.agg (smC s))] (aG (decide (cD s=[]))):=by
 have F:=stF s hw
 have kd:∀ c:Int,(s.kd=c)=(12=c):=fun c=>by rw[hk]
 refine ah rfl afm acg rfl ?_
 simp -implicitDefEqProofs(maxSteps:=9^9)only[Tryz.f50,↓zA,sevalprocAttr,gZ,zst,F,kd,Int.reduceEq,cX]
def aKn (s:Sm) (hw:smW s≤WL) (hk:s.kd=13):G1 50 [.of (.agg (smC s))] (aG (decide (cD s=[]))):=by
 have F:=stF s hw
 have kd:∀ c:Int,(s.kd=c)=(13=c):=fun c=>by rw[hk]
 refine ah rfl afm acg rfl ?_
 simp -implicitDefEqProofs(maxSteps:=9^9)only[Tryz.f50,↓zA,sevalprocAttr,gZ,zst,F,kd,Int.reduceEq,cX]
def aKm (s:Sm) (hw:smW s≤WL) (hk:s.kd=14):G1 50 [.of (.agg (smC s))] (aG (decide (cD s=[]))):=by
 have F:=stF s hw
 have kd:∀ c:Int,(s.kd=c)=(14=c):=fun c=>by rw[hk]
 refine ah rfl afm acg rfl ?_
 simp -implicitDefEqProofs(maxSteps:=9^9)only[Tryz.f50,↓zA,sevalprocAttr,gZ,zst,F,kd,Int.reduceEq,cX]
def aQs (s:Sm) (hw:smW s≤WL) (hk:s.kd=3):G1 50 [.of (.agg (smC s))] (aG ((decide (cD s=[116])&&bk s.tb)||(decide (cD s=[110])&&bk s.nm))):=by
 have F:=stF s hw
 have kd:∀ c:Int,(s.kd=c)=(3=c):=fun c=>by rw[hk]
 refine ah rfl afm acg rfl ?_
 by_cases c1:cD s=[116]
 .have c3:¬cD s=[110]:=by rw[c1];decide
  cases b2:bk s.tb
  .simp -implicitDefEqProofs(maxSteps:=9^9)only[Tryz.f50,↓zA,sevalprocAttr,gZ,zst,F,kd,Int.reduceEq,aa c1,b2,c3]
  .simp -implicitDefEqProofs(maxSteps:=9^9)only[Tryz.f50,↓zA,sevalprocAttr,gZ,zst,F,kd,Int.reduceEq,aa c1,b2,c3]
 .by_cases c3:cD s=[110]
  .simp -implicitDefEqProofs(maxSteps:=9^9)only[Tryz.f50,↓zA,sevalprocAttr,gZ,zst,F,kd,Int.reduceEq,c1,aa c3]
  .simp -implicitDefEqProofs(maxSteps:=9^9)only[Tryz.f50,↓zA,sevalprocAttr,gZ,zst,F,kd,Int.reduceEq,c1,c3]
def aFN (s:Sm) (hw:smW s≤WL) (h:¬s.kd=1∧¬s.kd=2∧¬s.kd=3∧¬s.kd=4∧¬s.kd=5∧¬s.kd=6∧¬s.kd=7∧¬s.kd=8∧¬s.kd=9∧¬s.kd=10∧¬s.kd=11∧¬s.kd=12∧¬s.kd=13∧¬s.kd=14):G1 50 [.of (.agg (smC s))] (aG false):=by
 obtain⟨k1,k2,k3,k4,k5,k6,k7,k8,k9,k10,k11,k12,k13,k14⟩:=h
 refine ah rfl afm acg rfl ?_
 simp -implicitDefEqProofs(maxSteps:=9^9)only[Tryz.f50,↓zA,sevalprocAttr,gZ,avz,k1,k2,k3,k4,k5,k6,k7,k8,k9,k10,k11,k12,k13,k14]
def awX (s:Sm) (hw:smW s≤WL):G1 50 [.of (.agg (smC s))] (aG (d6 s)):=by
 have z1:=aoL s.ns 1 16
 have z2:=aoL s.ns 0 16
 have z3:=alK s.wh 0 1
 have z4:(s.rws.all fun r=>bu r 1 16 cW)=(s.rws.all fun l=>dV l 1 16):=by
  congr 1
  funext r
  exact alK r 1 16
 rw[← aKr s,← aD7 s]
 unfold aCr
 by_cases k1:s.kd=1
 .rw[aE k1];exact aUn s hw k1
 rw[aj k1]
 by_cases k2:s.kd=2
 .rw[aE k2,← z1];exact aUl s hw k2
 rw[aj k2]
 by_cases k3:s.kd=3
 .rw[aE k3];exact aQs s hw k3
 rw[aj k3]
 by_cases k4:s.kd=4
 .rw[aE k4,← z2,← z4];exact aUk s hw k4
 rw[aj k4]
 by_cases k5:s.kd=5
 .rw[aE k5,← z3];exact aUj s hw k5
 rw[aj k5]
 by_cases k6:s.kd=6
 .rw[aE k6,← z3];exact aUm s hw k6
 rw[aj k6]
 by_cases k7:s.kd=7
 .rw[aE (.inl k7)];exact aQq s hw k7
 by_cases k11:s.kd=11
 .rw[aE (.inr k11)];exact aKq s hw k11
 rw[aj (fun h=>h.elim k7 k11)]
 by_cases k8:s.kd=8
 .rw[aE (.inl k8)];exact aQp s hw k8
 by_cases k9:s.kd=9
 .rw[aE (.inr (.inl k9))];exact aQo s hw k9
 by_cases k10:s.kd=10
 .rw[aE (.inr (.inr (.inl k10)))];exact aKp s hw k10
 by_cases k12:s.kd=12
 .rw[aE (.inr (.inr (.inr (.inl k12))))];exact aKo s hw k12
 by_cases k13:s.kd=13
 .rw[aE (.inr (.inr (.inr (.inr (.inl k13)))))];exact aKn s hw k13
 by_cases k14:s.kd=14
 .rw[aE (.inr (.inr (.inr (.inr (.inr k14)))))];exact aKm s hw k14
 rw[aj (by simp[k8,k9,k10,k12,k13,k14])]
 exact aFN s hw ⟨k1,k2,k3,k4,k5,k6,k7,k8,k9,k10,k11,k12,k13,k14⟩
def aTQ:=ai (ai (ai @zq (ai @a5N @a2C)) (ai @aZF (ai @a2B @aZE))) (ai (ai @aC0 (ai @av1 @aba)) (ai @zT0 (ai @aIm (ba aYI))))
def aw0 (s:Sm) (hw:smW s≤WL):G1 20 [.of (.agg (smC s))] (aG (abH s)):=by
 have k1:=fun K=>aN.k (awX s hw) K
 have k2:=fun K=>aN.k (aEQ s hw) K
 have er:abH s=(d6 s&&adb (ahQ s)):=by unfold abH;exact afl _ _
 rw[er]
 refine ah rfl aYI aIm rfl ?_
 have k3:=fun K=>aN.k (anK (ahQ s)) K
 cases b1:d6 s
 .simp -implicitDefEqProofs(maxSteps:=9^9)only[Tryz.f20,↓zA,sevalprocAttr,aTQ,k1,b1]
 .simp -implicitDefEqProofs(maxSteps:=9^9)only[Tryz.f20,↓zA,sevalprocAttr,aTQ,k1,k2,k3,b1]
def aFR (s:Sm) (o:d6 s=true) (g:aby s) (h:smW s≤1048576):GR 22 [.of (.agg (smC s))] (smT s):=by
 obtain⟨_,_,_,_,_,_,_,_,g1,g2,g3,g4,g5⟩:=g
 have hw:smW s=eN s.kd+cV s.tb+cV s.nm+(lsW cdW) s.cs+(lsW cV) s.ns+eN s.un+(lsW kdW) s.kys+(lsW rdW) s.rfs+(lsW xpW) s.chs+(lsW (lsW xpW)) s.rws+(lsW asW) s.sts+(lsW xpW) s.wh+(lsW qyW) s.q+1:=rfl
 unfold d6 at o
 unfold smT
 by_cases k1:s.kd=1
 .rw[aE k1] at o ⊢
  simp only[ab,dD,ar,bR] at o
  obtain⟨⟨⟨⟨⟨o1,o2⟩,o3⟩,o4⟩,o5⟩,_⟩:=o
  have o5:=ahw o5
  refine aKN s k1 o1 (aus s (by omega) (fun c hc=>?_) (by omega) (fun k hk=>?_) (by omega) (fun r hr=>?_) (by omega) (rxL o5.2 g1 (by omega)))
  .have:=o2.2 c hc
   simp only[abu,ab,ar] at this
   exact this.1.1
  .have:=acw (o3.2 k hk)
   exact⟨by omega,this.2⟩
  .have:=o4.2 r hr
   simp only[acm,ab] at this
   have a1:=acw this.1.1
   have a2:=acw this.2
   exact⟨⟨by omega,a1.2⟩,this.1.2,by omega,a2.2⟩
 rw[aj k1] at o ⊢
 by_cases k2:s.kd=2
 .rw[aE k2] at o ⊢
  simp only[ab] at o
  obtain⟨⟨⟨o1,o2⟩,o3⟩,_⟩:=o
  have o3:=acw o3
  exact aKM s k2 _ (aso s o2 o1 (by omega) o3.2)
 rw[aj k2] at o ⊢
 by_cases k3:s.kd=3
 .rw[aE k3] at o ⊢
  simp only[ab,cA,ar] at o
  rcases o.1 with h|h
  .rw[aE (akU h.1)]
   exact aFS s k3 (akU h.1) h.1
  .rw[aj (fun q=>q h.1)]
   exact aFT s k3 h.1 h.2
 rw[aj k3] at o ⊢
 by_cases k4:s.kd=4
 .rw[aE k4] at o ⊢
  simp only[ab,cA,dD,ar,bR] at o
  obtain⟨⟨⟨o1,o2⟩,o3⟩,_⟩:=o
  have o2:=acw o2
  refine aKL s k4 _ (aqA s o1 (by omega) o2.2 ?_ ?_ fun r hx=>?_)
  .rcases o3 with h|h
   .have hl:=h.1.2
    obtain⟨q,hq⟩:=ks1 (l:=s.q) (by omega)
    have hm:q∈s.q:=by rw[hq];simp
    exact .inl ⟨q,hq,aJ h.1.1,rqL h.2 g5 (by omega) q hm⟩
   .have hl:=h.1.2
    exact .inr ⟨aJ h.1.1,fun e=>by rw[e] at hl;simp at hl⟩
  .rcases o3 with h|h
   .have:=h.1.1;omega
   .have:=h.1.2;omega
  .rcases o3 with h|h
   .rw[aJ h.1.1] at hx;cases hx
   .have a1:=ahw (h.2 r hx)
    exact⟨by omega,rxL a1.2 (g2 r hx) (by have:=bQ (w:=lsW xpW) hx;omega)⟩
 rw[aj k4] at o ⊢
 by_cases k5:s.kd=5
 .rw[aE k5] at o ⊢
  simp only[ab,dD,ar,bR] at o
  obtain⟨⟨⟨o1,o2⟩,o3⟩,_⟩:=o
  have o3:=ahw o3
  rw[← amY]
  refine aKK s k5 o1 (by omega) (fun a ha=>?_) o3.1 (rxL o3.2 g4 (by omega))
  have:=o2.2 a ha
  simp only[aca,ab] at this
  refine⟨this.1,aCy this.2 (g3 a ha).2 ?_⟩
  have h1:=bQ (w:=asW) ha
  have h2:asW a=cV a.nm+xpW a.e+1:=rfl
  omega
 rw[aj k5] at o ⊢
 by_cases k6:s.kd=6
 .rw[aE k6] at o ⊢
  simp only[ab] at o
  obtain⟨⟨o1,o3⟩,_⟩:=o
  have o3:=ahw o3
  rw[← amY]
  exact aKJ s k6 o1 o3.1 (rxL o3.2 g4 (by omega))
 rw[aj k6] at o ⊢
 by_cases k7:s.kd=7∨s.kd=11
 .rw[aE k7] at o
  simp only[ab,bR] at o
  obtain⟨⟨o1,o2⟩,_⟩:=o
  obtain⟨q,hq⟩:=aF6 o1
  have hm:q∈s.q:=by rw[hq];simp
  have wq:=rqL o2 g5 (by omega) q hm
  have e:(s.q.map qyT).flatten=qyT q:=by rw[hq];simp
  rw[e]
  rcases k7 with k7|k7
  .rw[aE k7]
   exact aKI s k7 q hq wq
  .rw[aj (by omega),aE k7]
   exact aFU s k7 q hq wq
 rw[aj k7] at o
 by_cases k8:s.kd=8∨s.kd=9∨s.kd=10∨s.kd=12∨s.kd=13∨s.kd=14
 .rw[aj (by omega),aj (by omega)]
  exact aKH s k8
 .rw[aj k8] at o;cases o
def aTo (l:List UInt8):aea (aD l)=byC l:=by simp[aea,aD,byC]
def aTX:ah8 (TT.of Tryz.prog 5)=true:=by rw[T5];rfl
def a1D:ac8 ((TT.of Tryz.prog 9).map (·.und))=true:=by rw[T9];rfl
def alp (tk t:Tk) (a b:List UInt8) (n:Nat):jy (TT.of Tryz.prog) tk 91 9 (.own t 5 1 (byC a) n) (.of (.lit (.string (aD b))))=if n+b.length≤LIM then some (.own tk 5 1 (byC (a++b)) (n+b.length),some t) else none:=by
 have h:=aZ1 (T:=TT.of Tryz.prog) E91 (by decide) a1D aTX rfl (by decide) tk t (byC a) n (aD b)
 rw[acu,aTo] at h
 rw[h,ap2]
def aiQ (tk t t':Tk) (a:List UInt8) (n:Nat):jy (TT.of Tryz.prog) tk 91 91 (.own t 5 1 (byC a) n) (.own t' 5 1 [.lit (.int .u8 32)] 1)=if n+1≤LIM then some (.own tk 5 1 (byC (a++[32])) (n+1),some t) else none:=by
 rw[amy E91 (by decide) (by decide) tk t (byC a) n _ [.lit (.int .u8 32)] 1 rfl,ap2]
 simp only[dN,bd,jt,cX]
 rfl
def aP8 (tk:Tk):ef tk 0 (Pe.elemOf (TT.of Tryz.prog) 91) (some [])=out (.own tk 5 1 [] 0):=by rw[E91];kernel_rfl
def aiO (tk:Tk):ef tk 1 (Pe.elemOf (TT.of Tryz.prog) 91) (some [(0,[.of (.lit (.int .u8 32))])])=out (.own tk 5 1 [.lit (.int .u8 32)] 1):=by rw[E91];kernel_rfl
def a4B (t:Tk) (a:List UInt8) (n:Nat) (hn:a.length=n):afL (TT.of Tryz.prog) 91 9 (.own t 5 1 (byC a) n)=out (dy (aD a)) :=
 asy T91 (by rw[T9];rfl) aTX t 1 n a hn
def glE {clk d e f n:Nat} {cs:List C} {T R:List UInt8} (A2:List UInt8) (h0:d<clk) (h1:cs=byC A2) (h2:n=A2.length) (h3:T=A2++R):∃ l c x i,c<clk∧X.own (.nm d e f) 5 1 cs n=X.own (.nm c x i) 5 1 (byC l) l.length∧T=l++R:=⟨A2,d,e,f,h0,by rw[h1,h2],h3⟩
def ajk:=ai (ai (ai @zq @U9) (ai @T91 @bO)) (ai (ai @Q9 @zT0) (ai @aHY (ba aYk)))
def aJD (T:List To) (hl:T.length≤LIM) (hg:(gC none T).length≤LIM):G1 53 [.of (slC bA T)] (dy (aD (gC none T))):=by
 have e40:({data:=#[40]}:ByteArray)=aD lpT:=rfl
 have e41:({data:=#[41]}:ByteArray)=aD rpT:=rfl
 have e44:({data:=#[44]}:ByteArray)=aD cmT:=rfl
 have e46:({data:=#[46]}:ByteArray)=aD ab0:=rfl
 refine ah rfl aYk aHY rfl ?_
 simp -implicitDefEqProofs(maxSteps:=9^9)only[Tryz.f53,↓zA,sevalprocAttr,ajk,aP8]
 generalize hG:gC none T=G at *
 refine bX T.length (fun k s=>s.fr 0=.of (slC bA T)∧s.fr 4=aU k∧s.objs=[]∧∃ l c x i,c<s.clk∧s.fr 3=.own (.nm c x i) 5 1 (byC l) l.length∧G=l++gC (aaN T k) (T.drop k)) ?_ ?_
 .simp -implicitDefEqProofs(maxSteps:=9^9)only[Tryz.f53,↓zA,sevalprocAttr,ajk,aP8]
  exact glE [] (by omega) rfl rfl hG.symm
 rintro k ⟨frk,obk,ckk⟩ hk ⟨f0,fi,fo,l,c,x,i,hc,fa,E⟩
 dsimp only at f0 fi fo hc fa
 rcases ap k T.length with dk|dk
 rotate_left
 .have e:k=T.length:=by omega
  subst e
  rw[aw,gC,cE] at E
  subst E
  simp -implicitDefEqProofs(maxSteps:=9^9)only[Tryz.f53,↓zA,sevalprocAttr,ajk,f0,fa,fi,fo,aK,au,a4B _ _ _ rfl]
  try rfl
 have hw:=cF k (by simp only[LIM] at hl;omega)
 have gx:=bq dk
 rw[aAK dk] at E
 have EL:=congrArg List.length E
 simp only[av] at EL
 generalize T[k]=y at *
 have fT:abd (aaN T k) y=true→G=(l++y)++gC (aaN T (k+1)) (T.drop (k+1)):=fun h=>by rw[E,h];simp[gC.whenB]
 have fF:abd (aaN T k) y=false→G=(l++[32]++y)++gC (aaN T (k+1)) (T.drop (k+1)):=fun h=>by rw[E,h];simp[gC.whenB]
 have fL:abd (aaN T k) y=false→(gC.whenB (!abd (aaN T k) y)).length=1:=fun h=>by rw[h];rfl
 have inj:∀ a b:To,(aD a=aD b)=(a=b):=bW
 rcases fM k with hz|hz
 .subst hz
  have dk':((0:Int)<(T.length:Int))=True:=aa (by omega)
  have fi':frk 4=aU 0:=fi
  have gx':dH T 0=some y:=gx
  have hw':IntKind.i64.wrap 1=1:=by decide
  have E2:=fT (by simp[abd,aaN,aaN])
  simp -implicitDefEqProofs(maxSteps:=9^9)only[Tryz.f53,↓zA,sevalprocAttr,ajk,f0,fa,fo,aK,dk,fi',dk',gx',hw',e40,e41,e44,e46,inj,alp,aiQ,aiO]
  and_intros
  all_goals first|exact okN _ _ (by omega) _|omega|rfl|exact glE (l++y) (by omega) (by first|rfl|simp only[am,ch]) (by (try simp only[aR]) <;> omega) E2
 have kz:((k:Int)=0)=False:=aO (by omega)
 have kn:¬k=0:=by omega
 have hs:IntKind.i64.wrap ((k:Int)-1)=((k-1:Nat):Int):=by
  rw[show (k:Int)-1=((k-1:Nat):Int) by omega]
  simp only[LIM] at hl
  exact eX _ (by omega) (by omega)
 have dp:k-1<T.length:=by omega
 have gp:=bq dp
 have hp:T[k-1]?=some T[k-1]:=bK dp
 generalize T[k-1]=p at *
 by_cases c1:p=lpT
 .have dc1:=aa c1
  have E2:=fT (by simp[abd,aaN,kn,hp,c1])
  simp -implicitDefEqProofs(maxSteps:=9^9)only[Tryz.f53,↓zA,sevalprocAttr,ajk,f0,fa,fo,aK,dk,fi,kz,hs,gp,gx,hw,dc1,e40,e41,e44,e46,inj,alp,aiQ,aiO]
  and_intros
  all_goals first|exact okN _ _ (by omega) _|omega|rfl|exact glE (l++y) (by omega) (by first|rfl|simp only[am,ch]) (by (try simp only[aR]) <;> omega) E2
 by_cases c2:p=ab0
 .have dc2:=aa c2
  have E2:=fT (by simp[abd,aaN,kn,hp,c1,c2])
  simp -implicitDefEqProofs(maxSteps:=9^9)only[Tryz.f53,↓zA,sevalprocAttr,ajk,f0,fa,fo,aK,dk,fi,kz,hs,gp,gx,hw,c1,dc2,e40,e41,e44,e46,inj,alp,aiQ,aiO]
  and_intros
  all_goals first|exact okN _ _ (by omega) _|omega|rfl|exact glE (l++y) (by omega) (by first|rfl|simp only[am,ch]) (by (try simp only[aR]) <;> omega) E2
 by_cases c3:y=rpT
 .have dc3:=aa c3
  have E2:=fT (by simp[abd,aaN,kn,hp,c1,c2,c3])
  simp -implicitDefEqProofs(maxSteps:=9^9)only[Tryz.f53,↓zA,sevalprocAttr,ajk,f0,fa,fo,aK,dk,fi,kz,hs,gp,gx,hw,c1,c2,dc3,e40,e41,e44,e46,inj,alp,aiQ,aiO]
  and_intros
  all_goals first|exact okN _ _ (by omega) _|omega|rfl|exact glE (l++y) (by omega) (by first|rfl|simp only[am,ch]) (by (try simp only[aR]) <;> omega) E2
 by_cases c4:y=cmT
 .have dc4:=aa c4
  have E2:=fT (by simp[abd,aaN,kn,hp,c1,c2,c3,c4])
  simp -implicitDefEqProofs(maxSteps:=9^9)only[Tryz.f53,↓zA,sevalprocAttr,ajk,f0,fa,fo,aK,dk,fi,kz,hs,gp,gx,hw,c1,c2,c3,dc4,e40,e41,e44,e46,inj,alp,aiQ,aiO]
  and_intros
  all_goals first|exact okN _ _ (by omega) _|omega|rfl|exact glE (l++y) (by omega) (by first|rfl|simp only[am,ch]) (by (try simp only[aR]) <;> omega) E2
 by_cases c5:y=ab0
 .have dc5:=aa c5
  have E2:=fT (by simp[abd,aaN,kn,hp,c1,c2,c3,c4,c5])
  simp -implicitDefEqProofs(maxSteps:=9^9)only[Tryz.f53,↓zA,sevalprocAttr,ajk,f0,fa,fo,aK,dk,fi,kz,hs,gp,gx,hw,c1,c2,c3,c4,dc5,e40,e41,e44,e46,inj,alp,aiQ,aiO]
  and_intros
  all_goals first|exact okN _ _ (by omega) _|omega|rfl|exact glE (l++y) (by omega) (by first|rfl|simp only[am,ch]) (by (try simp only[aR]) <;> omega) E2
 have E2:=fF (by simp[abd,aaN,kn,hp,c1,c2,c3,c4,c5])
 have EL2:=fL (by simp[abd,aaN,kn,hp,c1,c2,c3,c4,c5])
 simp -implicitDefEqProofs(maxSteps:=9^9)only[Tryz.f53,↓zA,sevalprocAttr,ajk,f0,fa,fo,aK,dk,fi,kz,hs,gp,gx,hw,c1,c2,c3,c4,c5,e40,e41,e44,e46,inj,alp,aiQ,aiO]
 and_intros
 all_goals first|exact okN _ _ (by omega) _|omega|rfl|exact glE (l++[32]++y) (by omega) (by first|rfl|simp only[am,ch]) (by (try simp only[aR]) <;> omega) E2
def aTP:=ai (ai @zq (ai @a2A @aZD)) (ai @zT0 (ai @aIl (ba aYH)))
def alG (T:List To) (hl:T.length≤LIM) (hg:(gC none T).length≤LIM):GN 21 [.of (slC bA T)] [dy (str (abc T).1),.of (ci (abc T).2)]:=by
 have kg:=fun K=>aN.k (aJD T hl hg) K
 refine ah rfl aYH aIl rfl ?_
 by_cases c:(gC none T).length≤2000
 .have e:abc T=(gC none T,0):=by unfold abc;rw[aE c]
  have c':((2000:Int)<((gC none T).length:Int))=False:=aO (by omega)
  rw[e]
  simp -implicitDefEqProofs(maxSteps:=9^9)only[Tryz.f21,↓zA,sevalprocAttr,aTP,kg,c']
  try rfl
 .have e:abc T=([],4):=by unfold abc;rw[aj c]
  have c':((2000:Int)<((gC none T).length:Int))=True:=aa (by omega)
  rw[e]
  simp -implicitDefEqProofs(maxSteps:=9^9)only[Tryz.f21,↓zA,sevalprocAttr,aTP,kg,c']
  try rfl
def aF5 (x:Qy):C.sl [ci x.op,cb x.al,slC qyC x.ks,cb x.di,slC imC x.its,slC fmC x.fr,slC xpC x.wh,slC xpC x.gr,slC xpC x.hv,slC odC x.od,ci x.li,ci x.sk] 1=slC qyC [x]:=by rw[← ajL];simp[slC,fl]
def aTN:=ai (ai (ai @zq (ai @a5O @aNj)) (ai @aI9 (ai @apf @ams))) (ai (ai @aC0 (ai @av1 @eY)) (ai (ai @eI @zT0) (ai @aIj (ba aYF))))
def aul (q:Qy) (hw:qyW q≤1152921504606846000):G1 25 [.of (.agg (qyC q))] (aG (ab3 q)):=by
 have k1:=fun K=>aN.k ((agU WL (aM _)).2.1 q (by simp only[WL];omega)) K
 have w1:lsW qyW [q]≤WL:=by simp only[lsW,aV,bC,bU,cU,WL];omega
 have e1:bl fR [q]=fR q:=by rw[bl,bl,iP]
 have er:ab3 q=(d7 q&&adb (fR q)):=by rw[ab3,afl]
 rw[er]
 refine ah rfl aYF aIj rfl ?_
 cases c:d7 q
 .simp -implicitDefEqProofs(maxSteps:=9^9)only[Tryz.f25,↓zA,sevalprocAttr,aTN,k1,c]
 .simp -implicitDefEqProofs(maxSteps:=9^9)only[Tryz.f25,↓zA,sevalprocAttr,aTN,k1,c,aF5,a0B,w1,e1,auk]
def zc8:=ai (ai (ai @zq (ai @a5H @a2R)) (ai @aZU (ai @a2Q @aZT))) (ai (ai @aC4 (ai @av5 @aba)) (ai @zT0 (ai @aNx (ba fi8))))
def a5C (s:Sm) (g:aby s) (h:smW s≤1048576):aN Tryz.prog pr 8 [.of (.agg (smC s))] [] ⟨false,[dy (str (abe s).1),.of (ci (abe s).2)],[]⟩:=by
 have k9:=fun K=>aN.k (aw0 s (by unfold WL;omega)) K
 refine ah rfl fi8 aNx rfl ?_
 cases hr:abH s with
 | false =>
  have e:abe s=([],1):=by unfold abe;rw[hr];rfl
  rw[e]
  simp -implicitDefEqProofs(maxSteps:=9^9)only[Tryz.f8,↓zA,sevalprocAttr,zc8,k9,hr]
  try rfl
 | true =>
  have e:abe s=abc (smT s):=by unfold abe;rw[hr];rfl
  rw[e]
  have hr':=hr
  simp only[abH,ab] at hr
  have hl:=ajV (T:=smT s) (aM8 s g) h
  have k1:=fun K=>(aFR s hr.2 g h).k hl.1 K
  have k2:=fun K=>aN.k (alG (smT s) hl.1 hl.2) K
  simp -implicitDefEqProofs(maxSteps:=9^9)only[Tryz.f8,↓zA,sevalprocAttr,zc8,k9,hr',k1,k2]
  try rfl
def aTS:=ai (ai (ai @zq (ai @a5J @a2M)) (ai @aZP (ai @aNq @aJg))) (ai (ai @aC4 (ai @av5 @cR)) (ai @zT0 (ai @aIp (ba aYL))))
def a5B (s:Xp) (g:fh s) (h:xpW s≤1048576):aN Tryz.prog pr 14 [.of (.agg (xpC s))] [] ⟨false,[dy (str (jC s).1),.of (ci (jC s).2)],[]⟩:=by
 have k9:=fun K=>aN.k (aw1 s (by omega)) K
 refine ah rfl aYL aIp rfl ?_
 cases hr:ab2 s with
 | false =>
  have e:jC s=([],1):=by unfold jC;rw[hr];rfl
  rw[e]
  simp -implicitDefEqProofs(maxSteps:=9^9)only[Tryz.f14,↓zA,sevalprocAttr,aTS,k9,hr]
  try rfl
 | true =>
  have e:jC s=abc (xpT s):=by unfold jC;rw[hr];rfl
  rw[e]
  have hr':=hr
  simp only[ab2,ab] at hr
  have hl:=ajV (T:=xpT s) (by have:=ajF s g;unfold TX at this;omega) h
  have k1:=fun K=>(aCy hr.2 g h).k hl.1 K
  have k2:=fun K=>aN.k (alG (xpT s) hl.1 hl.2) K
  simp -implicitDefEqProofs(maxSteps:=9^9)only[Tryz.f14,↓zA,sevalprocAttr,aTS,k9,hr',k1,k2]
  try rfl
def aTU:=ai (ai (ai @zq (ai @a5I @a2O)) (ai @aZR (ai @am4 @aj8))) (ai (ai @aC4 (ai @av5 @eY)) (ai @zT0 (ai @aIq (ba aYM))))
def a5D (s:Qy) (g:io s) (h:qyW s≤1048576):aN Tryz.prog pr 12 [.of (.agg (qyC s))] [] ⟨false,[dy (str (aaX s).1),.of (ci (aaX s).2)],[]⟩:=by
 have k9:=fun K=>aN.k (aul s (by omega)) K
 refine ah rfl aYM aIq rfl ?_
 cases hr:ab3 s with
 | false =>
  have e:aaX s=([],1):=by unfold aaX;rw[hr];rfl
  rw[e]
  simp -implicitDefEqProofs(maxSteps:=9^9)only[Tryz.f12,↓zA,sevalprocAttr,aTU,k9,hr]
  try rfl
 | true =>
  have e:aaX s=abc (qyT s):=by unfold aaX;rw[hr];rfl
  rw[e]
  have hr':=hr
  simp only[ab3,ab] at hr
  have hl:=ajV (T:=qyT s) (by have:=atJ s g;unfold TQ at this;omega) h
  have k1:=fun K=>(aNa hr.2 g h).k hl.1 K
  have k2:=fun K=>aN.k (alG (qyT s) hl.1 hl.2) K
  simp -implicitDefEqProofs(maxSteps:=9^9)only[Tryz.f12,↓zA,sevalprocAttr,aTU,k9,hr',k1,k2]
  try rfl
end Go.Proofs.YtemdljoideegeaaGreatDoor
namespace Go.Tab
open Go Go.Pe
def iu {α:Type} (g:α→Int→Int):List α→Int→Int
 | [],n=>n
 | x::r,n=>if 0<n then iu g r (g x n) else n
def aav {α:Type} (l:List α) (n:Int):Int:=if 0<l.length∧0<n then 0 else n
def qyN (pE:List Xp→Int→Int) (pQ:List Qy→Int→Int) (pF:List Fm→Int→Int) (q:Qy) (n:Int):Int :=
 pE q.hv (pE q.gr (pE q.wh (iu (fun (i:Im) n=>pE [i.e] (n-1)) q.its (pF q.fr (pQ q.ks (n-1-q.od.length))))))
def spA:Nat→(List Xp→Int→Int)×(List Qy→Int→Int)×(List Fm→Int→Int)
 | 0=>(aav,aav,aav)
 | d+1=>(iu fun x n=>(spA d).2.1 x.sb ((spA d).1 x.ks (n-1)),iu (qyN (spA d).1 (spA d).2.1 (spA d).2.2),iu fun x n=>(spA d).1 x.on ((spA d).2.2 x.ks ((spA d).2.1 x.sb (n-1))))
def SP (n:Int):Prop:=-1048576≤n∧n≤3000
def afg {n:Int} (h:SP n) (h0:0<n):SP (n-1):=by unfold SP at *;omega
def ae5 {α:Type} (g:α→Int→Int) (l:List α) {n:Int} (h:¬0<n):iu g l n=n:=by
 cases l with
 | nil=>rfl
 | cons x r=>rw[iu,aj h]
def ag3 {α:Type} (g:α→Int→Int) {l:List α} {k:Nat} (h:k<l.length) {n:Int} (hn:0<n):iu g (l.drop k) n=iu g (l.drop (k+1)) (g l[k] n):=by
 rw[bM h,iu,aE hn]
def ak6 {α:Type} {g:α→Int→Int} {l:List α} (hg:∀ x∈l,∀ n,0<n→SP n→SP (g x n)):∀ n,SP n→SP (iu g l n):=by
 induction l with
 | nil=>intro n h;exact h
 | cons x r ih =>
  intro n h
  rw[iu]
  split
  .exact ih (fun y hy=>hg y (iC _ hy)) _ (hg x (by simp) n (by assumption) h)
  .exact h
def anR {α:Type} (l:List α) (n:Int) (h:SP n):SP (aav l n):=by
 unfold aav
 split
 .exact⟨by decide,by decide⟩
 .exact h
def aWu {q:Qy} (h:qyW q≤1048576):q.od.length≤1048576:=by
 have h':=iK q
 have h2:∀ l:List Od,l.length≤lsW odW l:=fun l=>by
  induction l with
  | nil=>simp[lsW]
  | cons a r ih=>simp only[lsW,aV,bU,aB] at *;have:1≤odW a:=(by unfold odW;omega);omega
 have:=h2 q.od
 simp only[eN,lsW] at h' this
 omega
theorem alR:∀ d,(∀ l,lsW xpW l≤1048576→∀ n,SP n→SP ((spA d).1 l n))∧(∀ l,lsW qyW l≤1048576→∀ n,SP n→SP ((spA d).2.1 l n))∧(∀ l,lsW fmW l≤1048576→∀ n,SP n→SP ((spA d).2.2 l n))
 | 0=>⟨fun l _ n h=>anR l n h,fun l _ n h=>anR l n h,fun l _ n h=>anR l n h⟩
 | d+1=>by
  obtain⟨i1,i2,i3⟩:=alR d
  refine⟨fun l hl n h=>ak6 (fun x hx n h0 h=>?_) n h,fun l hl n h=>ak6 (fun x hx n h0 h=>?_) n h,fun l hl n h=>ak6 (fun x hx n h0 h=>?_) n h⟩
  .have hw:=bQ (w:=xpW) hx
   have h':=aaU x
   exact i2 _ (by omega) _ (i1 _ (by omega) _ (afg h h0))
  .have hw:=bQ (w:=qyW) hx
   have h':=iK x
   have hl:=aWu (q:=x) (by omega)
   have h1:SP (n-1-(x.od.length:Int)):=by unfold SP at *;omega
   refine i1 _ (by omega) _ (i1 _ (by omega) _ (i1 _ (by omega) _ (ak6 (fun i hi n h0 h=>?_) _ (i3 _ (by omega) _ (i2 _ (by omega) _ h1)))))
   have hi2:=bQ (w:=imW) hi
   have hi3:=aci i
   have e:lsW xpW [i.e]=xpW i.e+1:=by simp[lsW]
   exact i1 _ (by rw[e];omega) _ (afg h h0)
  .have hw:=bQ (w:=fmW) hx
   have h':=jg x
   exact i1 _ (by omega) _ (i3 _ (by omega) _ (i2 _ (by omega) _ (afg h h0)))
def ahC (s:Sm):Bool :=
 let n:=(spA 60).2.1 s.q ((spA 60).1 s.wh ((spA 60).1 s.chs 3000))
 let m:=iu (fun l n=>(spA 60).1 l (n-1)) s.rws n
 let k:=iu (fun (a:As) n=>(spA 60).1 [a.e] (n-1)) s.sts m
 decide (k≤0)||decide (3000<s.rws.length)||decide (3000<s.sts.length+s.cs.length+s.kys.length+s.rfs.length+s.ns.length)
end Go.Tab
namespace Go.Proofs.YtemdljoideegeaaGreatDoor
open Go Go.Pe Go.Tab
def anw {n:Int} (h:SP n):IntKind.i64.wrap (n-1)=n-1:=eX _ (by unfold SP at h;omega) (by unfold SP at h;omega)
abbrev GE (d:Nat):Prop:=∀ l:List Xp,lsW xpW l≤1048576→∀ n,SP n→G1 16 [.of (slC xpC l),aU n,aU ((d:Nat):Int)] (aU ((spA d).1 l n))
abbrev GF (d:Nat):Prop:=∀ l:List Fm,lsW fmW l≤1048576→∀ n,SP n→G1 31 [.of (slC fmC l),aU n,aU ((d:Nat):Int)] (aU ((spA d).2.2 l n))
abbrev GQ (d:Nat):Prop:=∀ l:List Qy,lsW qyW l≤1048576→∀ n,SP n→G1 15 [.of (slC qyC l),aU n,aU ((d:Nat):Int)] (aU ((spA d).2.1 l n))
def air:=ai (ai (ai @zq @atj) (ai @apY (ai @atk @apZ))) (ai (ai @cR (ai @eY @ey)) (ai @zT0 (ai @avf (ba aLO))))
def a1J:GE 0:=by
 intro l hl n hn
 have hlen:=da xpW l fun x _=>aaw x
 refine ah rfl aLO avf rfl ?_
 simp -implicitDefEqProofs(maxSteps:=9^9)only[Tryz.f16,↓zA,sevalprocAttr,air]
 refine bX 0 (fun k s=>s.fr 0=.of (slC xpC l)∧s.fr 1=aU n∧s.fr 2=aU 0∧s.fr 7=aU k∧s.objs=[]) ?_ ?_
 .simp -implicitDefEqProofs(maxSteps:=9^9)only[Tryz.f16,↓zA,sevalprocAttr,air]
  try rfl
 rintro k ⟨frk,obk,ckk⟩ hk ⟨f0,f1,f2,f3,fo⟩
 dsimp only at f0 f1 f2 f3 fo
 obtain rfl:k=0:=by omega
 have f3':frk 7=aU 0:=f3
 have z0:((0:Int)<(l.length:Int))=(0<l.length):=propext (by omega)
 have e:(spA 0).1 l n=aav l n:=rfl
 rw[e]
 by_cases a:0<l.length
 .by_cases b:0<n
  .have e:aav l n=0:=by unfold aav;rw[aE ⟨a,b⟩]
   simp -implicitDefEqProofs(maxSteps:=9^9)only[Tryz.f16,↓zA,sevalprocAttr,air,f0,f1,f2,f3',fo,z0,a,b,e]
  .have e:aav l n=n:=by unfold aav;rw[aj (fun q=>b q.2)]
   simp -implicitDefEqProofs(maxSteps:=9^9)only[Tryz.f16,↓zA,sevalprocAttr,air,f0,f1,f2,f3',fo,z0,a,b,e]
 .have e:aav l n=n:=by unfold aav;rw[aj (fun q=>a q.1)]
  simp -implicitDefEqProofs(maxSteps:=9^9)only[Tryz.f16,↓zA,sevalprocAttr,air,f0,f1,f2,f3',fo,z0,a,e]
def afh:=ai (ai (ai (ai @zq @a64) (ai @atk (ai @apZ @aNp))) (ai (ai @aJf @atj) (ai @apY (ai @eY @cR)))) (ai (ai (ai @abb @acL) (ai @jq (ai @ey @eI))) (ai (ai @ab7 @abV) (ai @zT0 (ai @avg (ba aLP)))))
def a1F:GQ 0:=by
 intro l hl n hn
 have hlen:=da qyW l fun x _=>adu x
 refine ah rfl aLP avg rfl ?_
 simp -implicitDefEqProofs(maxSteps:=9^9)only[Tryz.f15,↓zA,sevalprocAttr,afh]
 refine bX 0 (fun k s=>s.fr 0=.of (slC qyC l)∧s.fr 1=aU n∧s.fr 2=aU 0∧s.fr 7=aU k∧s.objs=[]) ?_ ?_
 .simp -implicitDefEqProofs(maxSteps:=9^9)only[Tryz.f15,↓zA,sevalprocAttr,afh]
  try rfl
 rintro k ⟨frk,obk,ckk⟩ hk ⟨f0,f1,f2,f3,fo⟩
 dsimp only at f0 f1 f2 f3 fo
 obtain rfl:k=0:=by omega
 have f3':frk 7=aU 0:=f3
 have z0:((0:Int)<(l.length:Int))=(0<l.length):=propext (by omega)
 have e:(spA 0).2.1 l n=aav l n:=rfl
 rw[e]
 by_cases a:0<l.length
 .by_cases b:0<n
  .have e:aav l n=0:=by unfold aav;rw[aE ⟨a,b⟩]
   simp -implicitDefEqProofs(maxSteps:=9^9)only[Tryz.f15,↓zA,sevalprocAttr,afh,f0,f1,f2,f3',fo,z0,a,b,e]
  .have e:aav l n=n:=by unfold aav;rw[aj (fun q=>b q.2)]
   simp -implicitDefEqProofs(maxSteps:=9^9)only[Tryz.f15,↓zA,sevalprocAttr,afh,f0,f1,f2,f3',fo,z0,a,b,e]
 .have e:aav l n=n:=by unfold aav;rw[aj (fun q=>a q.1)]
  simp -implicitDefEqProofs(maxSteps:=9^9)only[Tryz.f15,↓zA,sevalprocAttr,afh,f0,f1,f2,f3',fo,z0,a,e]
def aip:=ai (ai (ai @zq (ai @atk @apZ)) (ai (ai @aNp @aJf) (ai @atj @apY))) (ai (ai @jq (ai @cR @eY)) (ai (ai @iU @zT0) (ai @avd (ba aLM))))
def a1H:GF 0:=by
 intro l hl n hn
 have hlen:=da fmW l fun x _=>abk x
 refine ah rfl aLM avd rfl ?_
 simp -implicitDefEqProofs(maxSteps:=9^9)only[Tryz.f31,↓zA,sevalprocAttr,aip]
 refine bX 0 (fun k s=>s.fr 0=.of (slC fmC l)∧s.fr 1=aU n∧s.fr 2=aU 0∧s.fr 7=aU k∧s.objs=[]) ?_ ?_
 .simp -implicitDefEqProofs(maxSteps:=9^9)only[Tryz.f31,↓zA,sevalprocAttr,aip]
  try rfl
 rintro k ⟨frk,obk,ckk⟩ hk ⟨f0,f1,f2,f3,fo⟩
 dsimp only at f0 f1 f2 f3 fo
 obtain rfl:k=0:=by omega
 have f3':frk 7=aU 0:=f3
 have z0:((0:Int)<(l.length:Int))=(0<l.length):=propext (by omega)
 have e:(spA 0).2.2 l n=aav l n:=rfl
 rw[e]
 by_cases a:0<l.length
 .by_cases b:0<n
  .have e:aav l n=0:=by unfold aav;rw[aE ⟨a,b⟩]
   simp -implicitDefEqProofs(maxSteps:=9^9)only[Tryz.f31,↓zA,sevalprocAttr,aip,f0,f1,f2,f3',fo,z0,a,b,e]
  .have e:aav l n=n:=by unfold aav;rw[aj (fun q=>b q.2)]
   simp -implicitDefEqProofs(maxSteps:=9^9)only[Tryz.f31,↓zA,sevalprocAttr,aip,f0,f1,f2,f3',fo,z0,a,b,e]
 .have e:aav l n=n:=by unfold aav;rw[aj (fun q=>a q.1)]
  simp -implicitDefEqProofs(maxSteps:=9^9)only[Tryz.f31,↓zA,sevalprocAttr,aip,f0,f1,f2,f3',fo,z0,a,e]
def a1I (d:Nat) (hd:d+1≤60) (iE:GE d) (iQ:GQ d) (iF:GF d):GE (d+1):=by
 intro l hl n hn
 have hlen:=da xpW l fun x _=>aaw x
 obtain⟨s1,s2,s3⟩:=alR d
 have hd0:(((d+1:Nat):Int)=0)=False:=aO (by omega)
 have hd1:IntKind.i64.wrap (((d+1:Nat):Int)-1)=(d:Int):=by rw[show ((d+1:Nat):Int)-1=(d:Int) by omega];exact eX _ (by omega) (by omega)
 have hd0':((d:Int)+1=0)=False:=aO (by omega)
 have hd1':IntKind.i64.wrap ((d:Int)+1-1)=(d:Int):=hd1
 refine ah rfl aLO avf rfl ?_
 simp -implicitDefEqProofs(maxSteps:=9^9)only[Tryz.f16,↓zA,sevalprocAttr,air]
 refine bX l.length (fun k s=>s.fr 0=.of (slC xpC l)∧s.fr 2=aU ((d+1:Nat):Int)∧s.fr 7=aU k∧s.objs=[]∧∃ m,s.fr 1=aU m∧SP m∧(spA (d+1)).1 l n=iu (fun x n=>(spA d).2.1 x.sb ((spA d).1 x.ks (n-1))) (l.drop k) m) ?_ ?_
 .simp -implicitDefEqProofs(maxSteps:=9^9)only[Tryz.f16,↓zA,sevalprocAttr,air]
  exact⟨n,rfl,hn,rfl⟩
 rintro k ⟨frk,obk,ckk⟩ hk ⟨f0,f2,f3,fo,m,f1,hm,E⟩
 dsimp only at f0 f1 f2 f3 fo
 by_cases b:0<m
 .rcases ap k l.length with dk|dk
  .have hw:=cF k (by omega)
   have gx:=bq dk
   have hx:=bQ (w:=xpW) (ay dk)
   rw[ag3 _ dk b] at E
   generalize l[k]=x at *
   have h':=aaU x
   have hm1:=afg hm b
   have wm:=anw hm
   have k1:=fun K=>aN.k (iE x.ks (by omega) _ hm1) K
   have hm2:=s1 x.ks (by omega) _ hm1
   have k2:=fun K=>aN.k (iQ x.sb (by omega) _ hm2) K
   simp -implicitDefEqProofs(maxSteps:=9^9)only[Tryz.f16,↓zA,sevalprocAttr,air,f0,f1,f2,f3,fo,aK,dk,b,hd0,hd1,hd0',hd1',gx,hw,wm,k1,k2]
   exact⟨_,rfl,s2 _ (by omega) _ hm2,E⟩
  .have e:k=l.length:=by omega
   subst e
   rw[aw,iu] at E
   simp -implicitDefEqProofs(maxSteps:=9^9)only[Tryz.f16,↓zA,sevalprocAttr,air,f0,f1,f2,f3,fo,aK,au,b,E]
 .rw[ae5 _ _ b] at E
  by_cases dk:k<l.length
  .simp -implicitDefEqProofs(maxSteps:=9^9)only[Tryz.f16,↓zA,sevalprocAttr,air,f0,f1,f2,f3,fo,aK,dk,b,E]
  .simp -implicitDefEqProofs(maxSteps:=9^9)only[Tryz.f16,↓zA,sevalprocAttr,air,f0,f1,f2,f3,fo,aK,dk,b,E]
def a1G (d:Nat) (hd:d+1≤60) (iE:GE d) (iQ:GQ d) (iF:GF d):GF (d+1):=by
 intro l hl n hn
 have hlen:=da fmW l fun x _=>abk x
 obtain⟨s1,s2,s3⟩:=alR d
 have hd0:(((d+1:Nat):Int)=0)=False:=aO (by omega)
 have hd1:IntKind.i64.wrap (((d+1:Nat):Int)-1)=(d:Int):=by rw[show ((d+1:Nat):Int)-1=(d:Int) by omega];exact eX _ (by omega) (by omega)
 have hd0':((d:Int)+1=0)=False:=aO (by omega)
 have hd1':IntKind.i64.wrap ((d:Int)+1-1)=(d:Int):=hd1
 refine ah rfl aLM avd rfl ?_
 simp -implicitDefEqProofs(maxSteps:=9^9)only[Tryz.f31,↓zA,sevalprocAttr,aip]
 refine bX l.length (fun k s=>s.fr 0=.of (slC fmC l)∧s.fr 2=aU ((d+1:Nat):Int)∧s.fr 7=aU k∧s.objs=[]∧∃ m,s.fr 1=aU m∧SP m∧(spA (d+1)).2.2 l n=iu (fun x n=>(spA d).1 x.on ((spA d).2.2 x.ks ((spA d).2.1 x.sb (n-1)))) (l.drop k) m) ?_ ?_
 .simp -implicitDefEqProofs(maxSteps:=9^9)only[Tryz.f31,↓zA,sevalprocAttr,aip]
  exact⟨n,rfl,hn,rfl⟩
 rintro k ⟨frk,obk,ckk⟩ hk ⟨f0,f2,f3,fo,m,f1,hm,E⟩
 dsimp only at f0 f1 f2 f3 fo
 by_cases b:0<m
 .rcases ap k l.length with dk|dk
  .have hw:=cF k (by omega)
   have gx:=bq dk
   have hx:=bQ (w:=fmW) (ay dk)
   rw[ag3 _ dk b] at E
   generalize l[k]=x at *
   have h':=jg x
   have hm1:=afg hm b
   have wm:=anw hm
   have k1:=fun K=>aN.k (iQ x.sb (by omega) _ hm1) K
   have hm2:=s2 x.sb (by omega) _ hm1
   have k2:=fun K=>aN.k (iF x.ks (by omega) _ hm2) K
   have hm3:=s3 x.ks (by omega) _ hm2
   have k3:=fun K=>aN.k (iE x.on (by omega) _ hm3) K
   simp -implicitDefEqProofs(maxSteps:=9^9)only[Tryz.f31,↓zA,sevalprocAttr,aip,f0,f1,f2,f3,fo,aK,dk,b,hd0,hd1,hd0',hd1',gx,hw,wm,k1,k2,k3]
   exact⟨_,rfl,s1 _ (by omega) _ hm3,E⟩
  .have e:k=l.length:=by omega
   subst e
   rw[aw,iu] at E
   simp -implicitDefEqProofs(maxSteps:=9^9)only[Tryz.f31,↓zA,sevalprocAttr,aip,f0,f1,f2,f3,fo,aK,au,b,E]
 .rw[ae5 _ _ b] at E
  by_cases dk:k<l.length
  .simp -implicitDefEqProofs(maxSteps:=9^9)only[Tryz.f31,↓zA,sevalprocAttr,aip,f0,f1,f2,f3,fo,aK,dk,b,E]
  .simp -implicitDefEqProofs(maxSteps:=9^9)only[Tryz.f31,↓zA,sevalprocAttr,aip,f0,f1,f2,f3,fo,aK,dk,b,E]
def aoX (e:Xp):C.sl (xpC e) 1=slC xpC [e]:=by simp[slC,fl]
def aqt (e:Xp):C.sl [ci e.op,ci e.v.k,ci e.v.n,aH e.v.s,aH (aD e.tb),aH (aD e.nm),cb e.di,slC xpC e.ks,slC qyC e.sb] 1=slC xpC [e]:=by rw[← adz];exact aoX e
def a1E (d:Nat) (hd:d+1≤60) (iE:GE d) (iQ:GQ d) (iF:GF d):GQ (d+1):=by
 intro l hl n hn
 have hlen:=da qyW l fun x _=>adu x
 obtain⟨s1,s2,s3⟩:=alR d
 have hd0:(((d+1:Nat):Int)=0)=False:=aO (by omega)
 have hd1:IntKind.i64.wrap (((d+1:Nat):Int)-1)=(d:Int):=by rw[show ((d+1:Nat):Int)-1=(d:Int) by omega];exact eX _ (by omega) (by omega)
 have hd0':((d:Int)+1=0)=False:=aO (by omega)
 have hd1':IntKind.i64.wrap ((d:Int)+1-1)=(d:Int):=hd1
 refine ah rfl aLP avg rfl ?_
 simp -implicitDefEqProofs(maxSteps:=9^9)only[Tryz.f15,↓zA,sevalprocAttr,afh]
 refine bX l.length (fun k s=>s.fr 0=.of (slC qyC l)∧s.fr 2=aU ((d+1:Nat):Int)∧s.fr 7=aU k∧s.objs=[]∧∃ m,s.fr 1=aU m∧SP m∧(spA (d+1)).2.1 l n=iu (qyN (spA d).1 (spA d).2.1 (spA d).2.2) (l.drop k) m) ?_ ?_
 .simp -implicitDefEqProofs(maxSteps:=9^9)only[Tryz.f15,↓zA,sevalprocAttr,afh]
  exact⟨n,rfl,hn,rfl⟩
 rintro k ⟨frk,obk,ckk⟩ hk ⟨f0,f2,f3,fo,m,f1,hm,E⟩
 dsimp only at f0 f1 f2 f3 fo
 by_cases b:0<m
 rotate_left
 .rw[ae5 _ _ b] at E
  by_cases dk:k<l.length
  .simp -implicitDefEqProofs(maxSteps:=9^9)only[Tryz.f15,↓zA,sevalprocAttr,afh,f0,f1,f2,f3,fo,aK,dk,b,E]
  .simp -implicitDefEqProofs(maxSteps:=9^9)only[Tryz.f15,↓zA,sevalprocAttr,afh,f0,f1,f2,f3,fo,aK,dk,b,E]
 rcases ap k l.length with dk|dk
 rotate_left
 .have e:k=l.length:=by omega
  subst e
  rw[aw,iu] at E
  simp -implicitDefEqProofs(maxSteps:=9^9)only[Tryz.f15,↓zA,sevalprocAttr,afh,f0,f1,f2,f3,fo,aK,au,b,E]
 have hw:=cF k (by omega)
 have gx:=bq dk
 have hx:=bQ (w:=qyW) (ay dk)
 rw[ag3 _ dk b] at E
 generalize l[k]=x at *
 have h':=iK x
 have hm1:=afg hm b
 have wm:=anw hm
 have hod:=aWu (q:=x) (by omega)
 have hm2:SP (m-1-(x.od.length:Int)):=by unfold SP at *;omega
 have wm2:IntKind.i64.wrap (m-1-(x.od.length:Int))=m-1-(x.od.length:Int):=eX _ (by unfold SP at hm2;omega) (by unfold SP at hm2;omega)
 have k1:=fun K=>aN.k (iQ x.ks (by omega) _ hm2) K
 have hm3:=s2 x.ks (by omega) _ hm2
 have k2:=fun K=>aN.k (iF x.fr (by omega) _ hm3) K
 have hm4:=s3 x.fr (by omega) _ hm3
 have hqn:∀ n,qyN (spA d).1 (spA d).2.1 (spA d).2.2 x m=n→n=(spA d).1 x.hv ((spA d).1 x.gr ((spA d).1 x.wh (iu (fun (i:Im) n=>(spA d).1 [i.e] (n-1)) x.its ((spA d).2.2 x.fr ((spA d).2.1 x.ks (m-1-x.od.length)))))):=fun n h=>h▸rfl
 generalize hN:qyN (spA d).1 (spA d).2.1 (spA d).2.2 x m=NN at *
 have hQ:=hqn NN rfl
 generalize hM:(spA d).2.2 x.fr ((spA d).2.1 x.ks (m-1-x.od.length))=M at *
 simp -implicitDefEqProofs(maxSteps:=9^9)only[Tryz.f15,↓zA,sevalprocAttr,afh,f0,f1,f2,f3,fo,aK,dk,b,hd0,hd1,hd0',hd1',gx,hw,wm,wm2,k1,k2,hM]
 have hil:=da imW x.its fun x _=>adw x
 refine bX x.its.length (fun j s=>s.fr 0=.of (slC qyC l)∧s.fr 2=aU ((d+1:Nat):Int)∧s.fr 7=aU k∧s.fr 8=.of (.ref [ci x.op,cb x.al,slC qyC x.ks,cb x.di,slC imC x.its,slC fmC x.fr,slC xpC x.wh,slC xpC x.gr,slC xpC x.hv,slC odC x.od,ci x.li,ci x.sk])∧s.fr 9=aU j∧s.objs=[]∧∃ m2,s.fr 1=aU m2∧SP m2∧iu (fun (i:Im) n=>(spA d).1 [i.e] (n-1)) x.its M=iu (fun (i:Im) n=>(spA d).1 [i.e] (n-1)) (x.its.drop j) m2) ?_ ?_
 .simp -implicitDefEqProofs(maxSteps:=9^9)only[Tryz.f15,↓zA,sevalprocAttr,afh,f0,f2,f3]
  exact⟨M,rfl,hm4,rfl⟩
 rintro j ⟨frj,obj,ckj⟩ hj ⟨g0,g2,g7,g8,g9,go,m2,g1,hmm,EI⟩
 dsimp only at g0 g1 g2 g7 g8 g9 go
 have fin:∀ v,iu (fun (i:Im) n=>(spA d).1 [i.e] (n-1)) x.its M=v→SP v→NN=(spA d).1 x.hv ((spA d).1 x.gr ((spA d).1 x.wh v)):=fun v hv _=>by rw[← hv];exact hQ
 by_cases b2:0<m2
 .rcases ap j x.its.length with dj|dj
  .have hwj:=cF j (by omega)
   have gj:=bq dj
   have hi:=bQ (w:=imW) (ay dj)
   rw[ag3 _ dj b2] at EI
   generalize x.its[j]=i at *
   have hi':=aci i
   have hp1:=afg hmm b2
   have wp:=anw hmm
   have e1:lsW xpW [i.e]≤1048576:=by have:lsW xpW [i.e]=xpW i.e+1:=(by simp[lsW]);omega
   have k3:=fun K=>aN.k (iE [i.e] e1 _ hp1) K
   simp -implicitDefEqProofs(maxSteps:=9^9)only[Tryz.f15,↓zA,sevalprocAttr,afh,g0,g1,g2,g7,g8,g9,go,aK,dj,b2,hd1,hd1',gj,hwj,wp,aoX,aqt,k3]
   exact⟨_,rfl,s1 _ e1 _ hp1,EI⟩
  .have e:j=x.its.length:=by omega
   subst e
   rw[aw,iu] at EI
   have hQ2:=fin _ EI hmm
   have k4:=fun K=>aN.k (iE x.wh (by omega) _ hmm) K
   have q1:=s1 x.wh (by omega) _ hmm
   have k5:=fun K=>aN.k (iE x.gr (by omega) _ q1) K
   have q2:=s1 x.gr (by omega) _ q1
   have k6:=fun K=>aN.k (iE x.hv (by omega) _ q2) K
   have q3:=s1 x.hv (by omega) _ q2
   simp -implicitDefEqProofs(maxSteps:=9^9)only[Tryz.f15,↓zA,sevalprocAttr,afh,g0,g1,g2,g7,g8,g9,go,aK,au,b2,hd1,hd1',hw,k4,k5,k6]
   exact⟨_,rfl,q3,by rw[E,hQ2]⟩
 .rw[ae5 _ _ b2] at EI
  have hQ2:=fin _ EI hmm
  have k4:=fun K=>aN.k (iE x.wh (by omega) _ hmm) K
  have q1:=s1 x.wh (by omega) _ hmm
  have k5:=fun K=>aN.k (iE x.gr (by omega) _ q1) K
  have q2:=s1 x.gr (by omega) _ q1
  have k6:=fun K=>aN.k (iE x.hv (by omega) _ q2) K
  have q3:=s1 x.hv (by omega) _ q2
  by_cases dj:j<x.its.length
  .simp -implicitDefEqProofs(maxSteps:=9^9)only[Tryz.f15,↓zA,sevalprocAttr,afh,g0,g1,g2,g7,g8,g9,go,aK,dj,b2,hd1,hd1',hw,k4,k5,k6]
   exact⟨_,rfl,q3,by rw[E,hQ2]⟩
  .simp -implicitDefEqProofs(maxSteps:=9^9)only[Tryz.f15,↓zA,sevalprocAttr,afh,g0,g1,g2,g7,g8,g9,go,aK,dj,b2,hd1,hd1',hw,k4,k5,k6]
   exact⟨_,rfl,q3,by rw[E,hQ2]⟩
theorem aFG:∀ d,d≤60→GE d∧GQ d∧GF d
 | 0,_=>⟨a1J,a1F,a1H⟩
 | d+1,hd=>by
  obtain⟨i1,i2,i3⟩:=aFG d (by omega)
  exact⟨a1I d hd i1 i2 i3,a1E d hd i1 i2 i3,a1G d hd i1 i2 i3⟩
end Go.Proofs.YtemdljoideegeaaGreatDoor
namespace Go.Tab
open Go Go.Pe
def exA:Xp:=.mk 2 jz [] [97] false [] []
def exB:Xp:=.mk 2 jz [] [98] false [] []
def exC:Xp:=.mk 2 jz [] [115,101,108,101,99,116] false [] []
def aZa:Xp:=.mk 18 jz [] [] false [exA,exB] []
def aP3:Xp:=.mk 4 jz [] [] false [aZa] []
def ajd:Xp:=.mk 17 jz [] [] false [aP3,exC] []
def exS:Sm:=⟨1,[116],[],[⟨[97],2,true⟩],[],false,[⟨true,[[97]]⟩],[],[],[],[],[],[]⟩
def exQ:Qy:=.mk 1 false [] false [.mk true [116] jc []] [.mk 1 [116] [] [] [] []] [] [] [] [⟨[],1,true⟩] 3 0
def aAO:jC ajd=([110,111,116,32,40,97,32,111,114,32,98,41,32,97,110,100,32]++(34::([115,101,108,101,99,116]++[34])),0):=by decide +kernel
def aP1:abe exS=([99,114,101,97,116,101,32,116,97,98,108,101,32,116,32,40,97,32,105,110,116,32,110,111,116,32,110,117,108,108,44,32,112,114,105,109,97,114,121,32,107,101,121,32,40,97,41,41],0):=by decide +kernel
def a4o:qyT exQ=[[115,101,108,101,99,116],[116],ab0,aaM,[102,114,111,109],[116],[111,114,100,101,114],[98,121],[49],[100,101,115,99],[108,105,109,105,116],[51]]:=by
 have e1:Lib.itoa 1=[49]:=by
  show Lib.itoa ((1:Nat):Int)=_
  unfold Lib.itoa
  rw[aj (by omega),dm,Lib.decDigits_one (by omega)]
  rfl
 have e3:Lib.itoa 3=[51]:=by
  show Lib.itoa ((3:Nat):Int)=_
  unfold Lib.itoa
  rw[aj (by omega),dm,Lib.decDigits_one (by omega)]
  rfl
 have hn:bF [116]=[116]:=by decide +kernel
 rw[ao7]
 simp only[exQ,Qy.op,Qy.di,Qy.its,Qy.fr,Qy.wh,Qy.gr,Qy.hv,Qy.od,Qy.li,Qy.sk,aA,akH,ajx,aV,bC,aIv,Im.st,Im.tb,ael,fmP,aIF,af1,Fm.kd,Fm.nm,Fm.az,odT,e1,e3,bc,aF,jA,asT,hn,abh,fC]
 decide +kernel
def aP2:aaX exQ=([115,101,108,101,99,116,32,116,46,42,32,102,114,111,109,32,116,32,111,114,100,101,114,32,98,121,32,49,32,100,101,115,99,32,108,105,109,105,116,32,51],0):=by
 have hr:ab3 exQ=true:=by decide +kernel
 unfold aaX
 rw[aE hr,a4o]
 decide +kernel
def a4p:jC jc=([],1):=by decide +kernel
def akx:V64 jz:=⟨⟨by decide,by decide⟩,by decide,by decide⟩
def aMU:fh jc:=by
 rw[ac1];exact⟨⟨by decide,by decide⟩,akx,trivial,trivial,trivial,fun _ h=>(by cases h),fun _ h=>(by cases h)⟩
def aZd:fh exA:=by
 rw[ac1];exact⟨⟨by decide,by decide⟩,akx,trivial,trivial,trivial,fun _ h=>(by cases h),fun _ h=>(by cases h)⟩
def aZc:fh exB:=by
 rw[ac1];exact⟨⟨by decide,by decide⟩,akx,trivial,trivial,trivial,fun _ h=>(by cases h),fun _ h=>(by cases h)⟩
def aZb:fh exC:=by
 rw[ac1];exact⟨⟨by decide,by decide⟩,akx,trivial,trivial,trivial,fun _ h=>(by cases h),fun _ h=>(by cases h)⟩
def aRW:fh aZa:=by
 rw[ac1];exact⟨⟨by decide,by decide⟩,akx,trivial,trivial,trivial,fun x h=>(by
  rcases cY.1 h with rfl|h
  .exact aZd
  .rcases cY.1 h with rfl|h
   .exact aZc
   .cases h),fun _ h=>(by cases h)⟩
def aLS:fh aP3:=by
 rw[ac1];exact⟨⟨by decide,by decide⟩,akx,trivial,trivial,trivial,fun x h=>(by
  rcases cY.1 h with rfl|h
  .exact aRW
  .cases h),fun _ h=>(by cases h)⟩
def aLT:fh ajd:=by
 rw[ac1];exact⟨⟨by decide,by decide⟩,akx,trivial,trivial,trivial,fun x h=>(by
  rcases cY.1 h with rfl|h
  .exact aLS
  .rcases cY.1 h with rfl|h
   .exact aZb
   .cases h),fun _ h=>(by cases h)⟩
def aRX:xpW ajd≤1048576:=by decide +kernel
def a5j:xpW jc≤1048576:=by decide +kernel
def aY8:aby exS:=⟨⟨by decide,by decide⟩,trivial,trivial,fun x h=>(by
  rcases cY.1 h with rfl|h
  .exact⟨trivial,⟨by decide,by decide⟩,trivial⟩
  .cases h),fun _ h=>(by cases h),trivial,fun _ _=>⟨trivial,fun _ _=>trivial⟩,fun _ h=>(by cases h),fun _ h=>(by cases h),fun _ h=>(by cases h),fun _ h=>(by cases h),fun _ h=>(by cases h),fun _ h=>(by cases h)⟩
def a4m:smW exS≤1048576:=by decide +kernel
def aY9:io exQ:=by
 rw[ag7]
 refine⟨⟨by decide,by decide⟩,trivial,fun _ h=>(by cases h),trivial,fun x h=>?_,fun x h=>?_,fun _ h=>(by cases h),fun _ h=>(by cases h),fun _ h=>(by cases h),fun x h=>?_,⟨by decide,by decide⟩,⟨by decide,by decide⟩⟩
 .rcases cY.1 h with rfl|h
  .rw[ain];exact⟨trivial,trivial,aMU,trivial⟩
  .cases h
 .rcases cY.1 h with rfl|h
  .rw[aio];exact⟨⟨by decide,by decide⟩,trivial,trivial,fun _ h=>(by cases h),fun _ h=>(by cases h),fun _ h=>(by cases h)⟩
  .cases h
 .rcases cY.1 h with rfl|h
  .exact⟨trivial,⟨by decide,by decide⟩,trivial⟩
  .cases h
def a4n:qyW exQ≤1048576:=by decide +kernel
end Go.Tab
namespace Go.Proofs.YtemdljoideegeaaGreatDoor
open Go Go.Pe Go.Tab
def ana {α:Type} (w:α→Nat) (l:List α) (h:∀ x∈l,1≤w x):l.length≤lsW w l:=Nat.le_of_lt (da w l h)
def zc5:=ai (ai (ai (ai @zq @mt5) (ai @atj (ai @apY @atk))) (ai (ai @apZ (ai @aba @cR)) (ai @abO (ai @aep @adN)))) (ai (ai (ai @aeo (ai @eY @acl)) (ai @bO (ai @ack @ac3))) (ai (ai @ey (ai @ie @abP)) (ai @zT0 (ai @aNA (ba fi5)))))
def alt (s:Sm) (v1:lsW xpW s.chs≤1048576) (v2:lsW xpW s.wh≤1048576) (v3:lsW qyW s.q≤1048576) (v4:∀ r∈s.rws,lsW xpW r≤1048576) (v5:∀ a∈s.sts,xpW a.e+1≤1048576)
  (l1:s.cs.length≤1048576) (l2:s.ns.length≤1048576) (l3:s.kys.length≤1048576) (l4:s.rfs.length≤1048576) (l5:s.rws.length≤1048576) (l6:s.sts.length≤1048576):G1 5 [.of (.agg (smC s))] (aG (ahC s)):=by
 obtain⟨gE',gQ',_⟩:=aFG 60 (aM _)
 have gE:∀ l:List Xp,lsW xpW l≤1048576→∀ n,SP n→G1 16 [.of (slC xpC l),aU n,aU 60] (aU ((spA 60).1 l n)):=gE'
 have gQ:∀ l:List Qy,lsW qyW l≤1048576→∀ n,SP n→G1 15 [.of (slC qyC l),aU n,aU 60] (aU ((spA 60).2.1 l n)):=gQ'
 obtain⟨s1,s2,s3⟩:=alR 60
 have h3:SP 3000:=⟨by decide,by decide⟩
 have k1:=fun K=>aN.k (gE s.chs (by omega) _ h3) K
 have q1:=s1 s.chs (by omega) _ h3
 have k2:=fun K=>aN.k (gE s.wh (by omega) _ q1) K
 have q2:=s1 s.wh (by omega) _ q1
 have k3:=fun K=>aN.k (gQ s.q (by omega) _ q2) K
 have q3:=s2 s.q (by omega) _ q2
 have hL:∀ k,(let n:=(spA 60).2.1 s.q ((spA 60).1 s.wh ((spA 60).1 s.chs 3000));let m:=iu (fun l n=>(spA 60).1 l (n-1)) s.rws n;iu (fun (a:As) n=>(spA 60).1 [a.e] (n-1)) s.sts m)=k→ahC s=(decide (k≤0)||decide (3000<s.rws.length)||decide (3000<s.sts.length+s.cs.length+s.kys.length+s.rfs.length+s.ns.length)):=fun k hk=>by rw[← hk];rfl
 generalize hN:(spA 60).2.1 s.q ((spA 60).1 s.wh ((spA 60).1 s.chs 3000))=N at *
 dsimp only at hL
 generalize hM:iu (fun l n=>(spA 60).1 l (n-1)) s.rws N=M at *
 refine ah rfl fi5 aNA rfl ?_
 simp -implicitDefEqProofs(maxSteps:=9^9)only[Tryz.f5,↓zA,sevalprocAttr,zc5,k1,k2,k3,hN]
 refine bX s.rws.length (fun k st=>st.fr 1=.of (.ref (agR s))∧st.fr 4=aU k∧st.objs=[]∧∃ m,st.fr 3=aU m∧SP m∧M=iu (fun l n=>(spA 60).1 l (n-1)) (s.rws.drop k) m) ?_ ?_
 .simp -implicitDefEqProofs(maxSteps:=9^9)only[Tryz.f5,↓zA,sevalprocAttr,zc5]
  exact⟨N,rfl,q3,hM.symm⟩
 have tail:∀ (fr:Nat→X) (ob:List Ob) (ck:Nat),fr 1=.of (.ref (agR s))→ob=[]→fr 3=aU M→SP M→True:=fun _ _ _ _ _ _ _=>trivial
 rintro k ⟨frk,obk,ckk⟩ hk ⟨f1,f4,fo,m,f3,hm,E⟩
 dsimp only at f1 f3 f4 fo
 have wm:=anw hm
 by_cases go:0<m∧k<s.rws.length
 .obtain⟨b,dk⟩:=go
  have hw:=cF k (by omega)
  have gx:=bq dk
  have hx:=v4 _ (ay dk)
  rw[ag3 _ dk b] at E
  generalize s.rws[k]=x at *
  have hm1:=afg hm b
  have kx:=fun K=>aN.k (gE x (by omega) _ hm1) K
  simp -implicitDefEqProofs(maxSteps:=9^9)only[Tryz.f5,↓zA,sevalprocAttr,zc5,f1,f3,f4,fo,aK,dk,b,gx,hw,wm,kx]
  exact⟨_,rfl,s1 _ (by omega) _ hm1,E⟩
 have hE:M=m:=by
  by_cases b:0<m
  .have dk:s.rws.length≤k:=by
    rcases ap k s.rws.length with q|q
    .exact absurd ⟨b,q⟩ go
    .exact q
   rw[fv dk,iu] at E
   exact E
  .rw[ae5 _ _ b] at E
   exact E
 rw[← hE] at f3 hm
 have hc:((k<s.rws.length)=True∧(0<M)=False)∨((k<s.rws.length)=False∧True):=by
  rcases ap k s.rws.length with dk|dk
  .exact .inl ⟨aa dk,aO fun q=>go ⟨hE▸q,dk⟩⟩
  .exact .inr ⟨aO (by omega),trivial⟩
 rcases hc with ⟨dk,b⟩|⟨dk,b⟩
 all_goals simp -implicitDefEqProofs(maxSteps:=9^9)only[Tryz.f5,↓zA,sevalprocAttr,zc5,f1,f3,f4,fo,aK,dk,b]
 all_goals
  clear E wm go hE tail dk b
  generalize hK:iu (fun (a:As) n=>(spA 60).1 [a.e] (n-1)) s.sts M=KK at *
  have hLL:=hL KK rfl
  refine bX s.sts.length (fun k st=>st.fr 1=.of (.ref (agR s))∧st.fr 5=aU k∧st.objs=[]∧∃ m,st.fr 3=aU m∧SP m∧KK=iu (fun (a:As) n=>(spA 60).1 [a.e] (n-1)) (s.sts.drop k) m) ?_ ?_
  .simp -implicitDefEqProofs(maxSteps:=9^9)only[Tryz.f5,↓zA,sevalprocAttr,zc5,f1,f3,fo]
   exact⟨M,rfl,hm,hK.symm⟩
  rintro k2 ⟨fr2,ob2,ck2⟩ hk2 ⟨g1,g5,go2,m2,g3,hm2,E2⟩
  dsimp only at g1 g3 g5 go2
  have wm2:=anw hm2
  by_cases go:0<m2∧k2<s.sts.length
  .obtain⟨b,dk⟩:=go
   have hw2:=cF k2 (by omega)
   have gx:=bq dk
   have hx:=v5 _ (ay dk)
   rw[ag3 _ dk b] at E2
   generalize s.sts[k2]=x at *
   have e1:lsW xpW [x.e]≤1048576:=by have:lsW xpW [x.e]=xpW x.e+1:=(by simp[lsW]);omega
   have hm1:=afg hm2 b
   have kx:=fun K=>aN.k (gE [x.e] e1 _ hm1) K
   simp -implicitDefEqProofs(maxSteps:=9^9)only[Tryz.f5,↓zA,sevalprocAttr,zc5,g1,g3,g5,go2,aK,dk,b,gx,hw2,wm2,aoX,aqt,kx]
   exact⟨_,rfl,s1 _ e1 _ hm1,E2⟩
  have hE2:KK=m2:=by
   by_cases b:0<m2
   .have dk:s.sts.length≤k2:=by
     rcases ap k2 s.sts.length with q|q
     .exact absurd ⟨b,q⟩ go
     .exact q
    rw[fv dk,iu] at E2
    exact E2
   .rw[ae5 _ _ b] at E2
    exact E2
  rw[← hE2] at g3
  have hc:((k2<s.sts.length)=True∧(0<KK)=False)∨((k2<s.sts.length)=False∧True):=by
   rcases ap k2 s.sts.length with dk|dk
   .exact .inl ⟨aa dk,aO fun q=>go ⟨hE2▸q,dk⟩⟩
   .exact .inr ⟨aO (by omega),trivial⟩
  have a1:IntKind.i64.wrap ((s.sts.length:Int)+(s.cs.length:Int))=((s.sts.length+s.cs.length:Nat):Int):=eX _ (by omega) (by omega)
  have a2:IntKind.i64.wrap (((s.sts.length+s.cs.length:Nat):Int)+(s.kys.length:Int))=((s.sts.length+s.cs.length+s.kys.length:Nat):Int):=eX _ (by omega) (by omega)
  have a3:IntKind.i64.wrap (((s.sts.length+s.cs.length+s.kys.length:Nat):Int)+(s.rfs.length:Int))=((s.sts.length+s.cs.length+s.kys.length+s.rfs.length:Nat):Int):=eX _ (by omega) (by omega)
  have a4:IntKind.i64.wrap (((s.sts.length+s.cs.length+s.kys.length+s.rfs.length:Nat):Int)+(s.ns.length:Int))=((s.sts.length+s.cs.length+s.kys.length+s.rfs.length+s.ns.length:Nat):Int):=eX _ (by omega) (by omega)
  have a5:((3000:Int)<(s.rws.length:Int))=(3000<s.rws.length):=propext (by omega)
  have a6:((3000:Int)<((s.sts.length+s.cs.length+s.kys.length+s.rfs.length+s.ns.length:Nat):Int))=(3000<s.sts.length+s.cs.length+s.kys.length+s.rfs.length+s.ns.length):=propext (by omega)
  generalize s.sts.length+s.cs.length+s.kys.length+s.rfs.length+s.ns.length=Z at *
  rw[hLL]
  rcases hc with ⟨dk,b⟩|⟨dk,b⟩
  all_goals
   by_cases b1:KK≤0
   .simp -implicitDefEqProofs(maxSteps:=9^9)only[Tryz.f5,↓zA,sevalprocAttr,zc5,g1,g3,g5,go2,aK,dk,b,b1,dw]
    try rfl
   by_cases b2:3000<s.rws.length
   .simp -implicitDefEqProofs(maxSteps:=9^9)only[Tryz.f5,↓zA,sevalprocAttr,zc5,g1,g3,g5,go2,aK,dk,b,b1,a5,b2,dw,fg]
    try rfl
   .simp -implicitDefEqProofs(maxSteps:=9^9)only[Tryz.f5,↓zA,sevalprocAttr,zc5,g1,g3,g5,go2,aK,dk,b,b1,a5,b2,a1,a2,a3,a4,a6,dl]
    try rfl
def aTy (s:Sm) (h:smW s≤1048576) (K:An→Prop):bp Tryz.prog pr 5 [.of (.agg (smC s))] [] K↔K ⟨false,[aG (ahC s)],[]⟩:=by
 have hw:smW s=eN s.kd+cV s.tb+cV s.nm+(lsW cdW) s.cs+(lsW cV) s.ns+eN s.un+(lsW kdW) s.kys+(lsW rdW) s.rfs+(lsW xpW) s.chs+(lsW (lsW xpW)) s.rws+(lsW asW) s.sts+(lsW xpW) s.wh+(lsW qyW) s.q+1:=rfl
 have l1:=ana cdW s.cs fun x _=>by unfold cdW;omega
 have l2:=ana cV s.ns fun x _=>by unfold cV;omega
 have l3:=ana kdW s.kys fun x _=>by unfold kdW;omega
 have l4:=ana rdW s.rfs fun x _=>by unfold rdW;omega
 have l5:=ana (lsW xpW) s.rws fun x _=>by unfold lsW;omega
 have l6:=ana asW s.sts fun x _=>by unfold asW;omega
 exact aN.k (alt s (by omega) (by omega) (by omega) (fun r hr=>by have:=bQ (w:=lsW xpW) hr;omega) (fun a ha=>by have:=bQ (w:=asW) ha;have e:asW a=cV a.nm+xpW a.e+1:=rfl;omega) (by omega) (by omega) (by omega) (by omega) (by omega) (by omega)) K
def aJm (tk:Tk) (a1 a2 a3 a4 a5 a6 a7 a8 a9 b1 b2 b3 b4 b5 b6 b7 b8 b9:C):ef tk 2 (Pe.elemOf (TT.of Tryz.prog) 26) (some [(0,[.of a1,.of a2,.of a3,.of a4,.of a5,.of a6,.of a7,.of a8,.of a9]),(1,[.of b1,.of b2,.of b3,.of b4,.of b5,.of b6,.of b7,.of b8,.of b9])])=out (.own tk 45 9 [a1,a2,a3,a4,a5,a6,a7,a8,a9,b1,b2,b3,b4,b5,b6,b7,b8,b9] 2):=by rw[E26];kernel_rfl
def zc6:=ai (ai (ai (ai @zq (ai @mt0 @mt1)) (ai (ai @mt2 @mt3) (ai @mt4 @aNs))) (ai (ai (ai @aJi @aUZ) (ai @aP5 @aNt)) (ai (ai @aJj @aba) (ai @eY @cR)))) (ai (ai (ai @aep (ai @adN @abb)) (ai (ai @jq @acL) (ai @acl @bO))) (ai (ai (ai @ack @ey) (ai @ab7 @iU)) (ai (ai @abV @zT0) (ai @aNz (ba fi6)))))
def aEw:G1 6 [] (aG true):=by
 have k1:∀ K,bp Tryz.prog pr 13 [.of (.agg [ci 17,ci 0,ci 0,aH {data:=#[]},aH {data:=#[]},aH {data:=#[]},cb false,.sl [ci 4,ci 0,ci 0,aH {data:=#[]},aH {data:=#[]},aH {data:=#[]},cb false,.sl [ci 18,ci 0,ci 0,aH {data:=#[]},aH {data:=#[]},aH {data:=#[]},cb false,.sl [ci 2,ci 0,ci 0,aH {data:=#[]},aH {data:=#[]},aH {data:=#[97]},cb false,.sl [] 0,.sl [] 0,ci 2,ci 0,ci 0,aH {data:=#[]},aH {data:=#[]},aH {data:=#[98]},cb false,.sl [] 0,.sl [] 0] 2,.sl [] 0] 1,.sl [] 0,ci 2,ci 0,ci 0,aH {data:=#[]},aH {data:=#[]},aH {data:=#[115,101,108,101,99,116]},cb false,.sl [] 0,.sl [] 0] 2,.sl [] 0])] [] K↔K ⟨false,[dy (str (jC ajd).1),.of (ci (jC ajd).2)],[]⟩:=fun K=>aN.k (prX ajd aLT aRX) K
 have s1:(str (jC ajd).1=({data:=#[110,111,116,32,40,97,32,111,114,32,98,41,32,97,110,100,32,34,115,101,108,101,99,116,34]}:ByteArray))=True:=aa (by rw[aAO];rfl)
 have e1:((jC ajd).2=0)=True:=aa (by rw[aAO])
 have k2:∀ K,bp Tryz.prog pr 7 [.of (.agg [ci 1,aH {data:=#[116]},aH {data:=#[]},.sl [aH {data:=#[97]},ci 2,cb true] 1,.sl [] 0,cb false,.sl [cb true,.sl [aH {data:=#[97]}] 1] 1,.sl [] 0,.sl [] 0,.sl [] 0,.sl [] 0,.sl [] 0,.sl [] 0])] [] K↔K ⟨false,[dy (str (abe exS).1),.of (ci (abe exS).2)],[]⟩:=fun K=>aN.k (prS exS aY8 a4m) K
 have s2:(str (abe exS).1=({data:=#[99,114,101,97,116,101,32,116,97,98,108,101,32,116,32,40,97,32,105,110,116,32,110,111,116,32,110,117,108,108,44,32,112,114,105,109,97,114,121,32,107,101,121,32,40,97,41,41]}:ByteArray))=True:=aa (by rw[aP1];rfl)
 have e2:((abe exS).2=0)=True:=aa (by rw[aP1])
 have k3:∀ K,bp Tryz.prog pr 11 [.of (.agg [ci 1,cb false,.sl [] 0,cb false,.sl [cb true,aH {data:=#[116]},ci 0,ci 0,ci 0,aH {data:=#[]},aH {data:=#[]},aH {data:=#[]},cb false,.sl [] 0,.sl [] 0,aH {data:=#[]}] 1,.sl [ci 1,aH {data:=#[116]},aH {data:=#[]},.sl [] 0,.sl [] 0,.sl [] 0] 1,.sl [] 0,.sl [] 0,.sl [] 0,.sl [aH {data:=#[]},ci 1,cb true] 1,ci 3,ci 0])] [] K↔K ⟨false,[dy (str (aaX exQ).1),.of (ci (aaX exQ).2)],[]⟩:=fun K=>aN.k (prQ exQ aY9 a4n) K
 have s3:(str (aaX exQ).1=({data:=#[115,101,108,101,99,116,32,116,46,42,32,102,114,111,109,32,116,32,111,114,100,101,114,32,98,121,32,49,32,100,101,115,99,32,108,105,109,105,116,32,51]}:ByteArray))=True:=aa (by rw[aP2];rfl)
 have e3:((aaX exQ).2=0)=True:=aa (by rw[aP2])
 have k4:∀ K,bp Tryz.prog pr 13 [.of (.agg [ci 0,ci 0,ci 0,aH {data:=#[]},aH {data:=#[]},aH {data:=#[]},cb false,.sl [] 0,.sl [] 0])] [] K↔K ⟨false,[dy (str (jC jc).1),.of (ci (jC jc).2)],[]⟩:=fun K=>aN.k (prX jc aMU a5j) K
 have e4:((jC jc).2=1)=True:=aa (by rw[a4p])
 refine ah rfl fi6 aNz rfl ?_
 simp -implicitDefEqProofs(maxSteps:=9^9)only[Tryz.f6,↓zA,sevalprocAttr,zc6,aJm,k1,k2,k3,k4,s1,e1,s2,e2,s3,e3,e4]
 try rfl
def akc (K:An→Prop):bp Tryz.prog pr 6 [] [] K↔K ⟨false,[aG true],[]⟩:=aN.k aEw K
def zc3:=ai (ai (ai @zq (ai @a67 @aU1)) (ai (ai @aP7 @aU0) (ai @aP6 @aUZ))) (ai (ai @aP5 (ai @a5G @a4G)) (ai (ai @aba @zT0) (ai @aNC (ba fi3))))
def aqa (s:Sm) (g:aby s) (h:smW s≤1048576):G1 3 [.of (.agg (smC s))] (aG true):=by
 have k1:=fun K=>aTy s h K
 have k2:=fun K=>aN.k (prS s g h) K
 have k3:=fun K=>aN.k (a5C s g h) K
 refine ah rfl fi3 aNC rfl ?_
 cases c:ahC s
 .simp -implicitDefEqProofs(maxSteps:=9^9)only[Tryz.f3,↓zA,sevalprocAttr,zc3,k1,c,k2,k3,akc]
  try rfl
 .simp -implicitDefEqProofs(maxSteps:=9^9)only[Tryz.f3,↓zA,sevalprocAttr,zc3,k1,c,akc]
  try rfl
def aoJ (q:Qy):Sm:=⟨7,[],[],[],[],false,[],[],[],[],[],[],[q]⟩
def awe (e:Xp):Sm:=⟨6,[116],[],[],[],false,[],[],[],[],[],[e],[]⟩
def aMt (q:Qy) (h:qyW q≤1048575) (K:An→Prop):bp Tryz.prog pr 5 [.of (.agg (smC (aoJ q)))] [] K↔K ⟨false,[aG (ahC (aoJ q))],[]⟩:=by
 have e0:lsW xpW []=1:=rfl
 have e1:lsW qyW [q]=qyW q+1:=by simp[lsW]
 exact aN.k (alt (aoJ q) (cT rfl) (cT rfl) (by show lsW qyW [q]≤_;omega) (fun r hr=>by cases hr) (fun a ha=>by cases ha) (cT rfl) (cT rfl) (cT rfl) (cT rfl) (cT rfl) (cT rfl)) K
def aMu (e:Xp) (h:xpW e≤1048575) (K:An→Prop):bp Tryz.prog pr 5 [.of (.agg (smC (awe e)))] [] K↔K ⟨false,[aG (ahC (awe e))],[]⟩:=by
 have e1:lsW xpW [e]=xpW e+1:=by simp[lsW]
 exact aN.k (alt (awe e) (cT rfl) (by show lsW xpW [e]≤_;omega) (cT rfl) (fun r hr=>by cases hr) (fun a ha=>by cases ha) (cT rfl) (cT rfl) (cT rfl) (cT rfl) (cT rfl) (cT rfl)) K
def zc9:=ai (ai (ai @zq @mt8) (ai @mt9 @aba)) (ai (ai @eY @eI) (ai @zT0 (ai @aNw (ba fi9))))
def aFn (q:Qy):G1 9 [.of (.agg (qyC q))] (.of (.agg (smC (aoJ q)))):=by
 refine ah rfl fi9 aNw rfl ?_
 simp -implicitDefEqProofs(maxSteps:=9^9)only[Tryz.f9,↓zA,sevalprocAttr,zc9,aF5]
 try rfl
def a5i:=ai (ai (ai @zq @mt6) (ai @mt7 @aba)) (ai (ai @cR @ey) (ai @zT0 (ai @aIr (ba aYN))))
def aMb (e:Xp):G1 10 [.of (.agg (xpC e))] (.of (.agg (smC (awe e)))):=by
 refine ah rfl aYN aIr rfl ?_
 simp -implicitDefEqProofs(maxSteps:=9^9)only[Tryz.f10,↓zA,sevalprocAttr,a5i,aoX,aqt]
 try rfl
def zc4:=ai (ai (ai (ai @zq (ai @a66 @a65)) (ai @a5F (ai @a4F @aU1))) (ai (ai @aP7 (ai @a2W @aZZ)) (ai @aU0 (ai @aP6 @aNt)))) (ai (ai (ai @aJj (ai @a2V @aZY)) (ai @aNs (ai @aJi @a2U))) (ai (ai @aZX (ai @eY @cR)) (ai @zT0 (ai @aNB (ba fi4)))))
def anC (q:Qy) (e:Xp) (gq:io q) (ge:fh e) (hq:qyW q≤1048575) (he:xpW e≤1048575):G1 4 [.of (.agg (qyC q)),.of (.agg (xpC e))] (aG true):=by
 have k0:=fun K=>aN.k (aFn q) K
 have k9:=fun K=>aN.k (aMb e) K
 have k1:=fun K=>aMt q hq K
 have k2:=fun K=>aMu e he K
 have k3:=fun K=>aN.k (prQ q gq (by omega)) K
 have k4:=fun K=>aN.k (a5D q gq (by omega)) K
 have k5:=fun K=>aN.k (prX e ge (by omega)) K
 have k6:=fun K=>aN.k (a5B e ge (by omega)) K
 generalize aoJ q=TQ' at *
 generalize awe e=TE' at *
 refine ah rfl fi4 aNB rfl ?_
 cases c:ahC TQ'
 .cases d:ahC TE'
  .simp -implicitDefEqProofs(maxSteps:=9^9)only[Tryz.f4,↓zA,sevalprocAttr,zc4,k0,k9,k1,k2,c,d,k3,k4,k5,k6,akc]
   try rfl
  .simp -implicitDefEqProofs(maxSteps:=9^9)only[Tryz.f4,↓zA,sevalprocAttr,zc4,k0,k9,k1,k2,c,d,akc]
   try rfl
 .simp -implicitDefEqProofs(maxSteps:=9^9)only[Tryz.f4,↓zA,sevalprocAttr,zc4,k0,k9,k1,c,akc]
  try rfl
end Go.Proofs.YtemdljoideegeaaGreatDoor

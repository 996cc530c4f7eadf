/-
  Chapter 9's document: what an expression's own fields may be; lists that are right throughout. Conditions: none.
-/
import Derived.Test.YtemdljoideegeaaGreatDoorPa17
set_option linter.defProp false
set_option linter.unusedSectionVars false
set_option maxRecDepth 100000
set_option maxHeartbeats 64000000
namespace Go.Proofs.YtemdljoideegeaaGreatDoor
open Go Go.Pe Go.Tab
def Z4c {α:Type} (l:List α):(l=[])=(l.length=0):=propext List.length_eq_zero_iff.symm
def aNb {l:List (List Xp)} (hw:lsW (lsW xpW) l≤WL):∀ x∈l,lsW xpW x≤WL:=fun x hx=>by have:=bQ (w:=lsW xpW) hx;omega
def aUF (s:Sm) (hw:smW s≤WL) (K:An→Prop):bp Tryz.prog pr 118 [.of (.agg [ci 0,aH {data:=#[]},aH (aD s.nm),C.sl [] 0,slC bA s.ns,cb s.un,C.sl [] 0,C.sl [] 0,C.sl [] 0,slC (lsC xpC) s.rws,slC asC s.sts,slC xpC s.wh,slC qyC s.q]),.of (.agg [ci 0,aH {data:=#[]},aH {data:=#[]},C.sl [] 0,C.sl [] 0,cb false,C.sl [] 0,C.sl [] 0,C.sl [] 0,C.sl [] 0,C.sl [] 0,C.sl [] 0,C.sl [] 0])] [] K↔K ⟨false,[aG (decide (s.nm=[])&&decide (s.ns=[])&&!s.un&&decide (s.rws.length=0)&&decide (s.sts.length=0)&&decide (s.wh.length=0)&&decide (s.q.length=0))],[]⟩:=by
 have h:=acv (.mk 0 [] s.nm [] s.ns s.un [] [] [] s.rws s.sts s.wh s.q) (.mk 0 [] [] [] [] false [] [] [] [] [] [] []) (by simp only[smW,eN,WL,cV,lsW,bC,cU,ce] at hw ⊢;omega)
 have e4:smC (.mk 0 [] s.nm [] s.ns s.un [] [] [] s.rws s.sts s.wh s.q)=[ci 0,aH {data:=#[]},aH (aD s.nm),C.sl [] 0,slC bA s.ns,cb s.un,C.sl [] 0,C.sl [] 0,C.sl [] 0,slC (lsC xpC) s.rws,slC asC s.sts,slC xpC s.wh,slC qyC s.q]:=by rw[iJ];rfl
 have e5:smC (.mk 0 [] [] [] [] false [] [] [] [] [] [] [])=[ci 0,aH {data:=#[]},aH {data:=#[]},C.sl [] 0,C.sl [] 0,cb false,C.sl [] 0,C.sl [] 0,C.sl [] 0,C.sl [] 0,C.sl [] 0,C.sl [] 0,C.sl [] 0]:=by rw[iJ];rfl
 rw[e4,e5] at h
 have e6:∀ i:Decidable (Sm.mk 0 [] s.nm [] s.ns s.un [] [] [] s.rws s.sts s.wh s.q=Sm.mk 0 [] [] [] [] false [] [] [] [] [] [] []),@decide _ i=(decide (s.nm=[])&&decide (s.ns=[])&&!s.un&&decide (s.rws.length=0)&&decide (s.sts.length=0)&&decide (s.wh.length=0)&&decide (s.q.length=0)):=fun i=>by
  rw[ca]
  simp only[ar,ab,cm,aaf,abz,Z4c,cX,gz,abY,jn]
 rw[e6] at h
 exact aN.k h K
def aUE (s:Sm) (hw:smW s≤WL) (K:An→Prop):bp Tryz.prog pr 118 [.of (.agg [ci 0,aH {data:=#[]},aH {data:=#[]},slC cdC s.cs,C.sl [] 0,cb false,slC kdC s.kys,slC rdC s.rfs,slC xpC s.chs,slC (lsC xpC) s.rws,slC asC s.sts,slC xpC s.wh,slC qyC s.q]),.of (.agg [ci 0,aH {data:=#[]},aH {data:=#[]},C.sl [] 0,C.sl [] 0,cb false,C.sl [] 0,C.sl [] 0,C.sl [] 0,C.sl [] 0,C.sl [] 0,C.sl [] 0,C.sl [] 0])] [] K↔K ⟨false,[aG (decide (s.cs.length=0)&&decide (s.kys.length=0)&&decide (s.rfs.length=0)&&decide (s.chs.length=0)&&decide (s.rws.length=0)&&decide (s.sts.length=0)&&decide (s.wh.length=0)&&decide (s.q.length=0))],[]⟩:=by
 have h:=acv (.mk 0 [] [] s.cs [] false s.kys s.rfs s.chs s.rws s.sts s.wh s.q) (.mk 0 [] [] [] [] false [] [] [] [] [] [] []) (by simp only[smW,eN,WL,cV,lsW,bC,cU,ce] at hw ⊢;omega)
 have e4:smC (.mk 0 [] [] s.cs [] false s.kys s.rfs s.chs s.rws s.sts s.wh s.q)=[ci 0,aH {data:=#[]},aH {data:=#[]},slC cdC s.cs,C.sl [] 0,cb false,slC kdC s.kys,slC rdC s.rfs,slC xpC s.chs,slC (lsC xpC) s.rws,slC asC s.sts,slC xpC s.wh,slC qyC s.q]:=by rw[iJ];rfl
 have e5:smC (.mk 0 [] [] [] [] false [] [] [] [] [] [] [])=[ci 0,aH {data:=#[]},aH {data:=#[]},C.sl [] 0,C.sl [] 0,cb false,C.sl [] 0,C.sl [] 0,C.sl [] 0,C.sl [] 0,C.sl [] 0,C.sl [] 0,C.sl [] 0]:=by rw[iJ];rfl
 rw[e4,e5] at h
 have e6:∀ i:Decidable (Sm.mk 0 [] [] s.cs [] false s.kys s.rfs s.chs s.rws s.sts s.wh s.q=Sm.mk 0 [] [] [] [] false [] [] [] [] [] [] []),@decide _ i=(decide (s.cs.length=0)&&decide (s.kys.length=0)&&decide (s.rfs.length=0)&&decide (s.chs.length=0)&&decide (s.rws.length=0)&&decide (s.sts.length=0)&&decide (s.wh.length=0)&&decide (s.q.length=0)):=fun i=>by
  rw[ca]
  simp only[ar,ab,cm,aaf,abz,Z4c,cX,gz,abY,jn]
 rw[e6] at h
 exact aN.k h K
def aUD (s:Sm) (hw:smW s≤WL) (K:An→Prop):bp Tryz.prog pr 118 [.of (.agg [ci 0,aH {data:=#[]},aH {data:=#[]},slC cdC s.cs,slC bA s.ns,cb s.un,slC kdC s.kys,slC rdC s.rfs,slC xpC s.chs,slC (lsC xpC) s.rws,slC asC s.sts,slC xpC s.wh,slC qyC s.q]),.of (.agg [ci 0,aH {data:=#[]},aH {data:=#[]},C.sl [] 0,C.sl [] 0,cb false,C.sl [] 0,C.sl [] 0,C.sl [] 0,C.sl [] 0,C.sl [] 0,C.sl [] 0,C.sl [] 0])] [] K↔K ⟨false,[aG (decide (s.cs.length=0)&&decide (s.ns.length=0)&&!s.un&&decide (s.kys.length=0)&&decide (s.rfs.length=0)&&decide (s.chs.length=0)&&decide (s.rws.length=0)&&decide (s.sts.length=0)&&decide (s.wh.length=0)&&decide (s.q.length=0))],[]⟩:=by
 have h:=acv (.mk 0 [] [] s.cs s.ns s.un s.kys s.rfs s.chs s.rws s.sts s.wh s.q) (.mk 0 [] [] [] [] false [] [] [] [] [] [] []) (by simp only[smW,eN,WL,cV,lsW,bC,cU,ce] at hw ⊢;omega)
 have e4:smC (.mk 0 [] [] s.cs s.ns s.un s.kys s.rfs s.chs s.rws s.sts s.wh s.q)=[ci 0,aH {data:=#[]},aH {data:=#[]},slC cdC s.cs,slC bA s.ns,cb s.un,slC kdC s.kys,slC rdC s.rfs,slC xpC s.chs,slC (lsC xpC) s.rws,slC asC s.sts,slC xpC s.wh,slC qyC s.q]:=by rw[iJ];rfl
 have e5:smC (.mk 0 [] [] [] [] false [] [] [] [] [] [] [])=[ci 0,aH {data:=#[]},aH {data:=#[]},C.sl [] 0,C.sl [] 0,cb false,C.sl [] 0,C.sl [] 0,C.sl [] 0,C.sl [] 0,C.sl [] 0,C.sl [] 0,C.sl [] 0]:=by rw[iJ];rfl
 rw[e4,e5] at h
 have e6:∀ i:Decidable (Sm.mk 0 [] [] s.cs s.ns s.un s.kys s.rfs s.chs s.rws s.sts s.wh s.q=Sm.mk 0 [] [] [] [] false [] [] [] [] [] [] []),@decide _ i=(decide (s.cs.length=0)&&decide (s.ns.length=0)&&!s.un&&decide (s.kys.length=0)&&decide (s.rfs.length=0)&&decide (s.chs.length=0)&&decide (s.rws.length=0)&&decide (s.sts.length=0)&&decide (s.wh.length=0)&&decide (s.q.length=0)):=fun i=>by
  rw[ca]
  simp only[ar,ab,cm,aaf,abz,Z4c,cX,gz,abY,jn]
 rw[e6] at h
 exact aN.k h K
def aUC (s:Sm) (hw:smW s≤WL) (K:An→Prop):bp Tryz.prog pr 118 [.of (.agg [ci 0,aH {data:=#[]},aH (aD s.nm),slC cdC s.cs,C.sl [] 0,cb s.un,slC kdC s.kys,slC rdC s.rfs,slC xpC s.chs,C.sl [] 0,slC asC s.sts,slC xpC s.wh,C.sl [] 0]),.of (.agg [ci 0,aH {data:=#[]},aH {data:=#[]},C.sl [] 0,C.sl [] 0,cb false,C.sl [] 0,C.sl [] 0,C.sl [] 0,C.sl [] 0,C.sl [] 0,C.sl [] 0,C.sl [] 0])] [] K↔K ⟨false,[aG (decide (s.nm=[])&&decide (s.cs.length=0)&&!s.un&&decide (s.kys.length=0)&&decide (s.rfs.length=0)&&decide (s.chs.length=0)&&decide (s.sts.length=0)&&decide (s.wh.length=0))],[]⟩:=by
 have h:=acv (.mk 0 [] s.nm s.cs [] s.un s.kys s.rfs s.chs [] s.sts s.wh []) (.mk 0 [] [] [] [] false [] [] [] [] [] [] []) (by simp only[smW,eN,WL,cV,lsW,bC,cU,ce] at hw ⊢;omega)
 have e4:smC (.mk 0 [] s.nm s.cs [] s.un s.kys s.rfs s.chs [] s.sts s.wh [])=[ci 0,aH {data:=#[]},aH (aD s.nm),slC cdC s.cs,C.sl [] 0,cb s.un,slC kdC s.kys,slC rdC s.rfs,slC xpC s.chs,C.sl [] 0,slC asC s.sts,slC xpC s.wh,C.sl [] 0]:=by rw[iJ];rfl
 have e5:smC (.mk 0 [] [] [] [] false [] [] [] [] [] [] [])=[ci 0,aH {data:=#[]},aH {data:=#[]},C.sl [] 0,C.sl [] 0,cb false,C.sl [] 0,C.sl [] 0,C.sl [] 0,C.sl [] 0,C.sl [] 0,C.sl [] 0,C.sl [] 0]:=by rw[iJ];rfl
 rw[e4,e5] at h
 have e6:∀ i:Decidable (Sm.mk 0 [] s.nm s.cs [] s.un s.kys s.rfs s.chs [] s.sts s.wh []=Sm.mk 0 [] [] [] [] false [] [] [] [] [] [] []),@decide _ i=(decide (s.nm=[])&&decide (s.cs.length=0)&&!s.un&&decide (s.kys.length=0)&&decide (s.rfs.length=0)&&decide (s.chs.length=0)&&decide (s.sts.length=0)&&decide (s.wh.length=0)):=fun i=>by
  rw[ca]
  simp only[ar,ab,cm,aaf,abz,Z4c,cX,gz,abY,jn]
 rw[e6] at h
 exact aN.k h K
def aUB (s:Sm) (hw:smW s≤WL) (K:An→Prop):bp Tryz.prog pr 118 [.of (.agg [ci 0,aH {data:=#[]},aH (aD s.nm),slC cdC s.cs,slC bA s.ns,cb s.un,slC kdC s.kys,slC rdC s.rfs,slC xpC s.chs,slC (lsC xpC) s.rws,C.sl [] 0,C.sl [] 0,slC qyC s.q]),.of (.agg [ci 0,aH {data:=#[]},aH {data:=#[]},C.sl [] 0,C.sl [] 0,cb false,C.sl [] 0,C.sl [] 0,C.sl [] 0,C.sl [] 0,C.sl [] 0,C.sl [] 0,C.sl [] 0])] [] K↔K ⟨false,[aG (decide (s.nm=[])&&decide (s.cs.length=0)&&decide (s.ns.length=0)&&!s.un&&decide (s.kys.length=0)&&decide (s.rfs.length=0)&&decide (s.chs.length=0)&&decide (s.rws.length=0)&&decide (s.q.length=0))],[]⟩:=by
 have h:=acv (.mk 0 [] s.nm s.cs s.ns s.un s.kys s.rfs s.chs s.rws [] [] s.q) (.mk 0 [] [] [] [] false [] [] [] [] [] [] []) (by simp only[smW,eN,WL,cV,lsW,bC,cU,ce] at hw ⊢;omega)
 have e4:smC (.mk 0 [] s.nm s.cs s.ns s.un s.kys s.rfs s.chs s.rws [] [] s.q)=[ci 0,aH {data:=#[]},aH (aD s.nm),slC cdC s.cs,slC bA s.ns,cb s.un,slC kdC s.kys,slC rdC s.rfs,slC xpC s.chs,slC (lsC xpC) s.rws,C.sl [] 0,C.sl [] 0,slC qyC s.q]:=by rw[iJ];rfl
 have e5:smC (.mk 0 [] [] [] [] false [] [] [] [] [] [] [])=[ci 0,aH {data:=#[]},aH {data:=#[]},C.sl [] 0,C.sl [] 0,cb false,C.sl [] 0,C.sl [] 0,C.sl [] 0,C.sl [] 0,C.sl [] 0,C.sl [] 0,C.sl [] 0]:=by rw[iJ];rfl
 rw[e4,e5] at h
 have e6:∀ i:Decidable (Sm.mk 0 [] s.nm s.cs s.ns s.un s.kys s.rfs s.chs s.rws [] [] s.q=Sm.mk 0 [] [] [] [] false [] [] [] [] [] [] []),@decide _ i=(decide (s.nm=[])&&decide (s.cs.length=0)&&decide (s.ns.length=0)&&!s.un&&decide (s.kys.length=0)&&decide (s.rfs.length=0)&&decide (s.chs.length=0)&&decide (s.rws.length=0)&&decide (s.q.length=0)):=fun i=>by
  rw[ca]
  simp only[ar,ab,cm,aaf,abz,Z4c,cX,gz,abY,jn]
 rw[e6] at h
 exact aN.k h K
def aUA (s:Sm) (hw:smW s≤WL) (K:An→Prop):bp Tryz.prog pr 118 [.of (.agg [ci 0,aH {data:=#[]},aH (aD s.nm),slC cdC s.cs,slC bA s.ns,cb s.un,slC kdC s.kys,slC rdC s.rfs,slC xpC s.chs,slC (lsC xpC) s.rws,slC asC s.sts,C.sl [] 0,slC qyC s.q]),.of (.agg [ci 0,aH {data:=#[]},aH {data:=#[]},C.sl [] 0,C.sl [] 0,cb false,C.sl [] 0,C.sl [] 0,C.sl [] 0,C.sl [] 0,C.sl [] 0,C.sl [] 0,C.sl [] 0])] [] K↔K ⟨false,[aG (decide (s.nm=[])&&decide (s.cs.length=0)&&decide (s.ns.length=0)&&!s.un&&decide (s.kys.length=0)&&decide (s.rfs.length=0)&&decide (s.chs.length=0)&&decide (s.rws.length=0)&&decide (s.sts.length=0)&&decide (s.q.length=0))],[]⟩:=by
 have h:=acv (.mk 0 [] s.nm s.cs s.ns s.un s.kys s.rfs s.chs s.rws s.sts [] s.q) (.mk 0 [] [] [] [] false [] [] [] [] [] [] []) (by simp only[smW,eN,WL,cV,lsW,bC,cU,ce] at hw ⊢;omega)
 have e4:smC (.mk 0 [] s.nm s.cs s.ns s.un s.kys s.rfs s.chs s.rws s.sts [] s.q)=[ci 0,aH {data:=#[]},aH (aD s.nm),slC cdC s.cs,slC bA s.ns,cb s.un,slC kdC s.kys,slC rdC s.rfs,slC xpC s.chs,slC (lsC xpC) s.rws,slC asC s.sts,C.sl [] 0,slC qyC s.q]:=by rw[iJ];rfl
 have e5:smC (.mk 0 [] [] [] [] false [] [] [] [] [] [] [])=[ci 0,aH {data:=#[]},aH {data:=#[]},C.sl [] 0,C.sl [] 0,cb false,C.sl [] 0,C.sl [] 0,C.sl [] 0,C.sl [] 0,C.sl [] 0,C.sl [] 0,C.sl [] 0]:=by rw[iJ];rfl
 rw[e4,e5] at h
 have e6:∀ i:Decidable (Sm.mk 0 [] s.nm s.cs s.ns s.un s.kys s.rfs s.chs s.rws s.sts [] s.q=Sm.mk 0 [] [] [] [] false [] [] [] [] [] [] []),@decide _ i=(decide (s.nm=[])&&decide (s.cs.length=0)&&decide (s.ns.length=0)&&!s.un&&decide (s.kys.length=0)&&decide (s.rfs.length=0)&&decide (s.chs.length=0)&&decide (s.rws.length=0)&&decide (s.sts.length=0)&&decide (s.q.length=0)):=fun i=>by
  rw[ca]
  simp only[ar,ab,cm,aaf,abz,Z4c,cX,gz,abY,jn]
 rw[e6] at h
 exact aN.k h K
def aFK (s:Sm) (hw:smW s≤WL) (K:An→Prop):bp Tryz.prog pr 118 [.of (.agg [ci 0,aH {data:=#[]},aH (aD s.nm),slC cdC s.cs,slC bA s.ns,cb s.un,slC kdC s.kys,slC rdC s.rfs,slC xpC s.chs,slC (lsC xpC) s.rws,slC asC s.sts,slC xpC s.wh,C.sl [] 0]),.of (.agg [ci 0,aH {data:=#[]},aH {data:=#[]},C.sl [] 0,C.sl [] 0,cb false,C.sl [] 0,C.sl [] 0,C.sl [] 0,C.sl [] 0,C.sl [] 0,C.sl [] 0,C.sl [] 0])] [] K↔K ⟨false,[aG (decide (s.nm=[])&&decide (s.cs.length=0)&&decide (s.ns.length=0)&&!s.un&&decide (s.kys.length=0)&&decide (s.rfs.length=0)&&decide (s.chs.length=0)&&decide (s.rws.length=0)&&decide (s.sts.length=0)&&decide (s.wh.length=0))],[]⟩:=by
 have h:=acv (.mk 0 [] s.nm s.cs s.ns s.un s.kys s.rfs s.chs s.rws s.sts s.wh []) (.mk 0 [] [] [] [] false [] [] [] [] [] [] []) (by simp only[smW,eN,WL,cV,lsW,bC,cU,ce] at hw ⊢;omega)
 have e4:smC (.mk 0 [] s.nm s.cs s.ns s.un s.kys s.rfs s.chs s.rws s.sts s.wh [])=[ci 0,aH {data:=#[]},aH (aD s.nm),slC cdC s.cs,slC bA s.ns,cb s.un,slC kdC s.kys,slC rdC s.rfs,slC xpC s.chs,slC (lsC xpC) s.rws,slC asC s.sts,slC xpC s.wh,C.sl [] 0]:=by rw[iJ];rfl
 have e5:smC (.mk 0 [] [] [] [] false [] [] [] [] [] [] [])=[ci 0,aH {data:=#[]},aH {data:=#[]},C.sl [] 0,C.sl [] 0,cb false,C.sl [] 0,C.sl [] 0,C.sl [] 0,C.sl [] 0,C.sl [] 0,C.sl [] 0,C.sl [] 0]:=by rw[iJ];rfl
 rw[e4,e5] at h
 have e6:∀ i:Decidable (Sm.mk 0 [] s.nm s.cs s.ns s.un s.kys s.rfs s.chs s.rws s.sts s.wh []=Sm.mk 0 [] [] [] [] false [] [] [] [] [] [] []),@decide _ i=(decide (s.nm=[])&&decide (s.cs.length=0)&&decide (s.ns.length=0)&&!s.un&&decide (s.kys.length=0)&&decide (s.rfs.length=0)&&decide (s.chs.length=0)&&decide (s.rws.length=0)&&decide (s.sts.length=0)&&decide (s.wh.length=0)):=fun i=>by
  rw[ca]
  simp only[ar,ab,cm,aaf,abz,Z4c,cX,gz,abY,jn]
 rw[e6] at h
 exact aN.k h K
def ajI (s:Sm) (hw:smW s≤WL) (K:An→Prop):bp Tryz.prog pr 118 [.of (.agg [ci 0,aH {data:=#[]},aH (aD s.nm),slC cdC s.cs,slC bA s.ns,cb s.un,slC kdC s.kys,slC rdC s.rfs,slC xpC s.chs,slC (lsC xpC) s.rws,slC asC s.sts,slC xpC s.wh,slC qyC s.q]),.of (.agg [ci 0,aH {data:=#[]},aH {data:=#[]},C.sl [] 0,C.sl [] 0,cb false,C.sl [] 0,C.sl [] 0,C.sl [] 0,C.sl [] 0,C.sl [] 0,C.sl [] 0,C.sl [] 0])] [] K↔K ⟨false,[aG (decide (s.nm=[])&&decide (s.cs.length=0)&&decide (s.ns.length=0)&&!s.un&&decide (s.kys.length=0)&&decide (s.rfs.length=0)&&decide (s.chs.length=0)&&decide (s.rws.length=0)&&decide (s.sts.length=0)&&decide (s.wh.length=0)&&decide (s.q.length=0))],[]⟩:=by
 have h:=acv (.mk 0 [] s.nm s.cs s.ns s.un s.kys s.rfs s.chs s.rws s.sts s.wh s.q) (.mk 0 [] [] [] [] false [] [] [] [] [] [] []) (by simp only[smW,eN,WL,cV,lsW,bC,cU,ce] at hw ⊢;omega)
 have e4:smC (.mk 0 [] s.nm s.cs s.ns s.un s.kys s.rfs s.chs s.rws s.sts s.wh s.q)=[ci 0,aH {data:=#[]},aH (aD s.nm),slC cdC s.cs,slC bA s.ns,cb s.un,slC kdC s.kys,slC rdC s.rfs,slC xpC s.chs,slC (lsC xpC) s.rws,slC asC s.sts,slC xpC s.wh,slC qyC s.q]:=by rw[iJ];rfl
 have e5:smC (.mk 0 [] [] [] [] false [] [] [] [] [] [] [])=[ci 0,aH {data:=#[]},aH {data:=#[]},C.sl [] 0,C.sl [] 0,cb false,C.sl [] 0,C.sl [] 0,C.sl [] 0,C.sl [] 0,C.sl [] 0,C.sl [] 0,C.sl [] 0]:=by rw[iJ];rfl
 rw[e4,e5] at h
 have e6:∀ i:Decidable (Sm.mk 0 [] s.nm s.cs s.ns s.un s.kys s.rfs s.chs s.rws s.sts s.wh s.q=Sm.mk 0 [] [] [] [] false [] [] [] [] [] [] []),@decide _ i=(decide (s.nm=[])&&decide (s.cs.length=0)&&decide (s.ns.length=0)&&!s.un&&decide (s.kys.length=0)&&decide (s.rfs.length=0)&&decide (s.chs.length=0)&&decide (s.rws.length=0)&&decide (s.sts.length=0)&&decide (s.wh.length=0)&&decide (s.q.length=0)):=fun i=>by
  rw[ca]
  simp only[ar,ab,cm,aaf,abz,Z4c,cX,gz,abY,jn]
 rw[e6] at h
 exact aN.k h K
def zCd (l:List Cd) (h:l.length≤4611686018427387903) (a b:Int) (K:An→Prop):bp Tryz.prog pr 104 [.of (slC cdC l),.of (ci a),.of (ci b),.of (.fn 105 [])] [] K↔K ⟨false,[aG (bu l a b abu)],[]⟩:=awG l a b abu _ [] ⟨h,aGS,aBC,fun x _=>aL1 x⟩ K
def zKd (l:List Kd) (hw:lsW kdW l≤WL) (a b:Int) (K:An→Prop):bp Tryz.prog pr 106 [.of (slC kdC l),.of (ci a),.of (ci b),.of (.fn 107 [])] [] K↔K ⟨false,[aG (bu l a b afX)],[]⟩:=by
 have h1:=da kdW l fun x _=>by simp[kdW]
 refine awF l a b afX _ [] ⟨by simp only[WL] at hw;omega,aGR,aBB,fun x hx=>aLn x ?_⟩ K
 have h2:=bQ (w:=kdW) hx
 have h3:=da cV x.ns fun x _=>by simp[cV]
 simp only[WL,kdW] at *
 omega
def zRd (l:List Rd) (hw:lsW rdW l≤WL) (a b:Int) (K:An→Prop):bp Tryz.prog pr 108 [.of (slC rdC l),.of (ci a),.of (ci b),.of (.fn 109 [])] [] K↔K ⟨false,[aG (bu l a b acm)],[]⟩:=by
 have h1:=da rdW l fun x _=>by simp[rdW]
 refine awE l a b acm _ [] ⟨by simp only[WL] at hw;omega,aGQ,aBA,fun x hx=>aCA x ?_⟩ K
 have h2:=bQ (w:=rdW) hx
 have h3:=da cV x.ns fun x _=>by simp[cV]
 have h4:=da cV x.to fun x _=>by simp[cV]
 simp only[WL,rdW] at *
 omega
def zR (l:List (List Xp)) (g:lsP (lsP fh) l) (hw:lsW (lsW xpW) l≤WL) (a b:Int) (K:An→Prop):bp Tryz.prog pr 113 [.of (slC (lsC xpC) l),.of (ci a),.of (ci b),.of (.fn 114 [])] [] K↔K ⟨false,[aG (bu l a b fun r=>bu r 1 16 cW)],[]⟩:=by
 have h1:=da (lsW xpW) l fun x _=>by simp[lsW]
 exact atQ l a b _ _ [] ⟨by simp only[WL] at hw;omega,aGP,aBz,fun x hx=>aKD x (awr x (g x hx) (aNb hw x hx)) (aNb hw x hx)⟩ K
def aMT:=ai (ai (ai @zq (ai @a3P @afv)) (ai @aeg (ai @ahi @afC))) (ai (ai @cR (ai @abO @Q9)) (ai @zT0 (ai @aAo (ba aPK))))
def axM (a:As) (g:fh a.e) (hw:asW a≤WL):G1 116 [.of (.agg (asC a))] (aG (aca a)):=by
 have k1:=fun K=>aN.k ((ajO WL (aM _)).1 a.e g (by simp only[asW] at hw;omega)) K
 refine ah rfl aPK aAo rfl ?_
 cases c:bk a.nm
 .simp -implicitDefEqProofs(maxSteps:=9^9)only[Tryz.f116,↓zA,sevalprocAttr,aMT,fm,c,aca]
 .simp -implicitDefEqProofs(maxSteps:=9^9)only[Tryz.f116,↓zA,sevalprocAttr,aMT,fm,c,k1,aca]
def zAs (l:List As) (g:lsP aFd l) (hw:lsW asW l≤WL) (a b:Int) (K:An→Prop):bp Tryz.prog pr 115 [.of (slC asC l),.of (ci a),.of (ci b),.of (.fn 116 [])] [] K↔K ⟨false,[aG (bu l a b aca)],[]⟩:=by
 have h1:=da asW l fun x _=>by simp[asW]
 exact awH l a b aca _ [] ⟨by simp only[WL] at hw;omega,aGO,aBy,fun x hx=>axM x (g x hx).2 (by have:=bQ (w:=asW) hx;omega)⟩ K
def smE (s:Sm):((dD s.cs.length 1 16&&s.cs.all abu)=bu s.cs 1 16 abu)∧((dD s.kys.length 0 64&&s.kys.all afX)=bu s.kys 0 64 afX)∧((dD s.rfs.length 0 64&&s.rfs.all acm)=bu s.rfs 0 64 acm)∧((dD s.chs.length 0 64&&s.chs.all cW)=bu s.chs 0 64 cW)∧((dD s.q.length 1 1&&s.q.all d7)=bu s.q 1 1 d7)∧((dD s.rws.length 1 64&&s.rws.all fun l=>dD l.length 1 16&&l.all cW)=bu s.rws 1 64 (fun r=>bu r 1 16 cW))∧((dD s.sts.length 1 16&&s.sts.all aca)=bu s.sts 1 16 aca)∧((dD s.wh.length 0 1&&s.wh.all cW)=bu s.wh 0 1 cW)∧((dD s.ns.length 1 16&&s.ns.all bk)=bu s.ns 1 16 bk)∧((dD s.ns.length 0 16&&s.ns.all bk)=bu s.ns 0 16 bk):=by
 refine⟨(fY s.cs 1 16 abu).symm,(fY s.kys 0 64 afX).symm,(fY s.rfs 0 64 acm).symm,(fY s.chs 0 64 cW).symm,(fY s.q 1 1 d7).symm,?_,(fY s.sts 1 16 aca).symm,(fY s.wh 0 1 cW).symm,(fY s.ns 1 16 bk).symm,(fY s.ns 0 16 bk).symm⟩
 rw[show bu s.rws 1 64 (fun r=>bu r 1 16 cW)=_ from fY s.rws 1 64 _]
 congr 2
 funext r
 exact (fY r 1 16 cW).symm
def smB (s:Sm) (hw:smW s≤WL):(s.ns.length≤4611686018427387903∧s.cs.length≤4611686018427387903)∧lsW kdW s.kys≤WL∧lsW rdW s.rfs≤WL∧lsW xpW s.chs≤WL∧lsW (lsW xpW) s.rws≤WL∧lsW asW s.sts≤WL∧lsW xpW s.wh≤WL∧lsW qyW s.q≤WL:=by
 simp only[WL,smW] at *
 have n1:=da cdW s.cs fun x _=>by simp[cdW]
 have n2:=da cV s.ns fun x _=>by simp[cV]
 omega
def smF (s:Sm) (g:aby s) (hw:smW s≤WL):=ai (smE s) (ai (smB s hw).1.1 (ai (zCd s.cs (smB s hw).1.2) (ai (zKd s.kys (smB s hw).2.1) (ai (zRd s.rfs (smB s hw).2.2.1) (ai (zX (awr s.chs g.2.2.2.2.2.2.2.2.1 (smB s hw).2.2.2.1) (smB s hw).2.2.2.1) (ai (zR s.rws g.2.2.2.2.2.2.2.2.2.1 (smB s hw).2.2.2.2.1) (ai (zAs s.sts g.2.2.2.2.2.2.2.2.2.2.1 (smB s hw).2.2.2.2.2.1) (ai (aCP s.wh (awr s.wh g.2.2.2.2.2.2.2.2.2.2.2.1 (smB s hw).2.2.2.2.2.2.1) (smB s hw).2.2.2.2.2.2.1) (zQ (a0A s.q g.2.2.2.2.2.2.2.2.2.2.2.2 (smB s hw).2.2.2.2.2.2.2) (smB s hw).2.2.2.2.2.2.2)))))))))
def zsm:=ai (ai (ai @fm @ajS) (ai @gB @bm)) (ai (ai @e7 @fg) (ai @dl (ai @dw @dq)))
def gh:=ai (ai (ai (ai (ai @zq (ai @a3O @a3N)) (ai @afv (ai @aeg @aWl))) (ai (ai @aTn (ai @aWk @aTm)) (ai (ai @aWj @aTl) (ai @ajR @ail)))) (ai (ai (ai @auQ (ai @aq4 @apm)) (ai (ai @anp @aWi) (ai @aTk @aWh))) (ai (ai @aTj (ai @aGN @aBx)) (ai (ai @aWg @aTi) (ai @aba @eY))))) (ai (ai (ai (ai @aep (ai @adN @aeo)) (ai @cR (ai @abO @ie))) (ai (ai @eI (ai @bO @aGS)) (ai (ai @aBC @aGR) (ai @aBB @aGQ)))) (ai (ai (ai @aBA (ai @ahi @afC)) (ai (ai @am2 @aj6) (ai @aGP @aBz))) (ai (ai @aGO (ai @aBy @Q9)) (ai (ai @Q3 @zT0) (ai @ach (ba afn))))))
def aUw (s:Sm) (g:aby s) (hw:smW s≤WL) (hk:s.kd=1):G1 34 [.of (.agg (smC s))] (aG (d6 s)):=by
 have F:=smF s g hw
 have kS:=aUF s hw
 refine ah rfl afn ach rfl ?_
 cases b0:bk s.tb
 .simp -implicitDefEqProofs(maxSteps:=9^9)only[Tryz.f34,↓zA,sevalprocAttr,gh,d6,hk,b0,df,dV,zsm,F,Int.reduceEq,kS]
 cases b1:bu s.cs 1 16 abu
 .simp -implicitDefEqProofs(maxSteps:=9^9)only[Tryz.f34,↓zA,sevalprocAttr,gh,d6,hk,b0,b1,df,dV,zsm,F,Int.reduceEq,kS]
 cases b2:bu s.kys 0 64 afX
 .simp -implicitDefEqProofs(maxSteps:=9^9)only[Tryz.f34,↓zA,sevalprocAttr,gh,d6,hk,b0,b1,b2,df,dV,zsm,F,Int.reduceEq,kS]
 cases b3:bu s.rfs 0 64 acm
 .simp -implicitDefEqProofs(maxSteps:=9^9)only[Tryz.f34,↓zA,sevalprocAttr,gh,d6,hk,b0,b1,b2,b3,df,dV,zsm,F,Int.reduceEq,kS]
 cases b4:bu s.chs 0 64 cW
 .simp -implicitDefEqProofs(maxSteps:=9^9)only[Tryz.f34,↓zA,sevalprocAttr,gh,d6,hk,b0,b1,b2,b3,b4,df,dV,zsm,F,Int.reduceEq,kS]
 simp -implicitDefEqProofs(maxSteps:=9^9)only[Tryz.f34,↓zA,sevalprocAttr,gh,d6,hk,b0,b1,b2,b3,b4,df,dV,zsm,F,Int.reduceEq,kS]
def aUv (s:Sm) (g:aby s) (hw:smW s≤WL) (hk:s.kd=2):G1 34 [.of (.agg (smC s))] (aG (d6 s)):=by
 have F:=smF s g hw
 have kS:=aUE s hw
 refine ah rfl afn ach rfl ?_
 cases b0:bk s.tb
 .simp -implicitDefEqProofs(maxSteps:=9^9)only[Tryz.f34,↓zA,sevalprocAttr,gh,d6,hk,b0,df,dV,zsm,F,Int.reduceEq,kS]
 cases b1:bk s.nm
 .simp -implicitDefEqProofs(maxSteps:=9^9)only[Tryz.f34,↓zA,sevalprocAttr,gh,d6,hk,b0,b1,df,dV,zsm,F,Int.reduceEq,kS]
 cases b2:bu s.ns 1 16 bk
 .simp -implicitDefEqProofs(maxSteps:=9^9)only[Tryz.f34,↓zA,sevalprocAttr,gh,d6,hk,b0,b1,b2,df,dV,zsm,F,Int.reduceEq,kS]
 simp -implicitDefEqProofs(maxSteps:=9^9)only[Tryz.f34,↓zA,sevalprocAttr,gh,d6,hk,b0,b1,b2,df,dV,zsm,F,Int.reduceEq,kS]
def aUs (s:Sm) (g:aby s) (hw:smW s≤WL) (hk:s.kd=5):G1 34 [.of (.agg (smC s))] (aG (d6 s)):=by
 have F:=smF s g hw
 have kS:=aUB s hw
 refine ah rfl afn ach rfl ?_
 cases b0:bk s.tb
 .simp -implicitDefEqProofs(maxSteps:=9^9)only[Tryz.f34,↓zA,sevalprocAttr,gh,d6,hk,b0,df,dV,zsm,F,Int.reduceEq,kS]
 cases b1:bu s.sts 1 16 aca
 .simp -implicitDefEqProofs(maxSteps:=9^9)only[Tryz.f34,↓zA,sevalprocAttr,gh,d6,hk,b0,b1,df,dV,zsm,F,Int.reduceEq,kS]
 cases b2:bu s.wh 0 1 cW
 .simp -implicitDefEqProofs(maxSteps:=9^9)only[Tryz.f34,↓zA,sevalprocAttr,gh,d6,hk,b0,b1,b2,df,dV,zsm,F,Int.reduceEq,kS]
 simp -implicitDefEqProofs(maxSteps:=9^9)only[Tryz.f34,↓zA,sevalprocAttr,gh,d6,hk,b0,b1,b2,df,dV,zsm,F,Int.reduceEq,kS]
def aUr (s:Sm) (g:aby s) (hw:smW s≤WL) (hk:s.kd=6):G1 34 [.of (.agg (smC s))] (aG (d6 s)):=by
 have F:=smF s g hw
 have kS:=aUA s hw
 refine ah rfl afn ach rfl ?_
 cases b0:bk s.tb
 .simp -implicitDefEqProofs(maxSteps:=9^9)only[Tryz.f34,↓zA,sevalprocAttr,gh,d6,hk,b0,df,dV,zsm,F,Int.reduceEq,kS]
 cases b1:bu s.wh 0 1 cW
 .simp -implicitDefEqProofs(maxSteps:=9^9)only[Tryz.f34,↓zA,sevalprocAttr,gh,d6,hk,b0,b1,df,dV,zsm,F,Int.reduceEq,kS]
 simp -implicitDefEqProofs(maxSteps:=9^9)only[Tryz.f34,↓zA,sevalprocAttr,gh,d6,hk,b0,b1,df,dV,zsm,F,Int.reduceEq,kS]
def aUq (s:Sm) (g:aby s) (hw:smW s≤WL) (hk:s.kd=7):G1 34 [.of (.agg (smC s))] (aG (d6 s)):=by
 have F:=smF s g hw
 have kS:=aFK s hw
 refine ah rfl afn ach rfl ?_
 by_cases b0:s.tb=[]
 rotate_left
 .simp -implicitDefEqProofs(maxSteps:=9^9)only[Tryz.f34,↓zA,sevalprocAttr,gh,d6,hk,br,bo,b0,df,dV,zsm,F,Int.reduceEq,kS]
 cases b1:bu s.q 1 1 d7
 .simp -implicitDefEqProofs(maxSteps:=9^9)only[Tryz.f34,↓zA,sevalprocAttr,gh,d6,hk,br,bo,aa b0,b1,df,dV,zsm,F,Int.reduceEq,kS]
 simp -implicitDefEqProofs(maxSteps:=9^9)only[Tryz.f34,↓zA,sevalprocAttr,gh,d6,hk,br,bo,aa b0,b1,df,dV,zsm,F,Int.reduceEq,kS]
def aQw (s:Sm) (g:aby s) (hw:smW s≤WL) (hk:s.kd=11):G1 34 [.of (.agg (smC s))] (aG (d6 s)):=by
 have F:=smF s g hw
 have kS:=aFK s hw
 refine ah rfl afn ach rfl ?_
 by_cases b0:s.tb=[]
 rotate_left
 .simp -implicitDefEqProofs(maxSteps:=9^9)only[Tryz.f34,↓zA,sevalprocAttr,gh,d6,hk,br,bo,b0,df,dV,zsm,F,Int.reduceEq,kS]
 cases b1:bu s.q 1 1 d7
 .simp -implicitDefEqProofs(maxSteps:=9^9)only[Tryz.f34,↓zA,sevalprocAttr,gh,d6,hk,br,bo,aa b0,b1,df,dV,zsm,F,Int.reduceEq,kS]
 simp -implicitDefEqProofs(maxSteps:=9^9)only[Tryz.f34,↓zA,sevalprocAttr,gh,d6,hk,br,bo,aa b0,b1,df,dV,zsm,F,Int.reduceEq,kS]
def aUp (s:Sm) (g:aby s) (hw:smW s≤WL) (hk:s.kd=8):G1 34 [.of (.agg (smC s))] (aG (d6 s)):=by
 have F:=smF s g hw
 have kS:=ajI s hw
 refine ah rfl afn ach rfl ?_
 by_cases b0:s.tb=[]
 rotate_left
 .simp -implicitDefEqProofs(maxSteps:=9^9)only[Tryz.f34,↓zA,sevalprocAttr,gh,d6,hk,br,bo,fd,fz,b0,df,dV,zsm,F,Int.reduceEq,kS]
 simp -implicitDefEqProofs(maxSteps:=9^9)only[Tryz.f34,↓zA,sevalprocAttr,gh,d6,hk,br,bo,fd,fz,aa b0,df,dV,zsm,F,Int.reduceEq,kS]
def aUo (s:Sm) (g:aby s) (hw:smW s≤WL) (hk:s.kd=9):G1 34 [.of (.agg (smC s))] (aG (d6 s)):=by
 have F:=smF s g hw
 have kS:=ajI s hw
 refine ah rfl afn ach rfl ?_
 by_cases b0:s.tb=[]
 rotate_left
 .simp -implicitDefEqProofs(maxSteps:=9^9)only[Tryz.f34,↓zA,sevalprocAttr,gh,d6,hk,br,bo,fd,fz,b0,df,dV,zsm,F,Int.reduceEq,kS]
 simp -implicitDefEqProofs(maxSteps:=9^9)only[Tryz.f34,↓zA,sevalprocAttr,gh,d6,hk,br,bo,fd,fz,aa b0,df,dV,zsm,F,Int.reduceEq,kS]
def aQx (s:Sm) (g:aby s) (hw:smW s≤WL) (hk:s.kd=10):G1 34 [.of (.agg (smC s))] (aG (d6 s)):=by
 have F:=smF s g hw
 have kS:=ajI s hw
 refine ah rfl afn ach rfl ?_
 by_cases b0:s.tb=[]
 rotate_left
 .simp -implicitDefEqProofs(maxSteps:=9^9)only[Tryz.f34,↓zA,sevalprocAttr,gh,d6,hk,br,bo,fd,fz,b0,df,dV,zsm,F,Int.reduceEq,kS]
 simp -implicitDefEqProofs(maxSteps:=9^9)only[Tryz.f34,↓zA,sevalprocAttr,gh,d6,hk,br,bo,fd,fz,aa b0,df,dV,zsm,F,Int.reduceEq,kS]
def aQv (s:Sm) (g:aby s) (hw:smW s≤WL) (hk:s.kd=12):G1 34 [.of (.agg (smC s))] (aG (d6 s)):=by
 have F:=smF s g hw
 have kS:=ajI s hw
 refine ah rfl afn ach rfl ?_
 by_cases b0:s.tb=[]
 rotate_left
 .simp -implicitDefEqProofs(maxSteps:=9^9)only[Tryz.f34,↓zA,sevalprocAttr,gh,d6,hk,br,bo,fd,fz,b0,df,dV,zsm,F,Int.reduceEq,kS]
 simp -implicitDefEqProofs(maxSteps:=9^9)only[Tryz.f34,↓zA,sevalprocAttr,gh,d6,hk,br,bo,fd,fz,aa b0,df,dV,zsm,F,Int.reduceEq,kS]
def aQu (s:Sm) (g:aby s) (hw:smW s≤WL) (hk:s.kd=13):G1 34 [.of (.agg (smC s))] (aG (d6 s)):=by
 have F:=smF s g hw
 have kS:=ajI s hw
 refine ah rfl afn ach rfl ?_
 by_cases b0:s.tb=[]
 rotate_left
 .simp -implicitDefEqProofs(maxSteps:=9^9)only[Tryz.f34,↓zA,sevalprocAttr,gh,d6,hk,br,bo,fd,fz,b0,df,dV,zsm,F,Int.reduceEq,kS]
 simp -implicitDefEqProofs(maxSteps:=9^9)only[Tryz.f34,↓zA,sevalprocAttr,gh,d6,hk,br,bo,fd,fz,aa b0,df,dV,zsm,F,Int.reduceEq,kS]
def aQt (s:Sm) (g:aby s) (hw:smW s≤WL) (hk:s.kd=14):G1 34 [.of (.agg (smC s))] (aG (d6 s)):=by
 have F:=smF s g hw
 have kS:=ajI s hw
 refine ah rfl afn ach rfl ?_
 by_cases b0:s.tb=[]
 rotate_left
 .simp -implicitDefEqProofs(maxSteps:=9^9)only[Tryz.f34,↓zA,sevalprocAttr,gh,d6,hk,br,bo,fd,fz,b0,df,dV,zsm,F,Int.reduceEq,kS]
 simp -implicitDefEqProofs(maxSteps:=9^9)only[Tryz.f34,↓zA,sevalprocAttr,gh,d6,hk,br,bo,fd,fz,aa b0,df,dV,zsm,F,Int.reduceEq,kS]
def aUu (s:Sm) (g:aby s) (hw:smW s≤WL) (hk:s.kd=3):G1 34 [.of (.agg (smC s))] (aG (d6 s)):=by
 have F:=smF s g hw
 have kS:=aUD s hw
 refine ah rfl afn ach rfl ?_
 cases b0:bk s.tb
 .by_cases b2:s.tb=[]
  .cases b3:bk s.nm
   .simp -implicitDefEqProofs(maxSteps:=9^9)only[Tryz.f34,↓zA,sevalprocAttr,gh,d6,hk,b0,aa b2,b3,df,dV,zsm,F,Int.reduceEq,kS]
   .simp -implicitDefEqProofs(maxSteps:=9^9)only[Tryz.f34,↓zA,sevalprocAttr,gh,d6,hk,b0,aa b2,b3,df,dV,zsm,F,Int.reduceEq,kS]
  .simp -implicitDefEqProofs(maxSteps:=9^9)only[Tryz.f34,↓zA,sevalprocAttr,gh,d6,hk,b0,b2,df,dV,zsm,F,Int.reduceEq,kS]
 .by_cases b1:s.nm=[]
  .simp -implicitDefEqProofs(maxSteps:=9^9)only[Tryz.f34,↓zA,sevalprocAttr,gh,d6,hk,b0,aa b1,df,dV,zsm,F,Int.reduceEq,kS]
  .by_cases b2:s.tb=[]
   .cases b3:bk s.nm
    .simp -implicitDefEqProofs(maxSteps:=9^9)only[Tryz.f34,↓zA,sevalprocAttr,gh,d6,hk,b0,b1,aa b2,b3,df,dV,zsm,F,Int.reduceEq,kS]
    .simp -implicitDefEqProofs(maxSteps:=9^9)only[Tryz.f34,↓zA,sevalprocAttr,gh,d6,hk,b0,b1,aa b2,b3,df,dV,zsm,F,Int.reduceEq,kS]
   .simp -implicitDefEqProofs(maxSteps:=9^9)only[Tryz.f34,↓zA,sevalprocAttr,gh,d6,hk,b0,b1,b2,df,dV,zsm,F,Int.reduceEq,kS]
def aUt (s:Sm) (g:aby s) (hw:smW s≤WL) (hk:s.kd=4):G1 34 [.of (.agg (smC s))] (aG (d6 s)):=by
 have F:=smF s g hw
 have kS:=aUC s hw
 refine ah rfl afn ach rfl ?_
 cases b0:bk s.tb
 .simp -implicitDefEqProofs(maxSteps:=9^9)only[Tryz.f34,↓zA,sevalprocAttr,gh,d6,hk,b0,df,dV,zsm,F,Int.reduceEq,kS]
 cases b1:bu s.ns 0 16 bk
 .simp -implicitDefEqProofs(maxSteps:=9^9)only[Tryz.f34,↓zA,sevalprocAttr,gh,d6,hk,b0,b1,df,dV,zsm,F,Int.reduceEq,kS]
 by_cases b2:s.rws.length=0
 .cases b3:bu s.q 1 1 d7
  .by_cases b4:s.q.length=0
   .cases b5:bu s.rws 1 64 (fun r=>bu r 1 16 cW)
    .simp -implicitDefEqProofs(maxSteps:=9^9)only[Tryz.f34,↓zA,sevalprocAttr,gh,d6,hk,b0,b1,aa b2,b3,aa b4,b5,df,dV,zsm,F,Int.reduceEq,kS]
    .simp -implicitDefEqProofs(maxSteps:=9^9)only[Tryz.f34,↓zA,sevalprocAttr,gh,d6,hk,b0,b1,aa b2,b3,aa b4,b5,df,dV,zsm,F,Int.reduceEq,kS]
   .simp -implicitDefEqProofs(maxSteps:=9^9)only[Tryz.f34,↓zA,sevalprocAttr,gh,d6,hk,b0,b1,aa b2,b3,b4,df,dV,zsm,F,Int.reduceEq,kS]
  .simp -implicitDefEqProofs(maxSteps:=9^9)only[Tryz.f34,↓zA,sevalprocAttr,gh,d6,hk,b0,b1,aa b2,b3,df,dV,zsm,F,Int.reduceEq,kS]
 .by_cases b4:s.q.length=0
  .cases b5:bu s.rws 1 64 (fun r=>bu r 1 16 cW)
   .simp -implicitDefEqProofs(maxSteps:=9^9)only[Tryz.f34,↓zA,sevalprocAttr,gh,d6,hk,b0,b1,b2,aa b4,b5,df,dV,zsm,F,Int.reduceEq,kS]
   .simp -implicitDefEqProofs(maxSteps:=9^9)only[Tryz.f34,↓zA,sevalprocAttr,gh,d6,hk,b0,b1,b2,aa b4,b5,df,dV,zsm,F,Int.reduceEq,kS]
  .simp -implicitDefEqProofs(maxSteps:=9^9)only[Tryz.f34,↓zA,sevalprocAttr,gh,d6,hk,b0,b1,b2,b4,df,dV,zsm,F,Int.reduceEq,kS]
def aQr (s:Sm) (h:∀ k:Int,1≤k→k≤14→¬s.kd=k):G1 34 [.of (.agg (smC s))] (aG (d6 s)):=by
 refine ah rfl afn ach rfl ?_
 simp -implicitDefEqProofs(maxSteps:=9^9)only[Tryz.f34,↓zA,sevalprocAttr,gh,d6,fm,h 1 (by decide) (by decide),h 2 (by decide) (by decide),h 3 (by decide) (by decide),h 4 (by decide) (by decide),h 5 (by decide) (by decide),h 6 (by decide) (by decide),h 7 (by decide) (by decide),h 8 (by decide) (by decide),h 9 (by decide) (by decide),h 10 (by decide) (by decide),h 11 (by decide) (by decide),h 12 (by decide) (by decide),h 13 (by decide) (by decide),h 14 (by decide) (by decide),bm]
def aFC (s:Sm) (g:aby s) (hw:smW s≤WL):G1 34 [.of (.agg (smC s))] (aG (d6 s)):=by
 by_cases h:1≤s.kd∧s.kd≤14
 .have hk:s.kd=1∨s.kd=2∨s.kd=3∨s.kd=4∨s.kd=5∨s.kd=6∨s.kd=7∨s.kd=8∨s.kd=9∨s.kd=10∨s.kd=11∨s.kd=12∨s.kd=13∨s.kd=14:=by omega
  rcases hk with hk|hk|hk|hk|hk|hk|hk|hk|hk|hk|hk|hk|hk|hk
  .exact aUw s g hw hk
  .exact aUv s g hw hk
  .exact aUu s g hw hk
  .exact aUt s g hw hk
  .exact aUs s g hw hk
  .exact aUr s g hw hk
  .exact aUq s g hw hk
  .exact aUp s g hw hk
  .exact aUo s g hw hk
  .exact aQx s g hw hk
  .exact aQw s g hw hk
  .exact aQv s g hw hk
  .exact aQu s g hw hk
  .exact aQt s g hw hk
 .exact aQr s fun k h1 h2 e=>h (by omega)
def aTR:=ai (ai (ai @zq (ai @a3o @a2L)) (ai @aZO (ai @aC3 @av4))) (ai (ai @a2K (ai @aZN @aba)) (ai @zT0 (ai @aIo (ba aYK))))
def aJx (s:Sm) (h:aby s∧smW s≤WL):G1 17 [.of (.agg (smC s))] (aG (abH s)):=by
 have k1:=fun K=>aN.k (ase s h.2) K
 have k2:=fun K=>aN.k (aFC s h.1 h.2) K
 refine ah rfl aYK aIo rfl ?_
 cases c:adb (ahQ s)
 .simp -implicitDefEqProofs(maxSteps:=9^9)only[Tryz.f17,↓zA,sevalprocAttr,aTR,k1,aj1,c,abH]
 .simp -implicitDefEqProofs(maxSteps:=9^9)only[Tryz.f17,↓zA,sevalprocAttr,aTR,k1,k2,aj1,c,abH]
def aJw (s:Sm) (K:An→Prop):bp Tryz.prog pr 17 [.of (.agg (smC s))] [] K↔ifP (aby s∧smW s≤WL) (K ⟨false,[aG (abH s)],[]⟩) (abU Tryz.prog pr 17 [.of (.agg (smC s))] K):=adC (aJx s) K
def aTO:=ai (ai (ai @zq (ai @a3p @am3)) (ai @aj7 (ai @aC3 @av4))) (ai (ai @am2 (ai @aj6 @eY)) (ai @zT0 (ai @aIk (ba aYG))))
def aEO (q:Qy) (h:io q∧qyW q≤WL):G1 23 [.of (.agg (qyC q))] (aG (ab3 q)):=by
 have k1:=fun K=>aN.k ((agS WL (aM _)).2.1 q h.2) K
 have k2:=fun K=>aN.k ((ajO WL (aM _)).2.1 q h.1 h.2) K
 refine ah rfl aYG aIk rfl ?_
 cases c:adb (fR q)
 .simp -implicitDefEqProofs(maxSteps:=9^9)only[Tryz.f23,↓zA,sevalprocAttr,aTO,k1,aj1,c,ab3]
 .simp -implicitDefEqProofs(maxSteps:=9^9)only[Tryz.f23,↓zA,sevalprocAttr,aTO,k1,k2,aj1,c,ab3]
def aBG (e:Qy) (K:An→Prop):bp Tryz.prog pr 23 [.of (.agg (qyC e))] [] K↔ifP (io e∧qyW e≤WL) (K ⟨false,[aG (ab3 e)],[]⟩) (abU Tryz.prog pr 23 [.of (.agg (qyC e))] K):=adC (aEO e) K
def atL (T:List To) (K:An→Prop):bp Tryz.prog pr 19 [.ptr 0 0] [wT cw (some T)] K↔ifP (T≠[]∧T.length≤LIM∧(gC none T).length≤LIM) (K ⟨false,[dy (str (abc T).1),.of (ci (abc T).2)],[wT cw (some T)]⟩) (afP Tryz.prog pr 19 [.ptr 0 0] [wT cw (some T)] K):=aeZ (fun h=>aFm T h.1 h.2.1 h.2.2) K
def aCd:Ob.var 67 [.nil]=wT cw none:=rfl
def zc7:=ai (ai (ai (ai @zq @a6y) (ai @a2T @aZW)) (ai (ai @a6x @a2S) (ai @aZV @a5x))) (ai (ai (ai @aC5 @av6) (ai @aKb @aba)) (ai (ai @T67 @ami) (ai @zT0 (ai @aDv (ba fi7)))))
def aw8 (s:Sm) (h1:aby s∧smW s≤WL) (h2:abH s=true→GW 18 [.of (.agg (smC s))] (smT s)∧smT s≠[]∧(smT s).length≤LIM∧(gC none (smT s)).length≤LIM):aN Tryz.prog pr 7 [.of (.agg (smC s))] [] ⟨false,[dy (str (abe s).1),.of (ci (abe s).2)],[]⟩:=by
 cases hr:abH s with
 | false =>
  have e:abe s=([],1):=by unfold abe;rw[hr];rfl
  rw[e]
  refine ah rfl fi7 aDv rfl ?_
  simp -implicitDefEqProofs(maxSteps:=9^9)only[Tryz.f7,↓zA,sevalprocAttr,zc7,zW,aJw,h1,hr]
  try rfl
 | true =>
  obtain⟨g1,g2,g3,g4⟩:=h2 hr
  have e:abe s=abc (smT s):=by unfold abe;rw[hr];rfl
  have kg:=fun o K=>g1.k o K
  have e2:iH none (smT s)=some (smT s):=by cases hs:smT s with
   | nil=>exact absurd hs g2
   | cons a r=>rfl
  have g5:bi none+(smT s).length≤LIM:=by simp only[bi,aco,ce];omega
  have g6:(smT s≠[]∧(smT s).length≤LIM∧(gC none (smT s)).length≤LIM):=⟨g2,g3,g4⟩
  have g7:(smT s≠[])=True:=aa g2
  rw[e]
  refine ah rfl fi7 aDv rfl ?_
  simp -implicitDefEqProofs(maxSteps:=9^9)only[Tryz.f7,↓zA,sevalprocAttr,zc7,zW,aJw,h1,hr,kg,e2,atL,g3,g4,g5,g6,g7,aCd]
  try rfl
def aTT:=ai (ai (ai (ai @zq @a6C) (ai @a2N @aZQ)) (ai (ai @a6B @aNr) (ai @aJh @aT8))) (ai (ai (ai @aC5 @av6) (ai @aKb @cR)) (ai (ai @T67 @ami) (ai @zT0 (ai @avh (ba aLQ)))))
def aw7 (s:Xp) (h1:fh s∧xpW s≤WL) (h2:ab2 s=true→GW 28 [.of (.agg (xpC s))] (xpT s)∧xpT s≠[]∧(xpT s).length≤LIM∧(gC none (xpT s)).length≤LIM):aN Tryz.prog pr 13 [.of (.agg (xpC s))] [] ⟨false,[dy (str (jC s).1),.of (ci (jC s).2)],[]⟩:=by
 cases hr:ab2 s with
 | false =>
  have e:jC s=([],1):=by unfold jC;rw[hr];rfl
  rw[e]
  refine ah rfl aLQ avh rfl ?_
  simp -implicitDefEqProofs(maxSteps:=9^9)only[Tryz.f13,↓zA,sevalprocAttr,aTT,zW,aJE,h1,hr]
  try rfl
 | true =>
  obtain⟨g1,g2,g3,g4⟩:=h2 hr
  have e:jC s=abc (xpT s):=by unfold jC;rw[hr];rfl
  have kg:=fun o K=>g1.k o K
  have e2:iH none (xpT s)=some (xpT s):=by cases hs:xpT s with
   | nil=>exact absurd hs g2
   | cons a r=>rfl
  have g5:bi none+(xpT s).length≤LIM:=by simp only[bi,aco,ce];omega
  have g6:(xpT s≠[]∧(xpT s).length≤LIM∧(gC none (xpT s)).length≤LIM):=⟨g2,g3,g4⟩
  have g7:(xpT s≠[])=True:=aa g2
  rw[e]
  refine ah rfl aLQ avh rfl ?_
  simp -implicitDefEqProofs(maxSteps:=9^9)only[Tryz.f13,↓zA,sevalprocAttr,aTT,zW,aJE,h1,hr,kg,e2,atL,g3,g4,g5,g6,g7,aCd]
  try rfl
def aTV:=ai (ai (ai (ai @zq @a6A) (ai @a2P @aZS)) (ai (ai @a6z @am5) (ai @aj9 @aqf))) (ai (ai (ai @aC5 @av6) (ai @aKb @eY)) (ai (ai @T67 @ami) (ai @zT0 (ai @avi (ba aLR)))))
def aw9 (s:Qy) (h1:io s∧qyW s≤WL) (h2:ab3 s=true→GW 24 [.of (.agg (qyC s))] (qyT s)∧qyT s≠[]∧(qyT s).length≤LIM∧(gC none (qyT s)).length≤LIM):aN Tryz.prog pr 11 [.of (.agg (qyC s))] [] ⟨false,[dy (str (aaX s).1),.of (ci (aaX s).2)],[]⟩:=by
 cases hr:ab3 s with
 | false =>
  have e:aaX s=([],1):=by unfold aaX;rw[hr];rfl
  rw[e]
  refine ah rfl aLR avi rfl ?_
  simp -implicitDefEqProofs(maxSteps:=9^9)only[Tryz.f11,↓zA,sevalprocAttr,aTV,zW,aBG,h1,hr]
  try rfl
 | true =>
  obtain⟨g1,g2,g3,g4⟩:=h2 hr
  have e:aaX s=abc (qyT s):=by unfold aaX;rw[hr];rfl
  have kg:=fun o K=>g1.k o K
  have e2:iH none (qyT s)=some (qyT s):=by cases hs:qyT s with
   | nil=>exact absurd hs g2
   | cons a r=>rfl
  have g5:bi none+(qyT s).length≤LIM:=by simp only[bi,aco,ce];omega
  have g6:(qyT s≠[]∧(qyT s).length≤LIM∧(gC none (qyT s)).length≤LIM):=⟨g2,g3,g4⟩
  have g7:(qyT s≠[])=True:=aa g2
  rw[e]
  refine ah rfl aLR avi rfl ?_
  simp -implicitDefEqProofs(maxSteps:=9^9)only[Tryz.f11,↓zA,sevalprocAttr,aTV,zW,aBG,h1,hr,kg,e2,atL,g3,g4,g5,g6,g7,aCd]
  try rfl
def aCc {e:Xp} (o:cW e=true) (g:fh e) (h:xpW e≤1048576):WX e:=(alE 1048576 (aM _)).1 e o g h
def aMW {q:Qy} (o:d7 q=true) (g:io q) (h:qyW q≤1048576):WQ q:=(alE 1048576 (aM _)).2.1 q o g h
def ahw {l:List Xp} {a b:Nat} (o:dV l a b=true):l.length≤b∧∀ x∈l,cW x=true:=by
 simp only[dV,dD,ab,ar,bR] at o
 exact⟨o.1.2,o.2⟩
def wxL {l:List Xp} (o:∀ x∈l,cW x=true) (g:lsP fh l) (h:lsW xpW l≤1048576):∀ x∈l,WX x:=fun x hx=>aCc (o x hx) (g x hx) (by have:=bQ (w:=xpW) hx;omega)
def wqL {l:List Qy} (o:∀ x∈l,d7 x=true) (g:lsP io l) (h:lsW qyW l≤1048576):∀ x∈l,WQ x:=fun x hx=>aMW (o x hx) (g x hx) (by have:=bQ (w:=qyW) hx;omega)
def akU {s:List UInt8} (h:bk s=true):s≠[]:=by rintro rfl;cases h
def acw {l:List (List UInt8)} {a b:Nat} (o:df l a b=true):l.length≤b∧∀ x∈l,bk x=true:=by
 simp only[df,dD,ab,ar,bR] at o
 exact⟨o.1.2,o.2⟩
def aF6 {q:List Qy} (h:dD q.length 1 1=true):∃ x,q=[x]:=by
 simp only[dD,ab,ar] at h
 rcases q with _|⟨x,_|⟨y,r⟩⟩
 .simp at h
 .exact⟨x,rfl⟩
 .simp at h
def aWD {c:Prop} [Decidable c] {a b:List To} (h1:c→a≠[]) (h2:¬c→b≠[]):(if c then a else b)≠[]:=by
 split
 .exact h1 (by assumption)
 .exact h2 (by assumption)
def aTW {e:Xp} (o:cW e=true):xpT e≠[]:=by
 have h26:e.op=26∨e.op=27→e.sb≠[]:=by
  intro h hs
  cases e with
  | mk op v tb nm di ks sb =>
   simp only[Xp.op,Xp.sb] at h hs
   subst hs
   rw[cW] at o
   have e1:fw op=some (0,0,1):=by
    unfold fw
    rw[aj (by omega),aE h]
   rw[e1] at o
   simp at o
 have hsub:e.op=26∨e.op=27→ajm (e.sb.map qyP)≠[]:=by
  intro h
  rcases hs:e.sb with _|⟨a,r⟩
  .exact absurd hs (h26 h)
  .simp[ajm,bI]
 rw[aFf]
 unfold opT
 repeat' (refine aWD (fun _=>?_) (fun _=>?_))
 all_goals first|(exact List.cons_ne_nil _ _)|(exact hsub (Or.inl (by assumption)))|(simp[amm];done)
def aFX {q:Qy} (o:d7 q=true):qyT q≠[]:=by
 rw[ao7]
 by_cases h:q.op=1
 .rw[aE h];simp[akH]
 .rw[aj h]
  rw[af9,aj h] at o
  simp only[ab] at o
  have o:=o.2
  split at o
  rotate_left
  .cases o
  simp only[ab] at o
  have hk:=o.1.1
  rw[show bu q.ks 2 2 d7=_ from fY q.ks 2 2 d7] at hk
  simp only[ab,dD,ar] at hk
  rcases hs:q.ks with _|⟨a,_|⟨b,r⟩⟩
  .rw[hs] at hk;simp at hk
  .rw[hs] at hk;simp at hk
  .simp[ahn]
def aUi (s:Sm) (o:d6 s=true) (g:aby s) (h:smW s≤1048576):GW 18 [.of (.agg (smC s))] (smT s)∧smT s≠[]:=by
 obtain⟨_,_,_,_,_,_,_,_,g1,g2,g3,g4,g5⟩:=g
 have hw:smW s=eN s.kd+cV s.tb+cV s.nm+(lsW cdW) s.cs+(lsW cV) s.ns+eN s.un+(lsW kdW) s.kys+(lsW rdW) s.rfs+(lsW xpW) s.chs+(lsW (lsW xpW)) s.rws+(lsW asW) s.sts+(lsW xpW) s.wh+(lsW qyW) s.q+1:=rfl
 unfold d6 at o
 by_cases k1:s.kd=1
 .rw[aE k1] at o
  simp only[ab,dD,ar,bR] at o
  obtain⟨⟨⟨⟨⟨o1,o2⟩,o3⟩,o4⟩,o5⟩,_⟩:=o
  have o5:=ahw o5
  refine⟨aQE s k1 ⟨o1,⟨by omega,fun c hc=>?_⟩,⟨by omega,fun k hk=>?_⟩,⟨by omega,fun r hr=>?_⟩,⟨by omega,wxL o5.2 g1 (by omega)⟩⟩,?_⟩
  .have:=o2.2 c hc
   simp only[abu,ab,ar] at this
   exact⟨this.1.1,this.1.2,this.2⟩
  .have:=acw (o3.2 k hk)
   exact⟨by omega,this.2⟩
  .have:=o4.2 r hr
   simp only[acm,ab] at this
   have a1:=acw this.1.1
   have a2:=acw this.2
   exact⟨⟨by omega,a1.2⟩,this.1.2,by omega,a2.2⟩
  .unfold smT;rw[aE k1];simp
 rw[aj k1] at o
 by_cases k2:s.kd=2
 .rw[aE k2] at o
  simp only[ab] at o
  obtain⟨⟨⟨o1,o2⟩,o3⟩,_⟩:=o
  have o3:=acw o3
  refine⟨aQD s k2 o2 o1 (by omega) o3.2,?_⟩
  unfold smT;rw[aj k1,aE k2];simp
 rw[aj k2] at o
 by_cases k3:s.kd=3
 .rw[aE k3] at o
  simp only[ab,cA,ar] at o
  have hn:smT s≠[]:=by unfold smT;rw[aj k1,aj k2,aE k3];split <;> simp
  rcases o.1 with h|h
  .exact⟨aKs s k3 (akU h.1) h.1,hn⟩
  .exact⟨aKt s k3 h.1 h.2,hn⟩
 rw[aj k3] at o
 by_cases k4:s.kd=4
 .rw[aE k4] at o
  simp only[ab,cA,dD,ar,bR] at o
  obtain⟨⟨⟨o1,o2⟩,o3⟩,_⟩:=o
  have o2:=acw o2
  have hq:s.q.length≤1∧∀ q∈s.q,d7 q=true:=by
   rcases o3 with h|h
   .exact⟨h.1.2.2,h.2⟩
   .have e:s.q=[]:=aJ h.1.1
    rw[e];exact⟨by simp,fun q hq=>by cases hq⟩
  have hr:s.rws.length≤64∧∀ l∈s.rws,dV l 1 16=true:=by
   rcases o3 with h|h
   .have e:s.rws=[]:=aJ h.1.1
    rw[e];exact⟨by simp,fun q hq=>by cases hq⟩
   .exact⟨h.1.2.2,h.2⟩
  refine⟨aQC s k4 ⟨o1,⟨by omega,o2.2⟩,⟨by omega,fun r hx=>?_⟩,⟨by omega,wqL hq.2 g5 (by omega)⟩⟩,?_⟩
  .have a1:=ahw (hr.2 r hx)
   exact⟨by omega,wxL a1.2 (g2 r hx) (by have:=bQ (w:=lsW xpW) hx;omega)⟩
  .unfold smT;rw[aj k1,aj k2,aj k3,aE k4];simp
 rw[aj k4] at o
 by_cases k5:s.kd=5
 .rw[aE k5] at o
  simp only[ab,dD,ar,bR] at o
  obtain⟨⟨⟨o1,o2⟩,o3⟩,_⟩:=o
  have o3:=ahw o3
  refine⟨aQB s k5 o1 (by omega) (wxL o3.2 g4 (by omega)) (by omega) fun a ha=>?_,?_⟩
  .have:=o2.2 a ha
   simp only[aca,ab] at this
   refine⟨this.1,aCc this.2 (g3 a ha).2 ?_⟩
   have h1:=bQ (w:=asW) ha
   have h2:asW a=cV a.nm+xpW a.e+1:=rfl
   omega
  .unfold smT;rw[aj k1,aj k2,aj k3,aj k4,aE k5];simp
 rw[aj k5] at o
 by_cases k6:s.kd=6
 .rw[aE k6] at o
  simp only[ab] at o
  obtain⟨⟨o1,o3⟩,_⟩:=o
  have o3:=ahw o3
  refine⟨aQA s k6 o1 (by omega) (wxL o3.2 g4 (by omega)),?_⟩
  unfold smT;rw[aj k1,aj k2,aj k3,aj k4,aj k5,aE k6];simp
 rw[aj k6] at o
 by_cases k7:s.kd=7∨s.kd=11
 .rw[aE k7] at o
  simp only[ab,bR] at o
  obtain⟨⟨o1,o2⟩,_⟩:=o
  obtain⟨q,hq⟩:=aF6 o1
  have hm:q∈s.q:=by rw[hq];simp
  have wq:=wqL o2 g5 (by omega) q hm
  rcases k7 with k7|k7
  .refine⟨aQz s k7 q hq wq,?_⟩
   unfold smT;rw[aj k1,aj k2,aj k3,aj k4,aj k5,aj k6,aE k7,hq]
   have:=aFX (o2 q hm)
   simpa using this
  .refine⟨aKu s k7 q hq wq,?_⟩
   unfold smT;rw[aj k1,aj k2,aj k3,aj k4,aj k5,aj k6,aj (by omega),aE k7];simp
 rw[aj k7] at o
 by_cases k8:s.kd=8∨s.kd=9∨s.kd=10∨s.kd=12∨s.kd=13∨s.kd=14
 .refine⟨aQy s k8,?_⟩
  unfold smT;rw[aj k1,aj k2,aj k3,aj k4,aj k5,aj k6,aj (by omega),aj (by omega)];simp
 .rw[aj k8] at o;cases o
def ajV {T:List To} {n:Nat} (h:tkW T≤64*n) (hn:n≤1048576):T.length≤LIM∧(gC none T).length≤LIM:=by
 have h1:=aFl T
 have h2:=avo none T
 unfold LIM
 exact⟨by omega,by omega⟩
def prS (s:Sm) (g:aby s) (h:smW s≤1048576):aN Tryz.prog pr 7 [.of (.agg (smC s))] [] ⟨false,[dy (str (abe s).1),.of (ci (abe s).2)],[]⟩:=by
 refine aw8 s ⟨g,by unfold WL;omega⟩ fun hr=>?_
 simp only[abH,ab] at hr
 have a1:=aUi s hr.2 g h
 exact⟨a1.1,a1.2,ajV (aM8 s g) h⟩
def prX (e:Xp) (g:fh e) (h:xpW e≤1048576):aN Tryz.prog pr 13 [.of (.agg (xpC e))] [] ⟨false,[dy (str (jC e).1),.of (ci (jC e).2)],[]⟩:=by
 refine aw7 e ⟨g,by unfold WL;omega⟩ fun hr=>?_
 simp only[ab2,ab] at hr
 have a2:=ajF e g
 unfold TX at a2
 exact⟨aCc hr.2 g h,aTW hr.2,ajV (by omega) h⟩
def prQ (q:Qy) (g:io q) (h:qyW q≤1048576):aN Tryz.prog pr 11 [.of (.agg (qyC q))] [] ⟨false,[dy (str (aaX q).1),.of (ci (aaX q).2)],[]⟩:=by
 refine aw9 q ⟨g,by unfold WL;omega⟩ fun hr=>?_
 simp only[ab3,ab] at hr
 have a2:=atJ q g
 unfold TQ at a2
 exact⟨aMW hr.2 g h,aFX hr.2,ajV (by omega) h⟩
def aFL (tk:Tk):ef tk 7 (Pe.elemOf (TT.of Tryz.prog) 23) (some [(0,[dy ⟨#[98,101,103,105,110]⟩]),(1,[dy ⟨#[99,111,109,109,105,116]⟩]),(2,[dy ⟨#[114,111,108,108,98,97,99,107]⟩]),(3,[dy ⟨#[]⟩]),(4,[dy ⟨#[97,110,97,108,121,122,101]⟩]),(5,[dy ⟨#[118,97,99,117,117,109]⟩]),(6,[dy ⟨#[99,104,101,99,107,112,111,105,110,116]⟩])])=out (.own tk 9 1 (fl bA [[98,101,103,105,110],[99,111,109,109,105,116],[114,111,108,108,98,97,99,107],[],[97,110,97,108,121,122,101],[118,97,99,117,117,109],[99,104,101,99,107,112,111,105,110,116]]) 7):=by rw[E23];kernel_rfl
def ata:List To:=[[98,101,103,105,110],[99,111,109,109,105,116],[114,111,108,108,98,97,99,107],[],[97,110,97,108,121,122,101],[118,97,99,117,117,109],[99,104,101,99,107,112,111,105,110,116]]
def a36 (tk:Tk) (e z:Nat) (i:Int):dL (TT.of Tryz.prog) 23 (.own tk e z (fl bA [[98,101,103,105,110],[99,111,109,109,105,116],[114,111,108,108,98,97,99,107],[],[97,110,97,108,121,122,101],[118,97,99,117,117,109],[99,104,101,99,107,112,111,105,110,116]]) 7) (.of (.lit (.int .i64 i)))=dL (TT.of Tryz.prog) 23 (.of (slC bA ata)) (.of (.lit (.int .i64 i))):=apH tk e z ata 7 rfl i
def aTF:=ai (ai (ai @zq (ai @a5S @ahj)) (ai (ai @afD @auP) (ai @aq3 @aba))) (ai (ai @bO (ai @P4 @Q4)) (ai (ai @Q9 @zT0) (ai @avb (ba aLJ))))
def aso (s:Sm) (h1:bk s.nm=true) (h2:bk s.tb=true) (h3:s.ns.length≤4611686018427387903) (h4:∀ n∈s.ns,bk n=true):GR 56 [.of (.agg (smC s))] ([99,114,101,97,116,101]::(aF s.un [[117,110,105,113,117,101]]++([105,110,100,101,120]::(bF s.nm::([111,110]::(bF s.tb::dT s.ns)))))):=by
 intro h
 have gJ:=aL [99,114,101,97,116,101]
 have gI:=aL [117,110,105,113,117,101]
 have aaJ:=aL [105,110,100,101,120]
 have adJ:=aL [111,110]
 simp only[aB,av] at h
 have k1:=fun K=>fX s.nm h1 K
 have k2:=fun K=>fX s.tb h2 K
 have kn:=fun K=>(ab8 s.ns h3 h4).k (by omega) K
 cases hu:s.un
 .have e:aF false [[117,110,105,113,117,101]]=([]:List To):=rfl
  rw[hu,e] at h
  rw[e]
  refine ah rfl aLJ avb rfl ?_
  simp -implicitDefEqProofs(maxSteps:=9^9)only[Tryz.f56,↓zA,sevalprocAttr,aTF,hu,k1,k2,kn,ajn,gJ,gI,aaJ,adJ]
  (and_intros <;> first|(exact cz (by (try simp only[cJ,cI]) <;> rfl) (by (try simp only[aR]) <;> omega))|((try simp only[aR]) <;> omega))
 .have e:aF true [[117,110,105,113,117,101]]=[[117,110,105,113,117,101]]:=rfl
  rw[hu,e] at h
  rw[e]
  simp only[dN] at h
  refine ah rfl aLJ avb rfl ?_
  simp -implicitDefEqProofs(maxSteps:=9^9)only[Tryz.f56,↓zA,sevalprocAttr,aTF,hu,k1,k2,kn,ajn,gJ,gI,aaJ,adJ]
  (and_intros <;> first|(exact cz (by (try simp only[cJ,cI]) <;> rfl) (by (try simp only[aR]) <;> omega))|((try simp only[aR]) <;> omega))
def afR:=ai (ai (ai (ai @zq (ai @a5R @ahj)) (ai (ai @afD @a2z) (ai @aZC @a2y))) (ai (ai (ai @aZB @a2x) (ai @aZA @ah5)) (ai (ai @agN @aCZ) (ai @av0 @aJ8)))) (ai (ai (ai (ai @aNm @aJc) (ai @am4 @aj8)) (ai (ai @aba @eY) (ai @cR @abO))) (ai (ai (ai @bO @abP) (ai @eI @Q3)) (ai (ai @Q9 @zT0) (ai @ad6 (ba ahU)))))
def aKN (s:Sm) (hk:s.kd=1) (htb:bk s.tb=true) (hd:GR 55 [.of (.agg (smC s))] (bI true (bc true (adg s)))):GR 22 [.of (.agg (smC s))] ([99,114,101,97,116,101]::([116,97,98,108,101]::(bF s.tb::bI true (bc true (adg s))))):=by
 intro h
 have hkd:=aa hk
 have gJ:=aL [99,114,101,97,116,101]
 have ib:=aL [116,97,98,108,101]
 simp only[aB] at h
 have k1:=fun K=>fX s.tb htb K
 have k2:=fun K=>hd.k (by omega) K
 refine ah rfl ahU ad6 rfl ?_
 simp -implicitDefEqProofs(maxSteps:=9^9)only[Tryz.f22,↓zA,sevalprocAttr,afR,hkd,k1,k2,iI,gJ,ib]
 (and_intros <;> first|(exact cz (by (try simp only[cJ,cI]) <;> rfl) (by (try simp only[aR]) <;> omega))|((try simp only[aR]) <;> omega))
def aKM (s:Sm) (hk:s.kd=2) (T:List To) (hd:GR 56 [.of (.agg (smC s))] T):GR 22 [.of (.agg (smC s))] T:=by
 intro h
 have hkd:=aa hk
 have n1:¬s.kd=1:=by omega
 have k2:=fun K=>hd.k h K
 refine ah rfl ahU ad6 rfl ?_
 simp -implicitDefEqProofs(maxSteps:=9^9)only[Tryz.f22,↓zA,sevalprocAttr,afR,hkd,n1,k2]
 try rfl
def aFS (s:Sm) (hk:s.kd=3) (h0:s.tb≠[]) (htb:bk s.tb=true):GR 22 [.of (.agg (smC s))] [[100,114,111,112],[116,97,98,108,101],bF s.tb]:=by
 intro h
 have hkd:=aa hk
 have n1:¬s.kd=1:=by omega
 have n2:¬s.kd=2:=by omega
 have ad0:=aL [100,114,111,112]
 have ib:=aL [116,97,98,108,101]
 have k1:=fun K=>fX s.tb htb K
 have c:=aO h0
 refine ah rfl ahU ad6 rfl ?_
 simp -implicitDefEqProofs(maxSteps:=9^9)only[Tryz.f22,↓zA,sevalprocAttr,afR,hkd,n1,n2,k1,c,ij,iI,ad0,ib]
 try rfl
def aFT (s:Sm) (hk:s.kd=3) (h0:s.tb=[]) (htb:bk s.nm=true):GR 22 [.of (.agg (smC s))] [[100,114,111,112],[105,110,100,101,120],bF s.nm]:=by
 intro h
 have hkd:=aa hk
 have n1:¬s.kd=1:=by omega
 have n2:¬s.kd=2:=by omega
 have ad0:=aL [100,114,111,112]
 have aaJ:=aL [105,110,100,101,120]
 have k1:=fun K=>fX s.nm htb K
 have c:=aa h0
 refine ah rfl ahU ad6 rfl ?_
 simp -implicitDefEqProofs(maxSteps:=9^9)only[Tryz.f22,↓zA,sevalprocAttr,afR,hkd,n1,n2,k1,c,ij,iI,ad0,aaJ]
 try rfl
def aKL (s:Sm) (hk:s.kd=4) (T:List To) (hd:GR 57 [.of (.agg (smC s))] T):GR 22 [.of (.agg (smC s))] T:=by
 intro h
 have hkd:=aa hk
 have n1:¬s.kd=1:=by omega
 have n2:¬s.kd=2:=by omega
 have n3:¬s.kd=3:=by omega
 have k2:=fun K=>hd.k h K
 refine ah rfl ahU ad6 rfl ?_
 simp -implicitDefEqProofs(maxSteps:=9^9)only[Tryz.f22,↓zA,sevalprocAttr,afR,hkd,n1,n2,n3,k2]
 try rfl
def aKJ (s:Sm) (hk:s.kd=6) (htb:bk s.tb=true) (hwl:s.wh.length≤1) (hwx:∀ x∈s.wh,RX x):GR 22 [.of (.agg (smC s))] ([100,101,108,101,116,101]::([102,114,111,109]::(bF s.tb::jA [119,104,101,114,101] (s.wh.map xpP)))):=by
 intro h
 have hkd:=aa hk
 have n1:¬s.kd=1:=by omega
 have n2:¬s.kd=2:=by omega
 have n3:¬s.kd=3:=by omega
 have n4:¬s.kd=4:=by omega
 have n5:¬s.kd=5:=by omega
 have afa:=aL [100,101,108,101,116,101]
 have dR:=aL [102,114,111,109]
 have bN:=aL [119,104,101,114,101]
 simp only[aB] at h
 have k1:=fun K=>fX s.tb htb K
 have kw:=akZ [119,104,101,114,101] s.wh hwl hwx (by omega)
 generalize jA [119,104,101,114,101] (s.wh.map xpP)=W at *
 rcases kw with ⟨rfl,kw⟩|kw
 .refine ah rfl ahU ad6 rfl ?_
  simp -implicitDefEqProofs(maxSteps:=9^9)only[Tryz.f22,↓zA,sevalprocAttr,afR,hkd,n1,n2,n3,n4,n5,k1,kw,dz,iI,afa,dR,bN]
  (and_intros <;> first|(exact cz (by (try simp only[cJ,cI]) <;> rfl) (by (try simp only[aR]) <;> omega))|((try simp only[aR]) <;> omega))
 .refine ah rfl ahU ad6 rfl ?_
  simp -implicitDefEqProofs(maxSteps:=9^9)only[Tryz.f22,↓zA,sevalprocAttr,afR,hkd,n1,n2,n3,n4,n5,k1,kw,iI,afa,dR,bN]
  (and_intros <;> first|(exact cz (by (try simp only[cJ,cI]) <;> rfl) (by (try simp only[aR]) <;> omega))|((try simp only[aR]) <;> omega))
def aKI (s:Sm) (hk:s.kd=7) (q:Qy) (hq:s.q=[q]) (w:RQ q):GR 22 [.of (.agg (smC s))] (qyT q):=by
 intro h
 have hkd:=aa hk
 have n1:¬s.kd=1:=by omega
 have n2:¬s.kd=2:=by omega
 have n3:¬s.kd=3:=by omega
 have n4:¬s.kd=4:=by omega
 have n5:¬s.kd=5:=by omega
 have n6:¬s.kd=6:=by omega
 have g0:dH s.q 0=some q:=by rw[hq];rfl
 have k1:=fun K=>w.k h K
 refine ah rfl ahU ad6 rfl ?_
 simp -implicitDefEqProofs(maxSteps:=9^9)only[Tryz.f22,↓zA,sevalprocAttr,afR,hkd,n1,n2,n3,n4,n5,n6,g0,k1]
 try rfl
def aFU (s:Sm) (hk:s.kd=11) (q:Qy) (hq:s.q=[q]) (w:RQ q):GR 22 [.of (.agg (smC s))] ([101,120,112,108,97,105,110]::qyT q):=by
 intro h
 have hkd:=aa hk
 have n1:¬s.kd=1:=by omega
 have n2:¬s.kd=2:=by omega
 have n3:¬s.kd=3:=by omega
 have n4:¬s.kd=4:=by omega
 have n5:¬s.kd=5:=by omega
 have n6:¬s.kd=6:=by omega
 have n7:¬s.kd=7:=by omega
 have acH:=aL [101,120,112,108,97,105,110]
 have g0:dH s.q 0=some q:=by rw[hq];rfl
 simp only[aB] at h
 have k1:=fun K=>w.k (by omega) K
 refine ah rfl ahU ad6 rfl ?_
 simp -implicitDefEqProofs(maxSteps:=9^9)only[Tryz.f22,↓zA,sevalprocAttr,afR,hkd,n1,n2,n3,n4,n5,n6,n7,g0,k1,acH]
 (and_intros <;> first|(exact cz (by (try simp only[cJ,cI]) <;> rfl) (by (try simp only[aR]) <;> omega))|((try simp only[aR]) <;> omega))
def aKH (s:Sm) (hk:s.kd=8∨s.kd=9∨s.kd=10∨s.kd=12∨s.kd=13∨s.kd=14):GR 22 [.of (.agg (smC s))] [ait s.kd]:=by
 intro h
 have n1:¬s.kd=1:=by omega
 have n2:¬s.kd=2:=by omega
 have n3:¬s.kd=3:=by omega
 have n4:¬s.kd=4:=by omega
 have n5:¬s.kd=5:=by omega
 have n6:¬s.kd=6:=by omega
 have n7:¬s.kd=7:=by omega
 have n11:¬s.kd=11:=by omega
 have hw:IntKind.i64.wrap (s.kd-8)=s.kd-8:=eX _ (by omega) (by omega)
 have hS:dH ata (s.kd-8)=some (ait s.kd):=by rcases hk with h|h|h|h|h|h <;> (rw[h];rfl)
 refine ah rfl ahU ad6 rfl ?_
 simp -implicitDefEqProofs(maxSteps:=9^9)only[Tryz.f22,↓zA,sevalprocAttr,afR,n1,n2,n3,n4,n5,n6,n7,n11,aFL,a36,hw,hS]
 try rfl
def aKK (s:Sm) (hk:s.kd=5) (htb:bk s.tb=true) (hsl':s.sts.length≤4611686018427387903) (hsx:∀ a∈s.sts,bk a.nm=true∧RX a.e) (hwl:s.wh.length≤1) (hwx:∀ x∈s.wh,RX x):GR 22 [.of (.agg (smC s))] ([117,112,100,97,116,101]::(bF s.tb::([115,101,116]::(bc true (s.sts.map abx)++jA [119,104,101,114,101] (s.wh.map xpP))))):=by
 intro h
 have ae8:=aL [117,112,100,97,116,101]
 have alf:=aL [115,101,116]
 have bN:=aL [119,104,101,114,101]
 have e_3d:=aL [61]
 simp only[aB,av] at h
 have hkd:=aa hk
 have n1:¬s.kd=1:=by omega
 have n2:¬s.kd=2:=by omega
 have n3:¬s.kd=3:=by omega
 have n4:¬s.kd=4:=by omega
 have k0:=fun K=>fX s.tb htb K
 have kw:=akZ [119,104,101,114,101] s.wh hwl hwx (by omega)
 generalize jA [119,104,101,114,101] (s.wh.map xpP)=W at *
 have hg1:∀ x∈s.sts,abx x≠[]:=fun x _=>by simp[abx]
 have hP1:∀ x∈([]:List (List To)),x≠[]:=fun x hx=>by cases hx
 have hL1:(bc true ([]++(s.sts.map abx++[]))).length+1≤LIM:=by rw[cE,bw];omega
 refine ah rfl ahU ad6 rfl ?_
 simp -implicitDefEqProofs(maxSteps:=9^9)only[Tryz.f22,↓zA,sevalprocAttr,afR,hkd,n1,n2,n3,n4]
 refine bX s.sts.length (fun k st=>st.fr 1=.of (.ref (agR s))∧st.fr 4=aU k∧st.objs=[]∧∃ c x i,c<st.clk∧st.fr 3=.own (.nm c x i) 9 1 (fl bA (bc true ([]++(s.sts.take k).map abx))) (bc true ([]++(s.sts.take k).map abx)).length) ?_ ?_
 .simp -implicitDefEqProofs(maxSteps:=9^9)only[Tryz.f22,↓zA,sevalprocAttr,afR]
  exact app (by first|omega|decide) rfl rfl
 rintro k ⟨fr1,ob1,ck1⟩ hk ⟨h1_1,fi1,fo1,c1,x1,i1,hc1,fa1⟩
 dsimp only at h1_1 fi1 fo1 hc1 fa1
 rcases ap k s.sts.length with dk|dk
 .have hw:=cF k (by omega)
  have hu:=neF hc1
  have gx:=bq dk
  have hse:=af5 abx ([]) s.sts k dk hP1 hg1
  have hsl:=afT abx ([]) ([]) s.sts k dk hP1 hg1 hL1
  have hx:=hsx s.sts[k] (ay dk)
  generalize s.sts[k]=y at *
  generalize bc true ([]++(s.sts.take (k+1)).map abx)=B at *
  generalize bc true ([]++(s.sts.take k).map abx)=A at *
  have eT:abx y=bF y.nm::([61]::bv y.e):=rfl
  rw[eT] at hse hsl
  simp only[aB] at hsl
  have k1:=fun K=>fX y.nm hx.1 K
  have k2:=fun K=>(dP y.e 1 hx.2).k (T:=bv y.e) (by omega) K
  have hf:=acA (bv y.e)
  have kn:=fun K=>agz A (aH (aD (bF y.nm))::aH (aD [61])::fl bA (bv y.e)) (2+(bv y.e).length) (bF y.nm::([61]::bv y.e)) B (by (try simp only[cJ,cI]) <;> rfl) (by (try simp only[aR]) <;> omega) hse (by (try simp only[aR]) <;> omega) K
  simp -implicitDefEqProofs(maxSteps:=9^9)only[Tryz.f22,↓zA,sevalprocAttr,afR,h1_1,fi1,fo1,fa1,aK,dk,gx,hw,kn,hu,k1,k2,hf,bg,e_3d]
  and_intros
  all_goals first|exact okN _ _ (by omega) _|omega|(unfold LIM;omega)|exact akS (by omega)|rfl
 have e1:k=s.sts.length:=by omega
 subst e1
 rw[hY] at fa1
 rw[bw] at fa1
 have hsf:=acA (bc true (s.sts.map abx))
 rcases kw with ⟨rfl,kw⟩|kw
 .simp -implicitDefEqProofs(maxSteps:=9^9)only[Tryz.f22,↓zA,sevalprocAttr,afR,h1_1,fi1,fo1,fa1,aK,au,k0,kw,hsf,dz,iI,ae8,alf,bN]
  and_intros
  all_goals first|exact okN _ _ (by omega) _|(exact cz (by (try simp only[cJ,cI]) <;> rfl) (by (try simp only[aR]) <;> omega))|omega
 .simp -implicitDefEqProofs(maxSteps:=9^9)only[Tryz.f22,↓zA,sevalprocAttr,afR,h1_1,fi1,fo1,fa1,aK,au,k0,kw,hsf,iI,ae8,alf,bN]
  and_intros
  all_goals first|exact okN _ _ (by omega) _|(exact cz (by (try simp only[cJ,cI]) <;> rfl) (by (try simp only[aR]) <;> omega))|omega
def nnP (a:Nat×Nat):Nn:=⟨a.1,a.2⟩
def ahy (a:Nat×Nat):(nnP a).nd=a.1:=rfl
def ahz (a:Nat×Nat):(nnP a).dp=a.2:=rfl
def a1q (a b:Nat) (h:a+b≤4611686018427387903):IntKind.i64.wrap ((a:Int)+(b:Int))=((a+b:Nat):Int):=by rw[eX _ (by omega) (by omega)];rfl
def a1g:=ai (ai (ai @zq @a6d) (ai @a6c @a6b)) (ai (ai @aky @Q3) (ai @zT0 (ai @az7 (ba aPt))))
def aCC (a b:Nat×Nat) (h:a.1+b.1≤4611686018427387903):G1 134 [.of (.agg (nnC (nnP a))),.of (.agg (nnC (nnP b)))] (.of (.agg (nnC (nnP (bx a b))))):=by
 have hw:=a1q a.1 b.1 h
 have hm:(if (a.2:Int)<b.2 then (b.2:Int) else a.2)=((max a.2 b.2:Nat):Int):=by split <;> omega
 have e:nnC (nnP (bx a b))=[ci ((a.1+b.1:Nat):Int),ci ((max a.2 b.2:Nat):Int)]:=rfl
 refine ah rfl aPt az7 rfl ?_
 simp -implicitDefEqProofs(maxSteps:=9^9)only[Tryz.f134,↓zA,sevalprocAttr,a1g,ahy,ahz,hw,hm,e]
def af7 (a b:Nat×Nat) (K:An→Prop):bp Tryz.prog pr 134 [.of (.agg (nnC (nnP a))),.of (.agg (nnC (nnP b)))] [] K↔ifP (a.1+b.1≤4611686018427387903) (K ⟨false,[.of (.agg (nnC (nnP (bx a b))))],[]⟩) (abU Tryz.prog pr 134 [.of (.agg (nnC (nnP a))),.of (.agg (nnC (nnP b)))] K):=adC (aCC a b) K
def a07:=ai (ai (ai @zq @a6a) (ai @a59 @aky)) (ai (ai @Q3 @zT0) (ai @azG (ba aO2)))
def aEG (a:Nat×Nat) (h:a.1≤4611686018427387903∧a.2≤4611686018427387903):G1 161 [.of (.agg (nnC (nnP a)))] (.of (.agg (nnC (nnP (upN a))))):=by
 have hw:=cF a.1 (by omega)
 have hw2:=cF a.2 (by omega)
 have e:nnC (nnP (upN a))=[ci ((a.1+1:Nat):Int),ci ((a.2+1:Nat):Int)]:=rfl
 refine ah rfl aO2 azG rfl ?_
 simp -implicitDefEqProofs(maxSteps:=9^9)only[Tryz.f161,↓zA,sevalprocAttr,a07,ahy,ahz,hw,hw2,e]
def aq9 (a:Nat×Nat) (K:An→Prop):bp Tryz.prog pr 161 [.of (.agg (nnC (nnP a)))] [] K↔ifP (a.1≤4611686018427387903∧a.2≤4611686018427387903) (K ⟨false,[.of (.agg (nnC (nnP (upN a))))],[]⟩) (abU Tryz.prog pr 161 [.of (.agg (nnC (nnP a)))] K):=adC (aEG a) K
def aTH:=ai (ai @zq (ai @a5Q @aky)) (ai (ai @Q3 @zT0) (ai @aH0 (ba aYm)))
def anK (a:Nat×Nat):G1 51 [.of (.agg (nnC (nnP a)))] (aG (adb a)):=by
 have e1:((a.1:Int)≤400)=(a.1≤400):=propext (by omega)
 have e2:((a.2:Int)≤40)=(a.2≤40):=propext (by omega)
 refine ah rfl aYm aH0 rfl ?_
 by_cases c1:a.1≤400
 .simp -implicitDefEqProofs(maxSteps:=9^9)only[Tryz.f51,↓zA,sevalprocAttr,aTH,ahy,ahz,e1,e2,adb,c1]
 .simp -implicitDefEqProofs(maxSteps:=9^9)only[Tryz.f51,↓zA,sevalprocAttr,aTH,ahy,ahz,e1,e2,adb,c1]
def auk (a:Nat×Nat) (K:An→Prop):bp Tryz.prog pr 51 [.of (.agg (nnC (nnP a)))] [] K↔K ⟨false,[aG (adb a)],[]⟩:=aN.k (anK a) K
def als (l:List Xp):Prop:=G1 88 [.of (slC xpC l)] (.of (.agg (nnC (nnP (bl cG l)))))
def arf (l:List Qy):Prop:=G1 73 [.of (slC qyC l)] (.of (.agg (nnC (nnP (bl fR l)))))
def aws (l:List Fm):Prop:=G1 160 [.of (slC fmC l)] (.of (.agg (nnC (nnP (bl je l)))))
def auV {α:Type} (f:α→Nat×Nat) (w:α→Nat) (l:List α) (hs:leW (bl f l) (lsW w l)) (hw:lsW w l≤WL) (a b:Nat×Nat) (h:bx (bx a b) (bl f [])=bl f l∨∃ r,bx (bx a b) (bl f r)=bl f l):a.1+b.1≤4611686018427387903:=by
 simp only[leW,WL] at hs hw
 rcases h with h|⟨r,h⟩ <;> (have:=congrArg Prod.fst h;simp only[bx] at this;omega)
def aBL:=ai (ai (ai (ai @zq @a58) (ai @a57 @ape)) (ai (ai @amr @apf) (ai @ams (ai @apj @anl)))) (ai (ai (ai @auM @aq0) (ai @cR @aky)) (ai (ai @eY @ey) (ai @zT0 (ai @aHv (ba aXR)))))
def aE1 (l:List Xp) (hw:lsW xpW l≤WL) (i1:∀ x∈l,als x.ks) (i2:∀ x∈l,arf x.sb):als l:=by
 have h1:=da xpW l fun x _=>aaw x
 have h2:=sbX l
 have hw2:=hw
 simp only[WL] at hw2
 unfold als
 refine ah rfl aXR aHv rfl ?_
 simp -implicitDefEqProofs(maxSteps:=9^9)only[Tryz.f88,↓zA,sevalprocAttr,aBL]
 refine bX l.length (fun k s=>∃ a,s.fr 0=.of (slC xpC l)∧s.fr 2=.ptr 0 0∧s.fr 3=.ptr 1 0∧s.fr 4=aU k∧s.objs=[.var 104 [aU 0,aU 0],.var 104 [.of (ci ((a:Nat×Nat).1:Int)),.of (ci (a.2:Int))]]∧bx a (bl cG (l.drop k))=bl cG l) ?_ ?_
 .refine⟨(0,0),?_⟩
  simp -implicitDefEqProofs(maxSteps:=9^9)only[Tryz.f88,↓zA,sevalprocAttr,aBL,ac2]
  try exact rfl
 .rintro k s hk ⟨a,f0,f2,f3,f4,ho,E⟩
  have ea:nnC (nnP a)=[ci (a.1:Int),ci (a.2:Int)]:=rfl
  rcases ap k l.length with c1|c1
  .have hwk:=cF k (by omega)
   have hm:l[k]∈l:=ay c1
   have kx:=fun K=>aN.k (i1 l[k] hm) K
   have kq:=fun K=>aN.k (i2 l[k] hm) K
   have b1:=sbX l[k].ks
   have b2:=sbQ l[k].sb
   have b3:=bQ (w:=xpW) hm
   have b4:=aaU l[k]
   simp only[leW] at b1 b2
   have p1:(bl cG l[k].ks).1+(bl fR l[k].sb).1≤4611686018427387903:=by omega
   have p2:(bx (bl cG l[k].ks) (bl fR l[k].sb)).1≤4611686018427387903∧(bx (bl cG l[k].ks) (bl fR l[k].sb)).2≤4611686018427387903:=by simp only[bx];omega
   rw[cN c1,acY,← aaO] at E
   have es:upN (bx (bl cG l[k].ks) (bl fR l[k].sb))=cG l[k]:=(aqn _).symm
   have p3:=auV cG xpW l h2 hw a (cG l[k]) (.inr ⟨_,E⟩)
   have eb:nnC (nnP (bx a (cG l[k])))=[ci ((bx a (cG l[k])).1:Int),ci ((bx a (cG l[k])).2:Int)]:=rfl
   simp -implicitDefEqProofs(maxSteps:=9^9)only[Tryz.f88,↓zA,sevalprocAttr,aBL,f0,f2,f3,f4,ho,aK,c1,bq c1,hwk,kx,kq,← ea,af7,aq9,p1,p2,es,p3,eb]
   exact⟨_,rfl,E⟩
  .have e:k=l.length:=by omega
   subst e
   rw[aw,bl,iP] at E
   subst E
   simp -implicitDefEqProofs(maxSteps:=9^9)only[Tryz.f88,↓zA,sevalprocAttr,aBL,f0,f2,f3,f4,ho,aK,au,ea]
def as1:=ai (ai (ai (ai @zq @a56) (ai @a55 (ai @apf @ams))) (ai (ai @aGz @aBj) (ai @apj (ai @anl @ape)))) (ai (ai (ai @amr @auM) (ai @aq0 (ai @jq @aky))) (ai (ai @eY (ai @cR @iU)) (ai @zT0 (ai @azH (ba aO3)))))
def at0 (l:List Fm) (hw:lsW fmW l≤WL) (i1:∀ x∈l,arf x.sb) (i2:∀ x∈l,aws x.ks) (i3:∀ x∈l,als x.on):aws l:=by
 have h1:=da fmW l fun x _=>abk x
 have h2:=sbF l
 have hw2:=hw
 simp only[WL] at hw2
 unfold aws
 refine ah rfl aO3 azH rfl ?_
 simp -implicitDefEqProofs(maxSteps:=9^9)only[Tryz.f160,↓zA,sevalprocAttr,as1]
 refine bX l.length (fun k s=>∃ a,s.fr 0=.of (slC fmC l)∧s.fr 2=.ptr 0 0∧s.fr 3=.ptr 1 0∧s.fr 4=aU k∧s.objs=[.var 104 [aU 0,aU 0],.var 104 [.of (ci ((a:Nat×Nat).1:Int)),.of (ci (a.2:Int))]]∧bx a (bl je (l.drop k))=bl je l) ?_ ?_
 .refine⟨(0,0),?_⟩
  simp -implicitDefEqProofs(maxSteps:=9^9)only[Tryz.f160,↓zA,sevalprocAttr,as1,ac2]
  try exact rfl
 .rintro k s hk ⟨a,f0,f2,f3,f4,ho,E⟩
  have ea:nnC (nnP a)=[ci (a.1:Int),ci (a.2:Int)]:=rfl
  rcases ap k l.length with c1|c1
  .have hwk:=cF k (by omega)
   have hm:l[k]∈l:=ay c1
   have k1:=fun K=>aN.k (i1 l[k] hm) K
   have k2:=fun K=>aN.k (i2 l[k] hm) K
   have k3:=fun K=>aN.k (i3 l[k] hm) K
   have b1:=sbQ l[k].sb
   have b2:=sbF l[k].ks
   have b3:=sbX l[k].on
   have b5:=bQ (w:=fmW) hm
   have b4:=jg l[k]
   simp only[leW] at b1 b2 b3
   have p0:(bl fR l[k].sb).1+(bl je l[k].ks).1≤4611686018427387903:=by omega
   have p1:(bx (bl fR l[k].sb) (bl je l[k].ks)).1+(bl cG l[k].on).1≤4611686018427387903:=by simp only[bx];omega
   have p2:(bx (bx (bl fR l[k].sb) (bl je l[k].ks)) (bl cG l[k].on)).1≤4611686018427387903∧(bx (bx (bl fR l[k].sb) (bl je l[k].ks)) (bl cG l[k].on)).2≤4611686018427387903:=by simp only[bx];omega
   rw[cN c1,acY,← aaO] at E
   have es:upN (bx (bx (bl fR l[k].sb) (bl je l[k].ks)) (bl cG l[k].on))=je l[k]:=(aqq _).symm
   have p3:=auV je fmW l h2 hw a (je l[k]) (.inr ⟨_,E⟩)
   have eb:nnC (nnP (bx a (je l[k])))=[ci ((bx a (je l[k])).1:Int),ci ((bx a (je l[k])).2:Int)]:=rfl
   simp -implicitDefEqProofs(maxSteps:=9^9)only[Tryz.f160,↓zA,sevalprocAttr,as1,f0,f2,f3,f4,ho,aK,c1,bq c1,hwk,k1,k2,k3,← ea,af7,aq9,p0,p1,p2,es,p3,eb]
   exact⟨_,rfl,E⟩
  .have e:k=l.length:=by omega
   subst e
   rw[aw,bl,iP] at E
   subst E
   simp -implicitDefEqProofs(maxSteps:=9^9)only[Tryz.f160,↓zA,sevalprocAttr,as1,f0,f2,f3,f4,ho,aK,au,ea]
def al5 (a:Nat×Nat):Nn.mk (a.1:Int) (a.2:Int)=nnP a:=rfl
def anv {α:Type} (A:List α) (x:α):(A++[x])[A.length]?=some x:=by simp
def alo {α:Type} (A:List α) (x y:α):(A++[x]).set A.length y=A++[y]:=by simp
def auC (e:Xp):C.sl [ci e.op,ci e.v.k,ci e.v.n,aH e.v.s,aH (aD e.tb),aH (aD e.nm),cb e.di,slC xpC e.ks,slC qyC e.sb] 1=slC xpC [e]:=by rw[← adz];simp[slC,fl]
def alh {α:Type} (a b:α) (J:List α) (x:α):(a::b::J)++[x]=a::b::(J++[x]):=rfl
def aUa (q:Qy):upN (bx (bx (bx (bl fR q.ks) (bl je q.fr)) (bl aaP q.its)) (bx (bl cG q.wh) (bx (bl cG q.gr) (bl cG q.hv))))=fR q:=by
 rw[aqo]
 simp only[upN,bx,bf]
 omega
def alz:=ai (ai (ai (ai @zq (ai @a52 @a50)) (ai (ai @a5Z @apf) (ai @ams @aGz))) (ai (ai @aBj (ai @apj @anl)) (ai (ai @a5Y @ape) (ai @amr @auM)))) (ai (ai (ai @aq0 (ai @eY @cR)) (ai (ai @abb @aky) (ai @jq @ey))) (ai (ai @eI (ai @ab7 @P4)) (ai (ai @Q4 @zT0) (ai @aHH (ba aX3)))))
def awo (l:List Qy) (hw:lsW qyW l≤WL) (i1:∀ x∈l,arf x.ks) (i2:∀ x∈l,aws x.fr) (i3:∀ x∈l,∀ i∈x.its,als [i.e]) (i4:∀ x∈l,als x.wh) (i5:∀ x∈l,als x.gr) (i6:∀ x∈l,als x.hv):arf l:=by
 have h1:=da qyW l fun x _=>adu x
 have h2:=sbQ l
 have hw2:=hw
 simp only[WL] at hw2
 unfold arf
 refine ah rfl aX3 aHH rfl ?_
 simp -implicitDefEqProofs(maxSteps:=9^9)only[Tryz.f73,↓zA,sevalprocAttr,alz]
 refine bX l.length (fun k s=>∃ a J,s.fr 0=.of (slC qyC l)∧s.fr 2=.ptr 0 0∧s.fr 3=.ptr 1 0∧s.fr 4=aU k∧s.objs=.var 104 [aU 0,aU 0]::.var 104 [.of (ci ((a:Nat×Nat).1:Int)),.of (ci (a.2:Int))]::J∧bx a (bl fR (l.drop k))=bl fR l) ?_ ?_
 .refine⟨(0,0),[],?_⟩
  simp -implicitDefEqProofs(maxSteps:=9^9)only[Tryz.f73,↓zA,sevalprocAttr,alz,ac2]
  try exact rfl
 .rintro k s hk ⟨a,J,f0,f2,f3,f4,ho,E⟩
  have ea:nnC (nnP a)=[ci (a.1:Int),ci (a.2:Int)]:=rfl
  rcases ap k l.length with c1|c1
  rotate_left
  .have e:k=l.length:=by omega
   subst e
   rw[aw,bl,iP] at E
   subst E
   simp -implicitDefEqProofs(maxSteps:=9^9)only[Tryz.f73,↓zA,sevalprocAttr,alz,f0,f2,f3,f4,ho,aK,au,ea]
  have hwk:=cF k (by omega)
  have hm:l[k]∈l:=ay c1
  have k1:=fun K=>aN.k (i1 l[k] hm) K
  have k2:=fun K=>aN.k (i2 l[k] hm) K
  have k3:=i3 l[k] hm
  have k4:=fun K=>aN.k (i4 l[k] hm) K
  have k5:=fun K=>aN.k (i5 l[k] hm) K
  have k6:=fun K=>aN.k (i6 l[k] hm) K
  have b0:=bQ (w:=qyW) hm
  rw[cN c1,acY,← aaO] at E
  have p9:=auV fR qyW l h2 hw a (fR l[k]) (.inr ⟨_,E⟩)
  have es:=aUa l[k]
  have b4:=iK l[k]
  have q1:=sbQ l[k].ks
  have q2:=sbF l[k].fr
  have q3:=sbI l[k].its
  have q4:=sbX l[k].wh
  have q5:=sbX l[k].gr
  have q6:=sbX l[k].hv
  have nI:=da imW l[k].its fun x _=>adw x
  simp only[leW] at q1 q2 q3 q4 q5 q6
  have eb:nnC (nnP (bx a (fR l[k])))=[ci ((bx a (fR l[k])).1:Int),ci ((bx a (fR l[k])).2:Int)]:=rfl
  generalize hq:l[k]=q at *
  generalize hB:bx (bl fR q.ks) (bl je q.fr)=B at *
  have hB1:B.1≤lsW qyW q.ks+lsW fmW q.fr:=by rw[← hB];simp only[bx];omega
  have hB2:B.2≤lsW qyW q.ks+lsW fmW q.fr:=by rw[← hB];simp only[bx];omega
  have p0:(bl fR q.ks).1+(bl je q.fr).1≤4611686018427387903:=by omega
  have eB:nnC (nnP B)=[ci (B.1:Int),ci (B.2:Int)]:=rfl
  simp -implicitDefEqProofs(maxSteps:=9^9)only[Tryz.f73,↓zA,sevalprocAttr,alz,f0,f2,f3,f4,ho,aK,c1,bq c1,hq,k1,k2,← ea,af7,p0,hB,eB,anv,alo,aB,dK,aaG,alh,av,bt]
  refine bX q.its.length (fun j s=>∃ b J',s.objs=.var 104 [aU 0,aU 0]::.var 104 [.of (ci (a.1:Int)),.of (ci (a.2:Int))]::(J'++[.var 104 [.of (ci ((b:Nat×Nat).1:Int)),.of (ci (b.2:Int))]])∧s.fr 6=.ptr ((J':List Ob).length+1+1) 0∧s.fr 0=.of (slC qyC l)∧s.fr 2=.ptr 0 0∧s.fr 3=.ptr 1 0∧s.fr 4=aU k∧s.fr 5=.of (.ref [ci q.op,cb q.al,slC qyC q.ks,cb q.di,slC imC q.its,slC fmC q.fr,slC xpC q.wh,slC xpC q.gr,slC xpC q.hv,slC odC q.od,ci q.li,ci q.sk])∧s.fr 7=aU j∧bx b (bl aaP (q.its.drop j))=bx B (bl aaP q.its)) ?_ ?_
  .refine⟨B,?_⟩
   simp -implicitDefEqProofs(maxSteps:=9^9)only[Tryz.f73,↓zA,sevalprocAttr,alz,f0,f2,f3,f4]
   exact⟨_,rfl,by simp⟩
  .rintro j s' hj ⟨b,J',go,g6,g0,g2,g3,g4,g5,g7,F⟩
   have eb2:nnC (nnP b)=[ci (b.1:Int),ci (b.2:Int)]:=rfl
   rcases ap j q.its.length with d1|d1
   .have hwj:=cF j (by omega)
    rw[cN d1,acY,← aaO] at F
    have F1:=congrArg Prod.fst F
    simp only[bx] at F1
    have k3':=fun K=>aN.k (k3 q.its[j] (ay d1)) K
    have hs:aaP q.its[j]=if q.its[j].st then (0,0) else cG q.its[j].e:=aqp _
    cases c3:q.its[j].st
    .rw[c3] at hs
     simp only[aW,aQ] at hs
     have k3s:bl cG [q.its[j].e]=aaP q.its[j]:=by rw[hs,bl,bl,iP]
     rw[k3s] at k3'
     have p8:b.1+(aaP q.its[j]).1≤4611686018427387903:=by omega
     have eb3:nnC (nnP (bx b (aaP q.its[j])))=[ci ((bx b (aaP q.its[j])).1:Int),ci ((bx b (aaP q.its[j])).2:Int)]:=rfl
     simp -implicitDefEqProofs(maxSteps:=9^9)only[Tryz.f73,↓zA,sevalprocAttr,alz,g0,g2,g3,g4,g5,g6,g7,go,aK,d1,bq d1,c3,hwj,← eb2,k3',af7,p8,eb3,auC,anv,alo,aB,dK,aaG,alh,av,bt]
     exact⟨_,_,rfl,by simp,F⟩
    .rw[c3] at hs
     simp only[aA] at hs
     rw[hs,iP] at F
     simp -implicitDefEqProofs(maxSteps:=9^9)only[Tryz.f73,↓zA,sevalprocAttr,alz,g0,g2,g3,g4,g5,g6,g7,go,aK,d1,bq d1,c3,hwj,anv,alo,aB,dK,aaG,alh,av,bt]
     exact⟨_,_,rfl,by simp,F⟩
   .have e:j=q.its.length:=by omega
    subst e
    rw[aw,bl,iP] at F
    subst F
    have z1:(bl cG q.gr).1+(bl cG q.hv).1≤4611686018427387903:=by omega
    have z2:(bl cG q.wh).1+(bx (bl cG q.gr) (bl cG q.hv)).1≤4611686018427387903:=by simp only[bx];omega
    have z3:(bx B (bl aaP q.its)).1+(bx (bl cG q.wh) (bx (bl cG q.gr) (bl cG q.hv))).1≤4611686018427387903:=by simp only[bx];omega
    have z4:(bx (bx B (bl aaP q.its)) (bx (bl cG q.wh) (bx (bl cG q.gr) (bl cG q.hv)))).1≤4611686018427387903∧(bx (bx B (bl aaP q.its)) (bx (bl cG q.wh) (bx (bl cG q.gr) (bl cG q.hv)))).2≤4611686018427387903:=by simp only[bx];omega
    have eb4:nnC (nnP (bx (bx B (bl aaP q.its)) (bx (bl cG q.wh) (bx (bl cG q.gr) (bl cG q.hv)))))=[ci ((bx (bx B (bl aaP q.its)) (bx (bl cG q.wh) (bx (bl cG q.gr) (bl cG q.hv)))).1:Int),ci ((bx (bx B (bl aaP q.its)) (bx (bl cG q.wh) (bx (bl cG q.gr) (bl cG q.hv)))).2:Int)]:=rfl
    have ea2:[ci (a.1:Int),ci (a.2:Int)]=nnC (nnP a):=rfl
    simp -implicitDefEqProofs(maxSteps:=9^9)only[Tryz.f73,↓zA,sevalprocAttr,alz,g0,g2,g3,g4,g5,g6,g7,go,aK,au,hwk,k4,k5,k6,af7,aq9,z1,z2,z3,z4,es,p9,al5,ahy,ahz,anv,alo,aB,dK,aaG,alh,av,bt]
    exact⟨_,_,rfl,E⟩
theorem al4:∀ n,n≤WL→(∀ l,lsW xpW l≤n→als l)∧(∀ l,lsW qyW l≤n→arf l)∧(∀ l,lsW fmW l≤n→aws l)
 | 0,_=>⟨fun l h=>by simp[lsW] at h,fun l h=>by simp[lsW] at h,fun l h=>by simp[lsW] at h⟩
 | n+1,hn=>by
  obtain⟨i1,i2,i3⟩:=al4 n (by omega)
  refine⟨fun l h=>?_,fun l h=>?_,fun l h=>?_⟩
  .refine aE1 l (by omega) (fun x hx=>i1 _ ?_) (fun x hx=>i2 _ ?_) <;> (have h1:=bQ (w:=xpW) hx;have h2:=aaU x;omega)
  .have hone:∀ i:Im,lsW xpW [i.e]≤imW i:=fun i=>by rw[aci];simp only[lsW,aV,bC,bU,cU,eN];omega
   refine awo l (by omega) (fun x hx=>i2 _ ?_) (fun x hx=>i3 _ ?_) (fun x hx i hi=>i1 _ ?_) (fun x hx=>i1 _ ?_) (fun x hx=>i1 _ ?_) (fun x hx=>i1 _ ?_)
   .have h1:=bQ (w:=qyW) hx;have h2:=iK x;omega
   .have h1:=bQ (w:=qyW) hx;have h2:=iK x;omega
   .have h1:=bQ (w:=qyW) hx;have h2:=iK x;have h3:=bQ (w:=imW) hi;have h4:=hone i;omega
   .have h1:=bQ (w:=qyW) hx;have h2:=iK x;omega
   .have h1:=bQ (w:=qyW) hx;have h2:=iK x;omega
   .have h1:=bQ (w:=qyW) hx;have h2:=iK x;omega
  .refine at0 l (by omega) (fun x hx=>i2 _ ?_) (fun x hx=>i3 _ ?_) (fun x hx=>i1 _ ?_) <;> (have h1:=bQ (w:=fmW) hx;have h2:=jg x;omega)
def aER (l:List Xp) (K:An→Prop):bp Tryz.prog pr 88 [.of (slC xpC l)] [] K↔ifP (lsW xpW l≤WL) (K ⟨false,[.of (.agg (nnC (nnP (bl cG l))))],[]⟩) (abU Tryz.prog pr 88 [.of (slC xpC l)] K):=adC (fun h=>(al4 WL (aM _)).1 l h) K
def a0B (l:List Qy) (K:An→Prop):bp Tryz.prog pr 73 [.of (slC qyC l)] [] K↔ifP (lsW qyW l≤WL) (K ⟨false,[.of (.agg (nnC (nnP (bl fR l))))],[]⟩) (abU Tryz.prog pr 73 [.of (slC qyC l)] K):=adC (fun h=>(al4 WL (aM _)).2.1 l h) K
def aT9 (s:Sm):bx (bx (bx (bx (bl cG s.chs) (bl cG s.wh)) (bl fR s.q)) (bl (fun l=>bl cG l) s.rws)) (bl (fun a:As=>cG a.e) s.sts)=ahQ s:=by
 simp only[ahQ,bx,bf]
 omega
abbrev N0:Ob:=.var 104 [aU 0,aU 0]
abbrev NO (a:Nat×Nat):Ob:=.var 104 [.of (ci (a.1:Int)),.of (ci (a.2:Int))]
def anS:=ai (ai (ai (ai @zq @a5W) (ai @a5V (ai @ape @amr))) (ai (ai @apj @anl) (ai @apf (ai @ams @a5U)))) (ai (ai (ai @aba @cR) (ai @abO (ai @aky @eY))) (ai (ai @ey (ai @ie @abP)) (ai @zT0 (ai @aHZ (ba aYl)))))
def aEQ (s:Sm) (hw:smW s≤WL):G1 52 [.of (.agg (smC s))] (.of (.agg (nnC (nnP (ahQ s))))):=by
 simp only[WL,smW] at hw
 have b1:=sbX s.chs
 have b2:=sbX s.wh
 have b3:=sbQ s.q
 have b4:=(aaD (fun l=>bl cG l) (lsW xpW) s.rws fun x _=>sbX x).1
 have b5:=(aaD (fun a:As=>cG a.e) asW s.sts fun x _=>by have:=(agQ _).1 x.e (aM _);simp only[leW,asW] at this ⊢;omega).1
 simp only[leW] at b1 b2 b3 b4 b5
 have n1:=da (lsW xpW) s.rws fun x _=>by simp[lsW]
 have n2:=da asW s.sts fun x _=>by simp[asW]
 have w1:lsW xpW s.chs≤WL:=by simp only[WL];omega
 have w2:lsW xpW s.wh≤WL:=by simp only[WL];omega
 have w3:lsW qyW s.q≤WL:=by simp only[WL];omega
 have p1:(bl cG s.chs).1+(bl cG s.wh).1≤4611686018427387903:=by omega
 have p2:(bx (bl cG s.chs) (bl cG s.wh)).1+(bl fR s.q).1≤4611686018427387903:=by simp only[bx];omega
 generalize hA:bx (bx (bl cG s.chs) (bl cG s.wh)) (bl fR s.q)=A at *
 have hA1:A.1≤lsW xpW s.chs+lsW xpW s.wh+lsW qyW s.q:=by rw[← hA];simp only[bx];omega
 have eS:=aT9 s
 rw[hA] at eS
 refine ah rfl aYl aHZ rfl ?_
 simp -implicitDefEqProofs(maxSteps:=9^9)only[Tryz.f52,↓zA,sevalprocAttr,anS,aER,a0B,w1,w2,w3,af7,p1,p2,hA,al5,ahy,ahz]
 refine bX s.rws.length (fun k t=>∃ a,t.objs=[N0,NO a]∧t.fr 1=.of (.ref (smC s))∧t.fr 2=.ptr 0 0∧t.fr 3=.ptr 1 0∧t.fr 4=aU k∧bx a (bl (fun l=>bl cG l) (s.rws.drop k))=bx A (bl (fun l=>bl cG l) s.rws)) ?_ ?_
 .refine⟨A,?_⟩
  simp -implicitDefEqProofs(maxSteps:=9^9)only[Tryz.f52,↓zA,sevalprocAttr,anS,iJ]
  try exact rfl
 .rintro k t hk ⟨a,ho,f1,f2,f3,f4,E⟩
  rw[iJ] at f1
  rcases ap k s.rws.length with c1|c1
  .have hwk:=cF k (by omega)
   have w4:lsW xpW s.rws[k]≤WL:=by have:=bQ (w:=lsW xpW) (ay c1);simp only[WL];omega
   rw[cN c1,acY,← aaO] at E
   have E1:=congrArg Prod.fst E
   simp only[bx] at E1
   have p3:a.1+(bl cG s.rws[k]).1≤4611686018427387903:=by omega
   simp -implicitDefEqProofs(maxSteps:=9^9)only[Tryz.f52,↓zA,sevalprocAttr,anS,ho,f1,f2,f3,f4,aK,c1,bq c1,hwk,aER,w4,af7,p3,al5,ahy,ahz,iJ]
   exact⟨_,rfl,E⟩
  .have e:k=s.rws.length:=by omega
   subst e
   rw[aw,bl,iP] at E
   have ha:a=bx A (bl (fun l=>bl cG l) s.rws):=E
   simp -implicitDefEqProofs(maxSteps:=9^9)only[Tryz.f52,↓zA,sevalprocAttr,anS,ho,f1,f2,f3,f4,aK,au]
   refine bX s.sts.length (fun j u=>∃ b,u.objs=[N0,NO b]∧u.fr 1=.of (.ref (smC s))∧u.fr 2=.ptr 0 0∧u.fr 3=.ptr 1 0∧u.fr 5=aU j∧bx b (bl (fun a:As=>cG a.e) (s.sts.drop j))=ahQ s) ?_ ?_
   .refine⟨a,?_⟩
    simp -implicitDefEqProofs(maxSteps:=9^9)only[Tryz.f52,↓zA,sevalprocAttr,anS,ho,f1,f2,f3,iJ]
    rw[ha]
    exact eS
   .rintro j u hj ⟨b,go,g1,g2,g3,g5,F⟩
    rw[iJ] at g1
    rcases ap j s.sts.length with d1|d1
    .have hwj:=cF j (by omega)
     have w5:lsW xpW [s.sts[j].e]≤WL:=by
      have h1:=bQ (w:=asW) (ay d1)
      simp only[lsW,aV,bC,bU,cU,asW,cV,WL] at h1 ⊢
      simp only[lsW] at hw
      omega
     have e1:bl cG [s.sts[j].e]=cG s.sts[j].e:=by rw[bl,bl,iP]
     rw[cN d1,acY,← aaO] at F
     have F1:=congrArg Prod.fst F
     have hS:=aFr s
     simp only[leW,smW] at hS
     simp only[bx] at F1
     have p4:b.1+(cG s.sts[j].e).1≤4611686018427387903:=by omega
     simp -implicitDefEqProofs(maxSteps:=9^9)only[Tryz.f52,↓zA,sevalprocAttr,anS,go,g1,g2,g3,g5,aK,d1,bq d1,hwj,aER,w5,e1,af7,p4,al5,ahy,ahz,iJ,auC]
     exact⟨_,rfl,F⟩
    .have e:j=s.sts.length:=by omega
     subst e
     rw[aw,bl,iP] at F
     subst F
     simp -implicitDefEqProofs(maxSteps:=9^9)only[Tryz.f52,↓zA,sevalprocAttr,anS,go,g1,g2,g3,g5,aK,au,al5]
def aiG (s:List UInt8) (i:Int):ac9 (TT.of Tryz.prog) 9 (.of (.lit (.string (aD s)))) (.of (.lit (.int .i64 i)))=ab9 (dH s i) fun c=>.of (.lit (.int .u8 (c.toNat:Nat))):=avj (by rw[T9];rfl) s i
def ado (n:Nat):((n:Int)<1)=(n=0):=propext (by omega)
def aeQ:Nat→List UInt8→Bool
 | _,[]=>true
 | k,c::r=>(fN c||(decide (k≠0)&&jh c))&&aeQ (k+1) r
def aJv (r:List UInt8):∀ k,aeQ (k+1) r=r.all ahe:=by
 induction r with
 | nil=>intro k;rfl
 | cons x r ih=>intro k;simp[aeQ,ih,ahe]
def cK (n:Nat):((n:Int)=0)=(n=0):=propext (by omega)
def aeU:=ai (ai @zq @zT0) (ai @aAe (ba aPA))
def aJA (s:List UInt8):G1 127 [.of (aH (aD s))] (aG (bk s)):=by
 refine ah rfl aPA aAe rfl ?_
 by_cases n0:s.length=0
 .have e:bk s=false:=by rw[List.length_eq_zero_iff.1 n0];rfl
  simp -implicitDefEqProofs(maxSteps:=9^9)only[Tryz.f127,↓zA,sevalprocAttr,aeU,n0,e,ado]
 by_cases c0:20<s.length
 .have e:bk s=false:=by
   cases s with
   | nil=>rfl
   | cons x r=>simp only[bk,bP (show ¬(r.length+1≤20) from by simp only[aB] at c0;omega),cP]
  simp -implicitDefEqProofs(maxSteps:=9^9)only[Tryz.f127,↓zA,sevalprocAttr,aeU,ado,n0,apz,c0,e]
 have e:bk s=aeQ 0 s:=by
  cases s with
  | nil=>simp at n0
  | cons x r =>
   simp only[bk,cy (show r.length+1≤20 from by simp only[aB] at c0;omega),dQ,aeQ,aJv]
   simp only[ct,aa0,bE,aZ,e7]
   rfl
 rw[e]
 simp -implicitDefEqProofs(maxSteps:=9^9)only[Tryz.f127,↓zA,sevalprocAttr,aeU,ado,n0,apz,c0]
 refine bX s.length (fun k t=>t.fr 0=.of (aH (aD s))∧t.fr 3=aU k∧t.objs=[]∧aeQ 0 s=aeQ k (s.drop k)) ?_ ?_
 .simp -implicitDefEqProofs(maxSteps:=9^9)only[Tryz.f127,↓zA,sevalprocAttr,aeU]
  try exact rfl
 .rintro k t hk ⟨f0,f3,ho,E⟩
  rcases ap k s.length with d1|d1
  .have hw:=cF k (by omega)
   rw[cN d1,aeQ] at E
   have fin:fN s[k]=true→aeQ 0 s=aeQ (k+1) (s.drop (k+1)):=fun h=>by rw[E,h];rfl
   by_cases a1:97≤s[k].toNat
   .by_cases a2:s[k].toNat≤122
    .have F:=fin (by simp[fN,a1,a2])
     simp -implicitDefEqProofs(maxSteps:=9^9)only[Tryz.f127,↓zA,sevalprocAttr,aeU,f0,f3,ho,aK,d1,aiG,bq d1,hw,u97,aiu,u95,u48,u57,cK,a1,a2,F]
    .by_cases a3:s[k]=95
     .have h3:s[k].toNat=95:=by rw[a3];rfl
      omega
     .have hs:fN s[k]=false:=by simp[fN,a2,a3]
      have a5:¬s[k].toNat≤57:=by omega
      have F:aeQ 0 s=false:=by rw[E,hs];simp[jh,a5]
      by_cases k0:k=0
      .simp -implicitDefEqProofs(maxSteps:=9^9)only[Tryz.f127,↓zA,sevalprocAttr,aeU,f0,f3,ho,aK,d1,aiG,bq d1,hw,u97,aiu,u95,u48,u57,cK,a1,a2,a3,aa k0,F]
      .have a4:48≤s[k].toNat:=by omega
       simp -implicitDefEqProofs(maxSteps:=9^9)only[Tryz.f127,↓zA,sevalprocAttr,aeU,f0,f3,ho,aK,d1,aiG,bq d1,hw,u97,aiu,u95,u48,u57,cK,a1,a2,a3,a4,a5,k0,F]
   .by_cases a3:s[k]=95
    .have F:=fin (by simp[fN,a3])
     simp -implicitDefEqProofs(maxSteps:=9^9)only[Tryz.f127,↓zA,sevalprocAttr,aeU,f0,f3,ho,aK,d1,aiG,bq d1,hw,u97,aiu,u95,u48,u57,cK,a1,aa a3,F]
    .have hs:fN s[k]=false:=by simp[fN,a1,a3]
     by_cases k0:k=0
     .have F:aeQ 0 s=false:=by rw[E,hs];simp[k0]
      simp -implicitDefEqProofs(maxSteps:=9^9)only[Tryz.f127,↓zA,sevalprocAttr,aeU,f0,f3,ho,aK,d1,aiG,bq d1,hw,u97,aiu,u95,u48,u57,cK,a1,a3,aa k0,F]
     .by_cases a4:48≤s[k].toNat
      .by_cases a5:s[k].toNat≤57
       .have F:aeQ 0 s=aeQ (k+1) (s.drop (k+1)):=by rw[E,hs];simp[jh,a4,a5,k0]
        simp -implicitDefEqProofs(maxSteps:=9^9)only[Tryz.f127,↓zA,sevalprocAttr,aeU,f0,f3,ho,aK,d1,aiG,bq d1,hw,u97,aiu,u95,u48,u57,cK,a1,a3,a4,a5,k0,F]
       .have F:aeQ 0 s=false:=by rw[E,hs];simp[jh,a5]
        simp -implicitDefEqProofs(maxSteps:=9^9)only[Tryz.f127,↓zA,sevalprocAttr,aeU,f0,f3,ho,aK,d1,aiG,bq d1,hw,u97,aiu,u95,u48,u57,cK,a1,a3,a4,a5,k0,F]
      .have F:aeQ 0 s=false:=by rw[E,hs];simp[jh,a4]
       simp -implicitDefEqProofs(maxSteps:=9^9)only[Tryz.f127,↓zA,sevalprocAttr,aeU,f0,f3,ho,aK,d1,aiG,bq d1,hw,u97,aiu,u95,u48,u57,cK,a1,a3,a4,k0,F]
  .have e:k=s.length:=by omega
   subst e
   rw[aw,aeQ] at E
   simp -implicitDefEqProofs(maxSteps:=9^9)only[Tryz.f127,↓zA,sevalprocAttr,aeU,f0,f3,ho,aK,au,E]
def dc (s:List UInt8) (K:An→Prop):bp Tryz.prog pr 127 [.of (aH (aD s))] [] K↔K ⟨false,[aG (bk s)],[]⟩:=aN.k (aJA s) K
def aMO:=ai (ai @zq (ai @ahx @agf)) (ai @zT0 (ai @ayP (ba aOb)))
def auj (s:List UInt8):G1 220 [.of (aH (aD s))] (aG (gg s)):=by
 refine ah rfl aOb ayP rfl ?_
 by_cases c:s=[]
 .simp -implicitDefEqProofs(maxSteps:=9^9)only[Tryz.f220,↓zA,sevalprocAttr,aMO,dc,aa c,gg,dw]
 .simp -implicitDefEqProofs(maxSteps:=9^9)only[Tryz.f220,↓zA,sevalprocAttr,aMO,dc,c,gg,dl]
def cH (s:List UInt8) (K:An→Prop):bp Tryz.prog pr 220 [.of (aH (aD s))] [] K↔K ⟨false,[aG (gg s)],[]⟩:=aN.k (auj s) K
def akC (a:List UInt8):(aD a=({data:=#[115,117,109]}:ByteArray))=(a=[115,117,109]):=bW a [115,117,109]
def akD (a:List UInt8):(aD a=({data:=#[109,105,110]}:ByteArray))=(a=[109,105,110]):=bW a [109,105,110]
def akE (a:List UInt8):(aD a=({data:=#[109,97,120]}:ByteArray))=(a=[109,97,120]):=bW a [109,97,120]
def e9 (a:List UInt8):(aD a=({data:=#[99,111,117,110,116]}:ByteArray))=(a=afB):=bW a afB
def asX:=ai (ai @zq @zT0) (ai @ayL (ba aN7))
def aE0 (s:List UInt8):G1 230 [.of (aH (aD s))] (aG (aa3 s)):=by
 refine ah rfl aN7 ayL rfl ?_
 by_cases a1:s=afB
 .simp -implicitDefEqProofs(maxSteps:=9^9)only[Tryz.f230,↓zA,sevalprocAttr,asX,akC,akD,akE,e9,aa a1,aa3,dw]
 .by_cases a2:s=[115,117,109]
  .simp -implicitDefEqProofs(maxSteps:=9^9)only[Tryz.f230,↓zA,sevalprocAttr,asX,akC,akD,akE,e9,a1,aa a2,aa3,dw,fg]
  .by_cases a3:s=[109,105,110]
   .simp -implicitDefEqProofs(maxSteps:=9^9)only[Tryz.f230,↓zA,sevalprocAttr,asX,akC,akD,akE,e9,a1,a2,aa a3,aa3,dw,fg]
   .simp -implicitDefEqProofs(maxSteps:=9^9)only[Tryz.f230,↓zA,sevalprocAttr,asX,akC,akD,akE,e9,a1,a2,a3,aa3,dl]
def fZ (s:List UInt8) (K:An→Prop):bp Tryz.prog pr 230 [.of (aH (aD s))] [] K↔K ⟨false,[aG (aa3 s)],[]⟩:=aN.k (aE0 s) K
def amU:=ai (ai (ai @zq @ahx) (ai @agf @bO)) (ai (ai @Q9 @zT0) (ai @aAc (ba aPy)))
def aui (l:List (List UInt8)) (a b:Int) (h:l.length≤4611686018427387903):G1 129 [.of (slC bA l),.of (ci a),.of (ci b)] (aG (bu l a b bk)):=by
 refine ah rfl aPy aAc rfl ?_
 simp -implicitDefEqProofs(maxSteps:=9^9)only[Tryz.f129,↓zA,sevalprocAttr,amU]
 refine bX l.length (fun k t=>t.fr 0=.of (slC bA l)∧t.fr 1=.of (ci a)∧t.fr 2=.of (ci b)∧t.fr 7=aU k∧t.objs=[]∧l.all bk=(l.drop k).all bk) ?_ ?_
 .simp -implicitDefEqProofs(maxSteps:=9^9)only[Tryz.f129,↓zA,sevalprocAttr,amU]
  try exact rfl
 .rintro k t hk ⟨f0,f1,f2,f7,ho,E⟩
  rcases ap k l.length with d1|d1
  .have hw:=cF k (by omega)
   rw[cN d1,adk] at E
   cases d2:bk l[k]
   .rw[d2,aZ] at E
    simp -implicitDefEqProofs(maxSteps:=9^9)only[Tryz.f129,↓zA,sevalprocAttr,amU,f0,f1,f2,f7,ho,aK,d1,bq d1,hw,dc,d2,bu,E,cP]
   .rw[d2,aX] at E
    simp -implicitDefEqProofs(maxSteps:=9^9)only[Tryz.f129,↓zA,sevalprocAttr,amU,f0,f1,f2,f7,ho,aK,d1,bq d1,hw,dc,d2,E]
  .have e:k=l.length:=by omega
   subst e
   rw[aw,ff] at E
   by_cases a1:a≤(l.length:Int)
   .simp -implicitDefEqProofs(maxSteps:=9^9)only[Tryz.f129,↓zA,sevalprocAttr,amU,f0,f1,f2,f7,ho,aK,au,a1,bu,E]
   .simp -implicitDefEqProofs(maxSteps:=9^9)only[Tryz.f129,↓zA,sevalprocAttr,amU,f0,f1,f2,f7,ho,aK,au,a1,bu,E]
def aeB (l:List (List UInt8)) (a b:Int) (K:An→Prop):bp Tryz.prog pr 129 [.of (slC bA l),.of (ci a),.of (ci b)] [] K↔ifP (l.length≤4611686018427387903) (K ⟨false,[aG (bu l a b bk)],[]⟩) (abU Tryz.prog pr 129 [.of (slC bA l),.of (ci a),.of (ci b)] K):=adC (aui l a b) K
def aMK:=ai (ai @zq @zT0) (ai @ayo (ba aNJ))
def aFQ (n:Int):G1 260 [aU n] (aG (inB n)):=by
 refine ah rfl aNJ ayo rfl ?_
 by_cases h1:-1000000000000000≤n
 .simp -implicitDefEqProofs(maxSteps:=9^9)only[Tryz.f260,↓zA,sevalprocAttr,aMK,h1,inB]
 .simp -implicitDefEqProofs(maxSteps:=9^9)only[Tryz.f260,↓zA,sevalprocAttr,aMK,h1,inB]
def aFP (n:Int) (K:An→Prop):bp Tryz.prog pr 260 [.of (ci n)] [] K↔K ⟨false,[aG (inB n)],[]⟩:=aN.k (aFQ n) K
def u32 (c:UInt8):((c.toNat:Int)<32)=(c.toNat<32):=propext (by omega)
def aJZ (c:UInt8):((126:Int)<(c.toNat:Int))=(126<c.toNat):=propext (by omega)
def aUX (c:UInt8):okB c=(!decide (c.toNat<32)&&!decide (126<c.toNat)):=by
 unfold okB
 rw[ca]
 simp only[ab,cm,iM,ar]
 omega
def aRt (n:Nat):((n:Int)≤100)=(n≤100):=propext (by omega)
def amE:=ai (ai @zq @zT0) (ai @ayn (ba aNI))
def aum (s:List UInt8) (hl:s.length≤4611686018427387903):G1 261 [.of (aH (aD s))] (aG (afu (aD s))):=by
 have e0:afu (aD s)=(s.all okB&&decide (s.length≤100)):=by
  unfold afu
  rw[acu]
  have:(aD s).data.toList=s:=by simp[aD]
  rw[this]
 rw[e0]
 refine ah rfl aNI ayn rfl ?_
 simp -implicitDefEqProofs(maxSteps:=9^9)only[Tryz.f261,↓zA,sevalprocAttr,amE]
 refine bX s.length (fun k t=>t.fr 0=.of (aH (aD s))∧t.fr 3=aU k∧t.objs=[]∧s.all okB=(s.drop k).all okB) ?_ ?_
 .simp -implicitDefEqProofs(maxSteps:=9^9)only[Tryz.f261,↓zA,sevalprocAttr,amE]
  try exact rfl
 .rintro k t hk ⟨f0,f3,ho,E⟩
  rcases ap k s.length with d1|d1
  .have hw:=cF k (by omega)
   rw[cN d1,adk,aUX] at E
   by_cases a1:s[k].toNat<32
   .simp only[a1,bG,fx,aZ] at E
    simp -implicitDefEqProofs(maxSteps:=9^9)only[Tryz.f261,↓zA,sevalprocAttr,amE,f0,f3,ho,aK,d1,aiG,bq d1,u32,aJZ,a1,E]
   .by_cases a2:126<s[k].toNat
    .simp only[a1,a2,bG,bE,eh,fx,aZ,cP] at E
     simp -implicitDefEqProofs(maxSteps:=9^9)only[Tryz.f261,↓zA,sevalprocAttr,amE,f0,f3,ho,aK,d1,aiG,bq d1,u32,aJZ,a1,a2,E]
    .simp only[a1,a2,bE,eh,aX] at E
     simp -implicitDefEqProofs(maxSteps:=9^9)only[Tryz.f261,↓zA,sevalprocAttr,amE,f0,f3,ho,aK,d1,aiG,bq d1,u32,aJZ,a1,a2,hw,E]
  .have e:k=s.length:=by omega
   subst e
   rw[aw,ff] at E
   simp -implicitDefEqProofs(maxSteps:=9^9)only[Tryz.f261,↓zA,sevalprocAttr,amE,f0,f3,ho,aK,au,E,aRt]
def aFO (s:ByteArray) (K:An→Prop):bp Tryz.prog pr 261 [.of (aH s)] [] K↔ifP (s.size≤4611686018427387903) (K ⟨false,[aG (afu s)],[]⟩) (abU Tryz.prog pr 261 [.of (aH s)] K):=adC (fun h=>by
 have e:aD s.data.toList=s:=by cases s;simp[aD]
 have h2:=aum s.data.toList (by have h3:s.data.toList.length=s.size:=fy;omega)
 rwa [e] at h2) K
def ag9:=ai (ai (ai @zq (ai @a54 @aU4)) (ai @aR6 (ai @aU3 @aR5))) (ai (ai @ad3 (ai @Q3 @Q9)) (ai @zT0 (ai @ayM (ba aN8))))
def auo (v:V) (hl:v.s.size≤4611686018427387903):G1 229 [.of (.agg (acC v))] (aG (hU v)):=by
 refine ah rfl aN8 ayM rfl ?_
 by_cases k0:v.k=0
 .by_cases c1:v.n=0
  .simp -implicitDefEqProofs(maxSteps:=9^9)only[Tryz.f229,↓zA,sevalprocAttr,ag9,aa k0,aa c1,hU,s0,aei]
  .simp -implicitDefEqProofs(maxSteps:=9^9)only[Tryz.f229,↓zA,sevalprocAttr,ag9,aa k0,c1,hU,s0,aei]
 .by_cases k1:v.k=1
  .by_cases c1:v.n=0
   .simp -implicitDefEqProofs(maxSteps:=9^9)only[Tryz.f229,↓zA,sevalprocAttr,ag9,k1,Int.reduceEq,aa c1,hU,s0,aei,dw]
   .by_cases c2:v.n=1
    .simp -implicitDefEqProofs(maxSteps:=9^9)only[Tryz.f229,↓zA,sevalprocAttr,ag9,k1,Int.reduceEq,c1,aa c2,hU,s0,aei,dl]
    .simp -implicitDefEqProofs(maxSteps:=9^9)only[Tryz.f229,↓zA,sevalprocAttr,ag9,k1,Int.reduceEq,c1,c2,hU,s0,aei,dl]
  .by_cases k2:v.k=2
   .cases c1:inB v.n
    .simp -implicitDefEqProofs(maxSteps:=9^9)only[Tryz.f229,↓zA,sevalprocAttr,ag9,k2,Int.reduceEq,aFP,c1,hU,s0,aei]
    .simp -implicitDefEqProofs(maxSteps:=9^9)only[Tryz.f229,↓zA,sevalprocAttr,ag9,k2,Int.reduceEq,aFP,c1,hU,s0,aei]
   .by_cases k3:v.k=3
    .by_cases c1:v.n=0
     .simp -implicitDefEqProofs(maxSteps:=9^9)only[Tryz.f229,↓zA,sevalprocAttr,ag9,k3,Int.reduceEq,aa c1,aFO,hl,hU,aei]
     .simp -implicitDefEqProofs(maxSteps:=9^9)only[Tryz.f229,↓zA,sevalprocAttr,ag9,k3,Int.reduceEq,c1,hU,aei]
    .simp -implicitDefEqProofs(maxSteps:=9^9)only[Tryz.f229,↓zA,sevalprocAttr,ag9,k0,k1,k2,k3,hU,aei]
def fb (v:V) (K:An→Prop):bp Tryz.prog pr 229 [.of (.agg (acC v))] [] K↔ifP (v.s.size≤4611686018427387903) (K ⟨false,[aG (hU v)],[]⟩) (abU Tryz.prog pr 229 [.of (.agg (acC v))] K):=adC (auo v) K
end Go.Proofs.YtemdljoideegeaaGreatDoor

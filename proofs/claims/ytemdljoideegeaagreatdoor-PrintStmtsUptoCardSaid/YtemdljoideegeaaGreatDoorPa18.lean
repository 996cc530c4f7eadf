/-
  Chapter 9's document: what an expression's own fields may be; lists that are right throughout. Conditions: none.
-/
import Derived.Test.YtemdljoideegeaaGreatDoorPa17
set_option linter.defProp false
set_option linter.unusedSectionVars false
set_option maxRecDepth 100000
set_option maxHeartbeats 64000000
namespace Go.Proofs.YtemdljoideegeaaGreatDoor
open Go Go.Pe Go.Tab
def Z4c {α:Type} (l:List α):(l=[])=(l.length=0):=propext gM.symm
def aNe {l:List (List Xp)} (hw:lsW (lsW xpW) l≤WL):∀ x∈l,lsW xpW x≤WL:=fun x hx=>by have:=bP (w:=lsW xpW) hx;omega
def aUH (s:Sm) (hw:smW s≤WL) (K:An→Prop):bp Tryz.prog pr 118 [.of (.agg [ci 0,aH {data:=#[]},aH (aD s.nm),C.sl [] 0,slC bA s.ns,cb s.un,C.sl [] 0,C.sl [] 0,C.sl [] 0,slC (lsC xpC) s.rws,slC asC s.sts,slC xpC s.wh,slC qyC s.q]),.of (.agg [ci 0,aH {data:=#[]},aH {data:=#[]},C.sl [] 0,C.sl [] 0,cb false,C.sl [] 0,C.sl [] 0,C.sl [] 0,C.sl [] 0,C.sl [] 0,C.sl [] 0,C.sl [] 0])] [] K↔K ⟨false,[aG (decide (s.nm=[])&&decide (s.ns=[])&&!s.un&&decide (s.rws.length=0)&&decide (s.sts.length=0)&&decide (s.wh.length=0)&&decide (s.q.length=0))],[]⟩:=by
 have h:=acx (.mk 0 [] s.nm [] s.ns s.un [] [] [] s.rws s.sts s.wh s.q) (.mk 0 [] [] [] [] false [] [] [] [] [] [] []) (by simp only[smW,d8,WL,cU,lsW,bC,cT,cd] at hw ⊢;omega)
 have e4:smC (.mk 0 [] s.nm [] s.ns s.un [] [] [] s.rws s.sts s.wh s.q)=[ci 0,aH {data:=#[]},aH (aD s.nm),C.sl [] 0,slC bA s.ns,cb s.un,C.sl [] 0,C.sl [] 0,C.sl [] 0,slC (lsC xpC) s.rws,slC asC s.sts,slC xpC s.wh,slC qyC s.q]:=by rw[iB];rfl
 have e5:smC (.mk 0 [] [] [] [] false [] [] [] [] [] [] [])=[ci 0,aH {data:=#[]},aH {data:=#[]},C.sl [] 0,C.sl [] 0,cb false,C.sl [] 0,C.sl [] 0,C.sl [] 0,C.sl [] 0,C.sl [] 0,C.sl [] 0,C.sl [] 0]:=by rw[iB];rfl
 rw[e4,e5] at h
 have e6:∀ i:Decidable (Sm.mk 0 [] s.nm [] s.ns s.un [] [] [] s.rws s.sts s.wh s.q=Sm.mk 0 [] [] [] [] false [] [] [] [] [] [] []),@decide _ i=(decide (s.nm=[])&&decide (s.ns=[])&&!s.un&&decide (s.rws.length=0)&&decide (s.sts.length=0)&&decide (s.wh.length=0)&&decide (s.q.length=0)):=fun i=>by
  rw[bX]
  simp only[ar,ab,cj,aaf,abA,Z4c,cW,gh,ab0,ji]
 rw[e6] at h
 exact aN.k h K
def aUG (s:Sm) (hw:smW s≤WL) (K:An→Prop):bp Tryz.prog pr 118 [.of (.agg [ci 0,aH {data:=#[]},aH {data:=#[]},slC cdC s.cs,C.sl [] 0,cb false,slC kdC s.kys,slC rdC s.rfs,slC xpC s.chs,slC (lsC xpC) s.rws,slC asC s.sts,slC xpC s.wh,slC qyC s.q]),.of (.agg [ci 0,aH {data:=#[]},aH {data:=#[]},C.sl [] 0,C.sl [] 0,cb false,C.sl [] 0,C.sl [] 0,C.sl [] 0,C.sl [] 0,C.sl [] 0,C.sl [] 0,C.sl [] 0])] [] K↔K ⟨false,[aG (decide (s.cs.length=0)&&decide (s.kys.length=0)&&decide (s.rfs.length=0)&&decide (s.chs.length=0)&&decide (s.rws.length=0)&&decide (s.sts.length=0)&&decide (s.wh.length=0)&&decide (s.q.length=0))],[]⟩:=by
 have h:=acx (.mk 0 [] [] s.cs [] false s.kys s.rfs s.chs s.rws s.sts s.wh s.q) (.mk 0 [] [] [] [] false [] [] [] [] [] [] []) (by simp only[smW,d8,WL,cU,lsW,bC,cT,cd] at hw ⊢;omega)
 have e4:smC (.mk 0 [] [] s.cs [] false s.kys s.rfs s.chs s.rws s.sts s.wh s.q)=[ci 0,aH {data:=#[]},aH {data:=#[]},slC cdC s.cs,C.sl [] 0,cb false,slC kdC s.kys,slC rdC s.rfs,slC xpC s.chs,slC (lsC xpC) s.rws,slC asC s.sts,slC xpC s.wh,slC qyC s.q]:=by rw[iB];rfl
 have e5:smC (.mk 0 [] [] [] [] false [] [] [] [] [] [] [])=[ci 0,aH {data:=#[]},aH {data:=#[]},C.sl [] 0,C.sl [] 0,cb false,C.sl [] 0,C.sl [] 0,C.sl [] 0,C.sl [] 0,C.sl [] 0,C.sl [] 0,C.sl [] 0]:=by rw[iB];rfl
 rw[e4,e5] at h
 have e6:∀ i:Decidable (Sm.mk 0 [] [] s.cs [] false s.kys s.rfs s.chs s.rws s.sts s.wh s.q=Sm.mk 0 [] [] [] [] false [] [] [] [] [] [] []),@decide _ i=(decide (s.cs.length=0)&&decide (s.kys.length=0)&&decide (s.rfs.length=0)&&decide (s.chs.length=0)&&decide (s.rws.length=0)&&decide (s.sts.length=0)&&decide (s.wh.length=0)&&decide (s.q.length=0)):=fun i=>by
  rw[bX]
  simp only[ar,ab,cj,aaf,abA,Z4c,cW,gh,ab0,ji]
 rw[e6] at h
 exact aN.k h K
def aUF (s:Sm) (hw:smW s≤WL) (K:An→Prop):bp Tryz.prog pr 118 [.of (.agg [ci 0,aH {data:=#[]},aH {data:=#[]},slC cdC s.cs,slC bA s.ns,cb s.un,slC kdC s.kys,slC rdC s.rfs,slC xpC s.chs,slC (lsC xpC) s.rws,slC asC s.sts,slC xpC s.wh,slC qyC s.q]),.of (.agg [ci 0,aH {data:=#[]},aH {data:=#[]},C.sl [] 0,C.sl [] 0,cb false,C.sl [] 0,C.sl [] 0,C.sl [] 0,C.sl [] 0,C.sl [] 0,C.sl [] 0,C.sl [] 0])] [] K↔K ⟨false,[aG (decide (s.cs.length=0)&&decide (s.ns.length=0)&&!s.un&&decide (s.kys.length=0)&&decide (s.rfs.length=0)&&decide (s.chs.length=0)&&decide (s.rws.length=0)&&decide (s.sts.length=0)&&decide (s.wh.length=0)&&decide (s.q.length=0))],[]⟩:=by
 have h:=acx (.mk 0 [] [] s.cs s.ns s.un s.kys s.rfs s.chs s.rws s.sts s.wh s.q) (.mk 0 [] [] [] [] false [] [] [] [] [] [] []) (by simp only[smW,d8,WL,cU,lsW,bC,cT,cd] at hw ⊢;omega)
 have e4:smC (.mk 0 [] [] s.cs s.ns s.un s.kys s.rfs s.chs s.rws s.sts s.wh s.q)=[ci 0,aH {data:=#[]},aH {data:=#[]},slC cdC s.cs,slC bA s.ns,cb s.un,slC kdC s.kys,slC rdC s.rfs,slC xpC s.chs,slC (lsC xpC) s.rws,slC asC s.sts,slC xpC s.wh,slC qyC s.q]:=by rw[iB];rfl
 have e5:smC (.mk 0 [] [] [] [] false [] [] [] [] [] [] [])=[ci 0,aH {data:=#[]},aH {data:=#[]},C.sl [] 0,C.sl [] 0,cb false,C.sl [] 0,C.sl [] 0,C.sl [] 0,C.sl [] 0,C.sl [] 0,C.sl [] 0,C.sl [] 0]:=by rw[iB];rfl
 rw[e4,e5] at h
 have e6:∀ i:Decidable (Sm.mk 0 [] [] s.cs s.ns s.un s.kys s.rfs s.chs s.rws s.sts s.wh s.q=Sm.mk 0 [] [] [] [] false [] [] [] [] [] [] []),@decide _ i=(decide (s.cs.length=0)&&decide (s.ns.length=0)&&!s.un&&decide (s.kys.length=0)&&decide (s.rfs.length=0)&&decide (s.chs.length=0)&&decide (s.rws.length=0)&&decide (s.sts.length=0)&&decide (s.wh.length=0)&&decide (s.q.length=0)):=fun i=>by
  rw[bX]
  simp only[ar,ab,cj,aaf,abA,Z4c,cW,gh,ab0,ji]
 rw[e6] at h
 exact aN.k h K
def aUE (s:Sm) (hw:smW s≤WL) (K:An→Prop):bp Tryz.prog pr 118 [.of (.agg [ci 0,aH {data:=#[]},aH (aD s.nm),slC cdC s.cs,C.sl [] 0,cb s.un,slC kdC s.kys,slC rdC s.rfs,slC xpC s.chs,C.sl [] 0,slC asC s.sts,slC xpC s.wh,C.sl [] 0]),.of (.agg [ci 0,aH {data:=#[]},aH {data:=#[]},C.sl [] 0,C.sl [] 0,cb false,C.sl [] 0,C.sl [] 0,C.sl [] 0,C.sl [] 0,C.sl [] 0,C.sl [] 0,C.sl [] 0])] [] K↔K ⟨false,[aG (decide (s.nm=[])&&decide (s.cs.length=0)&&!s.un&&decide (s.kys.length=0)&&decide (s.rfs.length=0)&&decide (s.chs.length=0)&&decide (s.sts.length=0)&&decide (s.wh.length=0))],[]⟩:=by
 have h:=acx (.mk 0 [] s.nm s.cs [] s.un s.kys s.rfs s.chs [] s.sts s.wh []) (.mk 0 [] [] [] [] false [] [] [] [] [] [] []) (by simp only[smW,d8,WL,cU,lsW,bC,cT,cd] at hw ⊢;omega)
 have e4:smC (.mk 0 [] s.nm s.cs [] s.un s.kys s.rfs s.chs [] s.sts s.wh [])=[ci 0,aH {data:=#[]},aH (aD s.nm),slC cdC s.cs,C.sl [] 0,cb s.un,slC kdC s.kys,slC rdC s.rfs,slC xpC s.chs,C.sl [] 0,slC asC s.sts,slC xpC s.wh,C.sl [] 0]:=by rw[iB];rfl
 have e5:smC (.mk 0 [] [] [] [] false [] [] [] [] [] [] [])=[ci 0,aH {data:=#[]},aH {data:=#[]},C.sl [] 0,C.sl [] 0,cb false,C.sl [] 0,C.sl [] 0,C.sl [] 0,C.sl [] 0,C.sl [] 0,C.sl [] 0,C.sl [] 0]:=by rw[iB];rfl
 rw[e4,e5] at h
 have e6:∀ i:Decidable (Sm.mk 0 [] s.nm s.cs [] s.un s.kys s.rfs s.chs [] s.sts s.wh []=Sm.mk 0 [] [] [] [] false [] [] [] [] [] [] []),@decide _ i=(decide (s.nm=[])&&decide (s.cs.length=0)&&!s.un&&decide (s.kys.length=0)&&decide (s.rfs.length=0)&&decide (s.chs.length=0)&&decide (s.sts.length=0)&&decide (s.wh.length=0)):=fun i=>by
  rw[bX]
  simp only[ar,ab,cj,aaf,abA,Z4c,cW,gh,ab0,ji]
 rw[e6] at h
 exact aN.k h K
def aUD (s:Sm) (hw:smW s≤WL) (K:An→Prop):bp Tryz.prog pr 118 [.of (.agg [ci 0,aH {data:=#[]},aH (aD s.nm),slC cdC s.cs,slC bA s.ns,cb s.un,slC kdC s.kys,slC rdC s.rfs,slC xpC s.chs,slC (lsC xpC) s.rws,C.sl [] 0,C.sl [] 0,slC qyC s.q]),.of (.agg [ci 0,aH {data:=#[]},aH {data:=#[]},C.sl [] 0,C.sl [] 0,cb false,C.sl [] 0,C.sl [] 0,C.sl [] 0,C.sl [] 0,C.sl [] 0,C.sl [] 0,C.sl [] 0])] [] K↔K ⟨false,[aG (decide (s.nm=[])&&decide (s.cs.length=0)&&decide (s.ns.length=0)&&!s.un&&decide (s.kys.length=0)&&decide (s.rfs.length=0)&&decide (s.chs.length=0)&&decide (s.rws.length=0)&&decide (s.q.length=0))],[]⟩:=by
 have h:=acx (.mk 0 [] s.nm s.cs s.ns s.un s.kys s.rfs s.chs s.rws [] [] s.q) (.mk 0 [] [] [] [] false [] [] [] [] [] [] []) (by simp only[smW,d8,WL,cU,lsW,bC,cT,cd] at hw ⊢;omega)
 have e4:smC (.mk 0 [] s.nm s.cs s.ns s.un s.kys s.rfs s.chs s.rws [] [] s.q)=[ci 0,aH {data:=#[]},aH (aD s.nm),slC cdC s.cs,slC bA s.ns,cb s.un,slC kdC s.kys,slC rdC s.rfs,slC xpC s.chs,slC (lsC xpC) s.rws,C.sl [] 0,C.sl [] 0,slC qyC s.q]:=by rw[iB];rfl
 have e5:smC (.mk 0 [] [] [] [] false [] [] [] [] [] [] [])=[ci 0,aH {data:=#[]},aH {data:=#[]},C.sl [] 0,C.sl [] 0,cb false,C.sl [] 0,C.sl [] 0,C.sl [] 0,C.sl [] 0,C.sl [] 0,C.sl [] 0,C.sl [] 0]:=by rw[iB];rfl
 rw[e4,e5] at h
 have e6:∀ i:Decidable (Sm.mk 0 [] s.nm s.cs s.ns s.un s.kys s.rfs s.chs s.rws [] [] s.q=Sm.mk 0 [] [] [] [] false [] [] [] [] [] [] []),@decide _ i=(decide (s.nm=[])&&decide (s.cs.length=0)&&decide (s.ns.length=0)&&!s.un&&decide (s.kys.length=0)&&decide (s.rfs.length=0)&&decide (s.chs.length=0)&&decide (s.rws.length=0)&&decide (s.q.length=0)):=fun i=>by
  rw[bX]
  simp only[ar,ab,cj,aaf,abA,Z4c,cW,gh,ab0,ji]
 rw[e6] at h
 exact aN.k h K
def aUC (s:Sm) (hw:smW s≤WL) (K:An→Prop):bp Tryz.prog pr 118 [.of (.agg [ci 0,aH {data:=#[]},aH (aD s.nm),slC cdC s.cs,slC bA s.ns,cb s.un,slC kdC s.kys,slC rdC s.rfs,slC xpC s.chs,slC (lsC xpC) s.rws,slC asC s.sts,C.sl [] 0,slC qyC s.q]),.of (.agg [ci 0,aH {data:=#[]},aH {data:=#[]},C.sl [] 0,C.sl [] 0,cb false,C.sl [] 0,C.sl [] 0,C.sl [] 0,C.sl [] 0,C.sl [] 0,C.sl [] 0,C.sl [] 0])] [] K↔K ⟨false,[aG (decide (s.nm=[])&&decide (s.cs.length=0)&&decide (s.ns.length=0)&&!s.un&&decide (s.kys.length=0)&&decide (s.rfs.length=0)&&decide (s.chs.length=0)&&decide (s.rws.length=0)&&decide (s.sts.length=0)&&decide (s.q.length=0))],[]⟩:=by
 have h:=acx (.mk 0 [] s.nm s.cs s.ns s.un s.kys s.rfs s.chs s.rws s.sts [] s.q) (.mk 0 [] [] [] [] false [] [] [] [] [] [] []) (by simp only[smW,d8,WL,cU,lsW,bC,cT,cd] at hw ⊢;omega)
 have e4:smC (.mk 0 [] s.nm s.cs s.ns s.un s.kys s.rfs s.chs s.rws s.sts [] s.q)=[ci 0,aH {data:=#[]},aH (aD s.nm),slC cdC s.cs,slC bA s.ns,cb s.un,slC kdC s.kys,slC rdC s.rfs,slC xpC s.chs,slC (lsC xpC) s.rws,slC asC s.sts,C.sl [] 0,slC qyC s.q]:=by rw[iB];rfl
 have e5:smC (.mk 0 [] [] [] [] false [] [] [] [] [] [] [])=[ci 0,aH {data:=#[]},aH {data:=#[]},C.sl [] 0,C.sl [] 0,cb false,C.sl [] 0,C.sl [] 0,C.sl [] 0,C.sl [] 0,C.sl [] 0,C.sl [] 0,C.sl [] 0]:=by rw[iB];rfl
 rw[e4,e5] at h
 have e6:∀ i:Decidable (Sm.mk 0 [] s.nm s.cs s.ns s.un s.kys s.rfs s.chs s.rws s.sts [] s.q=Sm.mk 0 [] [] [] [] false [] [] [] [] [] [] []),@decide _ i=(decide (s.nm=[])&&decide (s.cs.length=0)&&decide (s.ns.length=0)&&!s.un&&decide (s.kys.length=0)&&decide (s.rfs.length=0)&&decide (s.chs.length=0)&&decide (s.rws.length=0)&&decide (s.sts.length=0)&&decide (s.q.length=0)):=fun i=>by
  rw[bX]
  simp only[ar,ab,cj,aaf,abA,Z4c,cW,gh,ab0,ji]
 rw[e6] at h
 exact aN.k h K
def aFM (s:Sm) (hw:smW s≤WL) (K:An→Prop):bp Tryz.prog pr 118 [.of (.agg [ci 0,aH {data:=#[]},aH (aD s.nm),slC cdC s.cs,slC bA s.ns,cb s.un,slC kdC s.kys,slC rdC s.rfs,slC xpC s.chs,slC (lsC xpC) s.rws,slC asC s.sts,slC xpC s.wh,C.sl [] 0]),.of (.agg [ci 0,aH {data:=#[]},aH {data:=#[]},C.sl [] 0,C.sl [] 0,cb false,C.sl [] 0,C.sl [] 0,C.sl [] 0,C.sl [] 0,C.sl [] 0,C.sl [] 0,C.sl [] 0])] [] K↔K ⟨false,[aG (decide (s.nm=[])&&decide (s.cs.length=0)&&decide (s.ns.length=0)&&!s.un&&decide (s.kys.length=0)&&decide (s.rfs.length=0)&&decide (s.chs.length=0)&&decide (s.rws.length=0)&&decide (s.sts.length=0)&&decide (s.wh.length=0))],[]⟩:=by
 have h:=acx (.mk 0 [] s.nm s.cs s.ns s.un s.kys s.rfs s.chs s.rws s.sts s.wh []) (.mk 0 [] [] [] [] false [] [] [] [] [] [] []) (by simp only[smW,d8,WL,cU,lsW,bC,cT,cd] at hw ⊢;omega)
 have e4:smC (.mk 0 [] s.nm s.cs s.ns s.un s.kys s.rfs s.chs s.rws s.sts s.wh [])=[ci 0,aH {data:=#[]},aH (aD s.nm),slC cdC s.cs,slC bA s.ns,cb s.un,slC kdC s.kys,slC rdC s.rfs,slC xpC s.chs,slC (lsC xpC) s.rws,slC asC s.sts,slC xpC s.wh,C.sl [] 0]:=by rw[iB];rfl
 have e5:smC (.mk 0 [] [] [] [] false [] [] [] [] [] [] [])=[ci 0,aH {data:=#[]},aH {data:=#[]},C.sl [] 0,C.sl [] 0,cb false,C.sl [] 0,C.sl [] 0,C.sl [] 0,C.sl [] 0,C.sl [] 0,C.sl [] 0,C.sl [] 0]:=by rw[iB];rfl
 rw[e4,e5] at h
 have e6:∀ i:Decidable (Sm.mk 0 [] s.nm s.cs s.ns s.un s.kys s.rfs s.chs s.rws s.sts s.wh []=Sm.mk 0 [] [] [] [] false [] [] [] [] [] [] []),@decide _ i=(decide (s.nm=[])&&decide (s.cs.length=0)&&decide (s.ns.length=0)&&!s.un&&decide (s.kys.length=0)&&decide (s.rfs.length=0)&&decide (s.chs.length=0)&&decide (s.rws.length=0)&&decide (s.sts.length=0)&&decide (s.wh.length=0)):=fun i=>by
  rw[bX]
  simp only[ar,ab,cj,aaf,abA,Z4c,cW,gh,ab0,ji]
 rw[e6] at h
 exact aN.k h K
def ajK (s:Sm) (hw:smW s≤WL) (K:An→Prop):bp Tryz.prog pr 118 [.of (.agg [ci 0,aH {data:=#[]},aH (aD s.nm),slC cdC s.cs,slC bA s.ns,cb s.un,slC kdC s.kys,slC rdC s.rfs,slC xpC s.chs,slC (lsC xpC) s.rws,slC asC s.sts,slC xpC s.wh,slC qyC s.q]),.of (.agg [ci 0,aH {data:=#[]},aH {data:=#[]},C.sl [] 0,C.sl [] 0,cb false,C.sl [] 0,C.sl [] 0,C.sl [] 0,C.sl [] 0,C.sl [] 0,C.sl [] 0,C.sl [] 0])] [] K↔K ⟨false,[aG (decide (s.nm=[])&&decide (s.cs.length=0)&&decide (s.ns.length=0)&&!s.un&&decide (s.kys.length=0)&&decide (s.rfs.length=0)&&decide (s.chs.length=0)&&decide (s.rws.length=0)&&decide (s.sts.length=0)&&decide (s.wh.length=0)&&decide (s.q.length=0))],[]⟩:=by
 have h:=acx (.mk 0 [] s.nm s.cs s.ns s.un s.kys s.rfs s.chs s.rws s.sts s.wh s.q) (.mk 0 [] [] [] [] false [] [] [] [] [] [] []) (by simp only[smW,d8,WL,cU,lsW,bC,cT,cd] at hw ⊢;omega)
 have e4:smC (.mk 0 [] s.nm s.cs s.ns s.un s.kys s.rfs s.chs s.rws s.sts s.wh s.q)=[ci 0,aH {data:=#[]},aH (aD s.nm),slC cdC s.cs,slC bA s.ns,cb s.un,slC kdC s.kys,slC rdC s.rfs,slC xpC s.chs,slC (lsC xpC) s.rws,slC asC s.sts,slC xpC s.wh,slC qyC s.q]:=by rw[iB];rfl
 have e5:smC (.mk 0 [] [] [] [] false [] [] [] [] [] [] [])=[ci 0,aH {data:=#[]},aH {data:=#[]},C.sl [] 0,C.sl [] 0,cb false,C.sl [] 0,C.sl [] 0,C.sl [] 0,C.sl [] 0,C.sl [] 0,C.sl [] 0,C.sl [] 0]:=by rw[iB];rfl
 rw[e4,e5] at h
 have e6:∀ i:Decidable (Sm.mk 0 [] s.nm s.cs s.ns s.un s.kys s.rfs s.chs s.rws s.sts s.wh s.q=Sm.mk 0 [] [] [] [] false [] [] [] [] [] [] []),@decide _ i=(decide (s.nm=[])&&decide (s.cs.length=0)&&decide (s.ns.length=0)&&!s.un&&decide (s.kys.length=0)&&decide (s.rfs.length=0)&&decide (s.chs.length=0)&&decide (s.rws.length=0)&&decide (s.sts.length=0)&&decide (s.wh.length=0)&&decide (s.q.length=0)):=fun i=>by
  rw[bX]
  simp only[ar,ab,cj,aaf,abA,Z4c,cW,gh,ab0,ji]
 rw[e6] at h
 exact aN.k h K
def zCd (l:List Cd) (h:l.length≤4611686018427387903) (a b:Int) (K:An→Prop):bp Tryz.prog pr 104 [.of (slC cdC l),.of (ci a),.of (ci b),.of (.fn 105 [])] [] K↔K ⟨false,[aG (bu l a b abv)],[]⟩:=awI l a b abv _ [] ⟨h,aGU,aBE,fun x _=>aL3 x⟩ K
def zKd (l:List Kd) (hw:lsW kdW l≤WL) (a b:Int) (K:An→Prop):bp Tryz.prog pr 106 [.of (slC kdC l),.of (ci a),.of (ci b),.of (.fn 107 [])] [] K↔K ⟨false,[aG (bu l a b afZ)],[]⟩:=by
 have h1:=cZ kdW l fun x _=>by simp[kdW]
 refine awH l a b afZ _ [] ⟨by simp only[WL] at hw;omega,aGT,aBD,fun x hx=>aLp x ?_⟩ K
 have h2:=bP (w:=kdW) hx
 have h3:=cZ cU x.ns fun x _=>by simp[cU]
 simp only[WL,kdW] at *
 omega
def zRd (l:List Rd) (hw:lsW rdW l≤WL) (a b:Int) (K:An→Prop):bp Tryz.prog pr 108 [.of (slC rdC l),.of (ci a),.of (ci b),.of (.fn 109 [])] [] K↔K ⟨false,[aG (bu l a b aco)],[]⟩:=by
 have h1:=cZ rdW l fun x _=>by simp[rdW]
 refine awG l a b aco _ [] ⟨by simp only[WL] at hw;omega,aGS,aBC,fun x hx=>aCC x ?_⟩ K
 have h2:=bP (w:=rdW) hx
 have h3:=cZ cU x.ns fun x _=>by simp[cU]
 have h4:=cZ cU x.to fun x _=>by simp[cU]
 simp only[WL,rdW] at *
 omega
def zR (l:List (List Xp)) (g:lsP (lsP e7) l) (hw:lsW (lsW xpW) l≤WL) (a b:Int) (K:An→Prop):bp Tryz.prog pr 113 [.of (slC (lsC xpC) l),.of (ci a),.of (ci b),.of (.fn 114 [])] [] K↔K ⟨false,[aG (bu l a b fun r=>bu r 1 16 cV)],[]⟩:=by
 have h1:=cZ (lsW xpW) l fun x _=>by simp[lsW]
 exact atS l a b _ _ [] ⟨by simp only[WL] at hw;omega,aGR,aBB,fun x hx=>aKF x (awt x (g x hx) (aNe hw x hx)) (aNe hw x hx)⟩ K
def aMV:=ai (ai (ai @zq (ai @a3R @afx)) (ai @aej (ai @ahk @afE))) (ai (ai @cQ (ai @abQ @Q9)) (ai @zT0 (ai @aAq (ba aPM))))
def axO (a:As) (g:e7 a.e) (hw:asW a≤WL):G1 116 [.of (.agg (asC a))] (aG (acc a)):=by
 have k1:=fun K=>aN.k ((ajQ WL (aM _)).1 a.e g (by simp only[asW] at hw;omega)) K
 refine ah rfl aPM aAq rfl ?_
 cases c:bk a.nm
 .simp -implicitDefEqProofs(maxSteps:=9^9)only[Tryz.f116,↓zA,sevalprocAttr,aMV,fd,c,acc]
 .simp -implicitDefEqProofs(maxSteps:=9^9)only[Tryz.f116,↓zA,sevalprocAttr,aMV,fd,c,k1,acc]
def zAs (l:List As) (g:lsP aFf l) (hw:lsW asW l≤WL) (a b:Int) (K:An→Prop):bp Tryz.prog pr 115 [.of (slC asC l),.of (ci a),.of (ci b),.of (.fn 116 [])] [] K↔K ⟨false,[aG (bu l a b acc)],[]⟩:=by
 have h1:=cZ asW l fun x _=>by simp[asW]
 exact awJ l a b acc _ [] ⟨by simp only[WL] at hw;omega,aGQ,aBA,fun x hx=>axO x (g x hx).2 (by have:=bP (w:=asW) hx;omega)⟩ K
def smE (s:Sm):((dA s.cs.length 1 16&&s.cs.all abv)=bu s.cs 1 16 abv)∧((dA s.kys.length 0 64&&s.kys.all afZ)=bu s.kys 0 64 afZ)∧((dA s.rfs.length 0 64&&s.rfs.all aco)=bu s.rfs 0 64 aco)∧((dA s.chs.length 0 64&&s.chs.all cV)=bu s.chs 0 64 cV)∧((dA s.q.length 1 1&&s.q.all dV)=bu s.q 1 1 dV)∧((dA s.rws.length 1 64&&s.rws.all fun l=>dA l.length 1 16&&l.all cV)=bu s.rws 1 64 (fun r=>bu r 1 16 cV))∧((dA s.sts.length 1 16&&s.sts.all acc)=bu s.sts 1 16 acc)∧((dA s.wh.length 0 1&&s.wh.all cV)=bu s.wh 0 1 cV)∧((dA s.ns.length 1 16&&s.ns.all bk)=bu s.ns 1 16 bk)∧((dA s.ns.length 0 16&&s.ns.all bk)=bu s.ns 0 16 bk):=by
 refine⟨(fP s.cs 1 16 abv).symm,(fP s.kys 0 64 afZ).symm,(fP s.rfs 0 64 aco).symm,(fP s.chs 0 64 cV).symm,(fP s.q 1 1 dV).symm,?_,(fP s.sts 1 16 acc).symm,(fP s.wh 0 1 cV).symm,(fP s.ns 1 16 bk).symm,(fP s.ns 0 16 bk).symm⟩
 rw[show bu s.rws 1 64 (fun r=>bu r 1 16 cV)=_ from fP s.rws 1 64 _]
 congr 2
 funext r
 exact (fP r 1 16 cV).symm
def smB (s:Sm) (hw:smW s≤WL):(s.ns.length≤4611686018427387903∧s.cs.length≤4611686018427387903)∧lsW kdW s.kys≤WL∧lsW rdW s.rfs≤WL∧lsW xpW s.chs≤WL∧lsW (lsW xpW) s.rws≤WL∧lsW asW s.sts≤WL∧lsW xpW s.wh≤WL∧lsW qyW s.q≤WL:=by
 simp only[WL,smW] at *
 have n1:=cZ cdW s.cs fun x _=>by simp[cdW]
 have n2:=cZ cU s.ns fun x _=>by simp[cU]
 omega
def smF (s:Sm) (g:abz s) (hw:smW s≤WL):=ai (smE s) (ai (smB s hw).1.1 (ai (zCd s.cs (smB s hw).1.2) (ai (zKd s.kys (smB s hw).2.1) (ai (zRd s.rfs (smB s hw).2.2.1) (ai (zX (awt s.chs g.2.2.2.2.2.2.2.2.1 (smB s hw).2.2.2.1) (smB s hw).2.2.2.1) (ai (zR s.rws g.2.2.2.2.2.2.2.2.2.1 (smB s hw).2.2.2.2.1) (ai (zAs s.sts g.2.2.2.2.2.2.2.2.2.2.1 (smB s hw).2.2.2.2.2.1) (ai (aCR s.wh (awt s.wh g.2.2.2.2.2.2.2.2.2.2.2.1 (smB s hw).2.2.2.2.2.2.1) (smB s hw).2.2.2.2.2.2.1) (zQ (a0C s.q g.2.2.2.2.2.2.2.2.2.2.2.2 (smB s hw).2.2.2.2.2.2.2) (smB s hw).2.2.2.2.2.2.2)))))))))
def zsm:=ai (ai (ai @fd @ajU) (ai @gn @bm)) (ai (ai @eI @eZ) (ai @dh (ai @dv @dm)))
def fX:=ai (ai (ai (ai (ai @zq (ai @a3Q @a3P)) (ai @afx (ai @aej @aWn))) (ai (ai @aTp (ai @aWm @aTo)) (ai (ai @aWl @aTn) (ai @ajT @ain)))) (ai (ai (ai @auS (ai @aq6 @apo)) (ai (ai @anr @aWk) (ai @aTm @aWj))) (ai (ai @aTl (ai @aGP @aBz)) (ai (ai @aWi @aTk) (ai @abb @eu))))) (ai (ai (ai (ai @aes (ai @adQ @aer)) (ai @cQ (ai @abQ @hY))) (ai (ai @d7 (ai @bN @aGU)) (ai (ai @aBE @aGT) (ai @aBD @aGS)))) (ai (ai (ai @aBC (ai @ahk @afE)) (ai (ai @am4 @aj8) (ai @aGR @aBB))) (ai (ai @aGQ (ai @aBA @Q9)) (ai (ai @Q3 @zT0) (ai @acj (ba afp))))))
def aUy (s:Sm) (g:abz s) (hw:smW s≤WL) (hk:s.kd=1):G1 34 [.of (.agg (smC s))] (aG (dU s)):=by
 have F:=smF s g hw
 have kS:=aUH s hw
 refine ah rfl afp acj rfl ?_
 cases b0:bk s.tb
 .simp -implicitDefEqProofs(maxSteps:=9^9)only[Tryz.f34,↓zA,sevalprocAttr,fX,dU,hk,b0,dc,dQ,zsm,F,Int.reduceEq,kS]
 cases b1:bu s.cs 1 16 abv
 .simp -implicitDefEqProofs(maxSteps:=9^9)only[Tryz.f34,↓zA,sevalprocAttr,fX,dU,hk,b0,b1,dc,dQ,zsm,F,Int.reduceEq,kS]
 cases b2:bu s.kys 0 64 afZ
 .simp -implicitDefEqProofs(maxSteps:=9^9)only[Tryz.f34,↓zA,sevalprocAttr,fX,dU,hk,b0,b1,b2,dc,dQ,zsm,F,Int.reduceEq,kS]
 cases b3:bu s.rfs 0 64 aco
 .simp -implicitDefEqProofs(maxSteps:=9^9)only[Tryz.f34,↓zA,sevalprocAttr,fX,dU,hk,b0,b1,b2,b3,dc,dQ,zsm,F,Int.reduceEq,kS]
 cases b4:bu s.chs 0 64 cV
 .simp -implicitDefEqProofs(maxSteps:=9^9)only[Tryz.f34,↓zA,sevalprocAttr,fX,dU,hk,b0,b1,b2,b3,b4,dc,dQ,zsm,F,Int.reduceEq,kS]
 simp -implicitDefEqProofs(maxSteps:=9^9)only[Tryz.f34,↓zA,sevalprocAttr,fX,dU,hk,b0,b1,b2,b3,b4,dc,dQ,zsm,F,Int.reduceEq,kS]
def aUx (s:Sm) (g:abz s) (hw:smW s≤WL) (hk:s.kd=2):G1 34 [.of (.agg (smC s))] (aG (dU s)):=by
 have F:=smF s g hw
 have kS:=aUG s hw
 refine ah rfl afp acj rfl ?_
 cases b0:bk s.tb
 .simp -implicitDefEqProofs(maxSteps:=9^9)only[Tryz.f34,↓zA,sevalprocAttr,fX,dU,hk,b0,dc,dQ,zsm,F,Int.reduceEq,kS]
 cases b1:bk s.nm
 .simp -implicitDefEqProofs(maxSteps:=9^9)only[Tryz.f34,↓zA,sevalprocAttr,fX,dU,hk,b0,b1,dc,dQ,zsm,F,Int.reduceEq,kS]
 cases b2:bu s.ns 1 16 bk
 .simp -implicitDefEqProofs(maxSteps:=9^9)only[Tryz.f34,↓zA,sevalprocAttr,fX,dU,hk,b0,b1,b2,dc,dQ,zsm,F,Int.reduceEq,kS]
 simp -implicitDefEqProofs(maxSteps:=9^9)only[Tryz.f34,↓zA,sevalprocAttr,fX,dU,hk,b0,b1,b2,dc,dQ,zsm,F,Int.reduceEq,kS]
def aUu (s:Sm) (g:abz s) (hw:smW s≤WL) (hk:s.kd=5):G1 34 [.of (.agg (smC s))] (aG (dU s)):=by
 have F:=smF s g hw
 have kS:=aUD s hw
 refine ah rfl afp acj rfl ?_
 cases b0:bk s.tb
 .simp -implicitDefEqProofs(maxSteps:=9^9)only[Tryz.f34,↓zA,sevalprocAttr,fX,dU,hk,b0,dc,dQ,zsm,F,Int.reduceEq,kS]
 cases b1:bu s.sts 1 16 acc
 .simp -implicitDefEqProofs(maxSteps:=9^9)only[Tryz.f34,↓zA,sevalprocAttr,fX,dU,hk,b0,b1,dc,dQ,zsm,F,Int.reduceEq,kS]
 cases b2:bu s.wh 0 1 cV
 .simp -implicitDefEqProofs(maxSteps:=9^9)only[Tryz.f34,↓zA,sevalprocAttr,fX,dU,hk,b0,b1,b2,dc,dQ,zsm,F,Int.reduceEq,kS]
 simp -implicitDefEqProofs(maxSteps:=9^9)only[Tryz.f34,↓zA,sevalprocAttr,fX,dU,hk,b0,b1,b2,dc,dQ,zsm,F,Int.reduceEq,kS]
def aUt (s:Sm) (g:abz s) (hw:smW s≤WL) (hk:s.kd=6):G1 34 [.of (.agg (smC s))] (aG (dU s)):=by
 have F:=smF s g hw
 have kS:=aUC s hw
 refine ah rfl afp acj rfl ?_
 cases b0:bk s.tb
 .simp -implicitDefEqProofs(maxSteps:=9^9)only[Tryz.f34,↓zA,sevalprocAttr,fX,dU,hk,b0,dc,dQ,zsm,F,Int.reduceEq,kS]
 cases b1:bu s.wh 0 1 cV
 .simp -implicitDefEqProofs(maxSteps:=9^9)only[Tryz.f34,↓zA,sevalprocAttr,fX,dU,hk,b0,b1,dc,dQ,zsm,F,Int.reduceEq,kS]
 simp -implicitDefEqProofs(maxSteps:=9^9)only[Tryz.f34,↓zA,sevalprocAttr,fX,dU,hk,b0,b1,dc,dQ,zsm,F,Int.reduceEq,kS]
def aUs (s:Sm) (g:abz s) (hw:smW s≤WL) (hk:s.kd=7):G1 34 [.of (.agg (smC s))] (aG (dU s)):=by
 have F:=smF s g hw
 have kS:=aFM s hw
 refine ah rfl afp acj rfl ?_
 by_cases b0:s.tb=[]
 rotate_left
 .simp -implicitDefEqProofs(maxSteps:=9^9)only[Tryz.f34,↓zA,sevalprocAttr,fX,dU,hk,br,bo,b0,dc,dQ,zsm,F,Int.reduceEq,kS]
 cases b1:bu s.q 1 1 dV
 .simp -implicitDefEqProofs(maxSteps:=9^9)only[Tryz.f34,↓zA,sevalprocAttr,fX,dU,hk,br,bo,aa b0,b1,dc,dQ,zsm,F,Int.reduceEq,kS]
 simp -implicitDefEqProofs(maxSteps:=9^9)only[Tryz.f34,↓zA,sevalprocAttr,fX,dU,hk,br,bo,aa b0,b1,dc,dQ,zsm,F,Int.reduceEq,kS]
def aQy (s:Sm) (g:abz s) (hw:smW s≤WL) (hk:s.kd=11):G1 34 [.of (.agg (smC s))] (aG (dU s)):=by
 have F:=smF s g hw
 have kS:=aFM s hw
 refine ah rfl afp acj rfl ?_
 by_cases b0:s.tb=[]
 rotate_left
 .simp -implicitDefEqProofs(maxSteps:=9^9)only[Tryz.f34,↓zA,sevalprocAttr,fX,dU,hk,br,bo,b0,dc,dQ,zsm,F,Int.reduceEq,kS]
 cases b1:bu s.q 1 1 dV
 .simp -implicitDefEqProofs(maxSteps:=9^9)only[Tryz.f34,↓zA,sevalprocAttr,fX,dU,hk,br,bo,aa b0,b1,dc,dQ,zsm,F,Int.reduceEq,kS]
 simp -implicitDefEqProofs(maxSteps:=9^9)only[Tryz.f34,↓zA,sevalprocAttr,fX,dU,hk,br,bo,aa b0,b1,dc,dQ,zsm,F,Int.reduceEq,kS]
def aUr (s:Sm) (g:abz s) (hw:smW s≤WL) (hk:s.kd=8):G1 34 [.of (.agg (smC s))] (aG (dU s)):=by
 have F:=smF s g hw
 have kS:=ajK s hw
 refine ah rfl afp acj rfl ?_
 by_cases b0:s.tb=[]
 rotate_left
 .simp -implicitDefEqProofs(maxSteps:=9^9)only[Tryz.f34,↓zA,sevalprocAttr,fX,dU,hk,br,bo,eV,fp,b0,dc,dQ,zsm,F,Int.reduceEq,kS]
 simp -implicitDefEqProofs(maxSteps:=9^9)only[Tryz.f34,↓zA,sevalprocAttr,fX,dU,hk,br,bo,eV,fp,aa b0,dc,dQ,zsm,F,Int.reduceEq,kS]
def aUq (s:Sm) (g:abz s) (hw:smW s≤WL) (hk:s.kd=9):G1 34 [.of (.agg (smC s))] (aG (dU s)):=by
 have F:=smF s g hw
 have kS:=ajK s hw
 refine ah rfl afp acj rfl ?_
 by_cases b0:s.tb=[]
 rotate_left
 .simp -implicitDefEqProofs(maxSteps:=9^9)only[Tryz.f34,↓zA,sevalprocAttr,fX,dU,hk,br,bo,eV,fp,b0,dc,dQ,zsm,F,Int.reduceEq,kS]
 simp -implicitDefEqProofs(maxSteps:=9^9)only[Tryz.f34,↓zA,sevalprocAttr,fX,dU,hk,br,bo,eV,fp,aa b0,dc,dQ,zsm,F,Int.reduceEq,kS]
def aQz (s:Sm) (g:abz s) (hw:smW s≤WL) (hk:s.kd=10):G1 34 [.of (.agg (smC s))] (aG (dU s)):=by
 have F:=smF s g hw
 have kS:=ajK s hw
 refine ah rfl afp acj rfl ?_
 by_cases b0:s.tb=[]
 rotate_left
 .simp -implicitDefEqProofs(maxSteps:=9^9)only[Tryz.f34,↓zA,sevalprocAttr,fX,dU,hk,br,bo,eV,fp,b0,dc,dQ,zsm,F,Int.reduceEq,kS]
 simp -implicitDefEqProofs(maxSteps:=9^9)only[Tryz.f34,↓zA,sevalprocAttr,fX,dU,hk,br,bo,eV,fp,aa b0,dc,dQ,zsm,F,Int.reduceEq,kS]
def aQx (s:Sm) (g:abz s) (hw:smW s≤WL) (hk:s.kd=12):G1 34 [.of (.agg (smC s))] (aG (dU s)):=by
 have F:=smF s g hw
 have kS:=ajK s hw
 refine ah rfl afp acj rfl ?_
 by_cases b0:s.tb=[]
 rotate_left
 .simp -implicitDefEqProofs(maxSteps:=9^9)only[Tryz.f34,↓zA,sevalprocAttr,fX,dU,hk,br,bo,eV,fp,b0,dc,dQ,zsm,F,Int.reduceEq,kS]
 simp -implicitDefEqProofs(maxSteps:=9^9)only[Tryz.f34,↓zA,sevalprocAttr,fX,dU,hk,br,bo,eV,fp,aa b0,dc,dQ,zsm,F,Int.reduceEq,kS]
def aQw (s:Sm) (g:abz s) (hw:smW s≤WL) (hk:s.kd=13):G1 34 [.of (.agg (smC s))] (aG (dU s)):=by
 have F:=smF s g hw
 have kS:=ajK s hw
 refine ah rfl afp acj rfl ?_
 by_cases b0:s.tb=[]
 rotate_left
 .simp -implicitDefEqProofs(maxSteps:=9^9)only[Tryz.f34,↓zA,sevalprocAttr,fX,dU,hk,br,bo,eV,fp,b0,dc,dQ,zsm,F,Int.reduceEq,kS]
 simp -implicitDefEqProofs(maxSteps:=9^9)only[Tryz.f34,↓zA,sevalprocAttr,fX,dU,hk,br,bo,eV,fp,aa b0,dc,dQ,zsm,F,Int.reduceEq,kS]
def aQv (s:Sm) (g:abz s) (hw:smW s≤WL) (hk:s.kd=14):G1 34 [.of (.agg (smC s))] (aG (dU s)):=by
 have F:=smF s g hw
 have kS:=ajK s hw
 refine ah rfl afp acj rfl ?_
 by_cases b0:s.tb=[]
 rotate_left
 .simp -implicitDefEqProofs(maxSteps:=9^9)only[Tryz.f34,↓zA,sevalprocAttr,fX,dU,hk,br,bo,eV,fp,b0,dc,dQ,zsm,F,Int.reduceEq,kS]
 simp -implicitDefEqProofs(maxSteps:=9^9)only[Tryz.f34,↓zA,sevalprocAttr,fX,dU,hk,br,bo,eV,fp,aa b0,dc,dQ,zsm,F,Int.reduceEq,kS]
def aUw (s:Sm) (g:abz s) (hw:smW s≤WL) (hk:s.kd=3):G1 34 [.of (.agg (smC s))] (aG (dU s)):=by
 have F:=smF s g hw
 have kS:=aUF s hw
 refine ah rfl afp acj rfl ?_
 cases b0:bk s.tb
 .by_cases b2:s.tb=[]
  .cases b3:bk s.nm
   .simp -implicitDefEqProofs(maxSteps:=9^9)only[Tryz.f34,↓zA,sevalprocAttr,fX,dU,hk,b0,aa b2,b3,dc,dQ,zsm,F,Int.reduceEq,kS]
   .simp -implicitDefEqProofs(maxSteps:=9^9)only[Tryz.f34,↓zA,sevalprocAttr,fX,dU,hk,b0,aa b2,b3,dc,dQ,zsm,F,Int.reduceEq,kS]
  .simp -implicitDefEqProofs(maxSteps:=9^9)only[Tryz.f34,↓zA,sevalprocAttr,fX,dU,hk,b0,b2,dc,dQ,zsm,F,Int.reduceEq,kS]
 .by_cases b1:s.nm=[]
  .simp -implicitDefEqProofs(maxSteps:=9^9)only[Tryz.f34,↓zA,sevalprocAttr,fX,dU,hk,b0,aa b1,dc,dQ,zsm,F,Int.reduceEq,kS]
  .by_cases b2:s.tb=[]
   .cases b3:bk s.nm
    .simp -implicitDefEqProofs(maxSteps:=9^9)only[Tryz.f34,↓zA,sevalprocAttr,fX,dU,hk,b0,b1,aa b2,b3,dc,dQ,zsm,F,Int.reduceEq,kS]
    .simp -implicitDefEqProofs(maxSteps:=9^9)only[Tryz.f34,↓zA,sevalprocAttr,fX,dU,hk,b0,b1,aa b2,b3,dc,dQ,zsm,F,Int.reduceEq,kS]
   .simp -implicitDefEqProofs(maxSteps:=9^9)only[Tryz.f34,↓zA,sevalprocAttr,fX,dU,hk,b0,b1,b2,dc,dQ,zsm,F,Int.reduceEq,kS]
def aUv (s:Sm) (g:abz s) (hw:smW s≤WL) (hk:s.kd=4):G1 34 [.of (.agg (smC s))] (aG (dU s)):=by
 have F:=smF s g hw
 have kS:=aUE s hw
 refine ah rfl afp acj rfl ?_
 cases b0:bk s.tb
 .simp -implicitDefEqProofs(maxSteps:=9^9)only[Tryz.f34,↓zA,sevalprocAttr,fX,dU,hk,b0,dc,dQ,zsm,F,Int.reduceEq,kS]
 cases b1:bu s.ns 0 16 bk
 .simp -implicitDefEqProofs(maxSteps:=9^9)only[Tryz.f34,↓zA,sevalprocAttr,fX,dU,hk,b0,b1,dc,dQ,zsm,F,Int.reduceEq,kS]
 by_cases b2:s.rws.length=0
 .cases b3:bu s.q 1 1 dV
  .by_cases b4:s.q.length=0
   .cases b5:bu s.rws 1 64 (fun r=>bu r 1 16 cV)
    .simp -implicitDefEqProofs(maxSteps:=9^9)only[Tryz.f34,↓zA,sevalprocAttr,fX,dU,hk,b0,b1,aa b2,b3,aa b4,b5,dc,dQ,zsm,F,Int.reduceEq,kS]
    .simp -implicitDefEqProofs(maxSteps:=9^9)only[Tryz.f34,↓zA,sevalprocAttr,fX,dU,hk,b0,b1,aa b2,b3,aa b4,b5,dc,dQ,zsm,F,Int.reduceEq,kS]
   .simp -implicitDefEqProofs(maxSteps:=9^9)only[Tryz.f34,↓zA,sevalprocAttr,fX,dU,hk,b0,b1,aa b2,b3,b4,dc,dQ,zsm,F,Int.reduceEq,kS]
  .simp -implicitDefEqProofs(maxSteps:=9^9)only[Tryz.f34,↓zA,sevalprocAttr,fX,dU,hk,b0,b1,aa b2,b3,dc,dQ,zsm,F,Int.reduceEq,kS]
 .by_cases b4:s.q.length=0
  .cases b5:bu s.rws 1 64 (fun r=>bu r 1 16 cV)
   .simp -implicitDefEqProofs(maxSteps:=9^9)only[Tryz.f34,↓zA,sevalprocAttr,fX,dU,hk,b0,b1,b2,aa b4,b5,dc,dQ,zsm,F,Int.reduceEq,kS]
   .simp -implicitDefEqProofs(maxSteps:=9^9)only[Tryz.f34,↓zA,sevalprocAttr,fX,dU,hk,b0,b1,b2,aa b4,b5,dc,dQ,zsm,F,Int.reduceEq,kS]
  .simp -implicitDefEqProofs(maxSteps:=9^9)only[Tryz.f34,↓zA,sevalprocAttr,fX,dU,hk,b0,b1,b2,b4,dc,dQ,zsm,F,Int.reduceEq,kS]
def aQt (s:Sm) (h:∀ k:Int,1≤k→k≤14→¬s.kd=k):G1 34 [.of (.agg (smC s))] (aG (dU s)):=by
 refine ah rfl afp acj rfl ?_
 simp -implicitDefEqProofs(maxSteps:=9^9)only[Tryz.f34,↓zA,sevalprocAttr,fX,dU,fd,h 1 (by decide) (by decide),h 2 (by decide) (by decide),h 3 (by decide) (by decide),h 4 (by decide) (by decide),h 5 (by decide) (by decide),h 6 (by decide) (by decide),h 7 (by decide) (by decide),h 8 (by decide) (by decide),h 9 (by decide) (by decide),h 10 (by decide) (by decide),h 11 (by decide) (by decide),h 12 (by decide) (by decide),h 13 (by decide) (by decide),h 14 (by decide) (by decide),bm]
def aFE (s:Sm) (g:abz s) (hw:smW s≤WL):G1 34 [.of (.agg (smC s))] (aG (dU s)):=by
 by_cases h:1≤s.kd∧s.kd≤14
 .have hk:s.kd=1∨s.kd=2∨s.kd=3∨s.kd=4∨s.kd=5∨s.kd=6∨s.kd=7∨s.kd=8∨s.kd=9∨s.kd=10∨s.kd=11∨s.kd=12∨s.kd=13∨s.kd=14:=by omega
  rcases hk with hk|hk|hk|hk|hk|hk|hk|hk|hk|hk|hk|hk|hk|hk
  .exact aUy s g hw hk
  .exact aUx s g hw hk
  .exact aUw s g hw hk
  .exact aUv s g hw hk
  .exact aUu s g hw hk
  .exact aUt s g hw hk
  .exact aUs s g hw hk
  .exact aUr s g hw hk
  .exact aUq s g hw hk
  .exact aQz s g hw hk
  .exact aQy s g hw hk
  .exact aQx s g hw hk
  .exact aQw s g hw hk
  .exact aQv s g hw hk
 .exact aQt s fun k h1 h2 e=>h (by omega)
def aTT:=ai (ai (ai @zq (ai @a3q @a2N)) (ai @aZQ (ai @aC5 @av6))) (ai (ai @a2M (ai @aZP @abb)) (ai @zT0 (ai @aIq (ba aYM))))
def aJz (s:Sm) (h:abz s∧smW s≤WL):G1 17 [.of (.agg (smC s))] (aG (abJ s)):=by
 have k1:=fun K=>aN.k (asg s h.2) K
 have k2:=fun K=>aN.k (aFE s h.1 h.2) K
 refine ah rfl aYM aIq rfl ?_
 cases c:ade (ahS s)
 .simp -implicitDefEqProofs(maxSteps:=9^9)only[Tryz.f17,↓zA,sevalprocAttr,aTT,k1,aj3,c,abJ]
 .simp -implicitDefEqProofs(maxSteps:=9^9)only[Tryz.f17,↓zA,sevalprocAttr,aTT,k1,k2,aj3,c,abJ]
def aJy (s:Sm) (K:An→Prop):bp Tryz.prog pr 17 [.of (.agg (smC s))] [] K↔ifP (abz s∧smW s≤WL) (K ⟨false,[aG (abJ s)],[]⟩) (abW Tryz.prog pr 17 [.of (.agg (smC s))] K):=adG (aJz s) K
def aTQ:=ai (ai (ai @zq (ai @a3r @am5)) (ai @aj9 (ai @aC5 @av6))) (ai (ai @am4 (ai @aj8 @eu)) (ai @zT0 (ai @aIm (ba aYI))))
def aEQ (q:Qy) (h:ii q∧qyW q≤WL):G1 23 [.of (.agg (qyC q))] (aG (ab5 q)):=by
 have k1:=fun K=>aN.k ((agU WL (aM _)).2.1 q h.2) K
 have k2:=fun K=>aN.k ((ajQ WL (aM _)).2.1 q h.1 h.2) K
 refine ah rfl aYI aIm rfl ?_
 cases c:ade (fI q)
 .simp -implicitDefEqProofs(maxSteps:=9^9)only[Tryz.f23,↓zA,sevalprocAttr,aTQ,k1,aj3,c,ab5]
 .simp -implicitDefEqProofs(maxSteps:=9^9)only[Tryz.f23,↓zA,sevalprocAttr,aTQ,k1,k2,aj3,c,ab5]
def aBI (e:Qy) (K:An→Prop):bp Tryz.prog pr 23 [.of (.agg (qyC e))] [] K↔ifP (ii e∧qyW e≤WL) (K ⟨false,[aG (ab5 e)],[]⟩) (abW Tryz.prog pr 23 [.of (.agg (qyC e))] K):=adG (aEQ e) K
def atN (T:List To) (K:An→Prop):bp Tryz.prog pr 19 [.ptr 0 0] [wT cw (some T)] K↔ifP (T≠[]∧T.length≤LIM∧(gu none T).length≤LIM) (K ⟨false,[dw (str (abd T).1),.of (ci (abd T).2)],[wT cw (some T)]⟩) (afR Tryz.prog pr 19 [.ptr 0 0] [wT cw (some T)] K):=ae1 (fun h=>aFo T h.1 h.2.1 h.2.2) K
def aCf:Ob.var 67 [.nil]=wT cw none:=rfl
def zc7:=ai (ai (ai (ai @zq @a6A) (ai @a2V @aZY)) (ai (ai @a6z @a2U) (ai @aZX @a5z))) (ai (ai (ai @aC7 @av8) (ai @aKd @abb)) (ai (ai @T67 @amk) (ai @zT0 (ai @aDx (ba fi7)))))
def axa (s:Sm) (h1:abz s∧smW s≤WL) (h2:abJ s=true→GW 18 [.of (.agg (smC s))] (smT s)∧smT s≠[]∧(smT s).length≤LIM∧(gu none (smT s)).length≤LIM):aN Tryz.prog pr 7 [.of (.agg (smC s))] [] ⟨false,[dw (str (abf s).1),.of (ci (abf s).2)],[]⟩:=by
 cases hr:abJ s with
 | false =>
  have e:abf s=([],1):=by unfold abf;rw[hr];rfl
  rw[e]
  refine ah rfl fi7 aDx rfl ?_
  simp -implicitDefEqProofs(maxSteps:=9^9)only[Tryz.f7,↓zA,sevalprocAttr,zc7,zW,aJy,h1,hr]
  try rfl
 | true =>
  obtain⟨g1,g2,g3,g4⟩:=h2 hr
  have e:abf s=abd (smT s):=by unfold abf;rw[hr];rfl
  have kg:=fun o K=>g1.k o K
  have e2:iz none (smT s)=some (smT s):=by cases hs:smT s with
   | nil=>exact absurd hs g2
   | cons a r=>rfl
  have g5:bi none+(smT s).length≤LIM:=by simp only[bi,acq,cd];omega
  have g6:(smT s≠[]∧(smT s).length≤LIM∧(gu none (smT s)).length≤LIM):=⟨g2,g3,g4⟩
  have g7:(smT s≠[])=True:=aa g2
  rw[e]
  refine ah rfl fi7 aDx rfl ?_
  simp -implicitDefEqProofs(maxSteps:=9^9)only[Tryz.f7,↓zA,sevalprocAttr,zc7,zW,aJy,h1,hr,kg,e2,atN,g3,g4,g5,g6,g7,aCf]
  try rfl
def aTV:=ai (ai (ai (ai @zq @a6E) (ai @a2P @aZS)) (ai (ai @a6D @aNt) (ai @aJj @aUa))) (ai (ai (ai @aC7 @av8) (ai @aKd @cQ)) (ai (ai @T67 @amk) (ai @zT0 (ai @avj (ba aLS)))))
def aw9 (s:Xp) (h1:e7 s∧xpW s≤WL) (h2:ab4 s=true→GW 28 [.of (.agg (xpC s))] (xpT s)∧xpT s≠[]∧(xpT s).length≤LIM∧(gu none (xpT s)).length≤LIM):aN Tryz.prog pr 13 [.of (.agg (xpC s))] [] ⟨false,[dw (str (jw s).1),.of (ci (jw s).2)],[]⟩:=by
 cases hr:ab4 s with
 | false =>
  have e:jw s=([],1):=by unfold jw;rw[hr];rfl
  rw[e]
  refine ah rfl aLS avj rfl ?_
  simp -implicitDefEqProofs(maxSteps:=9^9)only[Tryz.f13,↓zA,sevalprocAttr,aTV,zW,aJG,h1,hr]
  try rfl
 | true =>
  obtain⟨g1,g2,g3,g4⟩:=h2 hr
  have e:jw s=abd (xpT s):=by unfold jw;rw[hr];rfl
  have kg:=fun o K=>g1.k o K
  have e2:iz none (xpT s)=some (xpT s):=by cases hs:xpT s with
   | nil=>exact absurd hs g2
   | cons a r=>rfl
  have g5:bi none+(xpT s).length≤LIM:=by simp only[bi,acq,cd];omega
  have g6:(xpT s≠[]∧(xpT s).length≤LIM∧(gu none (xpT s)).length≤LIM):=⟨g2,g3,g4⟩
  have g7:(xpT s≠[])=True:=aa g2
  rw[e]
  refine ah rfl aLS avj rfl ?_
  simp -implicitDefEqProofs(maxSteps:=9^9)only[Tryz.f13,↓zA,sevalprocAttr,aTV,zW,aJG,h1,hr,kg,e2,atN,g3,g4,g5,g6,g7,aCf]
  try rfl
def aTX:=ai (ai (ai (ai @zq @a6C) (ai @a2R @aZU)) (ai (ai @a6B @am7) (ai @akb @aqh))) (ai (ai (ai @aC7 @av8) (ai @aKd @eu)) (ai (ai @T67 @amk) (ai @zT0 (ai @avl (ba aLT)))))
def axb (s:Qy) (h1:ii s∧qyW s≤WL) (h2:ab5 s=true→GW 24 [.of (.agg (qyC s))] (qyT s)∧qyT s≠[]∧(qyT s).length≤LIM∧(gu none (qyT s)).length≤LIM):aN Tryz.prog pr 11 [.of (.agg (qyC s))] [] ⟨false,[dw (str (aaY s).1),.of (ci (aaY s).2)],[]⟩:=by
 cases hr:ab5 s with
 | false =>
  have e:aaY s=([],1):=by unfold aaY;rw[hr];rfl
  rw[e]
  refine ah rfl aLT avl rfl ?_
  simp -implicitDefEqProofs(maxSteps:=9^9)only[Tryz.f11,↓zA,sevalprocAttr,aTX,zW,aBI,h1,hr]
  try rfl
 | true =>
  obtain⟨g1,g2,g3,g4⟩:=h2 hr
  have e:aaY s=abd (qyT s):=by unfold aaY;rw[hr];rfl
  have kg:=fun o K=>g1.k o K
  have e2:iz none (qyT s)=some (qyT s):=by cases hs:qyT s with
   | nil=>exact absurd hs g2
   | cons a r=>rfl
  have g5:bi none+(qyT s).length≤LIM:=by simp only[bi,acq,cd];omega
  have g6:(qyT s≠[]∧(qyT s).length≤LIM∧(gu none (qyT s)).length≤LIM):=⟨g2,g3,g4⟩
  have g7:(qyT s≠[])=True:=aa g2
  rw[e]
  refine ah rfl aLT avl rfl ?_
  simp -implicitDefEqProofs(maxSteps:=9^9)only[Tryz.f11,↓zA,sevalprocAttr,aTX,zW,aBI,h1,hr,kg,e2,atN,g3,g4,g5,g6,g7,aCf]
  try rfl
def aCe {e:Xp} (o:cV e=true) (g:e7 e) (h:xpW e≤1048576):WX e:=(alG 1048576 (aM _)).1 e o g h
def aMY {q:Qy} (o:dV q=true) (g:ii q) (h:qyW q≤1048576):WQ q:=(alG 1048576 (aM _)).2.1 q o g h
def ahy {l:List Xp} {a b:Nat} (o:dQ l a b=true):l.length≤b∧∀ x∈l,cV x=true:=by
 simp only[dQ,dA,ab,ar,bQ] at o
 exact⟨o.1.2,o.2⟩
def wxL {l:List Xp} (o:∀ x∈l,cV x=true) (g:lsP e7 l) (h:lsW xpW l≤1048576):∀ x∈l,WX x:=fun x hx=>aCe (o x hx) (g x hx) (by have:=bP (w:=xpW) hx;omega)
def wqL {l:List Qy} (o:∀ x∈l,dV x=true) (g:lsP ii l) (h:lsW qyW l≤1048576):∀ x∈l,WQ x:=fun x hx=>aMY (o x hx) (g x hx) (by have:=bP (w:=qyW) hx;omega)
def akW {s:List UInt8} (h:bk s=true):s≠[]:=by rintro rfl;cases h
def acy {l:List (List UInt8)} {a b:Nat} (o:dc l a b=true):l.length≤b∧∀ x∈l,bk x=true:=by
 simp only[dc,dA,ab,ar,bQ] at o
 exact⟨o.1.2,o.2⟩
def aF8 {q:List Qy} (h:dA q.length 1 1=true):∃ x,q=[x]:=by
 simp only[dA,ab,ar] at h
 rcases q with _|⟨x,_|⟨y,r⟩⟩
 .simp at h
 .exact⟨x,rfl⟩
 .simp at h
def aWF {c:Prop} [Decidable c] {a b:List To} (h1:c→a≠[]) (h2:¬c→b≠[]):(if c then a else b)≠[]:=by
 split
 .exact h1 (by assumption)
 .exact h2 (by assumption)
def aTY {e:Xp} (o:cV e=true):xpT e≠[]:=by
 have h26:e.op=26∨e.op=27→e.sb≠[]:=by
  intro h hs
  cases e with
  | mk op v tb nm di ks sb =>
   simp only[Xp.op,Xp.sb] at h hs
   subst hs
   rw[cV] at o
   have e1:fj op=some (0,0,1):=by
    unfold fj
    rw[aj (by omega),aE h]
   rw[e1] at o
   simp at o
 have hsub:e.op=26∨e.op=27→ajo (e.sb.map qyP)≠[]:=by
  intro h
  rcases hs:e.sb with _|⟨a,r⟩
  .exact absurd hs (h26 h)
  .simp[ajo,bI]
 rw[aFh]
 unfold opT
 repeat' (refine aWF (fun _=>?_) (fun _=>?_))
 all_goals first|(exact List.cons_ne_nil _ _)|(exact hsub (Or.inl (by assumption)))|(simp[amp];done)
def aFZ {q:Qy} (o:dV q=true):qyT q≠[]:=by
 rw[ao9]
 by_cases h:q.op=1
 .rw[aE h];simp[akJ]
 .rw[aj h]
  rw[agb,aj h] at o
  simp only[ab] at o
  have o:=o.2
  split at o
  rotate_left
  .cases o
  simp only[ab] at o
  have hk:=o.1.1
  rw[show bu q.ks 2 2 dV=_ from fP q.ks 2 2 dV] at hk
  simp only[ab,dA,ar] at hk
  rcases hs:q.ks with _|⟨a,_|⟨b,r⟩⟩
  .rw[hs] at hk;simp at hk
  .rw[hs] at hk;simp at hk
  .simp[ahp]
def aUk (s:Sm) (o:dU s=true) (g:abz s) (h:smW s≤1048576):GW 18 [.of (.agg (smC s))] (smT s)∧smT s≠[]:=by
 obtain⟨_,_,_,_,_,_,_,_,g1,g2,g3,g4,g5⟩:=g
 have hw:smW s=d8 s.kd+cU s.tb+cU s.nm+(lsW cdW) s.cs+(lsW cU) s.ns+d8 s.un+(lsW kdW) s.kys+(lsW rdW) s.rfs+(lsW xpW) s.chs+(lsW (lsW xpW)) s.rws+(lsW asW) s.sts+(lsW xpW) s.wh+(lsW qyW) s.q+1:=rfl
 unfold dU at o
 by_cases k1:s.kd=1
 .rw[aE k1] at o
  simp only[ab,dA,ar,bQ] at o
  obtain⟨⟨⟨⟨⟨o1,o2⟩,o3⟩,o4⟩,o5⟩,_⟩:=o
  have o5:=ahy o5
  refine⟨aQG s k1 ⟨o1,⟨by omega,fun c hc=>?_⟩,⟨by omega,fun k hk=>?_⟩,⟨by omega,fun r hr=>?_⟩,⟨by omega,wxL o5.2 g1 (by omega)⟩⟩,?_⟩
  .have:=o2.2 c hc
   simp only[abv,ab,ar] at this
   exact⟨this.1.1,this.1.2,this.2⟩
  .have:=acy (o3.2 k hk)
   exact⟨by omega,this.2⟩
  .have:=o4.2 r hr
   simp only[aco,ab] at this
   have a1:=acy this.1.1
   have a2:=acy this.2
   exact⟨⟨by omega,a1.2⟩,this.1.2,by omega,a2.2⟩
  .unfold smT;rw[aE k1];simp
 rw[aj k1] at o
 by_cases k2:s.kd=2
 .rw[aE k2] at o
  simp only[ab] at o
  obtain⟨⟨⟨o1,o2⟩,o3⟩,_⟩:=o
  have o3:=acy o3
  refine⟨aQF s k2 o2 o1 (by omega) o3.2,?_⟩
  unfold smT;rw[aj k1,aE k2];simp
 rw[aj k2] at o
 by_cases k3:s.kd=3
 .rw[aE k3] at o
  simp only[ab,cz,ar] at o
  have hn:smT s≠[]:=by unfold smT;rw[aj k1,aj k2,aE k3];split <;> simp
  rcases o.1 with h|h
  .exact⟨aKu s k3 (akW h.1) h.1,hn⟩
  .exact⟨aKv s k3 h.1 h.2,hn⟩
 rw[aj k3] at o
 by_cases k4:s.kd=4
 .rw[aE k4] at o
  simp only[ab,cz,dA,ar,bQ] at o
  obtain⟨⟨⟨o1,o2⟩,o3⟩,_⟩:=o
  have o2:=acy o2
  have hq:s.q.length≤1∧∀ q∈s.q,dV q=true:=by
   rcases o3 with h|h
   .exact⟨h.1.2.2,h.2⟩
   .have e:s.q=[]:=aJ h.1.1
    rw[e];exact⟨by simp,fun q hq=>by cases hq⟩
  have hr:s.rws.length≤64∧∀ l∈s.rws,dQ l 1 16=true:=by
   rcases o3 with h|h
   .have e:s.rws=[]:=aJ h.1.1
    rw[e];exact⟨by simp,fun q hq=>by cases hq⟩
   .exact⟨h.1.2.2,h.2⟩
  refine⟨aQE s k4 ⟨o1,⟨by omega,o2.2⟩,⟨by omega,fun r hx=>?_⟩,⟨by omega,wqL hq.2 g5 (by omega)⟩⟩,?_⟩
  .have a1:=ahy (hr.2 r hx)
   exact⟨by omega,wxL a1.2 (g2 r hx) (by have:=bP (w:=lsW xpW) hx;omega)⟩
  .unfold smT;rw[aj k1,aj k2,aj k3,aE k4];simp
 rw[aj k4] at o
 by_cases k5:s.kd=5
 .rw[aE k5] at o
  simp only[ab,dA,ar,bQ] at o
  obtain⟨⟨⟨o1,o2⟩,o3⟩,_⟩:=o
  have o3:=ahy o3
  refine⟨aQD s k5 o1 (by omega) (wxL o3.2 g4 (by omega)) (by omega) fun a ha=>?_,?_⟩
  .have:=o2.2 a ha
   simp only[acc,ab] at this
   refine⟨this.1,aCe this.2 (g3 a ha).2 ?_⟩
   have h1:=bP (w:=asW) ha
   have h2:asW a=cU a.nm+xpW a.e+1:=rfl
   omega
  .unfold smT;rw[aj k1,aj k2,aj k3,aj k4,aE k5];simp
 rw[aj k5] at o
 by_cases k6:s.kd=6
 .rw[aE k6] at o
  simp only[ab] at o
  obtain⟨⟨o1,o3⟩,_⟩:=o
  have o3:=ahy o3
  refine⟨aQC s k6 o1 (by omega) (wxL o3.2 g4 (by omega)),?_⟩
  unfold smT;rw[aj k1,aj k2,aj k3,aj k4,aj k5,aE k6];simp
 rw[aj k6] at o
 by_cases k7:s.kd=7∨s.kd=11
 .rw[aE k7] at o
  simp only[ab,bQ] at o
  obtain⟨⟨o1,o2⟩,_⟩:=o
  obtain⟨q,hq⟩:=aF8 o1
  have hm:q∈s.q:=by rw[hq];simp
  have wq:=wqL o2 g5 (by omega) q hm
  rcases k7 with k7|k7
  .refine⟨aQB s k7 q hq wq,?_⟩
   unfold smT;rw[aj k1,aj k2,aj k3,aj k4,aj k5,aj k6,aE k7,hq]
   have:=aFZ (o2 q hm)
   simpa using this
  .refine⟨aKw s k7 q hq wq,?_⟩
   unfold smT;rw[aj k1,aj k2,aj k3,aj k4,aj k5,aj k6,aj (by omega),aE k7];simp
 rw[aj k7] at o
 by_cases k8:s.kd=8∨s.kd=9∨s.kd=10∨s.kd=12∨s.kd=13∨s.kd=14
 .refine⟨aQA s k8,?_⟩
  unfold smT;rw[aj k1,aj k2,aj k3,aj k4,aj k5,aj k6,aj (by omega),aj (by omega)];simp
 .rw[aj k8] at o;cases o
def ajX {T:List To} {n:Nat} (h:tkW T≤64*n) (hn:n≤1048576):T.length≤LIM∧(gu none T).length≤LIM:=by
 have h1:=aFn T
 have h2:=avq none T
 unfold LIM
 exact⟨by omega,by omega⟩
def prS (s:Sm) (g:abz s) (h:smW s≤1048576):aN Tryz.prog pr 7 [.of (.agg (smC s))] [] ⟨false,[dw (str (abf s).1),.of (ci (abf s).2)],[]⟩:=by
 refine axa s ⟨g,by unfold WL;omega⟩ fun hr=>?_
 simp only[abJ,ab] at hr
 have a1:=aUk s hr.2 g h
 exact⟨a1.1,a1.2,ajX (aNa s g) h⟩
def prX (e:Xp) (g:e7 e) (h:xpW e≤1048576):aN Tryz.prog pr 13 [.of (.agg (xpC e))] [] ⟨false,[dw (str (jw e).1),.of (ci (jw e).2)],[]⟩:=by
 refine aw9 e ⟨g,by unfold WL;omega⟩ fun hr=>?_
 simp only[ab4,ab] at hr
 have a2:=ajH e g
 unfold TX at a2
 exact⟨aCe hr.2 g h,aTY hr.2,ajX (by omega) h⟩
def prQ (q:Qy) (g:ii q) (h:qyW q≤1048576):aN Tryz.prog pr 11 [.of (.agg (qyC q))] [] ⟨false,[dw (str (aaY q).1),.of (ci (aaY q).2)],[]⟩:=by
 refine axb q ⟨g,by unfold WL;omega⟩ fun hr=>?_
 simp only[ab5,ab] at hr
 have a2:=atL q g
 unfold TQ at a2
 exact⟨aMY hr.2 g h,aFZ hr.2,ajX (by omega) h⟩
def aFN (tk:Tk):dY tk 7 (Pe.elemOf (TT.of Tryz.prog) 23) (some [(0,[dw ⟨#[98,101,103,105,110]⟩]),(1,[dw ⟨#[99,111,109,109,105,116]⟩]),(2,[dw ⟨#[114,111,108,108,98,97,99,107]⟩]),(3,[dw ⟨#[]⟩]),(4,[dw ⟨#[97,110,97,108,121,122,101]⟩]),(5,[dw ⟨#[118,97,99,117,117,109]⟩]),(6,[dw ⟨#[99,104,101,99,107,112,111,105,110,116]⟩])])=out (.own tk 9 1 (fl bA [[98,101,103,105,110],[99,111,109,109,105,116],[114,111,108,108,98,97,99,107],[],[97,110,97,108,121,122,101],[118,97,99,117,117,109],[99,104,101,99,107,112,111,105,110,116]]) 7):=by rw[E23];kernel_rfl
def atd:List To:=[[98,101,103,105,110],[99,111,109,109,105,116],[114,111,108,108,98,97,99,107],[],[97,110,97,108,121,122,101],[118,97,99,117,117,109],[99,104,101,99,107,112,111,105,110,116]]
def a39 (tk:Tk) (e z:Nat) (i:Int):dG (TT.of Tryz.prog) 23 (.own tk e z (fl bA [[98,101,103,105,110],[99,111,109,109,105,116],[114,111,108,108,98,97,99,107],[],[97,110,97,108,121,122,101],[118,97,99,117,117,109],[99,104,101,99,107,112,111,105,110,116]]) 7) (.of (.lit (.int .i64 i)))=dG (TT.of Tryz.prog) 23 (.of (slC bA atd)) (.of (.lit (.int .i64 i))):=apJ tk e z atd 7 rfl i
def aTH:=ai (ai (ai @zq (ai @a5U @ahl)) (ai (ai @afF @auR) (ai @aq5 @abb))) (ai (ai @bN (ai @P4 @Q4)) (ai (ai @Q9 @zT0) (ai @avd (ba aLM))))
def asq (s:Sm) (h1:bk s.nm=true) (h2:bk s.tb=true) (h3:s.ns.length≤4611686018427387903) (h4:∀ n∈s.ns,bk n=true):GR 56 [.of (.agg (smC s))] ([99,114,101,97,116,101]::(aF s.un [[117,110,105,113,117,101]]++([105,110,100,101,120]::(bF s.nm::([111,110]::(bF s.tb::dN s.ns)))))):=by
 intro h
 have gC:=aL [99,114,101,97,116,101]
 have gB:=aL [117,110,105,113,117,101]
 have aaJ:=aL [105,110,100,101,120]
 have adM:=aL [111,110]
 simp only[aB,av] at h
 have k1:=fun K=>fO s.nm h1 K
 have k2:=fun K=>fO s.tb h2 K
 have kn:=fun K=>(aca s.ns h3 h4).k (by omega) K
 cases hu:s.un
 .have e:aF false [[117,110,105,113,117,101]]=([]:List To):=rfl
  rw[hu,e] at h
  rw[e]
  refine ah rfl aLM avd rfl ?_
  simp -implicitDefEqProofs(maxSteps:=9^9)only[Tryz.f56,↓zA,sevalprocAttr,aTH,hu,k1,k2,kn,ajp,gC,gB,aaJ,adM]
  (and_intros <;> first|(exact cy (by (try simp only[cI,cH]) <;> rfl) (by (try simp only[aR]) <;> omega))|((try simp only[aR]) <;> omega))
 .have e:aF true [[117,110,105,113,117,101]]=[[117,110,105,113,117,101]]:=rfl
  rw[hu,e] at h
  rw[e]
  simp only[dI] at h
  refine ah rfl aLM avd rfl ?_
  simp -implicitDefEqProofs(maxSteps:=9^9)only[Tryz.f56,↓zA,sevalprocAttr,aTH,hu,k1,k2,kn,ajp,gC,gB,aaJ,adM]
  (and_intros <;> first|(exact cy (by (try simp only[cI,cH]) <;> rfl) (by (try simp only[aR]) <;> omega))|((try simp only[aR]) <;> omega))
def afT:=ai (ai (ai (ai @zq (ai @a5T @ahl)) (ai (ai @afF @a2B) (ai @aZE @a2A))) (ai (ai (ai @aZD @a2z) (ai @aZC @ah7)) (ai (ai @agP @aC1) (ai @av2 @aKa)))) (ai (ai (ai (ai @aNo @aJe) (ai @am6 @aka)) (ai (ai @abb @eu) (ai @cQ @abQ))) (ai (ai (ai @bN @abR) (ai @d7 @Q3)) (ai (ai @Q9 @zT0) (ai @ad9 (ba ahW)))))
def aKP (s:Sm) (hk:s.kd=1) (htb:bk s.tb=true) (hd:GR 55 [.of (.agg (smC s))] (bI true (bc true (adj s)))):GR 22 [.of (.agg (smC s))] ([99,114,101,97,116,101]::([116,97,98,108,101]::(bF s.tb::bI true (bc true (adj s))))):=by
 intro h
 have hkd:=aa hk
 have gC:=aL [99,114,101,97,116,101]
 have hU:=aL [116,97,98,108,101]
 simp only[aB] at h
 have k1:=fun K=>fO s.tb htb K
 have k2:=fun K=>hd.k (by omega) K
 refine ah rfl ahW ad9 rfl ?_
 simp -implicitDefEqProofs(maxSteps:=9^9)only[Tryz.f22,↓zA,sevalprocAttr,afT,hkd,k1,k2,iA,gC,hU]
 (and_intros <;> first|(exact cy (by (try simp only[cI,cH]) <;> rfl) (by (try simp only[aR]) <;> omega))|((try simp only[aR]) <;> omega))
def aKO (s:Sm) (hk:s.kd=2) (T:List To) (hd:GR 56 [.of (.agg (smC s))] T):GR 22 [.of (.agg (smC s))] T:=by
 intro h
 have hkd:=aa hk
 have n1:¬s.kd=1:=by omega
 have k2:=fun K=>hd.k h K
 refine ah rfl ahW ad9 rfl ?_
 simp -implicitDefEqProofs(maxSteps:=9^9)only[Tryz.f22,↓zA,sevalprocAttr,afT,hkd,n1,k2]
 try rfl
def aFU (s:Sm) (hk:s.kd=3) (h0:s.tb≠[]) (htb:bk s.tb=true):GR 22 [.of (.agg (smC s))] [[100,114,111,112],[116,97,98,108,101],bF s.tb]:=by
 intro h
 have hkd:=aa hk
 have n1:¬s.kd=1:=by omega
 have n2:¬s.kd=2:=by omega
 have ad3:=aL [100,114,111,112]
 have hU:=aL [116,97,98,108,101]
 have k1:=fun K=>fO s.tb htb K
 have c:=aO h0
 refine ah rfl ahW ad9 rfl ?_
 simp -implicitDefEqProofs(maxSteps:=9^9)only[Tryz.f22,↓zA,sevalprocAttr,afT,hkd,n1,n2,k1,c,ib,iA,ad3,hU]
 try rfl
def aFV (s:Sm) (hk:s.kd=3) (h0:s.tb=[]) (htb:bk s.nm=true):GR 22 [.of (.agg (smC s))] [[100,114,111,112],[105,110,100,101,120],bF s.nm]:=by
 intro h
 have hkd:=aa hk
 have n1:¬s.kd=1:=by omega
 have n2:¬s.kd=2:=by omega
 have ad3:=aL [100,114,111,112]
 have aaJ:=aL [105,110,100,101,120]
 have k1:=fun K=>fO s.nm htb K
 have c:=aa h0
 refine ah rfl ahW ad9 rfl ?_
 simp -implicitDefEqProofs(maxSteps:=9^9)only[Tryz.f22,↓zA,sevalprocAttr,afT,hkd,n1,n2,k1,c,ib,iA,ad3,aaJ]
 try rfl
def aKN (s:Sm) (hk:s.kd=4) (T:List To) (hd:GR 57 [.of (.agg (smC s))] T):GR 22 [.of (.agg (smC s))] T:=by
 intro h
 have hkd:=aa hk
 have n1:¬s.kd=1:=by omega
 have n2:¬s.kd=2:=by omega
 have n3:¬s.kd=3:=by omega
 have k2:=fun K=>hd.k h K
 refine ah rfl ahW ad9 rfl ?_
 simp -implicitDefEqProofs(maxSteps:=9^9)only[Tryz.f22,↓zA,sevalprocAttr,afT,hkd,n1,n2,n3,k2]
 try rfl
def aKL (s:Sm) (hk:s.kd=6) (htb:bk s.tb=true) (hwl:s.wh.length≤1) (hwx:∀ x∈s.wh,RX x):GR 22 [.of (.agg (smC s))] ([100,101,108,101,116,101]::([102,114,111,109]::(bF s.tb::ju [119,104,101,114,101] (s.wh.map xpP)))):=by
 intro h
 have hkd:=aa hk
 have n1:¬s.kd=1:=by omega
 have n2:¬s.kd=2:=by omega
 have n3:¬s.kd=3:=by omega
 have n4:¬s.kd=4:=by omega
 have n5:¬s.kd=5:=by omega
 have afc:=aL [100,101,108,101,116,101]
 have dL:=aL [102,114,111,109]
 have bM:=aL [119,104,101,114,101]
 simp only[aB] at h
 have k1:=fun K=>fO s.tb htb K
 have kw:=ak1 [119,104,101,114,101] s.wh hwl hwx (by omega)
 generalize ju [119,104,101,114,101] (s.wh.map xpP)=W at *
 rcases kw with ⟨rfl,kw⟩|kw
 .refine ah rfl ahW ad9 rfl ?_
  simp -implicitDefEqProofs(maxSteps:=9^9)only[Tryz.f22,↓zA,sevalprocAttr,afT,hkd,n1,n2,n3,n4,n5,k1,kw,dy,iA,afc,dL,bM]
  (and_intros <;> first|(exact cy (by (try simp only[cI,cH]) <;> rfl) (by (try simp only[aR]) <;> omega))|((try simp only[aR]) <;> omega))
 .refine ah rfl ahW ad9 rfl ?_
  simp -implicitDefEqProofs(maxSteps:=9^9)only[Tryz.f22,↓zA,sevalprocAttr,afT,hkd,n1,n2,n3,n4,n5,k1,kw,iA,afc,dL,bM]
  (and_intros <;> first|(exact cy (by (try simp only[cI,cH]) <;> rfl) (by (try simp only[aR]) <;> omega))|((try simp only[aR]) <;> omega))
def aKK (s:Sm) (hk:s.kd=7) (q:Qy) (hq:s.q=[q]) (w:RQ q):GR 22 [.of (.agg (smC s))] (qyT q):=by
 intro h
 have hkd:=aa hk
 have n1:¬s.kd=1:=by omega
 have n2:¬s.kd=2:=by omega
 have n3:¬s.kd=3:=by omega
 have n4:¬s.kd=4:=by omega
 have n5:¬s.kd=5:=by omega
 have n6:¬s.kd=6:=by omega
 have g0:dE s.q 0=some q:=by rw[hq];rfl
 have k1:=fun K=>w.k h K
 refine ah rfl ahW ad9 rfl ?_
 simp -implicitDefEqProofs(maxSteps:=9^9)only[Tryz.f22,↓zA,sevalprocAttr,afT,hkd,n1,n2,n3,n4,n5,n6,g0,k1]
 try rfl
def aFW (s:Sm) (hk:s.kd=11) (q:Qy) (hq:s.q=[q]) (w:RQ q):GR 22 [.of (.agg (smC s))] ([101,120,112,108,97,105,110]::qyT q):=by
 intro h
 have hkd:=aa hk
 have n1:¬s.kd=1:=by omega
 have n2:¬s.kd=2:=by omega
 have n3:¬s.kd=3:=by omega
 have n4:¬s.kd=4:=by omega
 have n5:¬s.kd=5:=by omega
 have n6:¬s.kd=6:=by omega
 have n7:¬s.kd=7:=by omega
 have acJ:=aL [101,120,112,108,97,105,110]
 have g0:dE s.q 0=some q:=by rw[hq];rfl
 simp only[aB] at h
 have k1:=fun K=>w.k (by omega) K
 refine ah rfl ahW ad9 rfl ?_
 simp -implicitDefEqProofs(maxSteps:=9^9)only[Tryz.f22,↓zA,sevalprocAttr,afT,hkd,n1,n2,n3,n4,n5,n6,n7,g0,k1,acJ]
 (and_intros <;> first|(exact cy (by (try simp only[cI,cH]) <;> rfl) (by (try simp only[aR]) <;> omega))|((try simp only[aR]) <;> omega))
def aKJ (s:Sm) (hk:s.kd=8∨s.kd=9∨s.kd=10∨s.kd=12∨s.kd=13∨s.kd=14):GR 22 [.of (.agg (smC s))] [aiv s.kd]:=by
 intro h
 have n1:¬s.kd=1:=by omega
 have n2:¬s.kd=2:=by omega
 have n3:¬s.kd=3:=by omega
 have n4:¬s.kd=4:=by omega
 have n5:¬s.kd=5:=by omega
 have n6:¬s.kd=6:=by omega
 have n7:¬s.kd=7:=by omega
 have n11:¬s.kd=11:=by omega
 have hw:IntKind.i64.wrap (s.kd-8)=s.kd-8:=eh _ (by omega) (by omega)
 have hS:dE atd (s.kd-8)=some (aiv s.kd):=by rcases hk with h|h|h|h|h|h <;> (rw[h];rfl)
 refine ah rfl ahW ad9 rfl ?_
 simp -implicitDefEqProofs(maxSteps:=9^9)only[Tryz.f22,↓zA,sevalprocAttr,afT,n1,n2,n3,n4,n5,n6,n7,n11,aFN,a39,hw,hS]
 try rfl
def aKM (s:Sm) (hk:s.kd=5) (htb:bk s.tb=true) (hsl':s.sts.length≤4611686018427387903) (hsx:∀ a∈s.sts,bk a.nm=true∧RX a.e) (hwl:s.wh.length≤1) (hwx:∀ x∈s.wh,RX x):GR 22 [.of (.agg (smC s))] ([117,112,100,97,116,101]::(bF s.tb::([115,101,116]::(bc true (s.sts.map aby)++ju [119,104,101,114,101] (s.wh.map xpP))))):=by
 intro h
 have afa:=aL [117,112,100,97,116,101]
 have alh:=aL [115,101,116]
 have bM:=aL [119,104,101,114,101]
 have e_3d:=aL [61]
 simp only[aB,av] at h
 have hkd:=aa hk
 have n1:¬s.kd=1:=by omega
 have n2:¬s.kd=2:=by omega
 have n3:¬s.kd=3:=by omega
 have n4:¬s.kd=4:=by omega
 have k0:=fun K=>fO s.tb htb K
 have kw:=ak1 [119,104,101,114,101] s.wh hwl hwx (by omega)
 generalize ju [119,104,101,114,101] (s.wh.map xpP)=W at *
 have hg1:∀ x∈s.sts,aby x≠[]:=fun x _=>by simp[aby]
 have hP1:∀ x∈([]:List (List To)),x≠[]:=fun x hx=>by cases hx
 have hL1:(bc true ([]++(s.sts.map aby++[]))).length+1≤LIM:=by rw[cD,bw];omega
 refine ah rfl ahW ad9 rfl ?_
 simp -implicitDefEqProofs(maxSteps:=9^9)only[Tryz.f22,↓zA,sevalprocAttr,afT,hkd,n1,n2,n3,n4]
 refine bW s.sts.length (fun k st=>st.fr 1=.of (.ref (agT s))∧st.fr 4=aU k∧st.objs=[]∧∃ c x i,c<st.clk∧st.fr 3=.own (.nm c x i) 9 1 (fl bA (bc true ([]++(s.sts.take k).map aby))) (bc true ([]++(s.sts.take k).map aby)).length) ?_ ?_
 .simp -implicitDefEqProofs(maxSteps:=9^9)only[Tryz.f22,↓zA,sevalprocAttr,afT]
  exact aps (by first|omega|decide) rfl rfl
 rintro k ⟨fr1,ob1,ck1⟩ hk ⟨h1_1,fi1,fo1,c1,x1,i1,hc1,fa1⟩
 dsimp only at h1_1 fi1 fo1 hc1 fa1
 rcases ap k s.sts.length with dk|dk
 .have hw:=cE k (by omega)
  have hu:=neF hc1
  have gx:=bq dk
  have hse:=af7 aby ([]) s.sts k dk hP1 hg1
  have hsl:=afV aby ([]) ([]) s.sts k dk hP1 hg1 hL1
  have hx:=hsx s.sts[k] (ay dk)
  generalize s.sts[k]=y at *
  generalize bc true ([]++(s.sts.take (k+1)).map aby)=B at *
  generalize bc true ([]++(s.sts.take k).map aby)=A at *
  have eT:aby y=bF y.nm::([61]::bv y.e):=rfl
  rw[eT] at hse hsl
  simp only[aB] at hsl
  have k1:=fun K=>fO y.nm hx.1 K
  have k2:=fun K=>(dJ y.e 1 hx.2).k (T:=bv y.e) (by omega) K
  have hf:=acC (bv y.e)
  have kn:=fun K=>agB A (aH (aD (bF y.nm))::aH (aD [61])::fl bA (bv y.e)) (2+(bv y.e).length) (bF y.nm::([61]::bv y.e)) B (by (try simp only[cI,cH]) <;> rfl) (by (try simp only[aR]) <;> omega) hse (by (try simp only[aR]) <;> omega) K
  simp -implicitDefEqProofs(maxSteps:=9^9)only[Tryz.f22,↓zA,sevalprocAttr,afT,h1_1,fi1,fo1,fa1,aK,dk,gx,hw,kn,hu,k1,k2,hf,bg,e_3d]
  and_intros
  all_goals first|exact okN _ _ (by omega) _|omega|(unfold LIM;omega)|exact akU (by omega)|rfl
 have e1:k=s.sts.length:=by omega
 subst e1
 rw[gZ] at fa1
 rw[bw] at fa1
 have hsf:=acC (bc true (s.sts.map aby))
 rcases kw with ⟨rfl,kw⟩|kw
 .simp -implicitDefEqProofs(maxSteps:=9^9)only[Tryz.f22,↓zA,sevalprocAttr,afT,h1_1,fi1,fo1,fa1,aK,au,k0,kw,hsf,dy,iA,afa,alh,bM]
  and_intros
  all_goals first|exact okN _ _ (by omega) _|(exact cy (by (try simp only[cI,cH]) <;> rfl) (by (try simp only[aR]) <;> omega))|omega
 .simp -implicitDefEqProofs(maxSteps:=9^9)only[Tryz.f22,↓zA,sevalprocAttr,afT,h1_1,fi1,fo1,fa1,aK,au,k0,kw,hsf,iA,afa,alh,bM]
  and_intros
  all_goals first|exact okN _ _ (by omega) _|(exact cy (by (try simp only[cI,cH]) <;> rfl) (by (try simp only[aR]) <;> omega))|omega
def nnP (a:Nat×Nat):Nn:=⟨a.1,a.2⟩
def ahA (a:Nat×Nat):(nnP a).nd=a.1:=rfl
def ahB (a:Nat×Nat):(nnP a).dp=a.2:=rfl
def a1s (a b:Nat) (h:a+b≤4611686018427387903):IntKind.i64.wrap ((a:Int)+(b:Int))=((a+b:Nat):Int):=by rw[eh _ (by omega) (by omega)];rfl
def a1i:=ai (ai (ai @zq @a6f) (ai @a6e @a6d)) (ai (ai @akA @Q3) (ai @zT0 (ai @az9 (ba aPv))))
def aCE (a b:Nat×Nat) (h:a.1+b.1≤4611686018427387903):G1 134 [.of (.agg (nnC (nnP a))),.of (.agg (nnC (nnP b)))] (.of (.agg (nnC (nnP (bx a b))))):=by
 have hw:=a1s a.1 b.1 h
 have hm:(if (a.2:Int)<b.2 then (b.2:Int) else a.2)=((max a.2 b.2:Nat):Int):=by split <;> omega
 have e:nnC (nnP (bx a b))=[ci ((a.1+b.1:Nat):Int),ci ((max a.2 b.2:Nat):Int)]:=rfl
 refine ah rfl aPv az9 rfl ?_
 simp -implicitDefEqProofs(maxSteps:=9^9)only[Tryz.f134,↓zA,sevalprocAttr,a1i,ahA,ahB,hw,hm,e]
def af9 (a b:Nat×Nat) (K:An→Prop):bp Tryz.prog pr 134 [.of (.agg (nnC (nnP a))),.of (.agg (nnC (nnP b)))] [] K↔ifP (a.1+b.1≤4611686018427387903) (K ⟨false,[.of (.agg (nnC (nnP (bx a b))))],[]⟩) (abW Tryz.prog pr 134 [.of (.agg (nnC (nnP a))),.of (.agg (nnC (nnP b)))] K):=adG (aCE a b) K
def a09:=ai (ai (ai @zq @a6c) (ai @a6b @akA)) (ai (ai @Q3 @zT0) (ai @azI (ba aO4)))
def aEI (a:Nat×Nat) (h:a.1≤4611686018427387903∧a.2≤4611686018427387903):G1 161 [.of (.agg (nnC (nnP a)))] (.of (.agg (nnC (nnP (upN a))))):=by
 have hw:=cE a.1 (by omega)
 have hw2:=cE a.2 (by omega)
 have e:nnC (nnP (upN a))=[ci ((a.1+1:Nat):Int),ci ((a.2+1:Nat):Int)]:=rfl
 refine ah rfl aO4 azI rfl ?_
 simp -implicitDefEqProofs(maxSteps:=9^9)only[Tryz.f161,↓zA,sevalprocAttr,a09,ahA,ahB,hw,hw2,e]
def arb (a:Nat×Nat) (K:An→Prop):bp Tryz.prog pr 161 [.of (.agg (nnC (nnP a)))] [] K↔ifP (a.1≤4611686018427387903∧a.2≤4611686018427387903) (K ⟨false,[.of (.agg (nnC (nnP (upN a))))],[]⟩) (abW Tryz.prog pr 161 [.of (.agg (nnC (nnP a)))] K):=adG (aEI a) K
def aTJ:=ai (ai @zq (ai @a5S @akA)) (ai (ai @Q3 @zT0) (ai @aH2 (ba aYo)))
def anM (a:Nat×Nat):G1 51 [.of (.agg (nnC (nnP a)))] (aG (ade a)):=by
 have e1:((a.1:Int)≤400)=(a.1≤400):=propext (by omega)
 have e2:((a.2:Int)≤40)=(a.2≤40):=propext (by omega)
 refine ah rfl aYo aH2 rfl ?_
 by_cases c1:a.1≤400
 .simp -implicitDefEqProofs(maxSteps:=9^9)only[Tryz.f51,↓zA,sevalprocAttr,aTJ,ahA,ahB,e1,e2,ade,c1]
 .simp -implicitDefEqProofs(maxSteps:=9^9)only[Tryz.f51,↓zA,sevalprocAttr,aTJ,ahA,ahB,e1,e2,ade,c1]
def aum (a:Nat×Nat) (K:An→Prop):bp Tryz.prog pr 51 [.of (.agg (nnC (nnP a)))] [] K↔K ⟨false,[aG (ade a)],[]⟩:=aN.k (anM a) K
def alu (l:List Xp):Prop:=G1 88 [.of (slC xpC l)] (.of (.agg (nnC (nnP (bl cF l)))))
def ari (l:List Qy):Prop:=G1 73 [.of (slC qyC l)] (.of (.agg (nnC (nnP (bl fI l)))))
def awu (l:List Fm):Prop:=G1 160 [.of (slC fmC l)] (.of (.agg (nnC (nnP (bl i8 l)))))
def auX {α:Type} (f:α→Nat×Nat) (w:α→Nat) (l:List α) (hs:leW (bl f l) (lsW w l)) (hw:lsW w l≤WL) (a b:Nat×Nat) (h:bx (bx a b) (bl f [])=bl f l∨∃ r,bx (bx a b) (bl f r)=bl f l):a.1+b.1≤4611686018427387903:=by
 simp only[leW,WL] at hs hw
 rcases h with h|⟨r,h⟩ <;> (have:=congrArg Prod.fst h;simp only[bx] at this;omega)
def aBN:=ai (ai (ai (ai @zq @a6a) (ai @a59 @apg)) (ai (ai @amt @aph) (ai @amu (ai @apm @anp)))) (ai (ai (ai @auO @aq2) (ai @cQ @akA)) (ai (ai @eu @d6) (ai @zT0 (ai @aHx (ba aXT)))))
def aE3 (l:List Xp) (hw:lsW xpW l≤WL) (i1:∀ x∈l,alu x.ks) (i2:∀ x∈l,ari x.sb):alu l:=by
 have h1:=cZ xpW l fun x _=>aaw x
 have h2:=sbX l
 have hw2:=hw
 simp only[WL] at hw2
 unfold alu
 refine ah rfl aXT aHx rfl ?_
 simp -implicitDefEqProofs(maxSteps:=9^9)only[Tryz.f88,↓zA,sevalprocAttr,aBN]
 refine bW l.length (fun k s=>∃ a,s.fr 0=.of (slC xpC l)∧s.fr 2=.ptr 0 0∧s.fr 3=.ptr 1 0∧s.fr 4=aU k∧s.objs=[.var 104 [aU 0,aU 0],.var 104 [.of (ci ((a:Nat×Nat).1:Int)),.of (ci (a.2:Int))]]∧bx a (bl cF (l.drop k))=bl cF l) ?_ ?_
 .refine⟨(0,0),?_⟩
  simp -implicitDefEqProofs(maxSteps:=9^9)only[Tryz.f88,↓zA,sevalprocAttr,aBN,ac4]
  try exact rfl
 .rintro k s hk ⟨a,f0,f2,f3,f4,ho,E⟩
  have ea:nnC (nnP a)=[ci (a.1:Int),ci (a.2:Int)]:=rfl
  rcases ap k l.length with c1|c1
  .have hwk:=cE k (by omega)
   have hm:l[k]∈l:=ay c1
   have kx:=fun K=>aN.k (i1 l[k] hm) K
   have kq:=fun K=>aN.k (i2 l[k] hm) K
   have b1:=sbX l[k].ks
   have b2:=sbQ l[k].sb
   have b3:=bP (w:=xpW) hm
   have b4:=aaV l[k]
   simp only[leW] at b1 b2
   have p1:(bl cF l[k].ks).1+(bl fI l[k].sb).1≤4611686018427387903:=by omega
   have p2:(bx (bl cF l[k].ks) (bl fI l[k].sb)).1≤4611686018427387903∧(bx (bl cF l[k].ks) (bl fI l[k].sb)).2≤4611686018427387903:=by simp only[bx];omega
   rw[cM c1,ac0,← aaO] at E
   have es:upN (bx (bl cF l[k].ks) (bl fI l[k].sb))=cF l[k]:=(aqp _).symm
   have p3:=auX cF xpW l h2 hw a (cF l[k]) (.inr ⟨_,E⟩)
   have eb:nnC (nnP (bx a (cF l[k])))=[ci ((bx a (cF l[k])).1:Int),ci ((bx a (cF l[k])).2:Int)]:=rfl
   simp -implicitDefEqProofs(maxSteps:=9^9)only[Tryz.f88,↓zA,sevalprocAttr,aBN,f0,f2,f3,f4,ho,aK,c1,bq c1,hwk,kx,kq,← ea,af9,arb,p1,p2,es,p3,eb]
   exact⟨_,rfl,E⟩
  .have e:k=l.length:=by omega
   subst e
   rw[aw,bl,iJ] at E
   subst E
   simp -implicitDefEqProofs(maxSteps:=9^9)only[Tryz.f88,↓zA,sevalprocAttr,aBN,f0,f2,f3,f4,ho,aK,au,ea]
def as3:=ai (ai (ai (ai @zq @a58) (ai @a57 (ai @aph @amu))) (ai (ai @aGB @aBl) (ai @apm (ai @anp @apg)))) (ai (ai (ai @amt @auO) (ai @aq2 (ai @jl @akA))) (ai (ai @eu (ai @cQ @iM)) (ai @zT0 (ai @azJ (ba aO5)))))
def at2 (l:List Fm) (hw:lsW fmW l≤WL) (i1:∀ x∈l,ari x.sb) (i2:∀ x∈l,awu x.ks) (i3:∀ x∈l,alu x.on):awu l:=by
 have h1:=cZ fmW l fun x _=>abl x
 have h2:=sbF l
 have hw2:=hw
 simp only[WL] at hw2
 unfold awu
 refine ah rfl aO5 azJ rfl ?_
 simp -implicitDefEqProofs(maxSteps:=9^9)only[Tryz.f160,↓zA,sevalprocAttr,as3]
 refine bW l.length (fun k s=>∃ a,s.fr 0=.of (slC fmC l)∧s.fr 2=.ptr 0 0∧s.fr 3=.ptr 1 0∧s.fr 4=aU k∧s.objs=[.var 104 [aU 0,aU 0],.var 104 [.of (ci ((a:Nat×Nat).1:Int)),.of (ci (a.2:Int))]]∧bx a (bl i8 (l.drop k))=bl i8 l) ?_ ?_
 .refine⟨(0,0),?_⟩
  simp -implicitDefEqProofs(maxSteps:=9^9)only[Tryz.f160,↓zA,sevalprocAttr,as3,ac4]
  try exact rfl
 .rintro k s hk ⟨a,f0,f2,f3,f4,ho,E⟩
  have ea:nnC (nnP a)=[ci (a.1:Int),ci (a.2:Int)]:=rfl
  rcases ap k l.length with c1|c1
  .have hwk:=cE k (by omega)
   have hm:l[k]∈l:=ay c1
   have k1:=fun K=>aN.k (i1 l[k] hm) K
   have k2:=fun K=>aN.k (i2 l[k] hm) K
   have k3:=fun K=>aN.k (i3 l[k] hm) K
   have b1:=sbQ l[k].sb
   have b2:=sbF l[k].ks
   have b3:=sbX l[k].on
   have b5:=bP (w:=fmW) hm
   have b4:=jb l[k]
   simp only[leW] at b1 b2 b3
   have p0:(bl fI l[k].sb).1+(bl i8 l[k].ks).1≤4611686018427387903:=by omega
   have p1:(bx (bl fI l[k].sb) (bl i8 l[k].ks)).1+(bl cF l[k].on).1≤4611686018427387903:=by simp only[bx];omega
   have p2:(bx (bx (bl fI l[k].sb) (bl i8 l[k].ks)) (bl cF l[k].on)).1≤4611686018427387903∧(bx (bx (bl fI l[k].sb) (bl i8 l[k].ks)) (bl cF l[k].on)).2≤4611686018427387903:=by simp only[bx];omega
   rw[cM c1,ac0,← aaO] at E
   have es:upN (bx (bx (bl fI l[k].sb) (bl i8 l[k].ks)) (bl cF l[k].on))=i8 l[k]:=(aqs _).symm
   have p3:=auX i8 fmW l h2 hw a (i8 l[k]) (.inr ⟨_,E⟩)
   have eb:nnC (nnP (bx a (i8 l[k])))=[ci ((bx a (i8 l[k])).1:Int),ci ((bx a (i8 l[k])).2:Int)]:=rfl
   simp -implicitDefEqProofs(maxSteps:=9^9)only[Tryz.f160,↓zA,sevalprocAttr,as3,f0,f2,f3,f4,ho,aK,c1,bq c1,hwk,k1,k2,k3,← ea,af9,arb,p0,p1,p2,es,p3,eb]
   exact⟨_,rfl,E⟩
  .have e:k=l.length:=by omega
   subst e
   rw[aw,bl,iJ] at E
   subst E
   simp -implicitDefEqProofs(maxSteps:=9^9)only[Tryz.f160,↓zA,sevalprocAttr,as3,f0,f2,f3,f4,ho,aK,au,ea]
def al7 (a:Nat×Nat):Nn.mk (a.1:Int) (a.2:Int)=nnP a:=rfl
def anx {α:Type} (A:List α) (x:α):(A++[x])[A.length]?=some x:=by simp
def alq {α:Type} (A:List α) (x y:α):(A++[x]).set A.length y=A++[y]:=by simp
def auE (e:Xp):C.sl [ci e.op,ci e.v.k,ci e.v.n,aH e.v.s,aH (aD e.tb),aH (aD e.nm),cb e.di,slC xpC e.ks,slC qyC e.sb] 1=slC xpC [e]:=by rw[← adC];simp[slC,fl]
def alk {α:Type} (a b:α) (J:List α) (x:α):(a::b::J)++[x]=a::b::(J++[x]):=rfl
def aUc (q:Qy):upN (bx (bx (bx (bl fI q.ks) (bl i8 q.fr)) (bl aaP q.its)) (bx (bl cF q.wh) (bx (bl cF q.gr) (bl cF q.hv))))=fI q:=by
 rw[aqq]
 simp only[upN,bx,bf]
 omega
def alB:=ai (ai (ai (ai @zq (ai @a55 @a54)) (ai (ai @a52 @aph) (ai @amu @aGB))) (ai (ai @aBl (ai @apm @anp)) (ai (ai @a50 @apg) (ai @amt @auO)))) (ai (ai (ai @aq2 (ai @eu @cQ)) (ai (ai @abc @akA) (ai @jl @d6))) (ai (ai @d7 (ai @ab9 @P4)) (ai (ai @Q4 @zT0) (ai @aHJ (ba aX5)))))
def awq (l:List Qy) (hw:lsW qyW l≤WL) (i1:∀ x∈l,ari x.ks) (i2:∀ x∈l,awu x.fr) (i3:∀ x∈l,∀ i∈x.its,alu [i.e]) (i4:∀ x∈l,alu x.wh) (i5:∀ x∈l,alu x.gr) (i6:∀ x∈l,alu x.hv):ari l:=by
 have h1:=cZ qyW l fun x _=>adx x
 have h2:=sbQ l
 have hw2:=hw
 simp only[WL] at hw2
 unfold ari
 refine ah rfl aX5 aHJ rfl ?_
 simp -implicitDefEqProofs(maxSteps:=9^9)only[Tryz.f73,↓zA,sevalprocAttr,alB]
 refine bW l.length (fun k s=>∃ a J,s.fr 0=.of (slC qyC l)∧s.fr 2=.ptr 0 0∧s.fr 3=.ptr 1 0∧s.fr 4=aU k∧s.objs=.var 104 [aU 0,aU 0]::.var 104 [.of (ci ((a:Nat×Nat).1:Int)),.of (ci (a.2:Int))]::J∧bx a (bl fI (l.drop k))=bl fI l) ?_ ?_
 .refine⟨(0,0),[],?_⟩
  simp -implicitDefEqProofs(maxSteps:=9^9)only[Tryz.f73,↓zA,sevalprocAttr,alB,ac4]
  try exact rfl
 .rintro k s hk ⟨a,J,f0,f2,f3,f4,ho,E⟩
  have ea:nnC (nnP a)=[ci (a.1:Int),ci (a.2:Int)]:=rfl
  rcases ap k l.length with c1|c1
  rotate_left
  .have e:k=l.length:=by omega
   subst e
   rw[aw,bl,iJ] at E
   subst E
   simp -implicitDefEqProofs(maxSteps:=9^9)only[Tryz.f73,↓zA,sevalprocAttr,alB,f0,f2,f3,f4,ho,aK,au,ea]
  have hwk:=cE k (by omega)
  have hm:l[k]∈l:=ay c1
  have k1:=fun K=>aN.k (i1 l[k] hm) K
  have k2:=fun K=>aN.k (i2 l[k] hm) K
  have k3:=i3 l[k] hm
  have k4:=fun K=>aN.k (i4 l[k] hm) K
  have k5:=fun K=>aN.k (i5 l[k] hm) K
  have k6:=fun K=>aN.k (i6 l[k] hm) K
  have b0:=bP (w:=qyW) hm
  rw[cM c1,ac0,← aaO] at E
  have p9:=auX fI qyW l h2 hw a (fI l[k]) (.inr ⟨_,E⟩)
  have es:=aUc l[k]
  have b4:=iC l[k]
  have q1:=sbQ l[k].ks
  have q2:=sbF l[k].fr
  have q3:=sbI l[k].its
  have q4:=sbX l[k].wh
  have q5:=sbX l[k].gr
  have q6:=sbX l[k].hv
  have nI:=cZ imW l[k].its fun x _=>adz x
  simp only[leW] at q1 q2 q3 q4 q5 q6
  have eb:nnC (nnP (bx a (fI l[k])))=[ci ((bx a (fI l[k])).1:Int),ci ((bx a (fI l[k])).2:Int)]:=rfl
  generalize hq:l[k]=q at *
  generalize hB:bx (bl fI q.ks) (bl i8 q.fr)=B at *
  have hB1:B.1≤lsW qyW q.ks+lsW fmW q.fr:=by rw[← hB];simp only[bx];omega
  have hB2:B.2≤lsW qyW q.ks+lsW fmW q.fr:=by rw[← hB];simp only[bx];omega
  have p0:(bl fI q.ks).1+(bl i8 q.fr).1≤4611686018427387903:=by omega
  have eB:nnC (nnP B)=[ci (B.1:Int),ci (B.2:Int)]:=rfl
  simp -implicitDefEqProofs(maxSteps:=9^9)only[Tryz.f73,↓zA,sevalprocAttr,alB,f0,f2,f3,f4,ho,aK,c1,bq c1,hq,k1,k2,← ea,af9,p0,hB,eB,anx,alq,aB,List.getElem?_cons_succ,aaG,alk,av,bt]
  refine bW q.its.length (fun j s=>∃ b J',s.objs=.var 104 [aU 0,aU 0]::.var 104 [.of (ci (a.1:Int)),.of (ci (a.2:Int))]::(J'++[.var 104 [.of (ci ((b:Nat×Nat).1:Int)),.of (ci (b.2:Int))]])∧s.fr 6=.ptr ((J':List Ob).length+1+1) 0∧s.fr 0=.of (slC qyC l)∧s.fr 2=.ptr 0 0∧s.fr 3=.ptr 1 0∧s.fr 4=aU k∧s.fr 5=.of (.ref [ci q.op,cb q.al,slC qyC q.ks,cb q.di,slC imC q.its,slC fmC q.fr,slC xpC q.wh,slC xpC q.gr,slC xpC q.hv,slC odC q.od,ci q.li,ci q.sk])∧s.fr 7=aU j∧bx b (bl aaP (q.its.drop j))=bx B (bl aaP q.its)) ?_ ?_
  .refine⟨B,?_⟩
   simp -implicitDefEqProofs(maxSteps:=9^9)only[Tryz.f73,↓zA,sevalprocAttr,alB,f0,f2,f3,f4]
   exact⟨_,rfl,by simp⟩
  .rintro j s' hj ⟨b,J',go,g6,g0,g2,g3,g4,g5,g7,F⟩
   have eb2:nnC (nnP b)=[ci (b.1:Int),ci (b.2:Int)]:=rfl
   rcases ap j q.its.length with d1|d1
   .have hwj:=cE j (by omega)
    rw[cM d1,ac0,← aaO] at F
    have F1:=congrArg Prod.fst F
    simp only[bx] at F1
    have k3':=fun K=>aN.k (k3 q.its[j] (ay d1)) K
    have hs:aaP q.its[j]=if q.its[j].st then (0,0) else cF q.its[j].e:=aqr _
    cases c3:q.its[j].st
    .rw[c3] at hs
     simp only[aW,aQ] at hs
     have k3s:bl cF [q.its[j].e]=aaP q.its[j]:=by rw[hs,bl,bl,iJ]
     rw[k3s] at k3'
     have p8:b.1+(aaP q.its[j]).1≤4611686018427387903:=by omega
     have eb3:nnC (nnP (bx b (aaP q.its[j])))=[ci ((bx b (aaP q.its[j])).1:Int),ci ((bx b (aaP q.its[j])).2:Int)]:=rfl
     simp -implicitDefEqProofs(maxSteps:=9^9)only[Tryz.f73,↓zA,sevalprocAttr,alB,g0,g2,g3,g4,g5,g6,g7,go,aK,d1,bq d1,c3,hwj,← eb2,k3',af9,p8,eb3,auE,anx,alq,aB,List.getElem?_cons_succ,aaG,alk,av,bt]
     exact⟨_,_,rfl,by simp,F⟩
    .rw[c3] at hs
     simp only[aA] at hs
     rw[hs,iJ] at F
     simp -implicitDefEqProofs(maxSteps:=9^9)only[Tryz.f73,↓zA,sevalprocAttr,alB,g0,g2,g3,g4,g5,g6,g7,go,aK,d1,bq d1,c3,hwj,anx,alq,aB,List.getElem?_cons_succ,aaG,alk,av,bt]
     exact⟨_,_,rfl,by simp,F⟩
   .have e:j=q.its.length:=by omega
    subst e
    rw[aw,bl,iJ] at F
    subst F
    have z1:(bl cF q.gr).1+(bl cF q.hv).1≤4611686018427387903:=by omega
    have z2:(bl cF q.wh).1+(bx (bl cF q.gr) (bl cF q.hv)).1≤4611686018427387903:=by simp only[bx];omega
    have z3:(bx B (bl aaP q.its)).1+(bx (bl cF q.wh) (bx (bl cF q.gr) (bl cF q.hv))).1≤4611686018427387903:=by simp only[bx];omega
    have z4:(bx (bx B (bl aaP q.its)) (bx (bl cF q.wh) (bx (bl cF q.gr) (bl cF q.hv)))).1≤4611686018427387903∧(bx (bx B (bl aaP q.its)) (bx (bl cF q.wh) (bx (bl cF q.gr) (bl cF q.hv)))).2≤4611686018427387903:=by simp only[bx];omega
    have eb4:nnC (nnP (bx (bx B (bl aaP q.its)) (bx (bl cF q.wh) (bx (bl cF q.gr) (bl cF q.hv)))))=[ci ((bx (bx B (bl aaP q.its)) (bx (bl cF q.wh) (bx (bl cF q.gr) (bl cF q.hv)))).1:Int),ci ((bx (bx B (bl aaP q.its)) (bx (bl cF q.wh) (bx (bl cF q.gr) (bl cF q.hv)))).2:Int)]:=rfl
    have ea2:[ci (a.1:Int),ci (a.2:Int)]=nnC (nnP a):=rfl
    simp -implicitDefEqProofs(maxSteps:=9^9)only[Tryz.f73,↓zA,sevalprocAttr,alB,g0,g2,g3,g4,g5,g6,g7,go,aK,au,hwk,k4,k5,k6,af9,arb,z1,z2,z3,z4,es,p9,al7,ahA,ahB,anx,alq,aB,List.getElem?_cons_succ,aaG,alk,av,bt]
    exact⟨_,_,rfl,E⟩
theorem al6:∀ n,n≤WL→(∀ l,lsW xpW l≤n→alu l)∧(∀ l,lsW qyW l≤n→ari l)∧(∀ l,lsW fmW l≤n→awu l)
 | 0,_=>⟨fun l h=>by simp[lsW] at h,fun l h=>by simp[lsW] at h,fun l h=>by simp[lsW] at h⟩
 | n+1,hn=>by
  obtain⟨i1,i2,i3⟩:=al6 n (by omega)
  refine⟨fun l h=>?_,fun l h=>?_,fun l h=>?_⟩
  .refine aE3 l (by omega) (fun x hx=>i1 _ ?_) (fun x hx=>i2 _ ?_) <;> (have h1:=bP (w:=xpW) hx;have h2:=aaV x;omega)
  .have hone:∀ i:Im,lsW xpW [i.e]≤imW i:=fun i=>by rw[ack];simp only[lsW,aV,bC,bT,cT,d8];omega
   refine awq l (by omega) (fun x hx=>i2 _ ?_) (fun x hx=>i3 _ ?_) (fun x hx i hi=>i1 _ ?_) (fun x hx=>i1 _ ?_) (fun x hx=>i1 _ ?_) (fun x hx=>i1 _ ?_)
   .have h1:=bP (w:=qyW) hx;have h2:=iC x;omega
   .have h1:=bP (w:=qyW) hx;have h2:=iC x;omega
   .have h1:=bP (w:=qyW) hx;have h2:=iC x;have h3:=bP (w:=imW) hi;have h4:=hone i;omega
   .have h1:=bP (w:=qyW) hx;have h2:=iC x;omega
   .have h1:=bP (w:=qyW) hx;have h2:=iC x;omega
   .have h1:=bP (w:=qyW) hx;have h2:=iC x;omega
  .refine at2 l (by omega) (fun x hx=>i2 _ ?_) (fun x hx=>i3 _ ?_) (fun x hx=>i1 _ ?_) <;> (have h1:=bP (w:=fmW) hx;have h2:=jb x;omega)
def aET (l:List Xp) (K:An→Prop):bp Tryz.prog pr 88 [.of (slC xpC l)] [] K↔ifP (lsW xpW l≤WL) (K ⟨false,[.of (.agg (nnC (nnP (bl cF l))))],[]⟩) (abW Tryz.prog pr 88 [.of (slC xpC l)] K):=adG (fun h=>(al6 WL (aM _)).1 l h) K
def a0D (l:List Qy) (K:An→Prop):bp Tryz.prog pr 73 [.of (slC qyC l)] [] K↔ifP (lsW qyW l≤WL) (K ⟨false,[.of (.agg (nnC (nnP (bl fI l))))],[]⟩) (abW Tryz.prog pr 73 [.of (slC qyC l)] K):=adG (fun h=>(al6 WL (aM _)).2.1 l h) K
def aUb (s:Sm):bx (bx (bx (bx (bl cF s.chs) (bl cF s.wh)) (bl fI s.q)) (bl (fun l=>bl cF l) s.rws)) (bl (fun a:As=>cF a.e) s.sts)=ahS s:=by
 simp only[ahS,bx,bf]
 omega
abbrev N0:Ob:=.var 104 [aU 0,aU 0]
abbrev NO (a:Nat×Nat):Ob:=.var 104 [.of (ci (a.1:Int)),.of (ci (a.2:Int))]
def anU:=ai (ai (ai (ai @zq @a5Y) (ai @a5X (ai @apg @amt))) (ai (ai @apm @anp) (ai @aph (ai @amu @a5W)))) (ai (ai (ai @abb @cQ) (ai @abQ (ai @akA @eu))) (ai (ai @d6 (ai @hY @abR)) (ai @zT0 (ai @aH1 (ba aYn)))))
def aES (s:Sm) (hw:smW s≤WL):G1 52 [.of (.agg (smC s))] (.of (.agg (nnC (nnP (ahS s))))):=by
 simp only[WL,smW] at hw
 have b1:=sbX s.chs
 have b2:=sbX s.wh
 have b3:=sbQ s.q
 have b4:=(aaD (fun l=>bl cF l) (lsW xpW) s.rws fun x _=>sbX x).1
 have b5:=(aaD (fun a:As=>cF a.e) asW s.sts fun x _=>by have:=(agS _).1 x.e (aM _);simp only[leW,asW] at this ⊢;omega).1
 simp only[leW] at b1 b2 b3 b4 b5
 have n1:=cZ (lsW xpW) s.rws fun x _=>by simp[lsW]
 have n2:=cZ asW s.sts fun x _=>by simp[asW]
 have w1:lsW xpW s.chs≤WL:=by simp only[WL];omega
 have w2:lsW xpW s.wh≤WL:=by simp only[WL];omega
 have w3:lsW qyW s.q≤WL:=by simp only[WL];omega
 have p1:(bl cF s.chs).1+(bl cF s.wh).1≤4611686018427387903:=by omega
 have p2:(bx (bl cF s.chs) (bl cF s.wh)).1+(bl fI s.q).1≤4611686018427387903:=by simp only[bx];omega
 generalize hA:bx (bx (bl cF s.chs) (bl cF s.wh)) (bl fI s.q)=A at *
 have hA1:A.1≤lsW xpW s.chs+lsW xpW s.wh+lsW qyW s.q:=by rw[← hA];simp only[bx];omega
 have eS:=aUb s
 rw[hA] at eS
 refine ah rfl aYn aH1 rfl ?_
 simp -implicitDefEqProofs(maxSteps:=9^9)only[Tryz.f52,↓zA,sevalprocAttr,anU,aET,a0D,w1,w2,w3,af9,p1,p2,hA,al7,ahA,ahB]
 refine bW s.rws.length (fun k t=>∃ a,t.objs=[N0,NO a]∧t.fr 1=.of (.ref (smC s))∧t.fr 2=.ptr 0 0∧t.fr 3=.ptr 1 0∧t.fr 4=aU k∧bx a (bl (fun l=>bl cF l) (s.rws.drop k))=bx A (bl (fun l=>bl cF l) s.rws)) ?_ ?_
 .refine⟨A,?_⟩
  simp -implicitDefEqProofs(maxSteps:=9^9)only[Tryz.f52,↓zA,sevalprocAttr,anU,iB]
  try exact rfl
 .rintro k t hk ⟨a,ho,f1,f2,f3,f4,E⟩
  rw[iB] at f1
  rcases ap k s.rws.length with c1|c1
  .have hwk:=cE k (by omega)
   have w4:lsW xpW s.rws[k]≤WL:=by have:=bP (w:=lsW xpW) (ay c1);simp only[WL];omega
   rw[cM c1,ac0,← aaO] at E
   have E1:=congrArg Prod.fst E
   simp only[bx] at E1
   have p3:a.1+(bl cF s.rws[k]).1≤4611686018427387903:=by omega
   simp -implicitDefEqProofs(maxSteps:=9^9)only[Tryz.f52,↓zA,sevalprocAttr,anU,ho,f1,f2,f3,f4,aK,c1,bq c1,hwk,aET,w4,af9,p3,al7,ahA,ahB,iB]
   exact⟨_,rfl,E⟩
  .have e:k=s.rws.length:=by omega
   subst e
   rw[aw,bl,iJ] at E
   have ha:a=bx A (bl (fun l=>bl cF l) s.rws):=E
   simp -implicitDefEqProofs(maxSteps:=9^9)only[Tryz.f52,↓zA,sevalprocAttr,anU,ho,f1,f2,f3,f4,aK,au]
   refine bW s.sts.length (fun j u=>∃ b,u.objs=[N0,NO b]∧u.fr 1=.of (.ref (smC s))∧u.fr 2=.ptr 0 0∧u.fr 3=.ptr 1 0∧u.fr 5=aU j∧bx b (bl (fun a:As=>cF a.e) (s.sts.drop j))=ahS s) ?_ ?_
   .refine⟨a,?_⟩
    simp -implicitDefEqProofs(maxSteps:=9^9)only[Tryz.f52,↓zA,sevalprocAttr,anU,ho,f1,f2,f3,iB]
    rw[ha]
    exact eS
   .rintro j u hj ⟨b,go,g1,g2,g3,g5,F⟩
    rw[iB] at g1
    rcases ap j s.sts.length with d1|d1
    .have hwj:=cE j (by omega)
     have w5:lsW xpW [s.sts[j].e]≤WL:=by
      have h1:=bP (w:=asW) (ay d1)
      simp only[lsW,aV,bC,bT,cT,asW,cU,WL] at h1 ⊢
      simp only[lsW] at hw
      omega
     have e1:bl cF [s.sts[j].e]=cF s.sts[j].e:=by rw[bl,bl,iJ]
     rw[cM d1,ac0,← aaO] at F
     have F1:=congrArg Prod.fst F
     have hS:=aFt s
     simp only[leW,smW] at hS
     simp only[bx] at F1
     have p4:b.1+(cF s.sts[j].e).1≤4611686018427387903:=by omega
     simp -implicitDefEqProofs(maxSteps:=9^9)only[Tryz.f52,↓zA,sevalprocAttr,anU,go,g1,g2,g3,g5,aK,d1,bq d1,hwj,aET,w5,e1,af9,p4,al7,ahA,ahB,iB,auE]
     exact⟨_,rfl,F⟩
    .have e:j=s.sts.length:=by omega
     subst e
     rw[aw,bl,iJ] at F
     subst F
     simp -implicitDefEqProofs(maxSteps:=9^9)only[Tryz.f52,↓zA,sevalprocAttr,anU,go,g1,g2,g3,g5,aK,au,al7]
def aiI (s:List UInt8) (i:Int):adb (TT.of Tryz.prog) 9 (.of (.lit (.string (aD s)))) (.of (.lit (.int .i64 i)))=acb (dE s i) fun c=>.of (.lit (.int .u8 (c.toNat:Nat))):=avm (by rw[T9];rfl) s i
def adr (n:Nat):((n:Int)<1)=(n=0):=propext (by omega)
def aeS:Nat→List UInt8→Bool
 | _,[]=>true
 | k,c::r=>(fD c||(decide (k≠0)&&jc c))&&aeS (k+1) r
def aJx (r:List UInt8):∀ k,aeS (k+1) r=r.all ahg:=by
 induction r with
 | nil=>intro k;rfl
 | cons x r ih=>intro k;simp[aeS,ih,ahg]
def cJ (n:Nat):((n:Int)=0)=(n=0):=propext (by omega)
def aeW:=ai (ai @zq @zT0) (ai @aAg (ba aPC))
def aJC (s:List UInt8):G1 127 [.of (aH (aD s))] (aG (bk s)):=by
 refine ah rfl aPC aAg rfl ?_
 by_cases n0:s.length=0
 .have e:bk s=false:=by rw[gM.1 n0];rfl
  simp -implicitDefEqProofs(maxSteps:=9^9)only[Tryz.f127,↓zA,sevalprocAttr,aeW,n0,e,adr]
 by_cases c0:20<s.length
 .have e:bk s=false:=by
   cases s with
   | nil=>rfl
   | cons x r=>simp only[bk,bO (show ¬(r.length+1≤20) from by simp only[aB] at c0;omega),cO]
  simp -implicitDefEqProofs(maxSteps:=9^9)only[Tryz.f127,↓zA,sevalprocAttr,aeW,adr,n0,apB,c0,e]
 have e:bk s=aeS 0 s:=by
  cases s with
  | nil=>simp at n0
  | cons x r =>
   simp only[bk,ct (show r.length+1≤20 from by simp only[aB] at c0;omega),dK,aeS,aJx]
   simp only[co,aa1,bE,aZ,eI]
   rfl
 rw[e]
 simp -implicitDefEqProofs(maxSteps:=9^9)only[Tryz.f127,↓zA,sevalprocAttr,aeW,adr,n0,apB,c0]
 refine bW s.length (fun k t=>t.fr 0=.of (aH (aD s))∧t.fr 3=aU k∧t.objs=[]∧aeS 0 s=aeS k (s.drop k)) ?_ ?_
 .simp -implicitDefEqProofs(maxSteps:=9^9)only[Tryz.f127,↓zA,sevalprocAttr,aeW]
  try exact rfl
 .rintro k t hk ⟨f0,f3,ho,E⟩
  rcases ap k s.length with d1|d1
  .have hw:=cE k (by omega)
   rw[cM d1,aeS] at E
   have fin:fD s[k]=true→aeS 0 s=aeS (k+1) (s.drop (k+1)):=fun h=>by rw[E,h];rfl
   by_cases a1:97≤s[k].toNat
   .by_cases a2:s[k].toNat≤122
    .have F:=fin (by simp[fD,a1,a2])
     simp -implicitDefEqProofs(maxSteps:=9^9)only[Tryz.f127,↓zA,sevalprocAttr,aeW,f0,f3,ho,aK,d1,aiI,bq d1,hw,u97,aiw,u95,u48,u57,cJ,a1,a2,F]
    .by_cases a3:s[k]=95
     .have h3:s[k].toNat=95:=by rw[a3];rfl
      omega
     .have hs:fD s[k]=false:=by simp[fD,a2,a3]
      have a5:¬s[k].toNat≤57:=by omega
      have F:aeS 0 s=false:=by rw[E,hs];simp[jc,a5]
      by_cases k0:k=0
      .simp -implicitDefEqProofs(maxSteps:=9^9)only[Tryz.f127,↓zA,sevalprocAttr,aeW,f0,f3,ho,aK,d1,aiI,bq d1,hw,u97,aiw,u95,u48,u57,cJ,a1,a2,a3,aa k0,F]
      .have a4:48≤s[k].toNat:=by omega
       simp -implicitDefEqProofs(maxSteps:=9^9)only[Tryz.f127,↓zA,sevalprocAttr,aeW,f0,f3,ho,aK,d1,aiI,bq d1,hw,u97,aiw,u95,u48,u57,cJ,a1,a2,a3,a4,a5,k0,F]
   .by_cases a3:s[k]=95
    .have F:=fin (by simp[fD,a3])
     simp -implicitDefEqProofs(maxSteps:=9^9)only[Tryz.f127,↓zA,sevalprocAttr,aeW,f0,f3,ho,aK,d1,aiI,bq d1,hw,u97,aiw,u95,u48,u57,cJ,a1,aa a3,F]
    .have hs:fD s[k]=false:=by simp[fD,a1,a3]
     by_cases k0:k=0
     .have F:aeS 0 s=false:=by rw[E,hs];simp[k0]
      simp -implicitDefEqProofs(maxSteps:=9^9)only[Tryz.f127,↓zA,sevalprocAttr,aeW,f0,f3,ho,aK,d1,aiI,bq d1,hw,u97,aiw,u95,u48,u57,cJ,a1,a3,aa k0,F]
     .by_cases a4:48≤s[k].toNat
      .by_cases a5:s[k].toNat≤57
       .have F:aeS 0 s=aeS (k+1) (s.drop (k+1)):=by rw[E,hs];simp[jc,a4,a5,k0]
        simp -implicitDefEqProofs(maxSteps:=9^9)only[Tryz.f127,↓zA,sevalprocAttr,aeW,f0,f3,ho,aK,d1,aiI,bq d1,hw,u97,aiw,u95,u48,u57,cJ,a1,a3,a4,a5,k0,F]
       .have F:aeS 0 s=false:=by rw[E,hs];simp[jc,a5]
        simp -implicitDefEqProofs(maxSteps:=9^9)only[Tryz.f127,↓zA,sevalprocAttr,aeW,f0,f3,ho,aK,d1,aiI,bq d1,hw,u97,aiw,u95,u48,u57,cJ,a1,a3,a4,a5,k0,F]
      .have F:aeS 0 s=false:=by rw[E,hs];simp[jc,a4]
       simp -implicitDefEqProofs(maxSteps:=9^9)only[Tryz.f127,↓zA,sevalprocAttr,aeW,f0,f3,ho,aK,d1,aiI,bq d1,hw,u97,aiw,u95,u48,u57,cJ,a1,a3,a4,k0,F]
  .have e:k=s.length:=by omega
   subst e
   rw[aw,aeS] at E
   simp -implicitDefEqProofs(maxSteps:=9^9)only[Tryz.f127,↓zA,sevalprocAttr,aeW,f0,f3,ho,aK,au,E]
def db (s:List UInt8) (K:An→Prop):bp Tryz.prog pr 127 [.of (aH (aD s))] [] K↔K ⟨false,[aG (bk s)],[]⟩:=aN.k (aJC s) K
def aMQ:=ai (ai @zq (ai @ahz @agi)) (ai @zT0 (ai @ayR (ba aOd)))
def aul (s:List UInt8):G1 220 [.of (aH (aD s))] (aG (fV s)):=by
 refine ah rfl aOd ayR rfl ?_
 by_cases c:s=[]
 .simp -implicitDefEqProofs(maxSteps:=9^9)only[Tryz.f220,↓zA,sevalprocAttr,aMQ,db,aa c,fV,dv]
 .simp -implicitDefEqProofs(maxSteps:=9^9)only[Tryz.f220,↓zA,sevalprocAttr,aMQ,db,c,fV,dh]
def cG (s:List UInt8) (K:An→Prop):bp Tryz.prog pr 220 [.of (aH (aD s))] [] K↔K ⟨false,[aG (fV s)],[]⟩:=aN.k (aul s) K
def akE (a:List UInt8):(aD a=({data:=#[115,117,109]}:ByteArray))=(a=[115,117,109]):=bU a [115,117,109]
def akF (a:List UInt8):(aD a=({data:=#[109,105,110]}:ByteArray))=(a=[109,105,110]):=bU a [109,105,110]
def akG (a:List UInt8):(aD a=({data:=#[109,97,120]}:ByteArray))=(a=[109,97,120]):=bU a [109,97,120]
def eN (a:List UInt8):(aD a=({data:=#[99,111,117,110,116]}:ByteArray))=(a=afD):=bU a afD
def asZ:=ai (ai @zq @zT0) (ai @ayN (ba aN9))
def aE2 (s:List UInt8):G1 230 [.of (aH (aD s))] (aG (aa4 s)):=by
 refine ah rfl aN9 ayN rfl ?_
 by_cases a1:s=afD
 .simp -implicitDefEqProofs(maxSteps:=9^9)only[Tryz.f230,↓zA,sevalprocAttr,asZ,akE,akF,akG,eN,aa a1,aa4,dv]
 .by_cases a2:s=[115,117,109]
  .simp -implicitDefEqProofs(maxSteps:=9^9)only[Tryz.f230,↓zA,sevalprocAttr,asZ,akE,akF,akG,eN,a1,aa a2,aa4,dv,eZ]
  .by_cases a3:s=[109,105,110]
   .simp -implicitDefEqProofs(maxSteps:=9^9)only[Tryz.f230,↓zA,sevalprocAttr,asZ,akE,akF,akG,eN,a1,a2,aa a3,aa4,dv,eZ]
   .simp -implicitDefEqProofs(maxSteps:=9^9)only[Tryz.f230,↓zA,sevalprocAttr,asZ,akE,akF,akG,eN,a1,a2,a3,aa4,dh]
def fQ (s:List UInt8) (K:An→Prop):bp Tryz.prog pr 230 [.of (aH (aD s))] [] K↔K ⟨false,[aG (aa4 s)],[]⟩:=aN.k (aE2 s) K
def amW:=ai (ai (ai @zq @ahz) (ai @agi @bN)) (ai (ai @Q9 @zT0) (ai @aAe (ba aPA)))
def auk (l:List (List UInt8)) (a b:Int) (h:l.length≤4611686018427387903):G1 129 [.of (slC bA l),.of (ci a),.of (ci b)] (aG (bu l a b bk)):=by
 refine ah rfl aPA aAe rfl ?_
 simp -implicitDefEqProofs(maxSteps:=9^9)only[Tryz.f129,↓zA,sevalprocAttr,amW]
 refine bW l.length (fun k t=>t.fr 0=.of (slC bA l)∧t.fr 1=.of (ci a)∧t.fr 2=.of (ci b)∧t.fr 7=aU k∧t.objs=[]∧l.all bk=(l.drop k).all bk) ?_ ?_
 .simp -implicitDefEqProofs(maxSteps:=9^9)only[Tryz.f129,↓zA,sevalprocAttr,amW]
  try exact rfl
 .rintro k t hk ⟨f0,f1,f2,f7,ho,E⟩
  rcases ap k l.length with d1|d1
  .have hw:=cE k (by omega)
   rw[cM d1,adm] at E
   cases d2:bk l[k]
   .rw[d2,aZ] at E
    simp -implicitDefEqProofs(maxSteps:=9^9)only[Tryz.f129,↓zA,sevalprocAttr,amW,f0,f1,f2,f7,ho,aK,d1,bq d1,hw,db,d2,bu,E,cO]
   .rw[d2,aX] at E
    simp -implicitDefEqProofs(maxSteps:=9^9)only[Tryz.f129,↓zA,sevalprocAttr,amW,f0,f1,f2,f7,ho,aK,d1,bq d1,hw,db,d2,E]
  .have e:k=l.length:=by omega
   subst e
   rw[aw,eY] at E
   by_cases a1:a≤(l.length:Int)
   .simp -implicitDefEqProofs(maxSteps:=9^9)only[Tryz.f129,↓zA,sevalprocAttr,amW,f0,f1,f2,f7,ho,aK,au,a1,bu,E]
   .simp -implicitDefEqProofs(maxSteps:=9^9)only[Tryz.f129,↓zA,sevalprocAttr,amW,f0,f1,f2,f7,ho,aK,au,a1,bu,E]
def aeD (l:List (List UInt8)) (a b:Int) (K:An→Prop):bp Tryz.prog pr 129 [.of (slC bA l),.of (ci a),.of (ci b)] [] K↔ifP (l.length≤4611686018427387903) (K ⟨false,[aG (bu l a b bk)],[]⟩) (abW Tryz.prog pr 129 [.of (slC bA l),.of (ci a),.of (ci b)] K):=adG (auk l a b) K
def aMM:=ai (ai @zq @zT0) (ai @ayq (ba aNL))
def aFS (n:Int):G1 260 [aU n] (aG (inB n)):=by
 refine ah rfl aNL ayq rfl ?_
 by_cases h1:-1000000000000000≤n
 .simp -implicitDefEqProofs(maxSteps:=9^9)only[Tryz.f260,↓zA,sevalprocAttr,aMM,h1,inB]
 .simp -implicitDefEqProofs(maxSteps:=9^9)only[Tryz.f260,↓zA,sevalprocAttr,aMM,h1,inB]
def aFR (n:Int) (K:An→Prop):bp Tryz.prog pr 260 [.of (ci n)] [] K↔K ⟨false,[aG (inB n)],[]⟩:=aN.k (aFS n) K
def u32 (c:UInt8):((c.toNat:Int)<32)=(c.toNat<32):=propext (by omega)
def aJ1 (c:UInt8):((126:Int)<(c.toNat:Int))=(126<c.toNat):=propext (by omega)
def aUZ (c:UInt8):okB c=(!decide (c.toNat<32)&&!decide (126<c.toNat)):=by
 unfold okB
 rw[bX]
 simp only[ab,cj,iH,ar]
 omega
def aRv (n:Nat):((n:Int)≤100)=(n≤100):=propext (by omega)
def amG:=ai (ai @zq @zT0) (ai @ayp (ba aNK))
def aup (s:List UInt8) (hl:s.length≤4611686018427387903):G1 261 [.of (aH (aD s))] (aG (afw (aD s))):=by
 have e0:afw (aD s)=(s.all okB&&decide (s.length≤100)):=by
  unfold afw
  rw[acw]
  have:(aD s).data.toList=s:=by simp[aD]
  rw[this]
 rw[e0]
 refine ah rfl aNK ayp rfl ?_
 simp -implicitDefEqProofs(maxSteps:=9^9)only[Tryz.f261,↓zA,sevalprocAttr,amG]
 refine bW s.length (fun k t=>t.fr 0=.of (aH (aD s))∧t.fr 3=aU k∧t.objs=[]∧s.all okB=(s.drop k).all okB) ?_ ?_
 .simp -implicitDefEqProofs(maxSteps:=9^9)only[Tryz.f261,↓zA,sevalprocAttr,amG]
  try exact rfl
 .rintro k t hk ⟨f0,f3,ho,E⟩
  rcases ap k s.length with d1|d1
  .have hw:=cE k (by omega)
   rw[cM d1,adm,aUZ] at E
   by_cases a1:s[k].toNat<32
   .simp only[a1,bG,fk,aZ] at E
    simp -implicitDefEqProofs(maxSteps:=9^9)only[Tryz.f261,↓zA,sevalprocAttr,amG,f0,f3,ho,aK,d1,aiI,bq d1,u32,aJ1,a1,E]
   .by_cases a2:126<s[k].toNat
    .simp only[a1,a2,bG,bE,dZ,fk,aZ,cO] at E
     simp -implicitDefEqProofs(maxSteps:=9^9)only[Tryz.f261,↓zA,sevalprocAttr,amG,f0,f3,ho,aK,d1,aiI,bq d1,u32,aJ1,a1,a2,E]
    .simp only[a1,a2,bE,dZ,aX] at E
     simp -implicitDefEqProofs(maxSteps:=9^9)only[Tryz.f261,↓zA,sevalprocAttr,amG,f0,f3,ho,aK,d1,aiI,bq d1,u32,aJ1,a1,a2,hw,E]
  .have e:k=s.length:=by omega
   subst e
   rw[aw,eY] at E
   simp -implicitDefEqProofs(maxSteps:=9^9)only[Tryz.f261,↓zA,sevalprocAttr,amG,f0,f3,ho,aK,au,E,aRv]
def aFQ (s:ByteArray) (K:An→Prop):bp Tryz.prog pr 261 [.of (aH s)] [] K↔ifP (s.size≤4611686018427387903) (K ⟨false,[aG (afw s)],[]⟩) (abW Tryz.prog pr 261 [.of (aH s)] K):=adG (fun h=>by
 have e:aD s.data.toList=s:=by cases s;simp[aD]
 have h2:=aup s.data.toList (by have h3:s.data.toList.length=s.size:=fm;omega)
 rwa [e] at h2) K
def ahb:=ai (ai (ai @zq (ai @a56 @aU6)) (ai @aR8 (ai @aU5 @aR7))) (ai (ai @ad6 (ai @Q3 @Q9)) (ai @zT0 (ai @ayO (ba aOa))))
def auq (v:V) (hl:v.s.size≤4611686018427387903):G1 229 [.of (.agg (acE v))] (aG (gX v)):=by
 refine ah rfl aOa ayO rfl ?_
 by_cases k0:v.k=0
 .by_cases c1:v.n=0
  .simp -implicitDefEqProofs(maxSteps:=9^9)only[Tryz.f229,↓zA,sevalprocAttr,ahb,aa k0,aa c1,gX,s0,ael]
  .simp -implicitDefEqProofs(maxSteps:=9^9)only[Tryz.f229,↓zA,sevalprocAttr,ahb,aa k0,c1,gX,s0,ael]
 .by_cases k1:v.k=1
  .by_cases c1:v.n=0
   .simp -implicitDefEqProofs(maxSteps:=9^9)only[Tryz.f229,↓zA,sevalprocAttr,ahb,k1,Int.reduceEq,aa c1,gX,s0,ael,dv]
   .by_cases c2:v.n=1
    .simp -implicitDefEqProofs(maxSteps:=9^9)only[Tryz.f229,↓zA,sevalprocAttr,ahb,k1,Int.reduceEq,c1,aa c2,gX,s0,ael,dh]
    .simp -implicitDefEqProofs(maxSteps:=9^9)only[Tryz.f229,↓zA,sevalprocAttr,ahb,k1,Int.reduceEq,c1,c2,gX,s0,ael,dh]
  .by_cases k2:v.k=2
   .cases c1:inB v.n
    .simp -implicitDefEqProofs(maxSteps:=9^9)only[Tryz.f229,↓zA,sevalprocAttr,ahb,k2,Int.reduceEq,aFR,c1,gX,s0,ael]
    .simp -implicitDefEqProofs(maxSteps:=9^9)only[Tryz.f229,↓zA,sevalprocAttr,ahb,k2,Int.reduceEq,aFR,c1,gX,s0,ael]
   .by_cases k3:v.k=3
    .by_cases c1:v.n=0
     .simp -implicitDefEqProofs(maxSteps:=9^9)only[Tryz.f229,↓zA,sevalprocAttr,ahb,k3,Int.reduceEq,aa c1,aFQ,hl,gX,ael]
     .simp -implicitDefEqProofs(maxSteps:=9^9)only[Tryz.f229,↓zA,sevalprocAttr,ahb,k3,Int.reduceEq,c1,gX,ael]
    .simp -implicitDefEqProofs(maxSteps:=9^9)only[Tryz.f229,↓zA,sevalprocAttr,ahb,k0,k1,k2,k3,gX,ael]
def eU (v:V) (K:An→Prop):bp Tryz.prog pr 229 [.of (.agg (acE v))] [] K↔ifP (v.s.size≤4611686018427387903) (K ⟨false,[aG (gX v)],[]⟩) (abW Tryz.prog pr 229 [.of (.agg (acE v))] K):=adG (auq v) K
end Go.Proofs.YtemdljoideegeaaGreatDoor

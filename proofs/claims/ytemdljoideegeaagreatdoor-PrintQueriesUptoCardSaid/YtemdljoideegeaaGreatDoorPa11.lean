/-
  The writer: lists with signs between. Conditions: none.
-/
import Derived.Test.YtemdljoideegeaaGreatDoorPa10
import Derived.Test.YtemdljoideegeaaGreatDoorCards
import Derived.Test.YtemdljoideegeaaGreatDoorTie
import Derived.WalkKit
import Derived.ProofKit
import Derived.OpenShut
import Derived.Deep.DeepHandedRow
import Derived.Lib.LaidTab
import Derived.Shelf.Vars
import Derived.Lib.IndexLaws
set_option linter.defProp false
set_option linter.unusedSectionVars false
set_option maxRecDepth 100000
set_option maxHeartbeats 64000000
namespace Go.Proofs.YtemdljoideegeaaGreatDoor
open Go Go.Pe Go.Tab Go.RowKit Go.ChangeShapes Go.Deep
def aQl (s:ByteArray):∃ l:List UInt8,s=aD l∧l.length=s.size:=⟨s.data.toList,by simp[aD],by simp⟩
def bB {α:Type} {l:List α} {n:Nat} (h:l.length=n+1):∃ a r,l=a::r∧r.length=n:=by
 cases l with
 | nil=>cases h
 | cons a r=>exact⟨a,r,rfl,Nat.succ.inj h⟩
def cQ {α:Type} (t:TypeId) (f:α→List C) (w:α→Nat) (q:α→Prop) (n:Nat):Prop:=∀ cs m,m<n→Pl Tryz.prog t cs m→∃ x,cs=f x∧w x≤m∧q x
theorem cQ.mono {α:Type} {t:TypeId} {f:α→List C} {w:α→Nat} {q:α→Prop} {n k:Nat} (h:cQ t f w q n) (hk:k≤n):cQ t f w q k:=fun cs m hm hp=>h cs m (by omega) hp
theorem cQ.list {α:Type} {t e:TypeId} {f:α→List C} {w:α→Nat} {q:α→Prop} {n:Nat} (h:cQ e f w q n) (hu:Tryz.prog.underlying t=some (.slice e)):cQ t (lsC f) (lsW w) (lsP q) (n+1):=by
 intro cs m hm hp
 obtain⟨ps,ws,rfl,hl,hx,hs⟩:=hp.slice_inv hu
 obtain⟨l,rfl,l2,l3⟩:=aAR (f:=f) (w:=w) (Q:=fun _ x=>q x) ps ws hl fun i h1 h2=>by
  have h3:ws[i]≤ws.sum:=by
   have:=ay h2
   generalize ws[i]=x at this
   clear hx hs hl h2
   induction ws with
   | nil=>cases this
   | cons a r ih =>
    rw[bU]
    rcases cY.1 this with rfl|h
    .omega
    .have:=ih h
     omega
  exact h _ _ (by omega) (hx i h1 h2)
 exact⟨l,by simp[lsC,slC,fl],by unfold lsW;omega,fun x hx=>by obtain⟨_,_,h⟩:=l3 x hx;exact h⟩
def ahF (n:Nat):cQ 3 abi eN I64 n:=fun cs m _ hp=>by
 obtain⟨x,rfl,h⟩:=hp.int_inv Tryz.underlying3
 exact⟨x,rfl,hp.pos,h⟩
def agd (n:Nat):cQ 4 aan eN fK n:=fun cs m _ hp=>by
 obtain⟨x,rfl⟩:=hp.bool_inv Tryz.underlying4
 exact⟨x,rfl,hp.pos,trivial⟩
def acj (n:Nat):cQ 9 bA cV fK n:=fun cs m _ hp=>by
 obtain⟨s,rfl,h⟩:=hp.str_inv Tryz.underlying9
 obtain⟨l,rfl,e⟩:=aQl s
 exact⟨l,rfl,by unfold cV;omega,trivial⟩
def aZg (n:Nat):cQ 43 acC alF V64 n:=by
 intro cs m _ h
 obtain⟨ps,ws,rfl,hp,hl,hx,hm⟩:=h.struct_inv Tryz.underlying43
 match ps,hp,ws,hl with
 | [p0,p1,p2],_,[w0,w1,w2],_ =>
  obtain⟨k,k1,k2⟩:=(hx 0 (by decide) (by simp) (by simp)).int_inv Tryz.underlying3
  obtain⟨n,n1,n2⟩:=(hx 1 (by decide) (by simp) (by simp)).int_inv Tryz.underlying3
  obtain⟨s,s1,s2⟩:=(hx 2 (by decide) (by simp) (by simp)).str_inv Tryz.underlying9
  have q0:=(hx 0 (by decide) (by simp) (by simp)).pos
  have q1:=(hx 1 (by decide) (by simp) (by simp)).pos
  simp only[dS,d8] at k1 n1 s1 s2 q0 q1
  subst k1;subst n1;subst s1
  simp only[bU,cU] at hm
  exact⟨⟨k,n,s⟩,rfl,by show s.size+4≤m;omega,k2,n2⟩
def a7j (n:Nat):cQ 64 odC odW awq n:=by
 intro cs m hm h
 obtain⟨ps,ws,rfl,hp,hl,hx,hs⟩:=h.struct_inv Tryz.underlying64
 have hp':ps.length=3:=hp
 have hl':ws.length=3:=hl
 clear hp hl
 obtain⟨p0,pt0,rfl,pq0⟩:=bB hp'
 obtain⟨p1,pt1,rfl,pq1⟩:=bB pq0
 obtain⟨p2,pt2,rfl,pq2⟩:=bB pq1
 obtain rfl:pt2=[]:=aJ pq2
 obtain⟨w0,wt0,rfl,wq0⟩:=bB hl'
 obtain⟨w1,wt1,rfl,wq1⟩:=bB wq0
 obtain⟨w2,wt2,rfl,wq2⟩:=bB wq1
 obtain rfl:wt2=[]:=aJ wq2
 have h0:=hx 0 (by decide) (by simp) (by simp)
 have h1:=hx 1 (by decide) (by simp) (by simp)
 have h2:=hx 2 (by decide) (by simp) (by simp)
 simp only[dS,d8] at h0 h1 h2
 simp only[bU,cU] at hs
 obtain⟨x0,rfl,a0,b0⟩:=(show cQ 9 bA cV fK (m+1) from acj _) _ _ (by omega) h0
 obtain⟨x1,rfl,a1,b1⟩:=(show cQ 3 abi eN I64 (m+1) from ahF _) _ _ (by omega) h1
 obtain⟨x2,rfl,a2,b2⟩:=(show cQ 4 aan eN fK (m+1) from agd _) _ _ (by omega) h2
 refine⟨⟨x0,x1,x2⟩,?_,?_,?_⟩
 .simp[odC]
 .simp only[odW]
  omega
 .exact⟨b0,b1,b2⟩
def aIS (n:Nat) (hyXp:cQ 45 xpC xpW fh n) (hyQy:cQ 41 qyC qyW io n):cQ 45 xpC xpW fh (n+1):=by
 intro cs m hm h
 obtain⟨ps,ws,rfl,hp,hl,hx,hs⟩:=h.struct_inv Tryz.underlying45
 have hp':ps.length=7:=hp
 have hl':ws.length=7:=hl
 clear hp hl
 obtain⟨p0,pt0,rfl,pq0⟩:=bB hp'
 obtain⟨p1,pt1,rfl,pq1⟩:=bB pq0
 obtain⟨p2,pt2,rfl,pq2⟩:=bB pq1
 obtain⟨p3,pt3,rfl,pq3⟩:=bB pq2
 obtain⟨p4,pt4,rfl,pq4⟩:=bB pq3
 obtain⟨p5,pt5,rfl,pq5⟩:=bB pq4
 obtain⟨p6,pt6,rfl,pq6⟩:=bB pq5
 obtain rfl:pt6=[]:=aJ pq6
 obtain⟨w0,wt0,rfl,wq0⟩:=bB hl'
 obtain⟨w1,wt1,rfl,wq1⟩:=bB wq0
 obtain⟨w2,wt2,rfl,wq2⟩:=bB wq1
 obtain⟨w3,wt3,rfl,wq3⟩:=bB wq2
 obtain⟨w4,wt4,rfl,wq4⟩:=bB wq3
 obtain⟨w5,wt5,rfl,wq5⟩:=bB wq4
 obtain⟨w6,wt6,rfl,wq6⟩:=bB wq5
 obtain rfl:wt6=[]:=aJ wq6
 have h0:=hx 0 (by decide) (by simp) (by simp)
 have h1:=hx 1 (by decide) (by simp) (by simp)
 have h2:=hx 2 (by decide) (by simp) (by simp)
 have h3:=hx 3 (by decide) (by simp) (by simp)
 have h4:=hx 4 (by decide) (by simp) (by simp)
 have h5:=hx 5 (by decide) (by simp) (by simp)
 have h6:=hx 6 (by decide) (by simp) (by simp)
 simp only[dS,d8] at h0 h1 h2 h3 h4 h5 h6
 simp only[bU,cU] at hs
 obtain⟨x0,rfl,a0,b0⟩:=(show cQ 3 abi eN I64 n from ahF _) _ _ (by omega) h0
 obtain⟨x1,rfl,a1,b1⟩:=(show cQ 43 acC alF V64 n from aZg _) _ _ (by omega) h1
 obtain⟨x2,rfl,a2,b2⟩:=(show cQ 9 bA cV fK n from acj _) _ _ (by omega) h2
 obtain⟨x3,rfl,a3,b3⟩:=(show cQ 9 bA cV fK n from acj _) _ _ (by omega) h3
 obtain⟨x4,rfl,a4,b4⟩:=(show cQ 4 aan eN fK n from agd _) _ _ (by omega) h4
 obtain⟨x5,rfl,a5,b5⟩:=(show cQ 26 (lsC xpC) (lsW xpW) (lsP fh) n from (cQ.list (hyXp) Tryz.underlying26).mono (dv _)) _ _ (by omega) h5
 obtain⟨x6,rfl,a6,b6⟩:=(show cQ 29 (lsC qyC) (lsW qyW) (lsP io) n from (cQ.list (hyQy) Tryz.underlying29).mono (dv _)) _ _ (by omega) h6
 refine⟨(.mk x0 x1 x2 x3 x4 x5 x6),?_,?_,?_⟩
 .rw[aoE]
  simp[Xp.op,Xp.v,Xp.tb,Xp.nm,Xp.di,Xp.ks,Xp.sb]
 .rw[aaU]
  simp only[Xp.op,Xp.v,Xp.tb,Xp.nm,Xp.di,Xp.ks,Xp.sb]
  omega
 .rw[ac1]
  exact⟨b0,b1,b2,b3,b4,b5,b6⟩
def aIT (n:Nat) (hyXp:cQ 45 xpC xpW fh n) (hyQy:cQ 41 qyC qyW io n) (hyIm:cQ 60 imC imW aeS n) (hyFm:cQ 62 fmC fmW acX n):cQ 41 qyC qyW io (n+1):=by
 intro cs m hm h
 obtain⟨ps,ws,rfl,hp,hl,hx,hs⟩:=h.struct_inv Tryz.underlying41
 have hp':ps.length=12:=hp
 have hl':ws.length=12:=hl
 clear hp hl
 obtain⟨p0,pt0,rfl,pq0⟩:=bB hp'
 obtain⟨p1,pt1,rfl,pq1⟩:=bB pq0
 obtain⟨p2,pt2,rfl,pq2⟩:=bB pq1
 obtain⟨p3,pt3,rfl,pq3⟩:=bB pq2
 obtain⟨p4,pt4,rfl,pq4⟩:=bB pq3
 obtain⟨p5,pt5,rfl,pq5⟩:=bB pq4
 obtain⟨p6,pt6,rfl,pq6⟩:=bB pq5
 obtain⟨p7,pt7,rfl,pq7⟩:=bB pq6
 obtain⟨p8,pt8,rfl,pq8⟩:=bB pq7
 obtain⟨p9,pt9,rfl,pq9⟩:=bB pq8
 obtain⟨p10,pt10,rfl,pq10⟩:=bB pq9
 obtain⟨p11,pt11,rfl,pq11⟩:=bB pq10
 obtain rfl:pt11=[]:=aJ pq11
 obtain⟨w0,wt0,rfl,wq0⟩:=bB hl'
 obtain⟨w1,wt1,rfl,wq1⟩:=bB wq0
 obtain⟨w2,wt2,rfl,wq2⟩:=bB wq1
 obtain⟨w3,wt3,rfl,wq3⟩:=bB wq2
 obtain⟨w4,wt4,rfl,wq4⟩:=bB wq3
 obtain⟨w5,wt5,rfl,wq5⟩:=bB wq4
 obtain⟨w6,wt6,rfl,wq6⟩:=bB wq5
 obtain⟨w7,wt7,rfl,wq7⟩:=bB wq6
 obtain⟨w8,wt8,rfl,wq8⟩:=bB wq7
 obtain⟨w9,wt9,rfl,wq9⟩:=bB wq8
 obtain⟨w10,wt10,rfl,wq10⟩:=bB wq9
 obtain⟨w11,wt11,rfl,wq11⟩:=bB wq10
 obtain rfl:wt11=[]:=aJ wq11
 have h0:=hx 0 (by decide) (by simp) (by simp)
 have h1:=hx 1 (by decide) (by simp) (by simp)
 have h2:=hx 2 (by decide) (by simp) (by simp)
 have h3:=hx 3 (by decide) (by simp) (by simp)
 have h4:=hx 4 (by decide) (by simp) (by simp)
 have h5:=hx 5 (by decide) (by simp) (by simp)
 have h6:=hx 6 (by decide) (by simp) (by simp)
 have h7:=hx 7 (by decide) (by simp) (by simp)
 have h8:=hx 8 (by decide) (by simp) (by simp)
 have h9:=hx 9 (by decide) (by simp) (by simp)
 have h10:=hx 10 (by decide) (by simp) (by simp)
 have h11:=hx 11 (by decide) (by simp) (by simp)
 simp only[dS,d8] at h0 h1 h2 h3 h4 h5 h6 h7 h8 h9 h10 h11
 simp only[bU,cU] at hs
 obtain⟨x0,rfl,a0,b0⟩:=(show cQ 3 abi eN I64 n from ahF _) _ _ (by omega) h0
 obtain⟨x1,rfl,a1,b1⟩:=(show cQ 4 aan eN fK n from agd _) _ _ (by omega) h1
 obtain⟨x2,rfl,a2,b2⟩:=(show cQ 29 (lsC qyC) (lsW qyW) (lsP io) n from (cQ.list (hyQy) Tryz.underlying29).mono (dv _)) _ _ (by omega) h2
 obtain⟨x3,rfl,a3,b3⟩:=(show cQ 4 aan eN fK n from agd _) _ _ (by omega) h3
 obtain⟨x4,rfl,a4,b4⟩:=(show cQ 37 (lsC imC) (lsW imW) (lsP aeS) n from (cQ.list (hyIm) Tryz.underlying37).mono (dv _)) _ _ (by omega) h4
 obtain⟨x5,rfl,a5,b5⟩:=(show cQ 38 (lsC fmC) (lsW fmW) (lsP acX) n from (cQ.list (hyFm) Tryz.underlying38).mono (dv _)) _ _ (by omega) h5
 obtain⟨x6,rfl,a6,b6⟩:=(show cQ 26 (lsC xpC) (lsW xpW) (lsP fh) n from (cQ.list (hyXp) Tryz.underlying26).mono (dv _)) _ _ (by omega) h6
 obtain⟨x7,rfl,a7,b7⟩:=(show cQ 26 (lsC xpC) (lsW xpW) (lsP fh) n from (cQ.list (hyXp) Tryz.underlying26).mono (dv _)) _ _ (by omega) h7
 obtain⟨x8,rfl,a8,b8⟩:=(show cQ 26 (lsC xpC) (lsW xpW) (lsP fh) n from (cQ.list (hyXp) Tryz.underlying26).mono (dv _)) _ _ (by omega) h8
 obtain⟨x9,rfl,a9,b9⟩:=(show cQ 39 (lsC odC) (lsW odW) (lsP awq) n from (cQ.list (a7j _) Tryz.underlying39).mono (dv _)) _ _ (by omega) h9
 obtain⟨x10,rfl,a10,b10⟩:=(show cQ 3 abi eN I64 n from ahF _) _ _ (by omega) h10
 obtain⟨x11,rfl,a11,b11⟩:=(show cQ 3 abi eN I64 n from ahF _) _ _ (by omega) h11
 refine⟨(.mk x0 x1 x2 x3 x4 x5 x6 x7 x8 x9 x10 x11),?_,?_,?_⟩
 .rw[aFY]
  simp[Qy.op,Qy.al,Qy.ks,Qy.di,Qy.its,Qy.fr,Qy.wh,Qy.gr,Qy.hv,Qy.od,Qy.li,Qy.sk]
 .rw[iK]
  simp only[Qy.op,Qy.al,Qy.ks,Qy.di,Qy.its,Qy.fr,Qy.wh,Qy.gr,Qy.hv,Qy.od,Qy.li,Qy.sk]
  omega
 .rw[ag7]
  exact⟨b0,b1,b2,b3,b4,b5,b6,b7,b8,b9,b10,b11⟩
def aIU (n:Nat) (hyXp:cQ 45 xpC xpW fh n):cQ 60 imC imW aeS (n+1):=by
 intro cs m hm h
 obtain⟨ps,ws,rfl,hp,hl,hx,hs⟩:=h.struct_inv Tryz.underlying60
 have hp':ps.length=4:=hp
 have hl':ws.length=4:=hl
 clear hp hl
 obtain⟨p0,pt0,rfl,pq0⟩:=bB hp'
 obtain⟨p1,pt1,rfl,pq1⟩:=bB pq0
 obtain⟨p2,pt2,rfl,pq2⟩:=bB pq1
 obtain⟨p3,pt3,rfl,pq3⟩:=bB pq2
 obtain rfl:pt3=[]:=aJ pq3
 obtain⟨w0,wt0,rfl,wq0⟩:=bB hl'
 obtain⟨w1,wt1,rfl,wq1⟩:=bB wq0
 obtain⟨w2,wt2,rfl,wq2⟩:=bB wq1
 obtain⟨w3,wt3,rfl,wq3⟩:=bB wq2
 obtain rfl:wt3=[]:=aJ wq3
 have h0:=hx 0 (by decide) (by simp) (by simp)
 have h1:=hx 1 (by decide) (by simp) (by simp)
 have h2:=hx 2 (by decide) (by simp) (by simp)
 have h3:=hx 3 (by decide) (by simp) (by simp)
 simp only[dS,d8] at h0 h1 h2 h3
 simp only[bU,cU] at hs
 obtain⟨x0,rfl,a0,b0⟩:=(show cQ 4 aan eN fK n from agd _) _ _ (by omega) h0
 obtain⟨x1,rfl,a1,b1⟩:=(show cQ 9 bA cV fK n from acj _) _ _ (by omega) h1
 obtain⟨x2,rfl,a2,b2⟩:=(show cQ 45 xpC xpW fh n from hyXp) _ _ (by omega) h2
 obtain⟨x3,rfl,a3,b3⟩:=(show cQ 9 bA cV fK n from acj _) _ _ (by omega) h3
 refine⟨(.mk x0 x1 x2 x3),?_,?_,?_⟩
 .rw[aIw]
  simp[Im.st,Im.tb,Im.e,Im.az]
 .rw[aci]
  simp only[Im.st,Im.tb,Im.e,Im.az]
  omega
 .rw[ain]
  exact⟨b0,b1,b2,b3⟩
def aIV (n:Nat) (hyXp:cQ 45 xpC xpW fh n) (hyQy:cQ 41 qyC qyW io n) (hyFm:cQ 62 fmC fmW acX n):cQ 62 fmC fmW acX (n+1):=by
 intro cs m hm h
 obtain⟨ps,ws,rfl,hp,hl,hx,hs⟩:=h.struct_inv Tryz.underlying62
 have hp':ps.length=6:=hp
 have hl':ws.length=6:=hl
 clear hp hl
 obtain⟨p0,pt0,rfl,pq0⟩:=bB hp'
 obtain⟨p1,pt1,rfl,pq1⟩:=bB pq0
 obtain⟨p2,pt2,rfl,pq2⟩:=bB pq1
 obtain⟨p3,pt3,rfl,pq3⟩:=bB pq2
 obtain⟨p4,pt4,rfl,pq4⟩:=bB pq3
 obtain⟨p5,pt5,rfl,pq5⟩:=bB pq4
 obtain rfl:pt5=[]:=aJ pq5
 obtain⟨w0,wt0,rfl,wq0⟩:=bB hl'
 obtain⟨w1,wt1,rfl,wq1⟩:=bB wq0
 obtain⟨w2,wt2,rfl,wq2⟩:=bB wq1
 obtain⟨w3,wt3,rfl,wq3⟩:=bB wq2
 obtain⟨w4,wt4,rfl,wq4⟩:=bB wq3
 obtain⟨w5,wt5,rfl,wq5⟩:=bB wq4
 obtain rfl:wt5=[]:=aJ wq5
 have h0:=hx 0 (by decide) (by simp) (by simp)
 have h1:=hx 1 (by decide) (by simp) (by simp)
 have h2:=hx 2 (by decide) (by simp) (by simp)
 have h3:=hx 3 (by decide) (by simp) (by simp)
 have h4:=hx 4 (by decide) (by simp) (by simp)
 have h5:=hx 5 (by decide) (by simp) (by simp)
 simp only[dS,d8] at h0 h1 h2 h3 h4 h5
 simp only[bU,cU] at hs
 obtain⟨x0,rfl,a0,b0⟩:=(show cQ 3 abi eN I64 n from ahF _) _ _ (by omega) h0
 obtain⟨x1,rfl,a1,b1⟩:=(show cQ 9 bA cV fK n from acj _) _ _ (by omega) h1
 obtain⟨x2,rfl,a2,b2⟩:=(show cQ 9 bA cV fK n from acj _) _ _ (by omega) h2
 obtain⟨x3,rfl,a3,b3⟩:=(show cQ 29 (lsC qyC) (lsW qyW) (lsP io) n from (cQ.list (hyQy) Tryz.underlying29).mono (dv _)) _ _ (by omega) h3
 obtain⟨x4,rfl,a4,b4⟩:=(show cQ 38 (lsC fmC) (lsW fmW) (lsP acX) n from (cQ.list (hyFm) Tryz.underlying38).mono (dv _)) _ _ (by omega) h4
 obtain⟨x5,rfl,a5,b5⟩:=(show cQ 26 (lsC xpC) (lsW xpW) (lsP fh) n from (cQ.list (hyXp) Tryz.underlying26).mono (dv _)) _ _ (by omega) h5
 refine⟨(.mk x0 x1 x2 x3 x4 x5),?_,?_,?_⟩
 .rw[aIH]
  simp[Fm.kd,Fm.nm,Fm.az,Fm.sb,Fm.ks,Fm.on]
 .rw[jg]
  simp only[Fm.kd,Fm.nm,Fm.az,Fm.sb,Fm.ks,Fm.on]
  omega
 .rw[aio]
  exact⟨b0,b1,b2,b3,b4,b5⟩
theorem aos:∀ n,cQ 45 xpC xpW fh n∧cQ 41 qyC qyW io n∧cQ 60 imC imW aeS n∧cQ 62 fmC fmW acX n
 | 0=>⟨fun _ _ h=>absurd h (gO _),fun _ _ h=>absurd h (gO _),fun _ _ h=>absurd h (gO _),fun _ _ h=>absurd h (gO _)⟩
 | n+1=>by
  obtain⟨hyXp,hyQy,hyIm,hyFm⟩:=aos n
  exact⟨aIS n hyXp hyQy,aIT n hyXp hyQy hyIm hyFm,aIU n hyXp,aIV n hyXp hyQy hyFm⟩
def avI (n:Nat):cQ 45 xpC xpW fh n:=(aos n).1
def aZh (n:Nat):cQ 41 qyC qyW io n:=(aos n).2.1
def a7l (n:Nat):cQ 56 cdC cdW aMF n:=by
 intro cs m hm h
 obtain⟨ps,ws,rfl,hp,hl,hx,hs⟩:=h.struct_inv Tryz.underlying56
 have hp':ps.length=3:=hp
 have hl':ws.length=3:=hl
 clear hp hl
 obtain⟨p0,pt0,rfl,pq0⟩:=bB hp'
 obtain⟨p1,pt1,rfl,pq1⟩:=bB pq0
 obtain⟨p2,pt2,rfl,pq2⟩:=bB pq1
 obtain rfl:pt2=[]:=aJ pq2
 obtain⟨w0,wt0,rfl,wq0⟩:=bB hl'
 obtain⟨w1,wt1,rfl,wq1⟩:=bB wq0
 obtain⟨w2,wt2,rfl,wq2⟩:=bB wq1
 obtain rfl:wt2=[]:=aJ wq2
 have h0:=hx 0 (by decide) (by simp) (by simp)
 have h1:=hx 1 (by decide) (by simp) (by simp)
 have h2:=hx 2 (by decide) (by simp) (by simp)
 simp only[dS,d8] at h0 h1 h2
 simp only[bU,cU] at hs
 obtain⟨x0,rfl,a0,b0⟩:=(show cQ 9 bA cV fK (m+1) from acj _) _ _ (by omega) h0
 obtain⟨x1,rfl,a1,b1⟩:=(show cQ 3 abi eN I64 (m+1) from ahF _) _ _ (by omega) h1
 obtain⟨x2,rfl,a2,b2⟩:=(show cQ 4 aan eN fK (m+1) from agd _) _ _ (by omega) h2
 refine⟨⟨x0,x1,x2⟩,?_,?_,?_⟩
 .simp[cdC]
 .simp only[cdW]
  omega
 .exact⟨b0,b1,b2⟩
def a7k (n:Nat):cQ 58 kdC kdW aMw n:=by
 intro cs m hm h
 obtain⟨ps,ws,rfl,hp,hl,hx,hs⟩:=h.struct_inv Tryz.underlying58
 have hp':ps.length=2:=hp
 have hl':ws.length=2:=hl
 clear hp hl
 obtain⟨p0,pt0,rfl,pq0⟩:=bB hp'
 obtain⟨p1,pt1,rfl,pq1⟩:=bB pq0
 obtain rfl:pt1=[]:=aJ pq1
 obtain⟨w0,wt0,rfl,wq0⟩:=bB hl'
 obtain⟨w1,wt1,rfl,wq1⟩:=bB wq0
 obtain rfl:wt1=[]:=aJ wq1
 have h0:=hx 0 (by decide) (by simp) (by simp)
 have h1:=hx 1 (by decide) (by simp) (by simp)
 simp only[dS,d8] at h0 h1
 simp only[bU,cU] at hs
 obtain⟨x0,rfl,a0,b0⟩:=(show cQ 4 aan eN fK (m+1) from agd _) _ _ (by omega) h0
 obtain⟨x1,rfl,a1,b1⟩:=(show cQ 23 (lsC bA) (lsW cV) (lsP fK) (m+1) from (cQ.list (acj _) Tryz.underlying23).mono (dv _)) _ _ (by omega) h1
 refine⟨⟨x0,x1⟩,?_,?_,?_⟩
 .simp[kdC]
 .simp only[kdW]
  omega
 .exact⟨b0,b1⟩
def a7i (n:Nat):cQ 145 rdC rdW aMo n:=by
 intro cs m hm h
 obtain⟨ps,ws,rfl,hp,hl,hx,hs⟩:=h.struct_inv Tryz.underlying145
 have hp':ps.length=3:=hp
 have hl':ws.length=3:=hl
 clear hp hl
 obtain⟨p0,pt0,rfl,pq0⟩:=bB hp'
 obtain⟨p1,pt1,rfl,pq1⟩:=bB pq0
 obtain⟨p2,pt2,rfl,pq2⟩:=bB pq1
 obtain rfl:pt2=[]:=aJ pq2
 obtain⟨w0,wt0,rfl,wq0⟩:=bB hl'
 obtain⟨w1,wt1,rfl,wq1⟩:=bB wq0
 obtain⟨w2,wt2,rfl,wq2⟩:=bB wq1
 obtain rfl:wt2=[]:=aJ wq2
 have h0:=hx 0 (by decide) (by simp) (by simp)
 have h1:=hx 1 (by decide) (by simp) (by simp)
 have h2:=hx 2 (by decide) (by simp) (by simp)
 simp only[dS,d8] at h0 h1 h2
 simp only[bU,cU] at hs
 obtain⟨x0,rfl,a0,b0⟩:=(show cQ 23 (lsC bA) (lsW cV) (lsP fK) (m+1) from (cQ.list (acj _) Tryz.underlying23).mono (dv _)) _ _ (by omega) h0
 obtain⟨x1,rfl,a1,b1⟩:=(show cQ 9 bA cV fK (m+1) from acj _) _ _ (by omega) h1
 obtain⟨x2,rfl,a2,b2⟩:=(show cQ 23 (lsC bA) (lsW cV) (lsP fK) (m+1) from (cQ.list (acj _) Tryz.underlying23).mono (dv _)) _ _ (by omega) h2
 refine⟨⟨x0,x1,x2⟩,?_,?_,?_⟩
 .simp[rdC]
 .simp only[rdW]
  omega
 .exact⟨b0,b1,b2⟩
def a7m (n:Nat):cQ 54 asC asW aFd n:=by
 intro cs m hm h
 obtain⟨ps,ws,rfl,hp,hl,hx,hs⟩:=h.struct_inv Tryz.underlying54
 have hp':ps.length=2:=hp
 have hl':ws.length=2:=hl
 clear hp hl
 obtain⟨p0,pt0,rfl,pq0⟩:=bB hp'
 obtain⟨p1,pt1,rfl,pq1⟩:=bB pq0
 obtain rfl:pt1=[]:=aJ pq1
 obtain⟨w0,wt0,rfl,wq0⟩:=bB hl'
 obtain⟨w1,wt1,rfl,wq1⟩:=bB wq0
 obtain rfl:wt1=[]:=aJ wq1
 have h0:=hx 0 (by decide) (by simp) (by simp)
 have h1:=hx 1 (by decide) (by simp) (by simp)
 simp only[dS,d8] at h0 h1
 simp only[bU,cU] at hs
 obtain⟨x0,rfl,a0,b0⟩:=(show cQ 9 bA cV fK (m+1) from acj _) _ _ (by omega) h0
 obtain⟨x1,rfl,a1,b1⟩:=(show cQ 45 xpC xpW fh (m+1) from avI _) _ _ (by omega) h1
 refine⟨⟨x0,x1⟩,?_,?_,?_⟩
 .simp[asC]
 .simp only[asW]
  omega
 .exact⟨b0,b1⟩
def a7h (n:Nat):cQ 31 smC smW aby n:=by
 intro cs m hm h
 obtain⟨ps,ws,rfl,hp,hl,hx,hs⟩:=h.struct_inv Tryz.underlying31
 have hp':ps.length=13:=hp
 have hl':ws.length=13:=hl
 clear hp hl
 obtain⟨p0,pt0,rfl,pq0⟩:=bB hp'
 obtain⟨p1,pt1,rfl,pq1⟩:=bB pq0
 obtain⟨p2,pt2,rfl,pq2⟩:=bB pq1
 obtain⟨p3,pt3,rfl,pq3⟩:=bB pq2
 obtain⟨p4,pt4,rfl,pq4⟩:=bB pq3
 obtain⟨p5,pt5,rfl,pq5⟩:=bB pq4
 obtain⟨p6,pt6,rfl,pq6⟩:=bB pq5
 obtain⟨p7,pt7,rfl,pq7⟩:=bB pq6
 obtain⟨p8,pt8,rfl,pq8⟩:=bB pq7
 obtain⟨p9,pt9,rfl,pq9⟩:=bB pq8
 obtain⟨p10,pt10,rfl,pq10⟩:=bB pq9
 obtain⟨p11,pt11,rfl,pq11⟩:=bB pq10
 obtain⟨p12,pt12,rfl,pq12⟩:=bB pq11
 obtain rfl:pt12=[]:=aJ pq12
 obtain⟨w0,wt0,rfl,wq0⟩:=bB hl'
 obtain⟨w1,wt1,rfl,wq1⟩:=bB wq0
 obtain⟨w2,wt2,rfl,wq2⟩:=bB wq1
 obtain⟨w3,wt3,rfl,wq3⟩:=bB wq2
 obtain⟨w4,wt4,rfl,wq4⟩:=bB wq3
 obtain⟨w5,wt5,rfl,wq5⟩:=bB wq4
 obtain⟨w6,wt6,rfl,wq6⟩:=bB wq5
 obtain⟨w7,wt7,rfl,wq7⟩:=bB wq6
 obtain⟨w8,wt8,rfl,wq8⟩:=bB wq7
 obtain⟨w9,wt9,rfl,wq9⟩:=bB wq8
 obtain⟨w10,wt10,rfl,wq10⟩:=bB wq9
 obtain⟨w11,wt11,rfl,wq11⟩:=bB wq10
 obtain⟨w12,wt12,rfl,wq12⟩:=bB wq11
 obtain rfl:wt12=[]:=aJ wq12
 have h0:=hx 0 (by decide) (by simp) (by simp)
 have h1:=hx 1 (by decide) (by simp) (by simp)
 have h2:=hx 2 (by decide) (by simp) (by simp)
 have h3:=hx 3 (by decide) (by simp) (by simp)
 have h4:=hx 4 (by decide) (by simp) (by simp)
 have h5:=hx 5 (by decide) (by simp) (by simp)
 have h6:=hx 6 (by decide) (by simp) (by simp)
 have h7:=hx 7 (by decide) (by simp) (by simp)
 have h8:=hx 8 (by decide) (by simp) (by simp)
 have h9:=hx 9 (by decide) (by simp) (by simp)
 have h10:=hx 10 (by decide) (by simp) (by simp)
 have h11:=hx 11 (by decide) (by simp) (by simp)
 have h12:=hx 12 (by decide) (by simp) (by simp)
 simp only[dS,d8] at h0 h1 h2 h3 h4 h5 h6 h7 h8 h9 h10 h11 h12
 simp only[bU,cU] at hs
 obtain⟨x0,rfl,a0,b0⟩:=(show cQ 3 abi eN I64 (m+1) from ahF _) _ _ (by omega) h0
 obtain⟨x1,rfl,a1,b1⟩:=(show cQ 9 bA cV fK (m+1) from acj _) _ _ (by omega) h1
 obtain⟨x2,rfl,a2,b2⟩:=(show cQ 9 bA cV fK (m+1) from acj _) _ _ (by omega) h2
 obtain⟨x3,rfl,a3,b3⟩:=(show cQ 22 (lsC cdC) (lsW cdW) (lsP aMF) (m+1) from (cQ.list (a7l _) Tryz.underlying22).mono (dv _)) _ _ (by omega) h3
 obtain⟨x4,rfl,a4,b4⟩:=(show cQ 23 (lsC bA) (lsW cV) (lsP fK) (m+1) from (cQ.list (acj _) Tryz.underlying23).mono (dv _)) _ _ (by omega) h4
 obtain⟨x5,rfl,a5,b5⟩:=(show cQ 4 aan eN fK (m+1) from agd _) _ _ (by omega) h5
 obtain⟨x6,rfl,a6,b6⟩:=(show cQ 24 (lsC kdC) (lsW kdW) (lsP aMw) (m+1) from (cQ.list (a7k _) Tryz.underlying24).mono (dv _)) _ _ (by omega) h6
 obtain⟨x7,rfl,a7,b7⟩:=(show cQ 25 (lsC rdC) (lsW rdW) (lsP aMo) (m+1) from (cQ.list (a7i _) Tryz.underlying25).mono (dv _)) _ _ (by omega) h7
 obtain⟨x8,rfl,a8,b8⟩:=(show cQ 26 (lsC xpC) (lsW xpW) (lsP fh) (m+1) from (cQ.list (avI _) Tryz.underlying26).mono (dv _)) _ _ (by omega) h8
 obtain⟨x9,rfl,a9,b9⟩:=(show cQ 27 (lsC (lsC xpC)) (lsW (lsW xpW)) (lsP (lsP fh)) (m+1) from (cQ.list ((cQ.list (avI _) Tryz.underlying26).mono (dv _)) Tryz.underlying27).mono (dv _)) _ _ (by omega) h9
 obtain⟨x10,rfl,a10,b10⟩:=(show cQ 28 (lsC asC) (lsW asW) (lsP aFd) (m+1) from (cQ.list (a7m _) Tryz.underlying28).mono (dv _)) _ _ (by omega) h10
 obtain⟨x11,rfl,a11,b11⟩:=(show cQ 26 (lsC xpC) (lsW xpW) (lsP fh) (m+1) from (cQ.list (avI _) Tryz.underlying26).mono (dv _)) _ _ (by omega) h11
 obtain⟨x12,rfl,a12,b12⟩:=(show cQ 29 (lsC qyC) (lsW qyW) (lsP io) (m+1) from (cQ.list (aZh _) Tryz.underlying29).mono (dv _)) _ _ (by omega) h12
 refine⟨⟨x0,x1,x2,x3,x4,x5,x6,x7,x8,x9,x10,x11,x12⟩,?_,?_,?_⟩
 .simp[smC]
 .simp only[smW]
  omega
 .exact⟨b0,b1,b2,b3,b4,b5,b6,b7,b8,b9,b10,b11,b12⟩
end Go.Proofs.YtemdljoideegeaaGreatDoor
namespace Go.Proofs.YtemdljoideegeaaGreatDoor.card
open Go Go.Pe Go.Tab Go.RowKit Go.ChangeShapes Go.WideShapes Go.ChangeAt Go.Proofs.YtemdljoideegeaaGreatDoor
def own:ownKnob Tryz.prog.godebug=none:=by kernel_rfl
def aRu:laidOutB Tryz.prog=true:=by kernel_rfl
def a7d:Tryz.prog.globalNamed adA=some 3:=by kernel_rfl
def aLB:(Tryz.prog.globals[3]?).map (·.type)=some 274:=by kernel_rfl
def aL3:Tryz.prog.cellsOf 274=20:=by kernel_rfl
def aL2:Tryz.prog.cellsOf 262=1:=by kernel_rfl
def table {W:World} {laid:List (String×DataW Unit)} (hf:(laid.filter fun x=>x.1 == adA)=[(adA,Lib.tabData .u64 Lib.pow10Tab)]) (h:laidMet Tryz.prog laid W) (hs:W.ShapedOpen Tryz.prog):GT.holds W:=by
 have h2:=h.filter fun x=>x.1 == adA
 rw[hf] at h2
 exact⟨Lib.tabIs_of_head (rest:=[]) a7d aLB Tryz.underlying274 Tryz.underlying262 aL2 aL3 h2,
  Go.Proofs.cell_of_shapedOpen_int (zero:=#[.int .i64 0]) (t:=3) hs (gR (by kernel_rfl)) (by kernel_rfl) rfl (by kernel_rfl) (by kernel_rfl) Tryz.underlying3⟩
theorem ahO {H:Type} {enc:TypeId×Value→H} {W W':World} {sp:Nat→Bool}:∀ {ts:List TypeId} {vs:List Value} {ds:List (DataW H)} {ps:List MemPlace},(∀ t∈ts,Tryz.prog.readableRec t=true∧t<Tryz.prog.types.size) →
  DataW.TrodAll enc Tryz.prog W 0 (fun _=>true) true ts vs ds ps→(∀ p∈ps,W.sameAt W' p)→(∀ p∈ps,sp p.block=true)→DataW.TrodAll enc Tryz.prog W' 0 sp true ts vs ds ps
 | [],[],[],_,_,h,_,_=>h
 | _::_,_::_,_::_,_,hT,⟨p,q,h1,h2,e⟩,hs,hsp =>
  ⟨p,q,WideElems.Trod_stays aRu (hT _ (cY.2 (.inl rfl))).1 (hT _ (cY.2 (.inl rfl))).2 h1 (fun x hx=>hs x (by rw[e];exact acE _ hx)) (fun x hx=>hsp x (by rw[e];exact acE _ hx)),
   ahO (fun t ht=>hT t (cY.2 (.inr ht))) h2 (fun x hx=>hs x (by rw[e];exact List.mem_append_right _ hx)) (fun x hx=>hsp x (by rw[e];exact List.mem_append_right _ hx)),e⟩
def a7v {W:World} (h:GT.holds W) {c:Nat} (hc:GT.blk c):c<W.heap.size:=by
 obtain⟨h1,m,h2⟩:=h
 rcases hc with hc|rfl
 .unfold Lib.TabIs World.var? at h1
  rw[hc] at h1
  simp only[dG] at h1
  rcases ap c W.heap.size with h3|h3
  .exact h3
  .rw[Array.getElem?_eq_none h3] at h1
   cases h1
 .exact World.block_lt_of_cell? (a:=⟨0,0,none⟩) W h2
def axb (hpr:PrSound Tryz.prog GT pr) {f:Nat} {xs:List X} {u:Value} (h:G1 f xs (.of (.lit u))) {fn:Func} (hfn:Tryz.prog.funcs[f]?=some fn) {W:World} (hT:GT.holds W) {m:Mem}
  (hm:∀ b o v,m b o=some v→W.cell? ⟨b,o,none⟩=some v∧v.oneCell'=true) {vs:List Value} (hvs:bz ⟨m,fun _=>none⟩ (fun _=>none) xs vs) :
  Calls Tryz.prog f vs.toArray W fun e W'=>e=.returned u∧Below W.heap.size W W':=by
 have hG:¬ ∃ c,abo ⟨m,fun _=>none⟩ (fun _=>none) c:=by
  rintro⟨c,⟨r,hr⟩|⟨t,v,e,z,n,ht,_⟩⟩
  .cases hr
  .cases ht
 have hp:Hp ⟨GT,m,abo ⟨m,fun _=>none⟩ (fun _=>none)⟩ ⟨m,fun _=>none⟩ (fun _=>none) W W []:={
  good:=⟨hT,fun c hc=>⟨a7v hT hc,fun hm=>hG ⟨c,hm⟩⟩⟩
  below:=Keeps.refl _ _
  mem:=hm
  obj:=fun r ob hr=>by simp at hr
  dom:=fun r c hr=>by cases hr
  inj:=fun r r' c hr=>by cases hr
  tok:=fun t v e z n ht=>by cases ht
  tokne:=fun t t' v e z n v' e' z' n' ht=>by cases ht
  m0:=fun c o v hv _ _=>hv}
 refine (h.sound mixed hpr fn hfn ⟨m,fun _=>none⟩ (fun _=>none) W vs hp (fun t p ht=>by cases ht) (fun r off p ht=>by cases ht) hvs).mono ?_
 rintro e W' ⟨k',ow',us,he,hp',_,_,_,_,_,hus⟩
 simp only[bz,bj,Rep] at hus
 obtain⟨v,r,rfl,⟨rfl,_⟩,rfl⟩:=hus
 refine⟨he,?_⟩
 have hb:=hp'.below
 exact⟨hb.os,hb.tape,hb.output,hb.size,fun c hc=>hb.block c hc fun hm=>hG ⟨c,hm⟩⟩
def kOf (W:World):Know:=⟨afJ W,fun _=>none⟩
def arz {f:Nat} {xs:List X} {b:Bool} (h:G1 f xs (aG b)) {fn:Func} (hfn:Tryz.prog.funcs[f]?=some fn) {W:World} (hT:GT.holds W) {vs:List Value} (hvs:bz (kOf W) (fun _=>none) xs vs) :
  Calls Tryz.prog f vs.toArray W fun e W'=>e=.returned (.bool b)∧Below W.heap.size W W' :=
 axb aKR h hfn hT (fun _ _ _ hv=>aG5 hv) hvs
def au2:DataW Unit→Array Value
 | .agg l=>(l.map fun d=>match d with
  | .lit (.int k n)=>Value.int k n
  | _=>undef).toArray
 | _=>#[]
def aiA (vs:Array Value):Obj→Obj
 | .cells _ t frozen=>.cells vs t frozen
 | o=>o
def aHd:DataW Unit→Value
 | .lit (.int k n)=>.int k n
 | _=>undef
def aWs:DataW Unit→List Value
 | .agg l=>l.map aHd
 | d=>[aHd d]
def ayl:DataW Unit→Array Value
 | .agg l=>(l.map aWs).flatten.toArray
 | _=>#[]
noncomputable def agb (os:Os):World :=
 {World.holding Tryz.prog os ⟨#[],#[],[]⟩ with heap:=(((((World.holding Tryz.prog os ⟨#[],#[],[]⟩).heap.modify 3 (aiA (au2 Rows.laid_internal_strconv_uint64pow10))).modify 4 (aiA (au2 Rows.laid_math_bits_deBruijn32tab))).modify 5 (aiA (au2 Rows.laid_math_bits_deBruijn64tab))).modify 1 (aiA (ayl Rows.laid_unicode_utf8_first))).modify 2 (aiA (ayl Rows.laid_unicode_utf8_acceptRanges))}
def aUW {x:TypeId} (hx:Tryz.prog.readableRec x=true∧x<Tryz.prog.types.size):∀ t∈[x],Tryz.prog.readableRec t=true∧t<Tryz.prog.types.size:=by
 intro t ht
 obtain rfl:=List.mem_singleton.1 ht
 exact hx
def aTZ {x y:TypeId} (hx:Tryz.prog.readableRec x=true∧x<Tryz.prog.types.size) (hy:Tryz.prog.readableRec y=true∧y<Tryz.prog.types.size):∀ t∈[x,y],Tryz.prog.readableRec t=true∧t<Tryz.prog.types.size:=by
 intro t ht
 simp only[cY,aai,fd] at ht
 rcases ht with rfl|rfl
 .exact hx
 .exact hy
def aUx:Tryz.prog.readableRec 31=true∧31<Tryz.prog.types.size:=⟨by kernel_rfl,gR (by kernel_rfl)⟩
def aQ0:Tryz.prog.readableRec 41=true∧41<Tryz.prog.types.size:=⟨by kernel_rfl,gR (by kernel_rfl)⟩
def aY7:Tryz.prog.readableRec 45=true∧45<Tryz.prog.types.size:=⟨by kernel_rfl,gR (by kernel_rfl)⟩
def a4I {H:Type} {d0:DataW H} (h:Rows.uptoSmall H [d0]=true):Rows.uptoBulk d0≤1048576:=by
 have:=gR h
 simp only[Rows.uptoBulkAll] at this
 omega
def a4H {H:Type} {d0 d1:DataW H} (h:Rows.uptoSmall H [d0,d1]=true):Rows.uptoBulk d0≤1048575∧Rows.uptoBulk d1≤1048575:=by
 have:=gR h
 simp only[Rows.uptoBulkAll] at this
 have h0:=auD d0
 have h1:=auD d1
 omega
def aII:List TypeId:=[3,4,9,23,43,64,39,45,26,41,29,60,37,62,38,56,22,58,24,145,25,54,28,27,31]
def aXD:aNG Tryz.prog aII=true:=by kernel_rfl
section
variable {H:Type} {enc:TypeId×Value→H} {W:World} {spare:Nat→Bool} {held:Bool} {base:Nat} {v:Value} {d:DataW H} {ps:List MemPlace} {t:TypeId}
theorem an1 {fs:Array Field} (hu:Tryz.prog.underlying t=some (.struct fs)) (ht:t∈aII) (hd:DataW.Trod enc Tryz.prog W 0 spare held t v d ps) (hok:Value.okWide Tryz.prog W .any base t v):∃ g:List C,Rep (afJ W) (.agg g) v∧Pl Tryz.prog t g (Rows.uptoBulk d):=by
 obtain⟨cs,rfl,_⟩:=okWide_struct hu hok
 obtain⟨fuel,h⟩:=hd
 obtain⟨g,g1,g2,g3⟩:=ayb aXD fuel t _ _ ht h
 simp only[Value.cells] at g1 g2
 exact⟨g,⟨_,rfl,g2,g1⟩,g3⟩
theorem aQI {g:List C} {m:Nat} (q:Pl Tryz.prog 31 g m) {B:Nat} (hm:m≤B):∃ s,g=smC s∧aby s∧smW s≤B:=by
 obtain⟨s,rfl,h1,h2⟩:=a7h (m+1) g m (adS m) q
 exact⟨s,rfl,h2,aaS h1 hm⟩
theorem aQX {g:List C} {m:Nat} (q:Pl Tryz.prog 41 g m) {B:Nat} (hm:m≤B):∃ s,g=qyC s∧io s∧qyW s≤B:=by
 obtain⟨s,rfl,h1,h2⟩:=aZh (m+1) g m (adS m) q
 exact⟨s,rfl,h2,aaS h1 hm⟩
theorem aQc {g:List C} {m:Nat} (q:Pl Tryz.prog 45 g m) {B:Nat} (hm:m≤B):∃ s,g=xpC s∧fh s∧xpW s≤B:=by
 obtain⟨s,rfl,h1,h2⟩:=avI (m+1) g m (adS m) q
 exact⟨s,rfl,h2,aaS h1 hm⟩
end
end Go.Proofs.YtemdljoideegeaaGreatDoor.card
namespace Go.Pe
open Go Go.Tab
def aCM {α:Type} (o:Option α) (A:α→Prop) (B:Prop):Prop:=match o with
 | some a=>A a
 | none=>B
def arA {α:Type} (a:α) (A:α→Prop) (B:Prop):aCM (some a) A B↔A a:=cZ
def aQ7 {α:Type} {o o':Option α} (A:α→Prop) (B:Prop) (h:Unit→o=o'):aCM o A B=aCM o' A B:=by rw[h ()]
attribute [congr] aQ7
def ifP (p:Prop) (A B:Prop):Prop:=(p∧A)∨(¬p∧B)
def ajY {p A B:Prop} (h:p):ifP p A B↔A:=by simp[ifP,h]
def avm (A B:Prop):ifP True A B↔A:=by simp[ifP]
def aWG {p p':Prop} (A B:Prop) (h:Unit→p=p'):ifP p A B=ifP p' A B:=by rw[h ()]
attribute [congr] aWG
def abU (P:Program) (pr:Pr) (f:Nat) (xs:List X) (K:An→Prop):Prop:=bp P pr f xs [] K
def adC {P:Program} {pr:Pr} {f:Nat} {xs:List X} {p:Prop} {an:An} (h:p→aN P pr f xs [] an) (K:An→Prop):bp P pr f xs [] K↔ifP p (K an) (abU P pr f xs K):=by
 by_cases hp:p
 .rw[ajY hp];exact aN.k (h hp) K
 .simp only[ifP,hp,bD,jw,cX,fz];exact cZ
def a1K {α:Type} (f:α→List C) (l:List α):C.sl (fl f l) l.length=slC f l:=rfl
def aXE {α:Type} (f:α→List C):fl f []=[]:=rfl
def aXF {α:Type} (f:α→List C) (a b:List α):fl f (a++b)=fl f a++fl f b:=by simp[fl]
def aIJ {α:Type} (f:α→List C) (a:α):fl f [a]=f a:=by simp[fl]
def aj0 {α:Type} (f:α→List C) (a:α) (l:List α):fl f (a::l)=f a++fl f l:=by simp[fl]
theorem amg {α:Type} {f:α→List C} {z:Nat} (hf:∀ x,(f x).length=z):∀ l:List α,(fl f l).length=l.length*z
 | []=>by simp[fl]
 | a::l=>by rw[aj0,av,hf,amg hf l,aB,adQ,ig]
theorem aqS {α:Type} {f:α→List C} {z:Nat} (hf:∀ x,(f x).length=z):∀ (l:List α) (k:Nat),(fl f l).drop (k*z)=fl f (l.drop k)
 | l,0=>by simp
 | [],k+1=>by simp[fl]
 | a::l,k+1=>by
  rw[aj0,aaq,← aqS hf l k,adQ,ig,← ac7,List.drop_append_of_le_length (by rw[hf];exact aM _),(show (f a).drop z=[] from fv (by rw[hf];exact aM _)),bw]
theorem aAN {α:Type} {f:α→List C} {z:Nat} (hf:∀ x,(f x).length=z):∀ (l:List α) (k:Nat),(fl f l).take (k*z)=fl f (l.take k)
 | l,0=>by simp[fl]
 | [],k+1=>by simp[fl]
 | a::l,k+1=>by
  rw[aj0,abC,aj0,← aAN hf l k,adQ,ig,List.take_append,hf,jf (by rw[hf];omega)]
  congr 2
  omega
def dH {α:Type} (l:List α) (i:Int):Option α:=if 0≤i then l[i.toNat]? else none
def aLA {α:Type} (l:List α) (k:Nat):dH l (k:Int)=l[k]?:=by simp[dH]
def bq {α:Type} {l:List α} {k:Nat} (h:k<l.length):dH l (k:Int)=some l[k]:=by rw[aLA,bK h]
def ab9 {α:Type} (o:Option α) (g:α→X):Out:=match o with
 | some a=>out (g a)
 | none=>none
def aF3 {α:Type} (s:S) (d:Option Nat) (af:Array Edge) (K:S→Prop) (o:Option α) (g:α→X):aaQ s d af K (ab9 o g)↔aCM o (fun a=>K (s.put d (g a))) False:=by
 cases o <;> exact cZ
def ada {T:TT} {t e:Nat} {d:TD} (h:elemOf T t=some (e,d)) {α:Type} {f:α→List C} (hf:∀ x,(f x).length=d.size) (hz:0<d.size) (l:List α) (i:Int) :
  dL T t (.of (slC f l)) (.of (.lit (.int .i64 i)))=ab9 (dH l i) fun x=>.of (.ref (f x++fl f (l.drop (i.toNat+1)))):=by
 rw[abj h (fl f l) l.length i _ rfl]
 unfold dH
 by_cases h0:0≤i
 .obtain⟨k,rfl⟩:=iO h0
  rw[aE (aaH k)]
  simp only[dm]
  by_cases h1:k<l.length
  .rw[aE ⟨aaH k,by omega,amg hf l,hz⟩,bK h1,aqS hf,bM h1,aj0]
   rfl
  .rw[aj (fun h=>h1 (by omega)),dB (by omega)]
   rfl
 .rw[aj (fun h=>h0 h.1),aj h0]
  rfl
def alO {α:Type} (l:List α) (lo hi:Int):Option (List α):=if 0≤lo∧lo≤hi∧hi≤l.length then some ((l.take hi.toNat).drop lo.toNat) else none
def aFI {T:TT} {t e:Nat} {d:TD} (h:elemOf T t=some (e,d)) {α:Type} {f:α→List C} (hf:∀ x,(f x).length=d.size) (l:List α) (lo hi:Option X) (a b:Int) (ha:acW 0 lo=some a) (hb:acW (l.length:Int) hi=some b) :
  aao T t (.of (slC f l)) lo hi=ab9 (alO l a b) fun q=>.of (slC f q):=by
 have hl:=amg hf l
 unfold aao
 simp only[slC,h,acJ,ha,hb]
 unfold alO
 by_cases hc:0≤a∧a≤b∧b≤(l.length:Int)
 .rw[aE ⟨hc.1,hc.2.1,hc.2.2,hl⟩,aE hc]
  obtain⟨p,rfl⟩:=iO hc.1
  obtain⟨q,rfl⟩:=iO (Int.le_trans hc.1 hc.2.1)
  simp only[dm,ab9]
  rw[aqS hf,aAN hf,aeJ]
  congr 3
  simp only[aaj,i7]
  omega
 .rw[aj (fun h=>hc ⟨h.1,h.2.1,h.2.2.1⟩),aj hc]
  rfl
def aKB {T:TT} {t e:Nat} {d:TD} (h:elemOf T t=some (e,d)) {α:Type} {f:α→List C} (hf:∀ x,(f x).length=d.size) (l:List α) (a:Int):aao T t (.of (slC f l)) (some (.of (.lit (.int .i64 a)))) none=ab9 (alO l a l.length) fun q=>.of (slC f q):=aFI h hf l _ _ a l.length rfl rfl
def ac0 {u:Option TypeDesc} {α:Type} (f:α→List C) (l:List α) (h:atr u=true):abw u (.of (slC f l))=out (aU l.length):=by
 simp only[abw,slC,acJ,h,aA]
def amy {T:TT} {t e:Nat} {d:TD} (h:elemOf T t=some (e,d)) (hz:0<d.size) (hb:d.bytes≤32768) (tk tk':Tk) (cs0:List C) (n:Nat) (y:X) (cs:List C) (m:Nat) (hy:acJ y=some (cs,m)) :
  jy T tk t t (.own tk' e d.size cs0 n) y=if cs.length=m*d.size∧n+m≤LIM then some (.own tk e d.size (cs0++cs) (n+m),some tk') else none:=by
 simp only[jy,agO,h,hy,aA]
 by_cases h1:cs.length=m*d.size
 .by_cases h2:n+m≤LIM
  .simp only[h1,h2,hz,hb,db,aA]
  .simp only[h1,h2,hz,db,aA,bD,bJ,aQ]
 .simp only[h1,bD,aQ]
def aTu {T:TT} {t e:Nat} {d:TD} (h:elemOf T t=some (e,d)) (hz:0<d.size) (hb:d.bytes≤32768) (tk:Tk) (y:X) (cs:List C) (m:Nat) (hy:acJ y=some (cs,m)) :
  jy T tk t t .nil y=if cs.length=m*d.size∧m≤LIM then some (.own tk e d.size cs m,none) else none:=by
 simp only[jy,agO,h,hy,aA]
 by_cases h1:cs.length=m*d.size
 .by_cases h2:m≤LIM
  .simp only[h1,h2,hz,hb,db,aA]
  .rw[aE ⟨h1,hz⟩,aj (fun h=>h2 h.1),aj (fun h=>h2 h.2)]
 .simp only[h1,bD,aQ]
def ahH {T:TT} {t e:Nat} {d:TD} (h:elemOf T t=some (e,d)) (hz:0<d.size) (hd:d.size≤1000) (hl:d.zero.length=d.size) (tk:Tk) (xs:List X) :
  ef tk 1 (elemOf T t) (some [(0,xs)])=if xs.length=d.size then dE ((X.rds xs).map fun cs=>.own tk e d.size cs 1) else none:=by
 have h1:(iq d).length=d.size:=by simp[iq,hl]
 simp only[ef,h,Nat.one_mul,List.replicate_one,List.flatten_singleton,hz,hl,db,gz]
 rw[aE (by omega)]
 simp only[jb,afY,bd,h1]
 by_cases hx:xs.length=d.size
 .rw[aE ⟨hx,aM _⟩,aE hx]
  simp only[ahB,bw]
  rw[fv (by omega),cE]
  cases X.rds xs <;> rfl
 .rw[aj (fun h=>hx h.1),aj hx]
def acu (l:List UInt8):(aD l).size=l.length:=by simp[aD,ByteArray.size]
def avj {T:TT} {t:Nat} (hT:(T t).map (·.und)=some .string) (s:List UInt8) (i:Int):ac9 T t (.of (.lit (.string (aD s)))) (.of (.lit (.int .i64 i)))=ab9 (dH s i) fun c=>.of (.lit (.int .u8 (c.toNat:Nat))):=by
 rw[arN hT,acu]
 unfold dH
 by_cases h0:0≤i
 .obtain⟨k,rfl⟩:=iO h0
  simp only[dm,aaH,cX,aA]
  by_cases h1:k<s.length
  .rw[aE h1,bK h1]
   simp only[ab9,at8]
   congr 5
   show ((aD s).data.toList.getD k 0).toNat=_
   simp[aD,dW,bK h1]
  .rw[aj h1,dB (by omega)]
   rfl
 .rw[aj (fun h=>h0 h.1),aj h0]
  rfl
def zE:=ai @arA @avm
def zB:=ai (ai (ai (ai (ai (ai @afY @List.length_map.{0,0}) (ai @bD @bJ)) (ai (ai @Nat.le_add_right @aM) (ai @e7 @dl))) (ai (ai (ai @dQ @aX) (ai @aZ @dw)) (ai (ai @fg @Option.isNone_none.{0}) (ai @Option.isNone_some.{0} (ai @List.any_cons.{0} @List.any_nil.{0}))))) (ai (ai (ai (ai @cP @Int.cast_ofNat_Int) (ai @List.drop_succ_cons.{0} @List.take_succ_cons.{0})) (ai (ai @List.singleton_append.{0} @bd) (ai @List.set_cons_zero.{0} (ai @List.set_cons_succ.{0} @List.drop_nil.{0})))) (ai (ai (ai @List.take_nil.{0} @Option.map_some.{0,0}) (ai @Option.map_none.{0,0} @Option.getD_some.{0})) (ai (ai @Option.getD_none.{0} @Option.bind_some.{0,0}) (ai @List.cons_append.{0} (ai @List.nil_append.{0} @List.append_nil.{0})))))) (ai (ai (ai (ai (ai @List.map_cons.{0,0} @List.map_nil.{0,0}) (ai @List.range_zero @List.take_zero.{0})) (ai (ai @List.flatten_nil.{0} @List.filter_nil.{0}) (ai @List.length_nil.{0} @List.length_cons.{0}))) (ai (ai (ai @List.drop_zero.{0} @List.not_mem_nil.{0}) (ai @List.mem_cons.{0} @abT)) (ai (ai @aW @List.getElem?_toArray.{0}) (ai @List.toList_toArray.{0} (ai @List.getElem?_cons_zero.{0} @List.getElem?_cons_succ.{0}))))) (ai (ai (ai (ai @ar @beq_self_eq_true.{0}) (ai @beq_true @beq_false)) (ai (ai @bG @bE) (ai @fx (ai @eh @cX)))) (ai (ai (ai @gz @fd) (ai @fz @ab)) (ai (ai @jw @List.append_assoc.{0}) (ai @List.length_append.{0} (ai @Tk.nm.injEq @Tk.cell.injEq))))))
end Go.Pe
namespace Go.Tab
open Go Go.Pe
structure Nn where
 nd:Int
 dp:Int
 deriving DecidableEq
def nnC (x:Nn):List C:=[ci x.nd,ci x.dp]
def auT (x:Nn):nnC x=[ci x.nd,ci x.dp]:=rfl
def aRi (x:Nn):(nnC x).length=2:=rfl
structure Sz where
 nd:Int
 dp:Int
 deriving DecidableEq
def szC (x:Sz):List C:=[ci x.nd,ci x.dp]
def atR (x:Sz):szC x=[ci x.nd,ci x.dp]:=rfl
def aQj (x:Sz):(szC x).length=2:=rfl
structure Sh where
 le:Int
 mo:Int
 su:Int
 deriving DecidableEq
def shC (x:Sh):List C:=[ci x.le,ci x.mo,ci x.su]
def at6 (x:Sh):shC x=[ci x.le,ci x.mo,ci x.su]:=rfl
def aQM (x:Sh):(shC x).length=3:=rfl
end Go.Tab
namespace Go.Proofs.YtemdljoideegeaaGreatDoor
open Go Go.Pe Go.Tab
def a1R (x:Od):C.ref (odC x)=C.ref [aH (aD x.nm),ci x.pl,cb x.dn]:=by rw[ajP]
def a15 (x:Od) (r:List C):C.ref (odC x++r)=C.ref (aH (aD x.nm)::ci x.pl::cb x.dn::r):=by rw[ajP];rfl
def a4Q (x:Od):(odC x).map X.of=[.of (aH (aD x.nm)),.of (ci x.pl),.of (cb x.dn)]:=by rw[ajP];rfl
def a4f (anm:List UInt8) (apl:Int) (adn:Bool):C.agg [aH (aD anm),ci apl,cb adn]=C.agg (odC ⟨anm,apl,adn⟩):=by rw[ajP]
def a4u (x:Od):Od.mk x.nm x.pl x.dn=x:=rfl
def a1L (x:Xp):C.ref (xpC x)=C.ref [ci x.op,ci x.v.k,ci x.v.n,aH x.v.s,aH (aD x.tb),aH (aD x.nm),cb x.di,slC xpC x.ks,slC qyC x.sb]:=by rw[adz]
def a1Z (x:Xp) (r:List C):C.ref (xpC x++r)=C.ref (ci x.op::ci x.v.k::ci x.v.n::aH x.v.s::aH (aD x.tb)::aH (aD x.nm)::cb x.di::slC xpC x.ks::slC qyC x.sb::r):=by rw[adz];rfl
def a4K (x:Xp):(xpC x).map X.of=[.of (ci x.op),.of (ci x.v.k),.of (ci x.v.n),.of (aH x.v.s),.of (aH (aD x.tb)),.of (aH (aD x.nm)),.of (cb x.di),.of (slC xpC x.ks),.of (slC qyC x.sb)]:=by rw[adz];rfl
def a39 (aop:Int) (avk avn:Int) (avs:ByteArray) (atb:List UInt8) (anm:List UInt8) (adi:Bool) (aks:List Xp) (asb:List Qy):C.agg [ci aop,ci avk,ci avn,aH avs,aH (aD atb),aH (aD anm),cb adi,slC xpC aks,slC qyC asb]=C.agg (xpC (.mk aop ⟨avk,avn,avs⟩ atb anm adi aks asb)):=by rw[adz];rfl
def aDV (x:Xp):Xp.mk x.op x.v x.tb x.nm x.di x.ks x.sb=x:=by cases x;rfl
section
variable (op:Int) (v:V) (tb:List UInt8) (nm:List UInt8) (di:Bool) (ks:List Xp) (sb:List Qy)
theorem aKV:(Xp.mk op v tb nm di ks sb).op=op:=rfl
theorem aQ2:(Xp.mk op v tb nm di ks sb).v=v:=rfl
theorem aKT:(Xp.mk op v tb nm di ks sb).tb=tb:=rfl
theorem aKW:(Xp.mk op v tb nm di ks sb).nm=nm:=rfl
theorem aKY:(Xp.mk op v tb nm di ks sb).di=di:=rfl
theorem aKX:(Xp.mk op v tb nm di ks sb).ks=ks:=rfl
theorem aKU:(Xp.mk op v tb nm di ks sb).sb=sb:=rfl
end
def a1Q (x:Qy):C.ref (qyC x)=C.ref [ci x.op,cb x.al,slC qyC x.ks,cb x.di,slC imC x.its,slC fmC x.fr,slC xpC x.wh,slC xpC x.gr,slC xpC x.hv,slC odC x.od,ci x.li,ci x.sk]:=by rw[ajL]
def a14 (x:Qy) (r:List C):C.ref (qyC x++r)=C.ref (ci x.op::cb x.al::slC qyC x.ks::cb x.di::slC imC x.its::slC fmC x.fr::slC xpC x.wh::slC xpC x.gr::slC xpC x.hv::slC odC x.od::ci x.li::ci x.sk::r):=by rw[ajL];rfl
def a4P (x:Qy):(qyC x).map X.of=[.of (ci x.op),.of (cb x.al),.of (slC qyC x.ks),.of (cb x.di),.of (slC imC x.its),.of (slC fmC x.fr),.of (slC xpC x.wh),.of (slC xpC x.gr),.of (slC xpC x.hv),.of (slC odC x.od),.of (ci x.li),.of (ci x.sk)]:=by rw[ajL];rfl
def a4e (aop:Int) (aal:Bool) (aks:List Qy) (adi:Bool) (aits:List Im) (afr:List Fm) (awh:List Xp) (agr:List Xp) (ahv:List Xp) (aod:List Od) (ali:Int) (ask:Int):C.agg [ci aop,cb aal,slC qyC aks,cb adi,slC imC aits,slC fmC afr,slC xpC awh,slC xpC agr,slC xpC ahv,slC odC aod,ci ali,ci ask]=C.agg (qyC (.mk aop aal aks adi aits afr awh agr ahv aod ali ask)):=by rw[ajL];rfl
def a4t (x:Qy):Qy.mk x.op x.al x.ks x.di x.its x.fr x.wh x.gr x.hv x.od x.li x.sk=x:=by cases x;rfl
def a1U (x:Im):C.ref (imC x)=C.ref [cb x.st,aH (aD x.tb),ci x.e.op,ci x.e.v.k,ci x.e.v.n,aH x.e.v.s,aH (aD x.e.tb),aH (aD x.e.nm),cb x.e.di,slC xpC x.e.ks,slC qyC x.e.sb,aH (aD x.az)]:=by rw[amd]
def a18 (x:Im) (r:List C):C.ref (imC x++r)=C.ref (cb x.st::aH (aD x.tb)::ci x.e.op::ci x.e.v.k::ci x.e.v.n::aH x.e.v.s::aH (aD x.e.tb)::aH (aD x.e.nm)::cb x.e.di::slC xpC x.e.ks::slC qyC x.e.sb::aH (aD x.az)::r):=by rw[amd];rfl
def a4T (x:Im):(imC x).map X.of=[.of (cb x.st),.of (aH (aD x.tb)),.of (ci x.e.op),.of (ci x.e.v.k),.of (ci x.e.v.n),.of (aH x.e.v.s),.of (aH (aD x.e.tb)),.of (aH (aD x.e.nm)),.of (cb x.e.di),.of (slC xpC x.e.ks),.of (slC qyC x.e.sb),.of (aH (aD x.az))]:=by rw[amd];rfl
def a4i (ast:Bool) (atb:List UInt8) (aeop:Int) (aevk aevn:Int) (aevs:ByteArray) (aetb:List UInt8) (aenm:List UInt8) (aedi:Bool) (aeks:List Xp) (aesb:List Qy) (aaz:List UInt8):C.agg [cb ast,aH (aD atb),ci aeop,ci aevk,ci aevn,aH aevs,aH (aD aetb),aH (aD aenm),cb aedi,slC xpC aeks,slC qyC aesb,aH (aD aaz)]=C.agg (imC (.mk ast atb (.mk aeop ⟨aevk,aevn,aevs⟩ aetb aenm aedi aeks aesb) aaz)):=by rw[amd];rfl
def a4w (x:Im):Im.mk x.st x.tb x.e x.az=x:=by cases x;rfl
def a1V (x:Fm):C.ref (fmC x)=C.ref [ci x.kd,aH (aD x.nm),aH (aD x.az),slC qyC x.sb,slC fmC x.ks,slC xpC x.on]:=by rw[amf]
def a19 (x:Fm) (r:List C):C.ref (fmC x++r)=C.ref (ci x.kd::aH (aD x.nm)::aH (aD x.az)::slC qyC x.sb::slC fmC x.ks::slC xpC x.on::r):=by rw[amf];rfl
def a4U (x:Fm):(fmC x).map X.of=[.of (ci x.kd),.of (aH (aD x.nm)),.of (aH (aD x.az)),.of (slC qyC x.sb),.of (slC fmC x.ks),.of (slC xpC x.on)]:=by rw[amf];rfl
def a4j (akd:Int) (anm:List UInt8) (aaz:List UInt8) (asb:List Qy) (aks:List Fm) (aon:List Xp):C.agg [ci akd,aH (aD anm),aH (aD aaz),slC qyC asb,slC fmC aks,slC xpC aon]=C.agg (fmC (.mk akd anm aaz asb aks aon)):=by rw[amf];rfl
def a4x (x:Fm):Fm.mk x.kd x.nm x.az x.sb x.ks x.on=x:=by cases x;rfl
def a1W (x:Cd):C.ref (cdC x)=C.ref [aH (aD x.nm),ci x.ty,cb x.nn]:=by rw[aj5]
def a2a (x:Cd) (r:List C):C.ref (cdC x++r)=C.ref (aH (aD x.nm)::ci x.ty::cb x.nn::r):=by rw[aj5];rfl
def a4V (x:Cd):(cdC x).map X.of=[.of (aH (aD x.nm)),.of (ci x.ty),.of (cb x.nn)]:=by rw[aj5];rfl
def a4k (anm:List UInt8) (aty:Int) (ann:Bool):C.agg [aH (aD anm),ci aty,cb ann]=C.agg (cdC ⟨anm,aty,ann⟩):=by rw[aj5]
def a4y (x:Cd):Cd.mk x.nm x.ty x.nn=x:=rfl
def a1T (x:Kd):C.ref (kdC x)=C.ref [cb x.pr,slC bA x.ns]:=by rw[al9]
def a17 (x:Kd) (r:List C):C.ref (kdC x++r)=C.ref (cb x.pr::slC bA x.ns::r):=by rw[al9];rfl
def a4S (x:Kd):(kdC x).map X.of=[.of (cb x.pr),.of (slC bA x.ns)]:=by rw[al9];rfl
def a4h (apr:Bool) (ans:List (List UInt8)):C.agg [cb apr,slC bA ans]=C.agg (kdC ⟨apr,ans⟩):=by rw[al9]
def a4v (x:Kd):Kd.mk x.pr x.ns=x:=rfl
def a1P (x:Rd):C.ref (rdC x)=C.ref [slC bA x.ns,aH (aD x.tb),slC bA x.to]:=by rw[alY]
def a13 (x:Rd) (r:List C):C.ref (rdC x++r)=C.ref (slC bA x.ns::aH (aD x.tb)::slC bA x.to::r):=by rw[alY];rfl
def a4O (x:Rd):(rdC x).map X.of=[.of (slC bA x.ns),.of (aH (aD x.tb)),.of (slC bA x.to)]:=by rw[alY];rfl
def a4d (ans:List (List UInt8)) (atb:List UInt8) (ato:List (List UInt8)):C.agg [slC bA ans,aH (aD atb),slC bA ato]=C.agg (rdC ⟨ans,atb,ato⟩):=by rw[alY]
def a4s (x:Rd):Rd.mk x.ns x.tb x.to=x:=rfl
def a1X (x:As):C.ref (asC x)=C.ref [aH (aD x.nm),ci x.e.op,ci x.e.v.k,ci x.e.v.n,aH x.e.v.s,aH (aD x.e.tb),aH (aD x.e.nm),cb x.e.di,slC xpC x.e.ks,slC qyC x.e.sb]:=by rw[amx]
def a2b (x:As) (r:List C):C.ref (asC x++r)=C.ref (aH (aD x.nm)::ci x.e.op::ci x.e.v.k::ci x.e.v.n::aH x.e.v.s::aH (aD x.e.tb)::aH (aD x.e.nm)::cb x.e.di::slC xpC x.e.ks::slC qyC x.e.sb::r):=by rw[amx];rfl
def a4W (x:As):(asC x).map X.of=[.of (aH (aD x.nm)),.of (ci x.e.op),.of (ci x.e.v.k),.of (ci x.e.v.n),.of (aH x.e.v.s),.of (aH (aD x.e.tb)),.of (aH (aD x.e.nm)),.of (cb x.e.di),.of (slC xpC x.e.ks),.of (slC qyC x.e.sb)]:=by rw[amx];rfl
def a4l (anm:List UInt8) (aeop:Int) (aevk aevn:Int) (aevs:ByteArray) (aetb:List UInt8) (aenm:List UInt8) (aedi:Bool) (aeks:List Xp) (aesb:List Qy):C.agg [aH (aD anm),ci aeop,ci aevk,ci aevn,aH aevs,aH (aD aetb),aH (aD aenm),cb aedi,slC xpC aeks,slC qyC aesb]=C.agg (asC ⟨anm,(.mk aeop ⟨aevk,aevn,aevs⟩ aetb aenm aedi aeks aesb)⟩):=by rw[amx] <;> rfl
def a4z (x:As):As.mk x.nm x.e=x:=rfl
def a1N (x:Sm):C.ref (smC x)=C.ref [ci x.kd,aH (aD x.tb),aH (aD x.nm),slC cdC x.cs,slC bA x.ns,cb x.un,slC kdC x.kys,slC rdC x.rfs,slC xpC x.chs,slC (lsC xpC) x.rws,slC asC x.sts,slC xpC x.wh,slC qyC x.q]:=by rw[iJ]
def a4M (x:Sm):(smC x).map X.of=[.of (ci x.kd),.of (aH (aD x.tb)),.of (aH (aD x.nm)),.of (slC cdC x.cs),.of (slC bA x.ns),.of (cb x.un),.of (slC kdC x.kys),.of (slC rdC x.rfs),.of (slC xpC x.chs),.of (slC (lsC xpC) x.rws),.of (slC asC x.sts),.of (slC xpC x.wh),.of (slC qyC x.q)]:=by rw[iJ];rfl
def a4b (akd:Int) (atb:List UInt8) (anm:List UInt8) (acs:List Cd) (ans:List (List UInt8)) (aun:Bool) (akys:List Kd) (arfs:List Rd) (achs:List Xp) (arws:List (List Xp)) (asts:List As) (awh:List Xp) (aq:List Qy):C.agg [ci akd,aH (aD atb),aH (aD anm),slC cdC acs,slC bA ans,cb aun,slC kdC akys,slC rdC arfs,slC xpC achs,slC (lsC xpC) arws,slC asC asts,slC xpC awh,slC qyC aq]=C.agg (smC ⟨akd,atb,anm,acs,ans,aun,akys,arfs,achs,arws,asts,awh,aq⟩):=by rw[iJ]
def a4r (x:Sm):Sm.mk x.kd x.tb x.nm x.cs x.ns x.un x.kys x.rfs x.chs x.rws x.sts x.wh x.q=x:=rfl
def a1S (x:Nn):C.ref (nnC x)=C.ref [ci x.nd,ci x.dp]:=by rw[auT]
def a4R (x:Nn):(nnC x).map X.of=[.of (ci x.nd),.of (ci x.dp)]:=by rw[auT];rfl
def a4g (and:Int) (adp:Int):C.agg [ci and,ci adp]=C.agg (nnC ⟨and,adp⟩):=by rw[auT]
def a1M (x:Sz):C.ref (szC x)=C.ref [ci x.nd,ci x.dp]:=by rw[atR]
def a4L (x:Sz):(szC x).map X.of=[.of (ci x.nd),.of (ci x.dp)]:=by rw[atR];rfl
def a4a (and:Int) (adp:Int):C.agg [ci and,ci adp]=C.agg (szC ⟨and,adp⟩):=by rw[atR]
def a4q (x:Sz):Sz.mk x.nd x.dp=x:=rfl
def a1O (x:Sh):C.ref (shC x)=C.ref [ci x.le,ci x.mo,ci x.su]:=by rw[at6]
def a4N (x:Sh):(shC x).map X.of=[.of (ci x.le),.of (ci x.mo),.of (ci x.su)]:=by rw[at6];rfl
def a4c (ale:Int) (amo:Int) (asu:Int):C.agg [ci ale,ci amo,ci asu]=C.agg (shC ⟨ale,amo,asu⟩):=by rw[at6]
def aUI (x:V):C.ref (acC x)=C.ref [ci x.k,ci x.n,aH x.s]:=rfl
def apM (k n:Int) (s:ByteArray):C.agg [ci k,ci n,aH s]=C.agg (acC ⟨k,n,s⟩):=rfl
def apN (x:V):V.mk x.k x.n x.s=x:=rfl
def aUN (x:Int) (r:List C):C.ref (abi x++r)=C.ref (ci x::r):=rfl
def aUM (x:List UInt8) (r:List C):C.ref (bA x++r)=C.ref (aH (aD x)::r):=rfl
def aqz (x:Bool) (r:List C):C.ref (aan x++r)=C.ref (cb x::r):=rfl
def a16 {α:Type} (f:α→List C) (x:List α) (r:List C):C.ref (lsC f x++r)=C.ref (slC f x::r):=rfl
def aIz (l) (i:Int):dL (TT.of Tryz.prog) 39 (.of (slC odC l)) (.of (.lit (.int .i64 i)))=ab9 (dH l i) fun x=>.of (.ref (odC x++fl odC (l.drop (i.toNat+1)))):=ada E39 ayj (by decide) l i
def aHc (l):abw (some (.slice 64)) (.of (slC odC l))=out (aU l.length):=ac0 odC l rfl
def aEp (tk:Tk) (xs:List X):ef tk 1 (Pe.elemOf (TT.of Tryz.prog) 39) (some [(0,xs)])=if xs.length=3 then dE ((X.rds xs).map fun cs=>.own tk 64 3 cs 1) else none:=ahH E39 (by decide) (by decide) rfl tk xs
def aLv (l) (i:Int):dL (TT.of Tryz.prog) 26 (.of (slC xpC l)) (.of (.lit (.int .i64 i)))=ab9 (dH l i) fun x=>.of (.ref (xpC x++fl xpC (l.drop (i.toNat+1)))):=ada E26 aqe (by decide) l i
def aCt (l) (a:Int):aao (TT.of Tryz.prog) 26 (.of (slC xpC l)) (some (.of (.lit (.int .i64 a)))) none=ab9 (alO l a l.length) fun q=>.of (slC xpC q):=aKB E26 aqe l a
def aLk (l):abw (some (.slice 45)) (.of (slC xpC l))=out (aU l.length):=ac0 xpC l rfl
def aJp (tk:Tk) (xs:List X):ef tk 1 (Pe.elemOf (TT.of Tryz.prog) 26) (some [(0,xs)])=if xs.length=9 then dE ((X.rds xs).map fun cs=>.own tk 45 9 cs 1) else none:=ahH E26 (by decide) (by decide) rfl tk xs
def aDF (l) (i:Int):dL (TT.of Tryz.prog) 29 (.of (slC qyC l)) (.of (.lit (.int .i64 i)))=ab9 (dH l i) fun x=>.of (.ref (qyC x++fl qyC (l.drop (i.toNat+1)))):=ada E29 ayd (by decide) l i
def aDn (l):abw (some (.slice 41)) (.of (slC qyC l))=out (aU l.length):=ac0 qyC l rfl
def axH (tk:Tk) (xs:List X):ef tk 1 (Pe.elemOf (TT.of Tryz.prog) 29) (some [(0,xs)])=if xs.length=12 then dE ((X.rds xs).map fun cs=>.own tk 41 12 cs 1) else none:=ahH E29 (by decide) (by decide) rfl tk xs
def aLt (l) (i:Int):dL (TT.of Tryz.prog) 37 (.of (slC imC l)) (.of (.lit (.int .i64 i)))=ab9 (dH l i) fun x=>.of (.ref (imC x++fl imC (l.drop (i.toNat+1)))):=ada E37 aAG (by decide) l i
def aLi (l):abw (some (.slice 60)) (.of (slC imC l))=out (aU l.length):=ac0 imC l rfl
def aJn (tk:Tk) (xs:List X):ef tk 1 (Pe.elemOf (TT.of Tryz.prog) 37) (some [(0,xs)])=if xs.length=12 then dE ((X.rds xs).map fun cs=>.own tk 60 12 cs 1) else none:=ahH E37 (by decide) (by decide) rfl tk xs
def aLu (l) (i:Int):dL (TT.of Tryz.prog) 38 (.of (slC fmC l)) (.of (.lit (.int .i64 i)))=ab9 (dH l i) fun x=>.of (.ref (fmC x++fl fmC (l.drop (i.toNat+1)))):=ada E38 aAL (by decide) l i
def aLj (l):abw (some (.slice 62)) (.of (slC fmC l))=out (aU l.length):=ac0 fmC l rfl
def aJo (tk:Tk) (xs:List X):ef tk 1 (Pe.elemOf (TT.of Tryz.prog) 38) (some [(0,xs)])=if xs.length=6 then dE ((X.rds xs).map fun cs=>.own tk 62 6 cs 1) else none:=ahH E38 (by decide) (by decide) rfl tk xs
def aDH (l) (i:Int):dL (TT.of Tryz.prog) 22 (.of (slC cdC l)) (.of (.lit (.int .i64 i)))=ab9 (dH l i) fun x=>.of (.ref (cdC x++fl cdC (l.drop (i.toNat+1)))):=ada E22 aAS (by decide) l i
def aDp (l):abw (some (.slice 56)) (.of (slC cdC l))=out (aU l.length):=ac0 cdC l rfl
def axJ (tk:Tk) (xs:List X):ef tk 1 (Pe.elemOf (TT.of Tryz.prog) 22) (some [(0,xs)])=if xs.length=3 then dE ((X.rds xs).map fun cs=>.own tk 56 3 cs 1) else none:=ahH E22 (by decide) (by decide) rfl tk xs
def aDG (l) (i:Int):dL (TT.of Tryz.prog) 24 (.of (slC kdC l)) (.of (.lit (.int .i64 i)))=ab9 (dH l i) fun x=>.of (.ref (kdC x++fl kdC (l.drop (i.toNat+1)))):=ada E24 aAF (by decide) l i
def aDo (l):abw (some (.slice 58)) (.of (slC kdC l))=out (aU l.length):=ac0 kdC l rfl
def axI (tk:Tk) (xs:List X):ef tk 1 (Pe.elemOf (TT.of Tryz.prog) 24) (some [(0,xs)])=if xs.length=2 then dE ((X.rds xs).map fun cs=>.own tk 58 2 cs 1) else none:=ahH E24 (by decide) (by decide) rfl tk xs
def aDE (l) (i:Int):dL (TT.of Tryz.prog) 25 (.of (slC rdC l)) (.of (.lit (.int .i64 i)))=ab9 (dH l i) fun x=>.of (.ref (rdC x++fl rdC (l.drop (i.toNat+1)))):=ada E25 ayc (by decide) l i
def aDm (l):abw (some (.slice 145)) (.of (slC rdC l))=out (aU l.length):=ac0 rdC l rfl
def aDI (l) (i:Int):dL (TT.of Tryz.prog) 28 (.of (slC asC l)) (.of (.lit (.int .i64 i)))=ab9 (dH l i) fun x=>.of (.ref (asC x++fl asC (l.drop (i.toNat+1)))):=ada E28 aBF (by decide) l i
def aDq (l):abw (some (.slice 54)) (.of (slC asC l))=out (aU l.length):=ac0 asC l rfl
def aDC (l) (i:Int):dL (TT.of Tryz.prog) 23 (.of (slC bA l)) (.of (.lit (.int .i64 i)))=ab9 (dH l i) fun x=>.of (.ref (bA x++fl bA (l.drop (i.toNat+1)))):=ada E23 (fun _=>rfl) (by decide) l i
def aDl (l):abw (some (.slice 9)) (.of (slC bA l))=out (aU l.length):=ac0 bA l rfl
def aDM (l):(fl bA l).length=l.length*1:=amg (f:=bA) (z:=1) (fun _=>rfl) l
def aEA (tk tk' tk2:Tk) (cs0 cs:List C) (n m e2 z2:Nat):jy (TT.of Tryz.prog) tk 23 23 (.own tk' 9 1 cs0 n) (.own tk2 e2 z2 cs m)=if cs.length=m*1∧n+m≤LIM then some (.own tk 9 1 (cs0++cs) (n+m),some tk') else none:=amy E23 (by decide) (by decide) tk tk' cs0 n _ cs m rfl
def aEx (tk tk':Tk) (cs0:List C) (n:Nat) (l):jy (TT.of Tryz.prog) tk 23 23 (.own tk' 9 1 cs0 n) (.of (slC bA l))=if (fl bA l).length=l.length*1∧n+l.length≤LIM then some (.own tk 9 1 (cs0++fl bA l) (n+l.length),some tk') else none:=amy E23 (by decide) (by decide) tk tk' cs0 n _ _ _ rfl
def axP (tk:Tk) (l):jy (TT.of Tryz.prog) tk 23 23 .nil (.of (slC bA l))=if (fl bA l).length=l.length*1∧l.length≤LIM then some (.own tk 9 1 (fl bA l) l.length,none) else none:=aTu E23 (by decide) (by decide) tk _ _ _ rfl
def axG (tk:Tk) (xs:List X):ef tk 1 (Pe.elemOf (TT.of Tryz.prog) 23) (some [(0,xs)])=if xs.length=1 then dE ((X.rds xs).map fun cs=>.own tk 9 1 cs 1) else none:=ahH E23 (by decide) (by decide) rfl tk xs
def axK (tk:Tk):ef tk 0 (Pe.elemOf (TT.of Tryz.prog) 23) (some [])=out (.own tk 9 1 [] 0):=a7o E23 (by decide) rfl tk
def aRy (l) (i:Int):dL (TT.of Tryz.prog) 229 (.of (slC abi l)) (.of (.lit (.int .i64 i)))=ab9 (dH l i) fun x=>.of (.ref (abi x++fl abi (l.drop (i.toNat+1)))):=ada aE6 (fun _=>rfl) (by decide) l i
def axr (l) (i:Int):dL (TT.of Tryz.prog) 27 (.of (slC (lsC xpC) l)) (.of (.lit (.int .i64 i)))=ab9 (dH l i) fun x=>.of (.ref ((lsC xpC) x++fl (lsC xpC) (l.drop (i.toNat+1)))):=ada E27 (fun _=>rfl) (by decide) l i
def axk (l):abw (some (.slice 26)) (.of (slC (lsC xpC) l))=out (aU l.length):=ac0 (lsC xpC) l rfl
def aWB (s:List UInt8) (i:Int):ac9 (TT.of Tryz.prog) 9 (.of (.lit (.string (aD s)))) (.of (.lit (.int .i64 i)))=ab9 (dH s i) fun c=>.of (.lit (.int .u8 (c.toNat:Nat))):=avj (T:=TT.of Tryz.prog) (t:=9) U9 s i
def acL:=ai (ai (ai @a1R (ai @a15 @a4Q)) (ai @a4f (ai @a4u @ayj))) (ai (ai @T64 (ai @Q64 @aWR)) (ai (ai @aWQ @aWP) (ai @T39 @Q39)))
def cR:=ai (ai (ai (ai (ai @a1L @a1Z) (ai @a4K @a39)) (ai (ai @aDV @aKV) (ai @aQ2 @aKT))) (ai (ai (ai @aKW @aKY) (ai @aKX @aKU)) (ai (ai @aqe @T45) (ai @P45 (ai @Q45 @aYV))))) (ai (ai (ai (ai @aXf @aYU) (ai @aXe @aYT)) (ai (ai @aXd @aYS) (ai @aXc @aYR))) (ai (ai (ai @aXb @aYQ) (ai @aXa @aYP)) (ai (ai @aW9 @T26) (ai @Q26 (ai @apN @apM)))))
def eY:=ai (ai (ai (ai @a1Q @a14) (ai @a4P (ai @a4e @a4t))) (ai (ai @ayd (ai @T41 @Q41)) (ai @aXs (ai @aXr @aXq)))) (ai (ai (ai @aXp @aXo) (ai @aXn (ai @aXm @aXl))) (ai (ai @aXk (ai @aXj @aRF)) (ai @aRE (ai @T29 @Q29))))
def abb:=ai (ai (ai (ai @a1U @a18) (ai @a4T @a4i)) (ai (ai @a4w @aAG) (ai @T60 @Q60))) (ai (ai (ai @aW1 @aW0) (ai @aWZ @aWY)) (ai (ai @T37 @Q37) (ai @aDV (ai @apN @apM))))
def jq:=ai (ai (ai (ai @a1V @a19) (ai @a4U @a4j)) (ai (ai @a4x @aAL) (ai @T62 @Q62))) (ai (ai (ai @aWX @aWW) (ai @aWV @aWU)) (ai (ai @aWT @aWS) (ai @T38 @Q38)))
def aep:=ai (ai (ai @a1W (ai @a2a @a4V)) (ai @a4k (ai @a4y @aAS))) (ai (ai @T56 (ai @Q56 @aW6)) (ai (ai @aW5 @aW4) (ai @T22 @Q22)))
def adN:=ai (ai (ai @a1T (ai @a17 @a4S)) (ai @a4h (ai @a4v @aAF))) (ai (ai @T58 (ai @Q58 @aW3)) (ai @aW2 (ai @T24 @Q24)))
def aeo:=ai (ai (ai @a1P (ai @a13 @a4O)) (ai @a4d (ai @a4s @ayc))) (ai (ai @ara (ai @a7t @aRP)) (ai (ai @aRO @aRN) (ai @T25 @Q25)))
def abO:=ai (ai (ai @a1X (ai @a2b @a4W)) (ai (ai @a4l @a4z) (ai @aBF @T54))) (ai (ai (ai @Q54 @aW8) (ai @aW7 @T28)) (ai (ai @Q28 @aDV) (ai @apN @apM)))
def aba:=ai (ai (ai (ai (ai @a1N @a4M) (ai @a4b @a4r)) (ai (ai @aQJ @T31) (ai @P31 @Q31))) (ai (ai (ai @aY5 @aXC) (ai @aY4 @aXB)) (ai (ai @aY3 @aXA) (ai @aY2 (ai @aXz @aY1))))) (ai (ai (ai (ai @aXy @aY0) (ai @aXx @aYZ)) (ai (ai @aXw @aYY) (ai @aXv @aYX))) (ai (ai (ai @aXu @aYW) (ai @aXt @aRV)) (ai (ai @aRJ @aRU) (ai @aRI (ai @aRT @aRH)))))
def aky:=ai (ai (ai @a1S @a4R) (ai @a4g @aRi)) (ai (ai @aEL @a7u) (ai @aRR @aRQ))
def adt:=ai (ai (ai @a1M @a4L) (ai @a4a (ai @a4q @aQj))) (ai (ai @T80 @P80) (ai @Q80 (ai @aWO @aWN)))
def aMV:=ai (ai (ai @a1O @a4N) (ai @a4c @aQM)) (ai (ai @aEK @aRM) (ai @aRL @aRK))
def ad3:=ai (ai (ai @aUI @apM) (ai @apN @T43)) (ai (ai @P43 @Q43) (ai @aXi (ai @aXh @aXg)))
def abV:=ai @aIz (ai @aHc @aEp)
def ey:=ai (ai @aLv @aCt) (ai @aLk @aJp)
def eI:=ai @aDF (ai @aDn @axH)
def ab7:=ai @aLt (ai @aLi @aJn)
def iU:=ai @aLu (ai @aLj @aJo)
def acl:=ai @aDH (ai @aDp @axJ)
def ack:=ai @aDG (ai @aDo @axI)
def ac3:=ai @aDE @aDm
def abP:=ai @aDI @aDq
def bO:=ai (ai (ai @aDC @aDl) (ai @aDM (ai @aEA @aEx))) (ai (ai @axP (ai @axG @axK)) (ai @T23 (ai @P23 @Q23)))
def aQb:=ai @aRy @a0c
def ie:=ai (ai @axr @axk) (ai @T27 @Q27)
def zT0:=ai (ai (ai (ai @aUN @aUM) (ai @aqz @a16)) (ai (ai @aWB @T3) (ai @Q3 @T4))) (ai (ai (ai @P4 @Q4) (ai @T9 @Q9)) (ai (ai @U9 @T5) (ai @Q5 @T34)))
end Go.Proofs.YtemdljoideegeaaGreatDoor
namespace Go.Tab
open Go.Pe
def cN {α:Type} {l:List α} {k:Nat} (h:k<l.length):l.drop k=l[k]::l.drop (k+1):=bM h
def im {α:Type} (p:α→Bool):Nat→List α→Int
 | _,[]=>-1
 | k,x::r=>if p x then k else im p (k+1) r
def ja {α:Type} (p:α→Bool) (l:List α):Int:=im p 0 l
end Go.Tab
namespace Go.Pe
def bX {P:Program} {pr:Pr} {c:Code} {s:S} {Q:Ex→S→Prop} (n:Nat) (I:Nat→S→Prop) (h0:I 0 s)
  (h:∀ k s,k≤n→I k s→WC P pr c s (fun e s'=>match e with
   | .normal=>k<n∧I (k+1) s'
   | e=>Q e s')):WC P pr (.loop c) s Q:=by
 refine aZ9 c Q (fun m s=>∃ k,k≤n∧m=n-k∧I k s) ?_ n s ⟨0,fj _,rfl,h0⟩
 rintro m s ⟨k,hk,rfl,hI⟩
 refine WC.mono (h k s hk hI) fun e s' hq=>?_
 cases e with
 | normal=>exact⟨n-(k+1),by omega,k+1,by omega,rfl,hq.2⟩
 | _=>exact hq
end Go.Pe
namespace Go.Proofs.YtemdljoideegeaaGreatDoor
open Go Go.Pe Go.Tab
def cF (n:Nat) (h:n<4611686018427387904):IntKind.i64.wrap ((n:Int)+1)=((n+1:Nat):Int):=by rw[eX _ (by omega) (by omega)];rfl
def aKl (a b:List UInt8):aD a++aD b=aD (a++b):=by
 apply akB.1
 simp[aD]
def afM {P:Program} {T:TT} {t:Nat} {u:Option TypeDesc} (a b:List UInt8):gY P T t u .add (.of (.lit (.string (aD a)))) (.of (.lit (.string (aD b))))=if a.length+b.length≤gN then out (dy (aD (a++b))) else none:=by
 rw[Z1u,acu,acu,aKl]
def aJL (u:TypeDesc) (n b:Nat) (a:Bool) (z:List Value) (f:List (Nat×Nat)):iq ⟨u,n,b,a,z,f⟩=z.map abR:=rfl
def bW (a b:List UInt8):(aD a=aD b)=(a=b):=propext ⟨atX,fun h=>h▸rfl⟩
def ij (a:List UInt8):(aD a=({data:=#[]}:ByteArray))=(a=[]):=bW a []
def aK (a b:Nat):((a:Int)<(b:Int))=(a<b):=propext Int.ofNat_lt
def aL8 (P:Program) (t n b:Nat) (a:Bool) (fs:Array Field) (z:List Value) (fl:List (Nat×Nat)) (qs:List (Nat×List X)):amt P t (some ⟨.struct fs,n,b,a,z,fl⟩) (some qs)=dE ((jb (fun i=>fl[i]?) (iq ⟨.struct fs,n,b,a,z,fl⟩) qs).map .agg):=rfl
def a5E (x:X):Option.map (fun p:X×Option Tk=>p.1) (out x)=some x:=rfl
def aLD (f:Nat) (xs:List X) (cs:List C):fnX f xs (some cs)=out (.of (.fn f cs)):=rfl
def zG:=ai (ai (ai (ai @arA @aF3) (ai @aJL @aL8)) (ai (ai @a5E @ij) (ai @aLD @Z2x))) (ai (ai (ai @a1K @aXE) (ai @avm @acu)) (ai (ai @aUO @a2e) (ai @aye @a2f)))
def zH:=ai (ai (ai @aa0 @jw) (ai @bG (ai @bE @fx))) (ai (ai @eh (ai @aX @aZ)) (ai @dQ (ai @cP @afk)))
def zq:=ai (ai @zU @zU2) (ai @zB (ai @zG @zH))
def zA:=ai @zD (ai @zD2 @zE)
def wX (t:Tk):Option (List To)→X
 | none=>.nil
 | some L=>.own t 9 1 (fl bA L) L.length
def wT (t:Tk) (o:Option (List To)):Ob:=.var 67 [wX t o]
def wTo (u:Option Tk) (o:Option (List To)):Ob:=match u with
 | some t=>wT t o
 | none=>.var 67 [(wX (.nm 0 0 0) o).tr some fun _=>none]
def iH (o:Option (List To)) (T:List To):Option (List To):=match T with
 | []=>o
 | a::r=>some (o.getD []++(a::r))
def bi (o:Option (List To)):Nat:=(o.getD []).length
def aMh (o:Option (List To)):iH o []=o:=rfl
def aMi (o:Option (List To)) (T:List To):(iH o T).getD []=o.getD []++T:=by cases T <;> simp[iH]
def aMj (o:Option (List To)) (A B:List To):iH (iH o A) B=iH o (A++B):=by
 cases A with
 | nil=>rfl
 | cons a r =>
  cases B with
  | nil=>simp[iH]
  | cons b q=>simp[iH]
def af0 (o:Option (List To)) (T:List To):bi (iH o T)=bi o+T.length:=by unfold bi;rw[aMi,av]
def a1s (σ:Nat→Option Nat) (ρ:Tk→Option Tk) (t:Tk) (o:Option (List To)):(wT t o).tr σ ρ=wTo (ρ t) o:=by
 unfold wT wTo
 cases o with
 | none=>cases ρ t <;> rfl
 | some L=>simp only[Ob.tr,X.trs,X.tr,wX];cases ρ t <;> rfl
def aJT (t:Tk) (o:Option (List To)):wTo (some t) o=wT t o:=rfl
def aQd (t:Tk) (o:Option (List To)):(wT t o).refs=[]:=by cases o <;> rfl
def aQe (t u:Tk) (o:Option (List To)) (h:t≠u):(wT t o).drop u=wT t o:=by
 cases o with
 | none=>rfl
 | some L=>unfold wT;simp only[Ob.drop,X.drops,wX,X.drop];rw[aj h]
def a1t (r off a b c:Nat) (o:Option (List To)):(wT (.cell r off) o).drop (.nm a b c)=wT (.cell r off) o:=aQe _ _ _ (by simp)
def aTs (d:TD) (xs:List X):aEs (some d) (some xs)=if xs.length=d.size then some xs else none:=rfl
def axh (obj:Nat→Bool):∀ x0 x1 x2,ik obj (.makeFunc x0 x1 x2)=false:=fun _ _ _=>rfl
def aQW:List.range 1=[0]:=rfl
def aQV:List.range 2=[0,1]:=rfl
def aQU:List.range 3=[0,1,2]:=rfl
def du (ty r o:Nat):(Ob.var ty [.ptr r o]).refs=[r]:=rfl
def zW:=ai (ai (ai @a1s (ai @aQd @a1t)) (ai @aTs (ai @axh @aJT))) (ai (ai @aQW (ai @aQV @aQU)) (ai @aMj (ai @af0 @List.flatten_cons.{0})))
def afP (P:Program) (pr:Pr) (f:Nat) (xs:List X) (obs:List Ob) (K:An→Prop):Prop:=bp P pr f xs obs K
def aeZ {P:Program} {pr:Pr} {f:Nat} {xs:List X} {obs:List Ob} {p:Prop} {an:An} (h:p→aN P pr f xs obs an) (K:An→Prop):bp P pr f xs obs K↔ifP p (K an) (afP P pr f xs obs K):=by
 by_cases hp:p
 .rw[ajY hp];exact aN.k (h hp) K
 .simp only[ifP,hp,bD,jw,cX,fz];exact cZ
abbrev cw:Tk:=.cell 0 0
def GW (f:Nat) (xs:List X) (T:List To):Prop:=∀ o,bi o+T.length≤LIM→aN Tryz.prog pr f (.ptr 0 0::xs) [wT cw o] ⟨false,[],[wT cw (iH o T)]⟩
theorem GW.k {f:Nat} {xs:List X} {T:List To} (h:GW f xs T) (o:Option (List To)) (K:An→Prop):bp Tryz.prog pr f (.ptr 0 0::xs) [wT cw o] K↔ifP (bi o+T.length≤LIM) (K ⟨false,[],[wT cw (iH o T)]⟩) (afP Tryz.prog pr f (.ptr 0 0::xs) [wT cw o] K):=aeZ (h o) K
def aIx {p A B:Prop} (h:p) (a:A):ifP p A B:=(ajY h).2 a
def acA (T:List To):(fl bA T).length=T.length*1:=amg (f:=bA) (z:=1) (fun _=>rfl) T
def aTJ:=ai (ai @zq (ai @T67 @ami)) (ai (ai @bO @zT0) (ai @aIa (ba aYw)))
def auv (T:List To) (hT:T≠[]):GW 36 [.of (slC bA T)] T:=by
 intro o h
 have hn:bi o=(o.getD []).length:=rfl
 have hl:=acA T
 obtain⟨a,r,rfl⟩ : ∃ a r,T=a::r:=by cases T with
  | nil=>exact absurd rfl hT
  | cons a r=>exact⟨a,r,rfl⟩
 refine ah rfl aYw aIa rfl ?_
 cases o with
 | none =>
  have h1:(a::r).length≤LIM:=by simpa [bi] using h
  simp -implicitDefEqProofs(maxSteps:=9^9)only[Tryz.f36,↓zA,sevalprocAttr,aTJ,wT,wX,hl,iH,aco]
  exact⟨h1,rfl⟩
 | some L =>
  have h1:L.length+(a::r).length≤LIM:=by simpa [bi] using h
  simp -implicitDefEqProofs(maxSteps:=9^9)only[Tryz.f36,↓zA,sevalprocAttr,aTJ,wT,wX,hl,iH,agD,aXF]
  exact⟨h1,rfl,rfl⟩
def auu (cs:List C) (T:List To) (n:Nat) (hn:n=T.length) (hc:cs=fl bA T) (hT:T≠[]):GW 36 [.of (.sl cs n)] T:=by
 subst hn hc
 exact auv T hT
def dI (a:To) (o:Option (List To)) (K:An→Prop):bp Tryz.prog pr 36 [.ptr 0 0,.of (.sl [.lit (.string (aD a))] 1)] [wT cw o] K↔ifP (bi o+1≤LIM) (K ⟨false,[],[wT cw (iH o [a])]⟩) (afP Tryz.prog pr 36 [.ptr 0 0,.of (.sl [.lit (.string (aD a))] 1)] [wT cw o] K):=(auu _ [a] 1 rfl rfl (by simp)).k o K
def gc (a b:To) (o:Option (List To)) (K:An→Prop):bp Tryz.prog pr 36 [.ptr 0 0,.of (.sl [.lit (.string (aD a)),.lit (.string (aD b))] 2)] [wT cw o] K↔ifP (bi o+2≤LIM) (K ⟨false,[],[wT cw (iH o [a,b])]⟩) (afP Tryz.prog pr 36 [.ptr 0 0,.of (.sl [.lit (.string (aD a)),.lit (.string (aD b))] 2)] [wT cw o] K):=(auu _ [a,b] 2 rfl rfl (by simp)).k o K
def aJP:=ai (ai @zq (ai @ac4 @ab1)) (ai (ai @aez @zT0) (ai @aH9 (ba aYv)))
def gD (is:Bool) (cs:List C) (T:List To) (n:Nat) (hn:n=T.length) (hc:cs=fl bA T) (hT:T≠[]):GW 37 [aG is,.of (.sl cs n)] (aF is T):=by
 intro o h
 have kp:=fun o K=>(auu cs T n hn hc hT).k o K
 refine ah rfl aYv aH9 rfl ?_
 cases is with
 | false =>
  simp -implicitDefEqProofs(maxSteps:=9^9)only[Tryz.f37,↓zA,sevalprocAttr,aJP,zW,aF,aMh]
  try rfl
 | true =>
  simp -implicitDefEqProofs(maxSteps:=9^9)only[Tryz.f37,↓zA,sevalprocAttr,aJP,zW,kp,aF]
  refine aIx (by simpa [aF] using h) ?_
  simp -implicitDefEqProofs(maxSteps:=9^9)only[Tryz.f37,↓zA,sevalprocAttr,aJP,zW,kp,aF]
  try rfl
def aDQ:FnI Tryz.prog 226 Tryz.f226:=⟨by kernel_rfl,Tryz.func226⟩
def aSt:ak Tryz.prog 226=true:=by kernel_rfl
def aVr:bh 226=false:=rfl
def aqM:aY 226=false:=rfl
def alm (b:Bool):List UInt8:=if b then [116,114,117,101] else [102,97,108,115,101]
def aoj (b:Bool):G1 226 [aG b] (dy (aD (alm b))):=by
 refine ah rfl aDQ aqM rfl ?_
 cases b
 .simp -implicitDefEqProofs only [Tryz.f226,↓zA,sevalprocAttr,zq,zT0,ba aDQ,aqM]
  try rfl
 .simp -implicitDefEqProofs only [Tryz.f226,↓zA,sevalprocAttr,zq,zT0,ba aDQ,aqM]
  try rfl
def aqc (b:Bool):G1 171 [aG b] (dy (aD (alm b))):=by
 have k:=fun K=>aN.k (aoj b) K
 refine ah rfl aOU azy rfl ?_
 simp -implicitDefEqProofs only [Tryz.f171,↓zA,sevalprocAttr,zq,zT0,ba aOU,azy,aVr,aSt,k]
def aCG (n:Int) (h:ji n=true):aN Tryz.prog pr 227 [aU n] [] ⟨false,[dy (aD (Lib.itoa n))],[]⟩:=aN.of_prim (by simp only[pr,ao8,aA,atq,h];rfl)
def axa (s:List UInt8) (h:s.length≤1048576):aN Tryz.prog pr 173 [.of (aH (aD s)),.of (aH (aD [39])),.of (aH (aD [39,39]))] [] ⟨false,[dy (aD (iL s))],[]⟩:=aN.of_prim (by
 show raP [.of (aH (aD s)),.of (aH ⟨#[39]⟩),.of (aH ⟨#[39,39]⟩)] []=_
 unfold raP
 simp only
 have h1:=Lib.countB_le ⟨#[39]⟩ (aM 1) (aD s).size (aD s) (aM _)
 have h2:=acu s
 rw[aE ⟨by omega,by decide,by
  have:(ByteArray.mk #[39,39]).size=2:=rfl
  rw[this]
  omega⟩]
 show some (An.mk false [dy (aD (Lib.replaceAll (aD s).data.toList [39] [39,39]))] [])=_
 rw[an0,show (aD s).data.toList=s by simp[aD]])
def a05:=ai (ai @zq (ai @aVq @aSs)) (ai @zT0 (ai @azx (ba aOT)))
def auS (n:Int) (h:ji n=true):G1 172 [aU n] (dy (aD (Lib.itoa n))):=by
 have hk:=fun K=>aN.k (aCG n h) K
 refine ah rfl aOT azx rfl ?_
 simp -implicitDefEqProofs(maxSteps:=9^9)only[Tryz.f172,↓zA,sevalprocAttr,a05,hk]
def txt (v:V):List UInt8:=if v.k=1 then alm (decide (v.n≠0)) else if v.k=2 then Lib.itoa v.n else if v.k=3 then 39::(iL v.s.data.toList++[39]) else [110,117,108,108]
def alI (v:V):ahc v=txt v:=by
 unfold ahc aCj txt
 by_cases h1:v.k=1
 .by_cases h2:v.n=0
  .simp[h1,h2,alm,avA]
  .simp[h1,h2,alm,aCh]
 .by_cases h2:v.k=2
  .simp[h2,aD]
  .by_cases h3:v.k=3
   .simp[h3,V.t,aD]
   .simp[h1,h2,h3,aC6]
def aFB (s:ByteArray):aD s.data.toList=s:=by simp[aD]
def apy:({data:=#[39]}:ByteArray)=aD [39]:=rfl
def aRo:({data:=#[39,39]}:ByteArray)=aD [39,39]:=rfl
def aBN:=ai (ai (ai @zq (ai @a2Y @aGw)) (ai (ai @aBg @aVS) (ai @aSU @aVR))) (ai (ai @aST (ai @ad3 @Q3)) (ai (ai @Q9 @zT0) (ai @aHD (ba aXZ))))
def anE (v:V) (hn:ji v.n=true) (hs:v.s.size≤1048576):G1 80 [.of (.agg (acC v))] (dy (aD (ahc v))):=by
 rw[alI]
 have kb:=fun K=>aN.k (aqc (decide (v.n≠0))) K
 have kn:=fun K=>aN.k (auS v.n hn) K
 have kq:=fun K=>aN.k (axa v.s.data.toList (by simpa using hs)) K
 simp only[aFB] at kq
 have hq:=agq v.s.data.toList
 have el:v.s.data.toList.length=v.s.size:=by simp
 have l1:1+(iL v.s.data.toList).length≤gN:=by unfold gN;omega
 have vl:(acC v).length=3:=rfl
 have l3:(iL v.s.data.toList).length+1+1≤gN:=by unfold gN;omega
 have l2:1+(iL v.s.data.toList).length+1≤gN:=by unfold gN;omega
 refine ah rfl aXZ aHD rfl ?_
 by_cases h1:v.k=1
 .have e1:(!decide (v.n=0))=decide (v.n≠0):=by simp
  simp -implicitDefEqProofs(maxSteps:=9^9)only[Tryz.f80,↓zA,sevalprocAttr,aBN,vl,h1,kb,e1,aGw,aBg,txt]
 .by_cases h2:v.k=2
  .simp -implicitDefEqProofs(maxSteps:=9^9)only[Tryz.f80,↓zA,sevalprocAttr,aBN,vl,h1,h2,kn,txt]
  .by_cases h3:v.k=3
   .simp -implicitDefEqProofs(maxSteps:=9^9)only[Tryz.f80,↓zA,sevalprocAttr,aBN,vl,h1,h2,h3,kq,apy,aRo,afM,txt,aR,l1,l2,l3,aA,ch]
   .simp -implicitDefEqProofs(maxSteps:=9^9)only[Tryz.f80,↓zA,sevalprocAttr,aBN,vl,h1,h2,h3,txt]
    try rfl
end Go.Proofs.YtemdljoideegeaaGreatDoor
namespace Go.Tab
open Go Go.Pe
def al6 {s:List UInt8} (h:bk s=true):s≠[]:=by rintro rfl;cases h
def adL {s:List UInt8} (h:bk s=true):s.length≤20:=by
 cases s with
 | nil=>cases h
 | cons c r=>simp only[bk,ab,ar] at h;simpa using h.2
def aC9 {s:List UInt8} (h:bk s=true):am9 s=true:=by
 cases s with
 | nil=>cases h
 | cons c r=>simp only[bk,ab] at h;simp only[am9,ab];exact h.1
def ai6 {s:List UInt8} (h:bk s=true):∀ c∈s,(fN c||jh c)=true:=by
 cases s with
 | nil=>cases h
 | cons c r =>
  simp only[bk,ab] at h
  intro x hx
  rcases cY.1 hx with rfl|hx
  .rw[h.1.1];rfl
  .exact bR.1 h.1.2 x hx
def at7 {c:UInt8} (h:(fN c||jh c)=true):c.toNat<128∧c≠32:=by
 simp only[fN,jh,cA,ab,ar] at h
 rcases h with (h|rfl)|h
 .exact⟨by omega,by rintro rfl;have:=h.1;simp at this⟩
 .exact⟨by decide,by decide⟩
 .exact⟨by omega,by rintro rfl;have:=h.1;simp at this⟩
def aGY {s:List UInt8} (h:bk s=true):s.all (fun c=>decide (c.toNat<128))=true:=bR.2 fun c hc=>cy (at7 (ai6 h c hc)).1
def avN {s p:List UInt8} (h:Lib.contains s p=true):∀ c∈p,c∈s:=by
 unfold Lib.contains at h
 rw[ar] at h
 rcases Lib.index_spec s p with ⟨h1,_⟩|⟨i,h1,h2,h3,_⟩
 .omega
 .intro c hc
  unfold Lib.occAt at h3
  obtain⟨t,ht⟩:=List.isPrefixOf_iff_prefix.1 h3
  have:c∈s.drop i:=by rw[← ht];exact acE _ hc
  exact fu this
def axg {s:List UInt8} (h:bk s=true):Lib.contains s [32]=false:=by
 cases hc:Lib.contains s [32] with
 | false=>rfl
 | true =>
  have:=avN hc 32 (by simp)
  exact absurd rfl (at7 (ai6 h 32 this)).2
end Go.Tab
namespace Go.Proofs.YtemdljoideegeaaGreatDoor
open Go Go.Pe Go.Tab
def aIX (w p:ByteArray) (h:w.size<4294967281):G1 246 [.of (.lit (.string w)),.of (.lit (.string p))] (aG (Lib.contains w.data.toList p.data.toList)):=aN.of_prim (by
 show apU [.of (.lit (.string w)),.of (.lit (.string p))] []=_
 unfold apU
 simp only
 rw[aE h])
def aZi (w p:ByteArray) (K:An→Prop):bp Tryz.prog pr 246 [.of (.lit (.string w)),.of (.lit (.string p))] [] K↔ifP (w.size<4294967281) (K ⟨false,[aG (Lib.contains w.data.toList p.data.toList)],[]⟩) (abU Tryz.prog pr 246 [.of (.lit (.string w)),.of (.lit (.string p))] K):=adC (aIX w p) K
def auY (s:List UInt8) (h:bk s=true):G1 207 [.of (aH (aD s))] (aG true):=aN.of_prim (by
 show lxP [.of (aH (aD s))] []=_
 have e:(aD s).data.toList=s:=by simp[aD]
 have h1:=adL h
 have h2:(aD s).size=s.length:=acu s
 unfold lxP
 simp only
 rw[aE ⟨by rw[e];exact aGY h,by omega⟩,e,aC9 h])
def a0N:=ai (ai @zq (ai @aVc @aSe)) (ai @zT0 (ai @ay0 (ba aOm)))
def apt (s:List UInt8) (h:bk s=true):G1 208 [.of (aH (aD s))] (aG (agT s)):=by
 have hne:(s=[])=False:=aO (al6 h)
 have hl:=adL h
 have l1:(s.length<4294967281)=True:=aa (by omega)
 have hb:=axg h
 have l2:1+s.length≤gN:=by unfold gN;omega
 have l3:1+s.length+1≤gN:=by unfold gN;omega
 have l4:s.length+1+1≤gN:=by unfold gN;omega
 have e:∀ s:List UInt8,(aD s).data.toList=s:=fun s=>by simp[aD]
 have e32:=aL [32]
 refine ah rfl aOm ay0 rfl ?_
 simp -implicitDefEqProofs(maxSteps:=9^9)only[Tryz.f208,↓zA,sevalprocAttr,a0N,hne,aZi,l1,hb,e,e32,afM,l2,l3,l4,aA,dN,av,ch]
 refine aIx (by decide) ?_
 rfl
def a1h:=ai (ai (ai @zq @aVA) (ai @aSC @aVz)) (ai (ai @aSB @zT0) (ai @aAk (ba aPG)))
def axi (s:List UInt8) (h:bk s=true):G1 120 [.of (aH (aD s))] (aG (!agT s)):=by
 have kp:=fun K=>aN.k (auY s h) K
 have kr:=fun K=>aN.k (apt s h) K
 have l1:((s.length:Int)≤20)=True:=aa (by have:=adL h;omega)
 refine ah rfl aPG aAk rfl ?_
 simp -implicitDefEqProofs(maxSteps:=9^9)only[Tryz.f120,↓zA,sevalprocAttr,a1h,kp,kr,l1]
def aLw (b:Bool) (l:List To):bI b l=aF b [lpT]++(l++aF b [rpT]):=by cases b <;> simp[bI,aF]
def ahq (b:Bool) (l:List To):(aF b l).length=if b=true then l.length else 0:=by cases b <;> rfl
def aTI:=ai (ai (ai @zq @aWe) (ai @aTg (ai @ac4 @ab1))) (ai (ai @aez @bO) (ai @zT0 (ai @aH8 (ba aYu))))
def arH (s:List UInt8) (hs:bk s=true):GW 38 [.of (aH (aD s))] [bF s]:=by
 intro o h
 have kl:=fun K=>aN.k (axi s hs) K
 have hl:=adL hs
 have l1:1+s.length≤gN:=by unfold gN;omega
 have l2:1+s.length+1≤gN:=by unfold gN;omega
 have l3:s.length+1+1≤gN:=by unfold gN;omega
 have l4:s.length+1≤gN:=by unfold gN;omega
 have e34:=aL [34]
 have h1:bi o+1≤LIM:=h
 refine ah rfl aYu aH8 rfl ?_
 cases hr:agT s with
 | true =>
  have hn:bF s=34::(s++[34]):=by unfold bF;rw[hr];rfl
  simp -implicitDefEqProofs(maxSteps:=9^9)only[Tryz.f38,↓zA,sevalprocAttr,aTI,zW,kl,hr,e34,afM,l1,l2,l3,l4,aA,dN,av,ch,dI,h1,hn]
 | false =>
  have hn:bF s=s:=by unfold bF;rw[hr];rfl
  simp -implicitDefEqProofs(maxSteps:=9^9)only[Tryz.f38,↓zA,sevalprocAttr,aTI,zW,kl,hr,dI,h1,hn]
def aaF (s:List UInt8) (hs:bk s=true) (o:Option (List To)) (K:An→Prop):bp Tryz.prog pr 38 [.ptr 0 0,.of (.lit (.string (aD s)))] [wT cw o] K↔ifP (bi o+1≤LIM) (K ⟨false,[],[wT cw (iH o [bF s])]⟩) (afP Tryz.prog pr 38 [.ptr 0 0,.of (.lit (.string (aD s)))] [wT cw o] K):=(arH s hs).k o K
def aMQ:=ai (ai (ai @zq @ac4) (ai @ab1 (ai @aez @afI))) (ai (ai @ad9 (ai @ahP @bO)) (ai @zT0 (ai @azS (ba aPe))))
def aq6 (s:List UInt8) (hs:gg s=true):GW 149 [.of (aH (aD s))] (asT s):=by
 intro o h
 have eas:({data:=#[97,115]}:ByteArray)=aD [97,115]:=rfl
 refine ah rfl aPe azS rfl ?_
 by_cases h0:s=[]
 .subst h0
  simp -implicitDefEqProofs(maxSteps:=9^9)only[Tryz.f149,↓zA,sevalprocAttr,aMQ,zW]
  try rfl
 .have hn:bk s=true:=by simpa [gg,h0] using hs
  have ha:asT s=[[97,115],bF s]:=by simp[asT,aF,h0]
  rw[ha] at h ⊢
  have h1:bi o+1≤LIM:=by simp at h;omega
  have h2:bi o+(1+1)≤LIM:=by simpa using h
  have h3:bi o+1+1≤LIM:=by simpa using h
  simp -implicitDefEqProofs(maxSteps:=9^9)only[Tryz.f149,↓zA,sevalprocAttr,aMQ,zW,h0,eas,dI,h1,aaF s hn,dN,h2,h3,ch]
def a08:=ai (ai @zq (ai @a22 @ad3)) (ai @zT0 (ai @azN (ba aO9)))
def aCe (n:Int):G1 154 [aU n] (.of (.agg (acC ⟨2,n,ByteArray.empty⟩))):=by
 refine ah rfl aO9 azN rfl ?_
 simp -implicitDefEqProofs(maxSteps:=9^9)only[Tryz.f154,↓zA,sevalprocAttr,a08]
 try rfl
def a49:=ai (ai (ai @zq (ai @aV0 @aS2)) (ai @aNh (ai @aI7 @ac4))) (ai (ai @ab1 (ai @aez @bO)) (ai @zT0 (ai @aHJ (ba aX5))))
def aLa (n:Int) (hn:ji n=true):GW 71 [aU n] [Lib.itoa n]:=by
 intro o h
 have k1:=fun K=>aN.k (aCe n) K
 have k2:=fun K=>aN.k (anE ⟨2,n,ByteArray.empty⟩ hn (show (0:Nat)≤1048576 by omega)) K
 have e:ahc ⟨2,n,ByteArray.empty⟩=Lib.itoa n:=by rw[alI];rfl
 rw[e] at k2
 have h1:bi o+1≤LIM:=h
 refine ah rfl aX5 aHJ rfl ?_
 simp -implicitDefEqProofs(maxSteps:=9^9)only[Tryz.f71,↓zA,sevalprocAttr,a49,zW,k1,k2,dI,h1]
def apo (n:Int) (hn:ji n=true) (o:Option (List To)) (K:An→Prop):bp Tryz.prog pr 71 [.ptr 0 0,.of (.lit (.int .i64 n))] [wT cw o] K↔ifP (bi o+1≤LIM) (K ⟨false,[],[wT cw (iH o [Lib.itoa n])]⟩) (afP Tryz.prog pr 71 [.ptr 0 0,.of (.lit (.int .i64 n))] [wT cw o] K):=(aLa n hn).k o K
def cO {α:Type} (A:List α) (x:α):(A++[x])[A.length]?=some x:=by simp
def co {α:Type} (A:List α) (x y:α):(A++[x]).set A.length y=A++[y]:=by simp
def bg (tk:Tk) (a b:ByteArray):ef tk 2 (Pe.elemOf (TT.of Tryz.prog) 23) (some [(0,[dy a]),(1,[dy b])])=out (.own tk 9 1 [aH a,aH b] 2):=by rw[E23];kernel_rfl
abbrev wP (r:Nat):Ob:=.var 65 [.ptr r 0]
def GC (f:Nat) (cs:List C) (T:List To):Prop:=bh f=true∧tkF f=false∧ak Tryz.prog f=true∧∀ o,bi o+T.length≤LIM→aN Tryz.prog pr f [.ptr 0 0,.of (.ref cs)] [wP 1,wT (.cell 1 0) o] ⟨false,[],[wP 1,wT (.cell 1 0) (iH o T)]⟩
def GH (cs:List C) (f:Nat) (is:Bool) (T:List To):Prop:=∀ o,bi o+(bI is T).length≤LIM→aN Tryz.prog pr 150 [.ptr 0 0,aG is,.clo (2*f) [.ptr 1 0,.of (.ref cs)]] [wT cw o,wP 0] ⟨false,[],[wT cw (iH o (bI is T)),wP 0]⟩
def a1c:=ai (ai (ai @zq @aeq) (ai @adh @agl)) (ai (ai @bO @zT0) (ai @azR (ba aPd)))
def ahE (f:Nat) (cs:List C) (T:List To) (is:Bool) (h:GC f cs T):GH cs f is T:=by
 obtain⟨h1,h2,h3,h4⟩:=h
 intro o hl
 have kc:=fun o K=>aeZ (h4 o) K
 have e40:=aL [40]
 have e41:=aL [41]
 have kw1:=fun o K=>(gD is [.lit (.string (aD [40]))] [[40]] 1 rfl rfl (by simp)).k o K
 have kw2:=fun o K=>(gD is [.lit (.string (aD [41]))] [[41]] 1 rfl rfl (by simp)).k o K
 rw[aLw] at hl ⊢
 simp only[av,ahq,lpT,rpT,dN] at hl
 have q1:bi o+(aF is [[40]]).length≤LIM:=by rw[ahq];simp only[dN];omega
 have q2:bi o+(aF is [[40]]).length+T.length≤LIM:=by rw[ahq];simp only[dN];omega
 have q3:bi o+((aF is [[40]]).length+T.length)+(aF is [[41]]).length≤LIM:=by rw[ahq,ahq];simp only[dN];omega
 refine ah rfl aPd azR rfl ?_
 simp -implicitDefEqProofs(maxSteps:=9^9)only[Tryz.f150,↓zA,sevalprocAttr,a1c,zW,e40,e41,kw1,kw2,kc,h1,h2,h3,aI0,aIZ,q1,q2,q3,av,am,lpT,rpT,du]
def afU (b:Bool):bc b []=[]:=by cases b <;> rfl
def arw (b:Bool) (a:List To) (r:List (List To)):bc b (a::r)=aF (!b) [cmT]++(a++bc false r):=by cases b <;> rfl
def aig {α:Type} (T:α→List To) {l:List α} {k:Nat} (h:k<l.length):bc (decide (k=0)) ((l.drop k).map T)=aF (decide (0<k)) [cmT]++(T l[k]++bc (decide (k+1=0)) ((l.drop (k+1)).map T)):=by
 have e:decide (k+1=0)=false:=by simp
 have e2:(!decide (k=0))=decide (0<k):=by by_cases h:k=0 <;> simp[h];omega
 rw[bM h,aV,arw,e,e2]
def acI (k:Nat):decide ((0:Int)<(k:Int))=decide (0<k):=fO.2 (by omega)
def as6:=ai (ai (ai @zq @aeq) (ai @adh @agl)) (ai (ai @bO @Q9) (ai @zT0 (ai @aAj (ba aPF))))
def aqI (f:Nat) (l:List (List UInt8)) (T:List UInt8→List To) (hl:l.length≤4611686018427387903) (h1:bh f=true) (h2:tkF f=false) (h3:ak Tryz.prog f=true) (h:∀ x∈l,GW f [.of (.lit (.string (aD x)))] (T x)):GW 121 [.of (slC bA l),.clo (2*f+1) [.ptr 0 0]] (bc true (l.map T)):=by
 intro o hb
 have e44:=aL [44]
 refine ah rfl aPF aAj rfl ?_
 simp -implicitDefEqProofs(maxSteps:=9^9)only[Tryz.f121,↓zA,sevalprocAttr,as6]
 refine bX l.length (fun k s=>s.fr 0=.ptr 0 0∧s.fr 2=.clo (2*f+1) [.ptr 0 0]∧s.fr 8=.of (slC bA l)∧s.fr 9=aU l.length∧s.fr 10=aU k∧∃ A,s.objs=[wT cw (iH o A)]∧bc true (l.map T)=A++bc (decide (k=0)) ((l.drop k).map T)) ?_ ?_
 .simp -implicitDefEqProofs(maxSteps:=9^9)only[Tryz.f121,↓zA,sevalprocAttr,as6]
  exact⟨[],rfl,rfl⟩
 rintro k ⟨frk,obk,ckk⟩ hk ⟨f0,f2,f8,f9,f10,A,fo,E⟩
 dsimp only at f0 f2 f8 f9 f10 fo
 rcases ap k l.length with dk|dk
 .have hw:=cF k (by omega)
  have gx:=bq dk
  have hx:=h _ (ay dk)
  rw[aig T dk] at E
  generalize l[k]=x at *
  have kw:=fun o K=>(gD (decide (0<k)) [.lit (.string (aD [44]))] [[44]] 1 rfl rfl (by simp)).k o K
  have kx:=fun o K=>hx.k o K
  have hb2:=hb
  rw[E] at hb2
  simp only[av,cmT] at hb2
  have q1:bi o+A.length+(aF (decide (0<k)) [[44]]).length≤LIM:=by omega
  have q2:bi o+(A.length+(aF (decide (0<k)) [[44]]).length)+(T x).length≤LIM:=by omega
  simp -implicitDefEqProofs(maxSteps:=9^9)only[Tryz.f121,↓zA,sevalprocAttr,as6,f0,f2,f8,f9,f10,fo,zW,aK,dk,gx,hw,e44,acI,kw,kx,q1,q2,h1,h2,h3,aj4,aj3,av,af0]
  refine⟨_,rfl,?_⟩
  have ek:decide (k+1=0)=false:=by simp
  rw[E,ek];simp only[cmT,am]
  try rfl
 have e:k=l.length:=by omega
 subst e
 rw[aw,bC,afU,cE] at E
 simp -implicitDefEqProofs(maxSteps:=9^9)only[Tryz.f121,↓zA,sevalprocAttr,as6,f0,f2,f8,f9,f10,fo,zW,aK,au,E]
def aBQ:=ai (ai (ai @zq @aDa) (ai @aeq (ai @adh @agl))) (ai (ai @cR (ai @bO @ey)) (ai @zT0 (ai @aHO (ba aYa))))
def aes (f:Nat) (l:List (Xp)) (T:Xp→List To) (hl:l.length≤4611686018427387903) (h1:bh f=true) (h2:tkF f=false) (h3:ak Tryz.prog f=true) (h:∀ x∈l,GW f [.of (.agg (xpC x))] (T x)):GW 66 [.of (slC xpC l),.clo (2*f+1) [.ptr 0 0]] (bc true (l.map T)):=by
 intro o hb
 have e44:=aL [44]
 refine ah rfl aYa aHO rfl ?_
 simp -implicitDefEqProofs(maxSteps:=9^9)only[Tryz.f66,↓zA,sevalprocAttr,aBQ]
 refine bX l.length (fun k s=>s.fr 0=.ptr 0 0∧s.fr 2=.clo (2*f+1) [.ptr 0 0]∧s.fr 8=.of (slC xpC l)∧s.fr 9=aU l.length∧s.fr 10=aU k∧∃ A,s.objs=[wT cw (iH o A)]∧bc true (l.map T)=A++bc (decide (k=0)) ((l.drop k).map T)) ?_ ?_
 .simp -implicitDefEqProofs(maxSteps:=9^9)only[Tryz.f66,↓zA,sevalprocAttr,aBQ]
  exact⟨[],rfl,rfl⟩
 rintro k ⟨frk,obk,ckk⟩ hk ⟨f0,f2,f8,f9,f10,A,fo,E⟩
 dsimp only at f0 f2 f8 f9 f10 fo
 rcases ap k l.length with dk|dk
 .have hw:=cF k (by omega)
  have gx:=bq dk
  have hx:=h _ (ay dk)
  rw[aig T dk] at E
  generalize l[k]=x at *
  have kw:=fun o K=>(gD (decide (0<k)) [.lit (.string (aD [44]))] [[44]] 1 rfl rfl (by simp)).k o K
  have kx:=fun o K=>hx.k o K
  have hb2:=hb
  rw[E] at hb2
  simp only[av,cmT] at hb2
  have q1:bi o+A.length+(aF (decide (0<k)) [[44]]).length≤LIM:=by omega
  have q2:bi o+(A.length+(aF (decide (0<k)) [[44]]).length)+(T x).length≤LIM:=by omega
  simp -implicitDefEqProofs(maxSteps:=9^9)only[Tryz.f66,↓zA,sevalprocAttr,aBQ,f0,f2,f8,f9,f10,fo,zW,aK,dk,gx,hw,e44,acI,kw,kx,q1,q2,h1,h2,h3,aj4,aj3,av,af0]
  refine⟨_,rfl,?_⟩
  have ek:decide (k+1=0)=false:=by simp
  rw[E,ek];simp only[cmT,am]
  try rfl
 have e:k=l.length:=by omega
 subst e
 rw[aw,bC,afU,cE] at E
 simp -implicitDefEqProofs(maxSteps:=9^9)only[Tryz.f66,↓zA,sevalprocAttr,aBQ,f0,f2,f8,f9,f10,fo,zW,aK,au,E]
def aBR:=ai (ai (ai @zq @aDa) (ai @aeq (ai @adh @agl))) (ai (ai @abb (ai @bO @ab7)) (ai @zT0 (ai @aHR (ba aYd))))
def ai8 (f:Nat) (l:List (Im)) (T:Im→List To) (hl:l.length≤4611686018427387903) (h1:bh f=true) (h2:tkF f=false) (h3:ak Tryz.prog f=true) (h:∀ x∈l,GW f [.of (.agg (imC x))] (T x)):GW 63 [.of (slC imC l),.clo (2*f+1) [.ptr 0 0]] (bc true (l.map T)):=by
 intro o hb
 have e44:=aL [44]
 refine ah rfl aYd aHR rfl ?_
 simp -implicitDefEqProofs(maxSteps:=9^9)only[Tryz.f63,↓zA,sevalprocAttr,aBR]
 refine bX l.length (fun k s=>s.fr 0=.ptr 0 0∧s.fr 2=.clo (2*f+1) [.ptr 0 0]∧s.fr 8=.of (slC imC l)∧s.fr 9=aU l.length∧s.fr 10=aU k∧∃ A,s.objs=[wT cw (iH o A)]∧bc true (l.map T)=A++bc (decide (k=0)) ((l.drop k).map T)) ?_ ?_
 .simp -implicitDefEqProofs(maxSteps:=9^9)only[Tryz.f63,↓zA,sevalprocAttr,aBR]
  exact⟨[],rfl,rfl⟩
 rintro k ⟨frk,obk,ckk⟩ hk ⟨f0,f2,f8,f9,f10,A,fo,E⟩
 dsimp only at f0 f2 f8 f9 f10 fo
 rcases ap k l.length with dk|dk
 .have hw:=cF k (by omega)
  have gx:=bq dk
  have hx:=h _ (ay dk)
  rw[aig T dk] at E
  generalize l[k]=x at *
  have kw:=fun o K=>(gD (decide (0<k)) [.lit (.string (aD [44]))] [[44]] 1 rfl rfl (by simp)).k o K
  have kx:=fun o K=>hx.k o K
  have hb2:=hb
  rw[E] at hb2
  simp only[av,cmT] at hb2
  have q1:bi o+A.length+(aF (decide (0<k)) [[44]]).length≤LIM:=by omega
  have q2:bi o+(A.length+(aF (decide (0<k)) [[44]]).length)+(T x).length≤LIM:=by omega
  simp -implicitDefEqProofs(maxSteps:=9^9)only[Tryz.f63,↓zA,sevalprocAttr,aBR,f0,f2,f8,f9,f10,fo,zW,aK,dk,gx,hw,e44,acI,kw,kx,q1,q2,h1,h2,h3,aj4,aj3,av,af0]
  refine⟨_,rfl,?_⟩
  have ek:decide (k+1=0)=false:=by simp
  rw[E,ek];simp only[cmT,am]
  try rfl
 have e:k=l.length:=by omega
 subst e
 rw[aw,bC,afU,cE] at E
 simp -implicitDefEqProofs(maxSteps:=9^9)only[Tryz.f63,↓zA,sevalprocAttr,aBR,f0,f2,f8,f9,f10,fo,zW,aK,au,E]
def aBO:=ai (ai (ai @zq @aDa) (ai @aeq (ai @adh @agl))) (ai (ai @acL (ai @bO @abV)) (ai @zT0 (ai @aHL (ba aX7))))
def aiC (f:Nat) (l:List (Od)) (T:Od→List To) (hl:l.length≤4611686018427387903) (h1:bh f=true) (h2:tkF f=false) (h3:ak Tryz.prog f=true) (h:∀ x∈l,GW f [.of (.agg (odC x))] (T x)):GW 69 [.of (slC odC l),.clo (2*f+1) [.ptr 0 0]] (bc true (l.map T)):=by
 intro o hb
 have e44:=aL [44]
 refine ah rfl aX7 aHL rfl ?_
 simp -implicitDefEqProofs(maxSteps:=9^9)only[Tryz.f69,↓zA,sevalprocAttr,aBO]
 refine bX l.length (fun k s=>s.fr 0=.ptr 0 0∧s.fr 2=.clo (2*f+1) [.ptr 0 0]∧s.fr 8=.of (slC odC l)∧s.fr 9=aU l.length∧s.fr 10=aU k∧∃ A,s.objs=[wT cw (iH o A)]∧bc true (l.map T)=A++bc (decide (k=0)) ((l.drop k).map T)) ?_ ?_
 .simp -implicitDefEqProofs(maxSteps:=9^9)only[Tryz.f69,↓zA,sevalprocAttr,aBO]
  exact⟨[],rfl,rfl⟩
 rintro k ⟨frk,obk,ckk⟩ hk ⟨f0,f2,f8,f9,f10,A,fo,E⟩
 dsimp only at f0 f2 f8 f9 f10 fo
 rcases ap k l.length with dk|dk
 .have hw:=cF k (by omega)
  have gx:=bq dk
  have hx:=h _ (ay dk)
  rw[aig T dk] at E
  generalize l[k]=x at *
  have kw:=fun o K=>(gD (decide (0<k)) [.lit (.string (aD [44]))] [[44]] 1 rfl rfl (by simp)).k o K
  have kx:=fun o K=>hx.k o K
  have hb2:=hb
  rw[E] at hb2
  simp only[av,cmT] at hb2
  have q1:bi o+A.length+(aF (decide (0<k)) [[44]]).length≤LIM:=by omega
  have q2:bi o+(A.length+(aF (decide (0<k)) [[44]]).length)+(T x).length≤LIM:=by omega
  simp -implicitDefEqProofs(maxSteps:=9^9)only[Tryz.f69,↓zA,sevalprocAttr,aBO,f0,f2,f8,f9,f10,fo,zW,aK,dk,gx,hw,e44,acI,kw,kx,q1,q2,h1,h2,h3,aj4,aj3,av,af0]
  refine⟨_,rfl,?_⟩
  have ek:decide (k+1=0)=false:=by simp
  rw[E,ek];simp only[cmT,am]
  try rfl
 have e:k=l.length:=by omega
 subst e
 rw[aw,bC,afU,cE] at E
 simp -implicitDefEqProofs(maxSteps:=9^9)only[Tryz.f69,↓zA,sevalprocAttr,aBO,f0,f2,f8,f9,f10,fo,zW,aK,au,E]
def as5:=ai (ai (ai @zq @aeq) (ai @adh (ai @agl @cR))) (ai (ai @bO @ie) (ai @zT0 (ai @aAi (ba aPE))))
def aqJ (f:Nat) (l:List (List Xp)) (T:List Xp→List To) (hl:l.length≤4611686018427387903) (h1:bh f=true) (h2:tkF f=false) (h3:ak Tryz.prog f=true) (h:∀ x∈l,GW f [.of (slC xpC x)] (T x)):GW 122 [.of (slC (lsC xpC) l),.clo (2*f+1) [.ptr 0 0]] (bc true (l.map T)):=by
 intro o hb
 have e44:=aL [44]
 refine ah rfl aPE aAi rfl ?_
 simp -implicitDefEqProofs(maxSteps:=9^9)only[Tryz.f122,↓zA,sevalprocAttr,as5]
 refine bX l.length (fun k s=>s.fr 0=.ptr 0 0∧s.fr 2=.clo (2*f+1) [.ptr 0 0]∧s.fr 8=.of (slC (lsC xpC) l)∧s.fr 9=aU l.length∧s.fr 10=aU k∧∃ A,s.objs=[wT cw (iH o A)]∧bc true (l.map T)=A++bc (decide (k=0)) ((l.drop k).map T)) ?_ ?_
 .simp -implicitDefEqProofs(maxSteps:=9^9)only[Tryz.f122,↓zA,sevalprocAttr,as5]
  exact⟨[],rfl,rfl⟩
 rintro k ⟨frk,obk,ckk⟩ hk ⟨f0,f2,f8,f9,f10,A,fo,E⟩
 dsimp only at f0 f2 f8 f9 f10 fo
 rcases ap k l.length with dk|dk
 .have hw:=cF k (by omega)
  have gx:=bq dk
  have hx:=h _ (ay dk)
  rw[aig T dk] at E
  generalize l[k]=x at *
  have kw:=fun o K=>(gD (decide (0<k)) [.lit (.string (aD [44]))] [[44]] 1 rfl rfl (by simp)).k o K
  have kx:=fun o K=>hx.k o K
  have hb2:=hb
  rw[E] at hb2
  simp only[av,cmT] at hb2
  have q1:bi o+A.length+(aF (decide (0<k)) [[44]]).length≤LIM:=by omega
  have q2:bi o+(A.length+(aF (decide (0<k)) [[44]]).length)+(T x).length≤LIM:=by omega
  simp -implicitDefEqProofs(maxSteps:=9^9)only[Tryz.f122,↓zA,sevalprocAttr,as5,f0,f2,f8,f9,f10,fo,zW,aK,dk,gx,hw,e44,acI,kw,kx,q1,q2,h1,h2,h3,aj4,aj3,av,af0]
  refine⟨_,rfl,?_⟩
  have ek:decide (k+1=0)=false:=by simp
  rw[E,ek];simp only[cmT,am]
  try rfl
 have e:k=l.length:=by omega
 subst e
 rw[aw,bC,afU,cE] at E
 simp -implicitDefEqProofs(maxSteps:=9^9)only[Tryz.f122,↓zA,sevalprocAttr,as5,f0,f2,f8,f9,f10,fo,zW,aK,au,E]
end Go.Proofs.YtemdljoideegeaaGreatDoor

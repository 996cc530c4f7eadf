/-
  The writer: lists with signs between. Conditions: none.
-/
import Derived.Test.YtemdljoideegeaaGreatDoorPa10
import Derived.Test.YtemdljoideegeaaGreatDoorCards
import Derived.Test.YtemdljoideegeaaGreatDoorTie
import Derived.WalkKit
import Derived.ProofKit
import Derived.OpenShut
import Derived.Deep.DeepHandedRow
import Derived.Lib.LaidTab
import Derived.Shelf.Vars
import Derived.Lib.IndexLaws
set_option linter.defProp false
set_option linter.unusedSectionVars false
set_option maxRecDepth 100000
set_option maxHeartbeats 64000000
namespace Go.Proofs.YtemdljoideegeaaGreatDoor
open Go Go.Pe Go.Tab Go.RowKit Go.ChangeShapes Go.Deep
def aQn (s:ByteArray):∃ l:List UInt8,s=aD l∧l.length=s.size:=⟨s.data.toList,by simp[aD],by simp⟩
def bB {α:Type} {l:List α} {n:Nat} (h:l.length=n+1):∃ a r,l=a::r∧r.length=n:=by
 cases l with
 | nil=>cases h
 | cons a r=>exact⟨a,r,rfl,Nat.succ.inj h⟩
def cP {α:Type} (t:TypeId) (f:α→List C) (w:α→Nat) (q:α→Prop) (n:Nat):Prop:=∀ cs m,m<n→Pl Tryz.prog t cs m→∃ x,cs=f x∧w x≤m∧q x
theorem cP.mono {α:Type} {t:TypeId} {f:α→List C} {w:α→Nat} {q:α→Prop} {n k:Nat} (h:cP t f w q n) (hk:k≤n):cP t f w q k:=fun cs m hm hp=>h cs m (by omega) hp
theorem cP.list {α:Type} {t e:TypeId} {f:α→List C} {w:α→Nat} {q:α→Prop} {n:Nat} (h:cP e f w q n) (hu:Tryz.prog.underlying t=some (.slice e)):cP t (lsC f) (lsW w) (lsP q) (n+1):=by
 intro cs m hm hp
 obtain⟨ps,ws,rfl,hl,hx,hs⟩:=hp.slice_inv hu
 obtain⟨l,rfl,l2,l3⟩:=aAT (f:=f) (w:=w) (Q:=fun _ x=>q x) ps ws hl fun i h1 h2=>by
  have h3:ws[i]≤ws.sum:=by
   have:=ay h2
   generalize ws[i]=x at this
   clear hx hs hl h2
   induction ws with
   | nil=>cases this
   | cons a r ih =>
    rw[bT]
    rcases cX.1 this with rfl|h
    .omega
    .have:=ih h
     omega
  exact h _ _ (by omega) (hx i h1 h2)
 exact⟨l,by simp[lsC,slC,fl],by unfold lsW;omega,fun x hx=>by obtain⟨_,_,h⟩:=l3 x hx;exact h⟩
def ahH (n:Nat):cP 3 abj d8 I64 n:=fun cs m _ hp=>by
 obtain⟨x,rfl,h⟩:=hp.int_inv Tryz.underlying3
 exact⟨x,rfl,hp.pos,h⟩
def agf (n:Nat):cP 4 aan d8 fA n:=fun cs m _ hp=>by
 obtain⟨x,rfl⟩:=hp.bool_inv Tryz.underlying4
 exact⟨x,rfl,hp.pos,trivial⟩
def acl (n:Nat):cP 9 bA cU fA n:=fun cs m _ hp=>by
 obtain⟨s,rfl,h⟩:=hp.str_inv Tryz.underlying9
 obtain⟨l,rfl,e⟩:=aQn s
 exact⟨l,rfl,by unfold cU;omega,trivial⟩
def aZi (n:Nat):cP 43 acE alH V64 n:=by
 intro cs m _ h
 obtain⟨ps,ws,rfl,hp,hl,hx,hm⟩:=h.struct_inv Tryz.underlying43
 match ps,hp,ws,hl with
 | [p0,p1,p2],_,[w0,w1,w2],_ =>
  obtain⟨k,k1,k2⟩:=(hx 0 (by decide) (by simp) (by simp)).int_inv Tryz.underlying3
  obtain⟨n,n1,n2⟩:=(hx 1 (by decide) (by simp) (by simp)).int_inv Tryz.underlying3
  obtain⟨s,s1,s2⟩:=(hx 2 (by decide) (by simp) (by simp)).str_inv Tryz.underlying9
  have q0:=(hx 0 (by decide) (by simp) (by simp)).pos
  have q1:=(hx 1 (by decide) (by simp) (by simp)).pos
  simp only[dM,dW] at k1 n1 s1 s2 q0 q1
  subst k1;subst n1;subst s1
  simp only[bT,cT] at hm
  exact⟨⟨k,n,s⟩,rfl,by show s.size+4≤m;omega,k2,n2⟩
def a7l (n:Nat):cP 64 odC odW aws n:=by
 intro cs m hm h
 obtain⟨ps,ws,rfl,hp,hl,hx,hs⟩:=h.struct_inv Tryz.underlying64
 have hp':ps.length=3:=hp
 have hl':ws.length=3:=hl
 clear hp hl
 obtain⟨p0,pt0,rfl,pq0⟩:=bB hp'
 obtain⟨p1,pt1,rfl,pq1⟩:=bB pq0
 obtain⟨p2,pt2,rfl,pq2⟩:=bB pq1
 obtain rfl:pt2=[]:=aJ pq2
 obtain⟨w0,wt0,rfl,wq0⟩:=bB hl'
 obtain⟨w1,wt1,rfl,wq1⟩:=bB wq0
 obtain⟨w2,wt2,rfl,wq2⟩:=bB wq1
 obtain rfl:wt2=[]:=aJ wq2
 have h0:=hx 0 (by decide) (by simp) (by simp)
 have h1:=hx 1 (by decide) (by simp) (by simp)
 have h2:=hx 2 (by decide) (by simp) (by simp)
 simp only[dM,dW] at h0 h1 h2
 simp only[bT,cT] at hs
 obtain⟨x0,rfl,a0,b0⟩:=(show cP 9 bA cU fA (m+1) from acl _) _ _ (by omega) h0
 obtain⟨x1,rfl,a1,b1⟩:=(show cP 3 abj d8 I64 (m+1) from ahH _) _ _ (by omega) h1
 obtain⟨x2,rfl,a2,b2⟩:=(show cP 4 aan d8 fA (m+1) from agf _) _ _ (by omega) h2
 refine⟨⟨x0,x1,x2⟩,?_,?_,?_⟩
 .simp[odC]
 .simp only[odW]
  omega
 .exact⟨b0,b1,b2⟩
def aIU (n:Nat) (hyXp:cP 45 xpC xpW e7 n) (hyQy:cP 41 qyC qyW ii n):cP 45 xpC xpW e7 (n+1):=by
 intro cs m hm h
 obtain⟨ps,ws,rfl,hp,hl,hx,hs⟩:=h.struct_inv Tryz.underlying45
 have hp':ps.length=7:=hp
 have hl':ws.length=7:=hl
 clear hp hl
 obtain⟨p0,pt0,rfl,pq0⟩:=bB hp'
 obtain⟨p1,pt1,rfl,pq1⟩:=bB pq0
 obtain⟨p2,pt2,rfl,pq2⟩:=bB pq1
 obtain⟨p3,pt3,rfl,pq3⟩:=bB pq2
 obtain⟨p4,pt4,rfl,pq4⟩:=bB pq3
 obtain⟨p5,pt5,rfl,pq5⟩:=bB pq4
 obtain⟨p6,pt6,rfl,pq6⟩:=bB pq5
 obtain rfl:pt6=[]:=aJ pq6
 obtain⟨w0,wt0,rfl,wq0⟩:=bB hl'
 obtain⟨w1,wt1,rfl,wq1⟩:=bB wq0
 obtain⟨w2,wt2,rfl,wq2⟩:=bB wq1
 obtain⟨w3,wt3,rfl,wq3⟩:=bB wq2
 obtain⟨w4,wt4,rfl,wq4⟩:=bB wq3
 obtain⟨w5,wt5,rfl,wq5⟩:=bB wq4
 obtain⟨w6,wt6,rfl,wq6⟩:=bB wq5
 obtain rfl:wt6=[]:=aJ wq6
 have h0:=hx 0 (by decide) (by simp) (by simp)
 have h1:=hx 1 (by decide) (by simp) (by simp)
 have h2:=hx 2 (by decide) (by simp) (by simp)
 have h3:=hx 3 (by decide) (by simp) (by simp)
 have h4:=hx 4 (by decide) (by simp) (by simp)
 have h5:=hx 5 (by decide) (by simp) (by simp)
 have h6:=hx 6 (by decide) (by simp) (by simp)
 simp only[dM,dW] at h0 h1 h2 h3 h4 h5 h6
 simp only[bT,cT] at hs
 obtain⟨x0,rfl,a0,b0⟩:=(show cP 3 abj d8 I64 n from ahH _) _ _ (by omega) h0
 obtain⟨x1,rfl,a1,b1⟩:=(show cP 43 acE alH V64 n from aZi _) _ _ (by omega) h1
 obtain⟨x2,rfl,a2,b2⟩:=(show cP 9 bA cU fA n from acl _) _ _ (by omega) h2
 obtain⟨x3,rfl,a3,b3⟩:=(show cP 9 bA cU fA n from acl _) _ _ (by omega) h3
 obtain⟨x4,rfl,a4,b4⟩:=(show cP 4 aan d8 fA n from agf _) _ _ (by omega) h4
 obtain⟨x5,rfl,a5,b5⟩:=(show cP 26 (lsC xpC) (lsW xpW) (lsP e7) n from (cP.list (hyXp) Tryz.underlying26).mono (du _)) _ _ (by omega) h5
 obtain⟨x6,rfl,a6,b6⟩:=(show cP 29 (lsC qyC) (lsW qyW) (lsP ii) n from (cP.list (hyQy) Tryz.underlying29).mono (du _)) _ _ (by omega) h6
 refine⟨(.mk x0 x1 x2 x3 x4 x5 x6),?_,?_,?_⟩
 .rw[aoG]
  simp[Xp.op,Xp.v,Xp.tb,Xp.nm,Xp.di,Xp.ks,Xp.sb]
 .rw[aaV]
  simp only[Xp.op,Xp.v,Xp.tb,Xp.nm,Xp.di,Xp.ks,Xp.sb]
  omega
 .rw[ac3]
  exact⟨b0,b1,b2,b3,b4,b5,b6⟩
def aIV (n:Nat) (hyXp:cP 45 xpC xpW e7 n) (hyQy:cP 41 qyC qyW ii n) (hyIm:cP 60 imC imW aeU n) (hyFm:cP 62 fmC fmW acZ n):cP 41 qyC qyW ii (n+1):=by
 intro cs m hm h
 obtain⟨ps,ws,rfl,hp,hl,hx,hs⟩:=h.struct_inv Tryz.underlying41
 have hp':ps.length=12:=hp
 have hl':ws.length=12:=hl
 clear hp hl
 obtain⟨p0,pt0,rfl,pq0⟩:=bB hp'
 obtain⟨p1,pt1,rfl,pq1⟩:=bB pq0
 obtain⟨p2,pt2,rfl,pq2⟩:=bB pq1
 obtain⟨p3,pt3,rfl,pq3⟩:=bB pq2
 obtain⟨p4,pt4,rfl,pq4⟩:=bB pq3
 obtain⟨p5,pt5,rfl,pq5⟩:=bB pq4
 obtain⟨p6,pt6,rfl,pq6⟩:=bB pq5
 obtain⟨p7,pt7,rfl,pq7⟩:=bB pq6
 obtain⟨p8,pt8,rfl,pq8⟩:=bB pq7
 obtain⟨p9,pt9,rfl,pq9⟩:=bB pq8
 obtain⟨p10,pt10,rfl,pq10⟩:=bB pq9
 obtain⟨p11,pt11,rfl,pq11⟩:=bB pq10
 obtain rfl:pt11=[]:=aJ pq11
 obtain⟨w0,wt0,rfl,wq0⟩:=bB hl'
 obtain⟨w1,wt1,rfl,wq1⟩:=bB wq0
 obtain⟨w2,wt2,rfl,wq2⟩:=bB wq1
 obtain⟨w3,wt3,rfl,wq3⟩:=bB wq2
 obtain⟨w4,wt4,rfl,wq4⟩:=bB wq3
 obtain⟨w5,wt5,rfl,wq5⟩:=bB wq4
 obtain⟨w6,wt6,rfl,wq6⟩:=bB wq5
 obtain⟨w7,wt7,rfl,wq7⟩:=bB wq6
 obtain⟨w8,wt8,rfl,wq8⟩:=bB wq7
 obtain⟨w9,wt9,rfl,wq9⟩:=bB wq8
 obtain⟨w10,wt10,rfl,wq10⟩:=bB wq9
 obtain⟨w11,wt11,rfl,wq11⟩:=bB wq10
 obtain rfl:wt11=[]:=aJ wq11
 have h0:=hx 0 (by decide) (by simp) (by simp)
 have h1:=hx 1 (by decide) (by simp) (by simp)
 have h2:=hx 2 (by decide) (by simp) (by simp)
 have h3:=hx 3 (by decide) (by simp) (by simp)
 have h4:=hx 4 (by decide) (by simp) (by simp)
 have h5:=hx 5 (by decide) (by simp) (by simp)
 have h6:=hx 6 (by decide) (by simp) (by simp)
 have h7:=hx 7 (by decide) (by simp) (by simp)
 have h8:=hx 8 (by decide) (by simp) (by simp)
 have h9:=hx 9 (by decide) (by simp) (by simp)
 have h10:=hx 10 (by decide) (by simp) (by simp)
 have h11:=hx 11 (by decide) (by simp) (by simp)
 simp only[dM,dW] at h0 h1 h2 h3 h4 h5 h6 h7 h8 h9 h10 h11
 simp only[bT,cT] at hs
 obtain⟨x0,rfl,a0,b0⟩:=(show cP 3 abj d8 I64 n from ahH _) _ _ (by omega) h0
 obtain⟨x1,rfl,a1,b1⟩:=(show cP 4 aan d8 fA n from agf _) _ _ (by omega) h1
 obtain⟨x2,rfl,a2,b2⟩:=(show cP 29 (lsC qyC) (lsW qyW) (lsP ii) n from (cP.list (hyQy) Tryz.underlying29).mono (du _)) _ _ (by omega) h2
 obtain⟨x3,rfl,a3,b3⟩:=(show cP 4 aan d8 fA n from agf _) _ _ (by omega) h3
 obtain⟨x4,rfl,a4,b4⟩:=(show cP 37 (lsC imC) (lsW imW) (lsP aeU) n from (cP.list (hyIm) Tryz.underlying37).mono (du _)) _ _ (by omega) h4
 obtain⟨x5,rfl,a5,b5⟩:=(show cP 38 (lsC fmC) (lsW fmW) (lsP acZ) n from (cP.list (hyFm) Tryz.underlying38).mono (du _)) _ _ (by omega) h5
 obtain⟨x6,rfl,a6,b6⟩:=(show cP 26 (lsC xpC) (lsW xpW) (lsP e7) n from (cP.list (hyXp) Tryz.underlying26).mono (du _)) _ _ (by omega) h6
 obtain⟨x7,rfl,a7,b7⟩:=(show cP 26 (lsC xpC) (lsW xpW) (lsP e7) n from (cP.list (hyXp) Tryz.underlying26).mono (du _)) _ _ (by omega) h7
 obtain⟨x8,rfl,a8,b8⟩:=(show cP 26 (lsC xpC) (lsW xpW) (lsP e7) n from (cP.list (hyXp) Tryz.underlying26).mono (du _)) _ _ (by omega) h8
 obtain⟨x9,rfl,a9,b9⟩:=(show cP 39 (lsC odC) (lsW odW) (lsP aws) n from (cP.list (a7l _) Tryz.underlying39).mono (du _)) _ _ (by omega) h9
 obtain⟨x10,rfl,a10,b10⟩:=(show cP 3 abj d8 I64 n from ahH _) _ _ (by omega) h10
 obtain⟨x11,rfl,a11,b11⟩:=(show cP 3 abj d8 I64 n from ahH _) _ _ (by omega) h11
 refine⟨(.mk x0 x1 x2 x3 x4 x5 x6 x7 x8 x9 x10 x11),?_,?_,?_⟩
 .rw[aF0]
  simp[Qy.op,Qy.al,Qy.ks,Qy.di,Qy.its,Qy.fr,Qy.wh,Qy.gr,Qy.hv,Qy.od,Qy.li,Qy.sk]
 .rw[iC]
  simp only[Qy.op,Qy.al,Qy.ks,Qy.di,Qy.its,Qy.fr,Qy.wh,Qy.gr,Qy.hv,Qy.od,Qy.li,Qy.sk]
  omega
 .rw[ag9]
  exact⟨b0,b1,b2,b3,b4,b5,b6,b7,b8,b9,b10,b11⟩
def aIW (n:Nat) (hyXp:cP 45 xpC xpW e7 n):cP 60 imC imW aeU (n+1):=by
 intro cs m hm h
 obtain⟨ps,ws,rfl,hp,hl,hx,hs⟩:=h.struct_inv Tryz.underlying60
 have hp':ps.length=4:=hp
 have hl':ws.length=4:=hl
 clear hp hl
 obtain⟨p0,pt0,rfl,pq0⟩:=bB hp'
 obtain⟨p1,pt1,rfl,pq1⟩:=bB pq0
 obtain⟨p2,pt2,rfl,pq2⟩:=bB pq1
 obtain⟨p3,pt3,rfl,pq3⟩:=bB pq2
 obtain rfl:pt3=[]:=aJ pq3
 obtain⟨w0,wt0,rfl,wq0⟩:=bB hl'
 obtain⟨w1,wt1,rfl,wq1⟩:=bB wq0
 obtain⟨w2,wt2,rfl,wq2⟩:=bB wq1
 obtain⟨w3,wt3,rfl,wq3⟩:=bB wq2
 obtain rfl:wt3=[]:=aJ wq3
 have h0:=hx 0 (by decide) (by simp) (by simp)
 have h1:=hx 1 (by decide) (by simp) (by simp)
 have h2:=hx 2 (by decide) (by simp) (by simp)
 have h3:=hx 3 (by decide) (by simp) (by simp)
 simp only[dM,dW] at h0 h1 h2 h3
 simp only[bT,cT] at hs
 obtain⟨x0,rfl,a0,b0⟩:=(show cP 4 aan d8 fA n from agf _) _ _ (by omega) h0
 obtain⟨x1,rfl,a1,b1⟩:=(show cP 9 bA cU fA n from acl _) _ _ (by omega) h1
 obtain⟨x2,rfl,a2,b2⟩:=(show cP 45 xpC xpW e7 n from hyXp) _ _ (by omega) h2
 obtain⟨x3,rfl,a3,b3⟩:=(show cP 9 bA cU fA n from acl _) _ _ (by omega) h3
 refine⟨(.mk x0 x1 x2 x3),?_,?_,?_⟩
 .rw[aIy]
  simp[Im.st,Im.tb,Im.e,Im.az]
 .rw[ack]
  simp only[Im.st,Im.tb,Im.e,Im.az]
  omega
 .rw[aip]
  exact⟨b0,b1,b2,b3⟩
def aIX (n:Nat) (hyXp:cP 45 xpC xpW e7 n) (hyQy:cP 41 qyC qyW ii n) (hyFm:cP 62 fmC fmW acZ n):cP 62 fmC fmW acZ (n+1):=by
 intro cs m hm h
 obtain⟨ps,ws,rfl,hp,hl,hx,hs⟩:=h.struct_inv Tryz.underlying62
 have hp':ps.length=6:=hp
 have hl':ws.length=6:=hl
 clear hp hl
 obtain⟨p0,pt0,rfl,pq0⟩:=bB hp'
 obtain⟨p1,pt1,rfl,pq1⟩:=bB pq0
 obtain⟨p2,pt2,rfl,pq2⟩:=bB pq1
 obtain⟨p3,pt3,rfl,pq3⟩:=bB pq2
 obtain⟨p4,pt4,rfl,pq4⟩:=bB pq3
 obtain⟨p5,pt5,rfl,pq5⟩:=bB pq4
 obtain rfl:pt5=[]:=aJ pq5
 obtain⟨w0,wt0,rfl,wq0⟩:=bB hl'
 obtain⟨w1,wt1,rfl,wq1⟩:=bB wq0
 obtain⟨w2,wt2,rfl,wq2⟩:=bB wq1
 obtain⟨w3,wt3,rfl,wq3⟩:=bB wq2
 obtain⟨w4,wt4,rfl,wq4⟩:=bB wq3
 obtain⟨w5,wt5,rfl,wq5⟩:=bB wq4
 obtain rfl:wt5=[]:=aJ wq5
 have h0:=hx 0 (by decide) (by simp) (by simp)
 have h1:=hx 1 (by decide) (by simp) (by simp)
 have h2:=hx 2 (by decide) (by simp) (by simp)
 have h3:=hx 3 (by decide) (by simp) (by simp)
 have h4:=hx 4 (by decide) (by simp) (by simp)
 have h5:=hx 5 (by decide) (by simp) (by simp)
 simp only[dM,dW] at h0 h1 h2 h3 h4 h5
 simp only[bT,cT] at hs
 obtain⟨x0,rfl,a0,b0⟩:=(show cP 3 abj d8 I64 n from ahH _) _ _ (by omega) h0
 obtain⟨x1,rfl,a1,b1⟩:=(show cP 9 bA cU fA n from acl _) _ _ (by omega) h1
 obtain⟨x2,rfl,a2,b2⟩:=(show cP 9 bA cU fA n from acl _) _ _ (by omega) h2
 obtain⟨x3,rfl,a3,b3⟩:=(show cP 29 (lsC qyC) (lsW qyW) (lsP ii) n from (cP.list (hyQy) Tryz.underlying29).mono (du _)) _ _ (by omega) h3
 obtain⟨x4,rfl,a4,b4⟩:=(show cP 38 (lsC fmC) (lsW fmW) (lsP acZ) n from (cP.list (hyFm) Tryz.underlying38).mono (du _)) _ _ (by omega) h4
 obtain⟨x5,rfl,a5,b5⟩:=(show cP 26 (lsC xpC) (lsW xpW) (lsP e7) n from (cP.list (hyXp) Tryz.underlying26).mono (du _)) _ _ (by omega) h5
 refine⟨(.mk x0 x1 x2 x3 x4 x5),?_,?_,?_⟩
 .rw[aIJ]
  simp[Fm.kd,Fm.nm,Fm.az,Fm.sb,Fm.ks,Fm.on]
 .rw[jb]
  simp only[Fm.kd,Fm.nm,Fm.az,Fm.sb,Fm.ks,Fm.on]
  omega
 .rw[aiq]
  exact⟨b0,b1,b2,b3,b4,b5⟩
theorem aou:∀ n,cP 45 xpC xpW e7 n∧cP 41 qyC qyW ii n∧cP 60 imC imW aeU n∧cP 62 fmC fmW acZ n
 | 0=>⟨fun _ _ h=>absurd h (gI _),fun _ _ h=>absurd h (gI _),fun _ _ h=>absurd h (gI _),fun _ _ h=>absurd h (gI _)⟩
 | n+1=>by
  obtain⟨hyXp,hyQy,hyIm,hyFm⟩:=aou n
  exact⟨aIU n hyXp hyQy,aIV n hyXp hyQy hyIm hyFm,aIW n hyXp,aIX n hyXp hyQy hyFm⟩
def avK (n:Nat):cP 45 xpC xpW e7 n:=(aou n).1
def aZj (n:Nat):cP 41 qyC qyW ii n:=(aou n).2.1
def a7n (n:Nat):cP 56 cdC cdW aMH n:=by
 intro cs m hm h
 obtain⟨ps,ws,rfl,hp,hl,hx,hs⟩:=h.struct_inv Tryz.underlying56
 have hp':ps.length=3:=hp
 have hl':ws.length=3:=hl
 clear hp hl
 obtain⟨p0,pt0,rfl,pq0⟩:=bB hp'
 obtain⟨p1,pt1,rfl,pq1⟩:=bB pq0
 obtain⟨p2,pt2,rfl,pq2⟩:=bB pq1
 obtain rfl:pt2=[]:=aJ pq2
 obtain⟨w0,wt0,rfl,wq0⟩:=bB hl'
 obtain⟨w1,wt1,rfl,wq1⟩:=bB wq0
 obtain⟨w2,wt2,rfl,wq2⟩:=bB wq1
 obtain rfl:wt2=[]:=aJ wq2
 have h0:=hx 0 (by decide) (by simp) (by simp)
 have h1:=hx 1 (by decide) (by simp) (by simp)
 have h2:=hx 2 (by decide) (by simp) (by simp)
 simp only[dM,dW] at h0 h1 h2
 simp only[bT,cT] at hs
 obtain⟨x0,rfl,a0,b0⟩:=(show cP 9 bA cU fA (m+1) from acl _) _ _ (by omega) h0
 obtain⟨x1,rfl,a1,b1⟩:=(show cP 3 abj d8 I64 (m+1) from ahH _) _ _ (by omega) h1
 obtain⟨x2,rfl,a2,b2⟩:=(show cP 4 aan d8 fA (m+1) from agf _) _ _ (by omega) h2
 refine⟨⟨x0,x1,x2⟩,?_,?_,?_⟩
 .simp[cdC]
 .simp only[cdW]
  omega
 .exact⟨b0,b1,b2⟩
def a7m (n:Nat):cP 58 kdC kdW aMy n:=by
 intro cs m hm h
 obtain⟨ps,ws,rfl,hp,hl,hx,hs⟩:=h.struct_inv Tryz.underlying58
 have hp':ps.length=2:=hp
 have hl':ws.length=2:=hl
 clear hp hl
 obtain⟨p0,pt0,rfl,pq0⟩:=bB hp'
 obtain⟨p1,pt1,rfl,pq1⟩:=bB pq0
 obtain rfl:pt1=[]:=aJ pq1
 obtain⟨w0,wt0,rfl,wq0⟩:=bB hl'
 obtain⟨w1,wt1,rfl,wq1⟩:=bB wq0
 obtain rfl:wt1=[]:=aJ wq1
 have h0:=hx 0 (by decide) (by simp) (by simp)
 have h1:=hx 1 (by decide) (by simp) (by simp)
 simp only[dM,dW] at h0 h1
 simp only[bT,cT] at hs
 obtain⟨x0,rfl,a0,b0⟩:=(show cP 4 aan d8 fA (m+1) from agf _) _ _ (by omega) h0
 obtain⟨x1,rfl,a1,b1⟩:=(show cP 23 (lsC bA) (lsW cU) (lsP fA) (m+1) from (cP.list (acl _) Tryz.underlying23).mono (du _)) _ _ (by omega) h1
 refine⟨⟨x0,x1⟩,?_,?_,?_⟩
 .simp[kdC]
 .simp only[kdW]
  omega
 .exact⟨b0,b1⟩
def a7k (n:Nat):cP 145 rdC rdW aMq n:=by
 intro cs m hm h
 obtain⟨ps,ws,rfl,hp,hl,hx,hs⟩:=h.struct_inv Tryz.underlying145
 have hp':ps.length=3:=hp
 have hl':ws.length=3:=hl
 clear hp hl
 obtain⟨p0,pt0,rfl,pq0⟩:=bB hp'
 obtain⟨p1,pt1,rfl,pq1⟩:=bB pq0
 obtain⟨p2,pt2,rfl,pq2⟩:=bB pq1
 obtain rfl:pt2=[]:=aJ pq2
 obtain⟨w0,wt0,rfl,wq0⟩:=bB hl'
 obtain⟨w1,wt1,rfl,wq1⟩:=bB wq0
 obtain⟨w2,wt2,rfl,wq2⟩:=bB wq1
 obtain rfl:wt2=[]:=aJ wq2
 have h0:=hx 0 (by decide) (by simp) (by simp)
 have h1:=hx 1 (by decide) (by simp) (by simp)
 have h2:=hx 2 (by decide) (by simp) (by simp)
 simp only[dM,dW] at h0 h1 h2
 simp only[bT,cT] at hs
 obtain⟨x0,rfl,a0,b0⟩:=(show cP 23 (lsC bA) (lsW cU) (lsP fA) (m+1) from (cP.list (acl _) Tryz.underlying23).mono (du _)) _ _ (by omega) h0
 obtain⟨x1,rfl,a1,b1⟩:=(show cP 9 bA cU fA (m+1) from acl _) _ _ (by omega) h1
 obtain⟨x2,rfl,a2,b2⟩:=(show cP 23 (lsC bA) (lsW cU) (lsP fA) (m+1) from (cP.list (acl _) Tryz.underlying23).mono (du _)) _ _ (by omega) h2
 refine⟨⟨x0,x1,x2⟩,?_,?_,?_⟩
 .simp[rdC]
 .simp only[rdW]
  omega
 .exact⟨b0,b1,b2⟩
def a7o (n:Nat):cP 54 asC asW aFf n:=by
 intro cs m hm h
 obtain⟨ps,ws,rfl,hp,hl,hx,hs⟩:=h.struct_inv Tryz.underlying54
 have hp':ps.length=2:=hp
 have hl':ws.length=2:=hl
 clear hp hl
 obtain⟨p0,pt0,rfl,pq0⟩:=bB hp'
 obtain⟨p1,pt1,rfl,pq1⟩:=bB pq0
 obtain rfl:pt1=[]:=aJ pq1
 obtain⟨w0,wt0,rfl,wq0⟩:=bB hl'
 obtain⟨w1,wt1,rfl,wq1⟩:=bB wq0
 obtain rfl:wt1=[]:=aJ wq1
 have h0:=hx 0 (by decide) (by simp) (by simp)
 have h1:=hx 1 (by decide) (by simp) (by simp)
 simp only[dM,dW] at h0 h1
 simp only[bT,cT] at hs
 obtain⟨x0,rfl,a0,b0⟩:=(show cP 9 bA cU fA (m+1) from acl _) _ _ (by omega) h0
 obtain⟨x1,rfl,a1,b1⟩:=(show cP 45 xpC xpW e7 (m+1) from avK _) _ _ (by omega) h1
 refine⟨⟨x0,x1⟩,?_,?_,?_⟩
 .simp[asC]
 .simp only[asW]
  omega
 .exact⟨b0,b1⟩
def a7j (n:Nat):cP 31 smC smW abz n:=by
 intro cs m hm h
 obtain⟨ps,ws,rfl,hp,hl,hx,hs⟩:=h.struct_inv Tryz.underlying31
 have hp':ps.length=13:=hp
 have hl':ws.length=13:=hl
 clear hp hl
 obtain⟨p0,pt0,rfl,pq0⟩:=bB hp'
 obtain⟨p1,pt1,rfl,pq1⟩:=bB pq0
 obtain⟨p2,pt2,rfl,pq2⟩:=bB pq1
 obtain⟨p3,pt3,rfl,pq3⟩:=bB pq2
 obtain⟨p4,pt4,rfl,pq4⟩:=bB pq3
 obtain⟨p5,pt5,rfl,pq5⟩:=bB pq4
 obtain⟨p6,pt6,rfl,pq6⟩:=bB pq5
 obtain⟨p7,pt7,rfl,pq7⟩:=bB pq6
 obtain⟨p8,pt8,rfl,pq8⟩:=bB pq7
 obtain⟨p9,pt9,rfl,pq9⟩:=bB pq8
 obtain⟨p10,pt10,rfl,pq10⟩:=bB pq9
 obtain⟨p11,pt11,rfl,pq11⟩:=bB pq10
 obtain⟨p12,pt12,rfl,pq12⟩:=bB pq11
 obtain rfl:pt12=[]:=aJ pq12
 obtain⟨w0,wt0,rfl,wq0⟩:=bB hl'
 obtain⟨w1,wt1,rfl,wq1⟩:=bB wq0
 obtain⟨w2,wt2,rfl,wq2⟩:=bB wq1
 obtain⟨w3,wt3,rfl,wq3⟩:=bB wq2
 obtain⟨w4,wt4,rfl,wq4⟩:=bB wq3
 obtain⟨w5,wt5,rfl,wq5⟩:=bB wq4
 obtain⟨w6,wt6,rfl,wq6⟩:=bB wq5
 obtain⟨w7,wt7,rfl,wq7⟩:=bB wq6
 obtain⟨w8,wt8,rfl,wq8⟩:=bB wq7
 obtain⟨w9,wt9,rfl,wq9⟩:=bB wq8
 obtain⟨w10,wt10,rfl,wq10⟩:=bB wq9
 obtain⟨w11,wt11,rfl,wq11⟩:=bB wq10
 obtain⟨w12,wt12,rfl,wq12⟩:=bB wq11
 obtain rfl:wt12=[]:=aJ wq12
 have h0:=hx 0 (by decide) (by simp) (by simp)
 have h1:=hx 1 (by decide) (by simp) (by simp)
 have h2:=hx 2 (by decide) (by simp) (by simp)
 have h3:=hx 3 (by decide) (by simp) (by simp)
 have h4:=hx 4 (by decide) (by simp) (by simp)
 have h5:=hx 5 (by decide) (by simp) (by simp)
 have h6:=hx 6 (by decide) (by simp) (by simp)
 have h7:=hx 7 (by decide) (by simp) (by simp)
 have h8:=hx 8 (by decide) (by simp) (by simp)
 have h9:=hx 9 (by decide) (by simp) (by simp)
 have h10:=hx 10 (by decide) (by simp) (by simp)
 have h11:=hx 11 (by decide) (by simp) (by simp)
 have h12:=hx 12 (by decide) (by simp) (by simp)
 simp only[dM,dW] at h0 h1 h2 h3 h4 h5 h6 h7 h8 h9 h10 h11 h12
 simp only[bT,cT] at hs
 obtain⟨x0,rfl,a0,b0⟩:=(show cP 3 abj d8 I64 (m+1) from ahH _) _ _ (by omega) h0
 obtain⟨x1,rfl,a1,b1⟩:=(show cP 9 bA cU fA (m+1) from acl _) _ _ (by omega) h1
 obtain⟨x2,rfl,a2,b2⟩:=(show cP 9 bA cU fA (m+1) from acl _) _ _ (by omega) h2
 obtain⟨x3,rfl,a3,b3⟩:=(show cP 22 (lsC cdC) (lsW cdW) (lsP aMH) (m+1) from (cP.list (a7n _) Tryz.underlying22).mono (du _)) _ _ (by omega) h3
 obtain⟨x4,rfl,a4,b4⟩:=(show cP 23 (lsC bA) (lsW cU) (lsP fA) (m+1) from (cP.list (acl _) Tryz.underlying23).mono (du _)) _ _ (by omega) h4
 obtain⟨x5,rfl,a5,b5⟩:=(show cP 4 aan d8 fA (m+1) from agf _) _ _ (by omega) h5
 obtain⟨x6,rfl,a6,b6⟩:=(show cP 24 (lsC kdC) (lsW kdW) (lsP aMy) (m+1) from (cP.list (a7m _) Tryz.underlying24).mono (du _)) _ _ (by omega) h6
 obtain⟨x7,rfl,a7,b7⟩:=(show cP 25 (lsC rdC) (lsW rdW) (lsP aMq) (m+1) from (cP.list (a7k _) Tryz.underlying25).mono (du _)) _ _ (by omega) h7
 obtain⟨x8,rfl,a8,b8⟩:=(show cP 26 (lsC xpC) (lsW xpW) (lsP e7) (m+1) from (cP.list (avK _) Tryz.underlying26).mono (du _)) _ _ (by omega) h8
 obtain⟨x9,rfl,a9,b9⟩:=(show cP 27 (lsC (lsC xpC)) (lsW (lsW xpW)) (lsP (lsP e7)) (m+1) from (cP.list ((cP.list (avK _) Tryz.underlying26).mono (du _)) Tryz.underlying27).mono (du _)) _ _ (by omega) h9
 obtain⟨x10,rfl,a10,b10⟩:=(show cP 28 (lsC asC) (lsW asW) (lsP aFf) (m+1) from (cP.list (a7o _) Tryz.underlying28).mono (du _)) _ _ (by omega) h10
 obtain⟨x11,rfl,a11,b11⟩:=(show cP 26 (lsC xpC) (lsW xpW) (lsP e7) (m+1) from (cP.list (avK _) Tryz.underlying26).mono (du _)) _ _ (by omega) h11
 obtain⟨x12,rfl,a12,b12⟩:=(show cP 29 (lsC qyC) (lsW qyW) (lsP ii) (m+1) from (cP.list (aZj _) Tryz.underlying29).mono (du _)) _ _ (by omega) h12
 refine⟨⟨x0,x1,x2,x3,x4,x5,x6,x7,x8,x9,x10,x11,x12⟩,?_,?_,?_⟩
 .simp[smC]
 .simp only[smW]
  omega
 .exact⟨b0,b1,b2,b3,b4,b5,b6,b7,b8,b9,b10,b11,b12⟩
end Go.Proofs.YtemdljoideegeaaGreatDoor
namespace Go.Proofs.YtemdljoideegeaaGreatDoor.card
open Go Go.Pe Go.Tab Go.RowKit Go.ChangeShapes Go.WideShapes Go.ChangeAt Go.Proofs.YtemdljoideegeaaGreatDoor
def own:ownKnob Tryz.prog.godebug=none:=by kernel_rfl
def aRw:laidOutB Tryz.prog=true:=by kernel_rfl
def a7f:Tryz.prog.globalNamed adE=some 3:=by kernel_rfl
def aLD:(Tryz.prog.globals[3]?).map (·.type)=some 274:=by kernel_rfl
def aL5:Tryz.prog.cellsOf 274=20:=by kernel_rfl
def aL4:Tryz.prog.cellsOf 262=1:=by kernel_rfl
def table {W:World} {laid:List (String×DataW Unit)} (hf:(laid.filter fun x=>x.1 == adE)=[(adE,Lib.tabData .u64 Lib.pow10Tab)]) (h:laidMet Tryz.prog laid W) (hs:W.ShapedOpen Tryz.prog):GT.holds W:=by
 have h2:=h.filter fun x=>x.1 == adE
 rw[hf] at h2
 exact⟨Lib.tabIs_of_head (rest:=[]) a7f aLD Tryz.underlying274 Tryz.underlying262 aL4 aL5 h2,
  Go.Proofs.cell_of_shapedOpen_int (zero:=#[.int .i64 0]) (t:=3) hs (gK (by kernel_rfl)) (by kernel_rfl) rfl (by kernel_rfl) (by kernel_rfl) Tryz.underlying3⟩
theorem ahQ {H:Type} {enc:TypeId×Value→H} {W W':World} {sp:Nat→Bool}:∀ {ts:List TypeId} {vs:List Value} {ds:List (DataW H)} {ps:List MemPlace},(∀ t∈ts,Tryz.prog.readableRec t=true∧t<Tryz.prog.types.size) →
  DataW.TrodAll enc Tryz.prog W 0 (fun _=>true) true ts vs ds ps→(∀ p∈ps,W.sameAt W' p)→(∀ p∈ps,sp p.block=true)→DataW.TrodAll enc Tryz.prog W' 0 sp true ts vs ds ps
 | [],[],[],_,_,h,_,_=>h
 | _::_,_::_,_::_,_,hT,⟨p,q,h1,h2,e⟩,hs,hsp =>
  ⟨p,q,WideElems.Trod_stays aRw (hT _ (cX.2 (.inl rfl))).1 (hT _ (cX.2 (.inl rfl))).2 h1 (fun x hx=>hs x (by rw[e];exact acG _ hx)) (fun x hx=>hsp x (by rw[e];exact acG _ hx)),
   ahQ (fun t ht=>hT t (cX.2 (.inr ht))) h2 (fun x hx=>hs x (by rw[e];exact List.mem_append_right _ hx)) (fun x hx=>hsp x (by rw[e];exact List.mem_append_right _ hx)),e⟩
def a7x {W:World} (h:GT.holds W) {c:Nat} (hc:GT.blk c):c<W.heap.size:=by
 obtain⟨h1,m,h2⟩:=h
 rcases hc with hc|rfl
 .unfold Lib.TabIs World.var? at h1
  rw[hc] at h1
  simp only[dD] at h1
  rcases ap c W.heap.size with h3|h3
  .exact h3
  .rw[Array.getElem?_eq_none h3] at h1
   cases h1
 .exact World.block_lt_of_cell? (a:=⟨0,0,none⟩) W h2
def axd (hpr:PrSound Tryz.prog GT pr) {f:Nat} {xs:List X} {u:Value} (h:G1 f xs (.of (.lit u))) {fn:Func} (hfn:Tryz.prog.funcs[f]?=some fn) {W:World} (hT:GT.holds W) {m:Mem}
  (hm:∀ b o v,m b o=some v→W.cell? ⟨b,o,none⟩=some v∧v.oneCell'=true) {vs:List Value} (hvs:bz ⟨m,fun _=>none⟩ (fun _=>none) xs vs) :
  Calls Tryz.prog f vs.toArray W fun e W'=>e=.returned u∧Below W.heap.size W W':=by
 have hG:¬ ∃ c,abp ⟨m,fun _=>none⟩ (fun _=>none) c:=by
  rintro⟨c,⟨r,hr⟩|⟨t,v,e,z,n,ht,_⟩⟩
  .cases hr
  .cases ht
 have hp:Hp ⟨GT,m,abp ⟨m,fun _=>none⟩ (fun _=>none)⟩ ⟨m,fun _=>none⟩ (fun _=>none) W W []:={
  good:=⟨hT,fun c hc=>⟨a7x hT hc,fun hm=>hG ⟨c,hm⟩⟩⟩
  below:=Keeps.refl _ _
  mem:=hm
  obj:=fun r ob hr=>by simp at hr
  dom:=fun r c hr=>by cases hr
  inj:=fun r r' c hr=>by cases hr
  tok:=fun t v e z n ht=>by cases ht
  tokne:=fun t t' v e z n v' e' z' n' ht=>by cases ht
  m0:=fun c o v hv _ _=>hv}
 refine (h.sound mixed hpr fn hfn ⟨m,fun _=>none⟩ (fun _=>none) W vs hp (fun t p ht=>by cases ht) (fun r off p ht=>by cases ht) hvs).mono ?_
 rintro e W' ⟨k',ow',us,he,hp',_,_,_,_,_,hus⟩
 simp only[bz,bj,Rep] at hus
 obtain⟨v,r,rfl,⟨rfl,_⟩,rfl⟩:=hus
 refine⟨he,?_⟩
 have hb:=hp'.below
 exact⟨hb.os,hb.tape,hb.output,hb.size,fun c hc=>hb.block c hc fun hm=>hG ⟨c,hm⟩⟩
def kOf (W:World):Know:=⟨afL W,fun _=>none⟩
def arB {f:Nat} {xs:List X} {b:Bool} (h:G1 f xs (aG b)) {fn:Func} (hfn:Tryz.prog.funcs[f]?=some fn) {W:World} (hT:GT.holds W) {vs:List Value} (hvs:bz (kOf W) (fun _=>none) xs vs) :
  Calls Tryz.prog f vs.toArray W fun e W'=>e=.returned (.bool b)∧Below W.heap.size W W' :=
 axd aKT h hfn hT (fun _ _ _ hv=>aG7 hv) hvs
def au4:DataW Unit→Array Value
 | .agg l=>(l.map fun d=>match d with
  | .lit (.int k n)=>Value.int k n
  | _=>undef).toArray
 | _=>#[]
def aiC (vs:Array Value):Obj→Obj
 | .cells _ t frozen=>.cells vs t frozen
 | o=>o
def aHf:DataW Unit→Value
 | .lit (.int k n)=>.int k n
 | _=>undef
def aWu:DataW Unit→List Value
 | .agg l=>l.map aHf
 | d=>[aHf d]
def ayn:DataW Unit→Array Value
 | .agg l=>(l.map aWu).flatten.toArray
 | _=>#[]
noncomputable def agd (os:Os):World :=
 {World.holding Tryz.prog os ⟨#[],#[],[]⟩ with heap:=(((((World.holding Tryz.prog os ⟨#[],#[],[]⟩).heap.modify 3 (aiC (au4 Rows.laid_internal_strconv_uint64pow10))).modify 4 (aiC (au4 Rows.laid_math_bits_deBruijn32tab))).modify 5 (aiC (au4 Rows.laid_math_bits_deBruijn64tab))).modify 1 (aiC (ayn Rows.laid_unicode_utf8_first))).modify 2 (aiC (ayn Rows.laid_unicode_utf8_acceptRanges))}
def aUY {x:TypeId} (hx:Tryz.prog.readableRec x=true∧x<Tryz.prog.types.size):∀ t∈[x],Tryz.prog.readableRec t=true∧t<Tryz.prog.types.size:=by
 intro t ht
 obtain rfl:=adt.1 ht
 exact hx
def aT1 {x y:TypeId} (hx:Tryz.prog.readableRec x=true∧x<Tryz.prog.types.size) (hy:Tryz.prog.readableRec y=true∧y<Tryz.prog.types.size):∀ t∈[x,y],Tryz.prog.readableRec t=true∧t<Tryz.prog.types.size:=by
 intro t ht
 simp only[cX,aai,eV] at ht
 rcases ht with rfl|rfl
 .exact hx
 .exact hy
def aUz:Tryz.prog.readableRec 31=true∧31<Tryz.prog.types.size:=⟨by kernel_rfl,gK (by kernel_rfl)⟩
def aQ2:Tryz.prog.readableRec 41=true∧41<Tryz.prog.types.size:=⟨by kernel_rfl,gK (by kernel_rfl)⟩
def aY9:Tryz.prog.readableRec 45=true∧45<Tryz.prog.types.size:=⟨by kernel_rfl,gK (by kernel_rfl)⟩
def a4K {H:Type} {d0:DataW H} (h:Rows.uptoSmall H [d0]=true):Rows.uptoBulk d0≤1048576:=by
 have:=gK h
 simp only[Rows.uptoBulkAll] at this
 omega
def a4J {H:Type} {d0 d1:DataW H} (h:Rows.uptoSmall H [d0,d1]=true):Rows.uptoBulk d0≤1048575∧Rows.uptoBulk d1≤1048575:=by
 have:=gK h
 simp only[Rows.uptoBulkAll] at this
 have h0:=auF d0
 have h1:=auF d1
 omega
def aIK:List TypeId:=[3,4,9,23,43,64,39,45,26,41,29,60,37,62,38,56,22,58,24,145,25,54,28,27,31]
def aXF:aNI Tryz.prog aIK=true:=by kernel_rfl
section
variable {H:Type} {enc:TypeId×Value→H} {W:World} {spare:Nat→Bool} {held:Bool} {base:Nat} {v:Value} {d:DataW H} {ps:List MemPlace} {t:TypeId}
theorem an3 {fs:Array Field} (hu:Tryz.prog.underlying t=some (.struct fs)) (ht:t∈aIK) (hd:DataW.Trod enc Tryz.prog W 0 spare held t v d ps) (hok:Value.okWide Tryz.prog W .any base t v):∃ g:List C,Rep (afL W) (.agg g) v∧Pl Tryz.prog t g (Rows.uptoBulk d):=by
 obtain⟨cs,rfl,_⟩:=okWide_struct hu hok
 obtain⟨fuel,h⟩:=hd
 obtain⟨g,g1,g2,g3⟩:=ayd aXF fuel t _ _ ht h
 simp only[Value.cells] at g1 g2
 exact⟨g,⟨_,rfl,g2,g1⟩,g3⟩
theorem aQK {g:List C} {m:Nat} (q:Pl Tryz.prog 31 g m) {B:Nat} (hm:m≤B):∃ s,g=smC s∧abz s∧smW s≤B:=by
 obtain⟨s,rfl,h1,h2⟩:=a7j (m+1) g m (adV m) q
 exact⟨s,rfl,h2,aaS h1 hm⟩
theorem aQZ {g:List C} {m:Nat} (q:Pl Tryz.prog 41 g m) {B:Nat} (hm:m≤B):∃ s,g=qyC s∧ii s∧qyW s≤B:=by
 obtain⟨s,rfl,h1,h2⟩:=aZj (m+1) g m (adV m) q
 exact⟨s,rfl,h2,aaS h1 hm⟩
theorem aQe {g:List C} {m:Nat} (q:Pl Tryz.prog 45 g m) {B:Nat} (hm:m≤B):∃ s,g=xpC s∧e7 s∧xpW s≤B:=by
 obtain⟨s,rfl,h1,h2⟩:=avK (m+1) g m (adV m) q
 exact⟨s,rfl,h2,aaS h1 hm⟩
end
end Go.Proofs.YtemdljoideegeaaGreatDoor.card
namespace Go.Pe
open Go Go.Tab
def aCO {α:Type} (o:Option α) (A:α→Prop) (B:Prop):Prop:=match o with
 | some a=>A a
 | none=>B
def arC {α:Type} (a:α) (A:α→Prop) (B:Prop):aCO (some a) A B↔A a:=cY
def aQ9 {α:Type} {o o':Option α} (A:α→Prop) (B:Prop) (h:Unit→o=o'):aCO o A B=aCO o' A B:=by rw[h ()]
attribute [congr] aQ9
def ifP (p:Prop) (A B:Prop):Prop:=(p∧A)∨(¬p∧B)
def aj0 {p A B:Prop} (h:p):ifP p A B↔A:=by simp[ifP,h]
def avp (A B:Prop):ifP True A B↔A:=by simp[ifP]
def aWI {p p':Prop} (A B:Prop) (h:Unit→p=p'):ifP p A B=ifP p' A B:=by rw[h ()]
attribute [congr] aWI
def abW (P:Program) (pr:Pr) (f:Nat) (xs:List X) (K:An→Prop):Prop:=bp P pr f xs [] K
def adG {P:Program} {pr:Pr} {f:Nat} {xs:List X} {p:Prop} {an:An} (h:p→aN P pr f xs [] an) (K:An→Prop):bp P pr f xs [] K↔ifP p (K an) (abW P pr f xs K):=by
 by_cases hp:p
 .rw[aj0 hp];exact aN.k (h hp) K
 .simp only[ifP,hp,bD,jq,cW,fp];exact cY
def a1M {α:Type} (f:α→List C) (l:List α):C.sl (fl f l) l.length=slC f l:=rfl
def aXG {α:Type} (f:α→List C):fl f []=[]:=rfl
def aXH {α:Type} (f:α→List C) (a b:List α):fl f (a++b)=fl f a++fl f b:=by simp[fl]
def aIL {α:Type} (f:α→List C) (a:α):fl f [a]=f a:=by simp[fl]
def aj2 {α:Type} (f:α→List C) (a:α) (l:List α):fl f (a::l)=f a++fl f l:=by simp[fl]
theorem ami {α:Type} {f:α→List C} {z:Nat} (hf:∀ x,(f x).length=z):∀ l:List α,(fl f l).length=l.length*z
 | []=>by simp[fl]
 | a::l=>by rw[aj2,av,hf,ami hf l,aB,adT,hZ]
theorem aqU {α:Type} {f:α→List C} {z:Nat} (hf:∀ x,(f x).length=z):∀ (l:List α) (k:Nat),(fl f l).drop (k*z)=fl f (l.drop k)
 | l,0=>by simp
 | [],k+1=>by simp[fl]
 | a::l,k+1=>by
  rw[aj2,aaq,← aqU hf l k,adT,hZ,← ac9,List.drop_append_of_le_length (by rw[hf];exact aM _),(show (f a).drop z=[] from fh (by rw[hf];exact aM _)),bw]
theorem aAP {α:Type} {f:α→List C} {z:Nat} (hf:∀ x,(f x).length=z):∀ (l:List α) (k:Nat),(fl f l).take (k*z)=fl f (l.take k)
 | l,0=>by simp[fl]
 | [],k+1=>by simp[fl]
 | a::l,k+1=>by
  rw[aj2,abD,aj2,← aAP hf l k,adT,hZ,List.take_append,hf,ja (by rw[hf];omega)]
  congr 2
  omega
def dE {α:Type} (l:List α) (i:Int):Option α:=if 0≤i then l[i.toNat]? else none
def aLC {α:Type} (l:List α) (k:Nat):dE l (k:Int)=l[k]?:=by simp[dE]
def bq {α:Type} {l:List α} {k:Nat} (h:k<l.length):dE l (k:Int)=some l[k]:=by rw[aLC,List.getElem?_eq_getElem h]
def acb {α:Type} (o:Option α) (g:α→X):Out:=match o with
 | some a=>out (g a)
 | none=>none
def aF5 {α:Type} (s:S) (d:Option Nat) (af:Array Edge) (K:S→Prop) (o:Option α) (g:α→X):aaQ s d af K (acb o g)↔aCO o (fun a=>K (s.put d (g a))) False:=by
 cases o <;> exact cY
def adc {T:TT} {t e:Nat} {d:TD} (h:elemOf T t=some (e,d)) {α:Type} {f:α→List C} (hf:∀ x,(f x).length=d.size) (hz:0<d.size) (l:List α) (i:Int) :
  dG T t (.of (slC f l)) (.of (.lit (.int .i64 i)))=acb (dE l i) fun x=>.of (.ref (f x++fl f (l.drop (i.toNat+1)))):=by
 rw[abk h (fl f l) l.length i _ rfl]
 unfold dE
 by_cases h0:0≤i
 .obtain⟨k,rfl⟩:=iI h0
  rw[aE (aaH k)]
  simp only[dl]
  by_cases h1:k<l.length
  .rw[aE ⟨aaH k,by omega,ami hf l,hz⟩,List.getElem?_eq_getElem h1,aqU hf,bK h1,aj2]
   rfl
  .rw[aj (fun h=>h1 (by omega)),List.getElem?_eq_none (by omega)]
   rfl
 .rw[aj (fun h=>h0 h.1),aj h0]
  rfl
def alQ {α:Type} (l:List α) (lo hi:Int):Option (List α):=if 0≤lo∧lo≤hi∧hi≤l.length then some ((l.take hi.toNat).drop lo.toNat) else none
def aFK {T:TT} {t e:Nat} {d:TD} (h:elemOf T t=some (e,d)) {α:Type} {f:α→List C} (hf:∀ x,(f x).length=d.size) (l:List α) (lo hi:Option X) (a b:Int) (ha:acY 0 lo=some a) (hb:acY (l.length:Int) hi=some b) :
  aao T t (.of (slC f l)) lo hi=acb (alQ l a b) fun q=>.of (slC f q):=by
 have hl:=ami hf l
 unfold aao
 simp only[slC,h,acL,ha,hb]
 unfold alQ
 by_cases hc:0≤a∧a≤b∧b≤(l.length:Int)
 .rw[aE ⟨hc.1,hc.2.1,hc.2.2,hl⟩,aE hc]
  obtain⟨p,rfl⟩:=iI hc.1
  obtain⟨q,rfl⟩:=iI (Int.le_trans hc.1 hc.2.1)
  simp only[dl,acb]
  rw[aqU hf,aAP hf,aeL]
  congr 3
  simp only[aaj,iV]
  omega
 .rw[aj (fun h=>hc ⟨h.1,h.2.1,h.2.2.1⟩),aj hc]
  rfl
def aKD {T:TT} {t e:Nat} {d:TD} (h:elemOf T t=some (e,d)) {α:Type} {f:α→List C} (hf:∀ x,(f x).length=d.size) (l:List α) (a:Int):aao T t (.of (slC f l)) (some (.of (.lit (.int .i64 a)))) none=acb (alQ l a l.length) fun q=>.of (slC f q):=aFK h hf l _ _ a l.length rfl rfl
def ac2 {u:Option TypeDesc} {α:Type} (f:α→List C) (l:List α) (h:att u=true):abx u (.of (slC f l))=out (aU l.length):=by
 simp only[abx,slC,acL,h,aA]
def amA {T:TT} {t e:Nat} {d:TD} (h:elemOf T t=some (e,d)) (hz:0<d.size) (hb:d.bytes≤32768) (tk tk':Tk) (cs0:List C) (n:Nat) (y:X) (cs:List C) (m:Nat) (hy:acL y=some (cs,m)) :
  js T tk t t (.own tk' e d.size cs0 n) y=if cs.length=m*d.size∧n+m≤LIM then some (.own tk e d.size (cs0++cs) (n+m),some tk') else none:=by
 simp only[js,agQ,h,hy,aA]
 by_cases h1:cs.length=m*d.size
 .by_cases h2:n+m≤LIM
  .simp only[h1,h2,hz,hb,da,aA]
  .simp only[h1,h2,hz,da,aA,bD,bJ,aQ]
 .simp only[h1,bD,aQ]
def aTw {T:TT} {t e:Nat} {d:TD} (h:elemOf T t=some (e,d)) (hz:0<d.size) (hb:d.bytes≤32768) (tk:Tk) (y:X) (cs:List C) (m:Nat) (hy:acL y=some (cs,m)) :
  js T tk t t .nil y=if cs.length=m*d.size∧m≤LIM then some (.own tk e d.size cs m,none) else none:=by
 simp only[js,agQ,h,hy,aA]
 by_cases h1:cs.length=m*d.size
 .by_cases h2:m≤LIM
  .simp only[h1,h2,hz,hb,da,aA]
  .rw[aE ⟨h1,hz⟩,aj (fun h=>h2 h.1),aj (fun h=>h2 h.2)]
 .simp only[h1,bD,aQ]
def ahJ {T:TT} {t e:Nat} {d:TD} (h:elemOf T t=some (e,d)) (hz:0<d.size) (hd:d.size≤1000) (hl:d.zero.length=d.size) (tk:Tk) (xs:List X) :
  dY tk 1 (elemOf T t) (some [(0,xs)])=if xs.length=d.size then dB ((X.rds xs).map fun cs=>.own tk e d.size cs 1) else none:=by
 have h1:(ik d).length=d.size:=by simp[ik,hl]
 simp only[dY,h,Nat.one_mul,List.replicate_one,List.flatten_singleton,hz,hl,da,gh]
 rw[aE (by omega)]
 simp only[iY,af0,bd,h1]
 by_cases hx:xs.length=d.size
 .rw[aE ⟨hx,aM _⟩,aE hx]
  simp only[ahD,bw]
  rw[fh (by omega),cD]
  cases X.rds xs <;> rfl
 .rw[aj (fun h=>hx h.1),aj hx]
def acw (l:List UInt8):(aD l).size=l.length:=by simp[aD,ByteArray.size]
def avm {T:TT} {t:Nat} (hT:(T t).map (·.und)=some .string) (s:List UInt8) (i:Int):adb T t (.of (.lit (.string (aD s)))) (.of (.lit (.int .i64 i)))=acb (dE s i) fun c=>.of (.lit (.int .u8 (c.toNat:Nat))):=by
 rw[arP hT,acw]
 unfold dE
 by_cases h0:0≤i
 .obtain⟨k,rfl⟩:=iI h0
  simp only[dl,aaH,cW,aA]
  by_cases h1:k<s.length
  .rw[aE h1,List.getElem?_eq_getElem h1]
   simp only[acb,at8]
   congr 5
   show ((aD s).data.toList.getD k 0).toNat=_
   simp[aD,List.getD_eq_getElem?_getD,List.getElem?_eq_getElem h1]
  .rw[aj h1,List.getElem?_eq_none (by omega)]
   rfl
 .rw[aj (fun h=>h0 h.1),aj h0]
  rfl
def zE:=ai @arC @avp
def zB:=ai (ai (ai (ai (ai (ai @af0 @List.length_map.{0,0}) (ai @bD @bJ)) (ai (ai @Nat.le_add_right @aM) (ai @eI @dh))) (ai (ai (ai @dK @aX) (ai @aZ @dv)) (ai (ai @eZ @Option.isNone_none.{0}) (ai @Option.isNone_some.{0} (ai @List.any_cons.{0} @List.any_nil.{0}))))) (ai (ai (ai (ai @cO @Int.cast_ofNat_Int) (ai @List.drop_succ_cons.{0} @List.take_succ_cons.{0})) (ai (ai @List.singleton_append.{0} @bd) (ai @List.set_cons_zero.{0} (ai @List.set_cons_succ.{0} @List.drop_nil.{0})))) (ai (ai (ai @List.take_nil.{0} @Option.map_some.{0,0}) (ai @Option.map_none.{0,0} @Option.getD_some.{0})) (ai (ai @Option.getD_none.{0} @Option.bind_some.{0,0}) (ai @List.cons_append.{0} (ai @List.nil_append.{0} @List.append_nil.{0})))))) (ai (ai (ai (ai (ai @List.map_cons.{0,0} @List.map_nil.{0,0}) (ai @List.range_zero @List.take_zero.{0})) (ai (ai @List.flatten_nil.{0} @List.filter_nil.{0}) (ai @List.length_nil.{0} @List.length_cons.{0}))) (ai (ai (ai @List.drop_zero.{0} @List.not_mem_nil.{0}) (ai @List.mem_cons.{0} @abV)) (ai (ai @aW @List.getElem?_toArray.{0}) (ai @List.toList_toArray.{0} (ai @List.getElem?_cons_zero.{0} @List.getElem?_cons_succ.{0}))))) (ai (ai (ai (ai @ar @beq_self_eq_true.{0}) (ai @beq_true @beq_false)) (ai (ai @bG @bE) (ai @fk (ai @dZ @cW)))) (ai (ai (ai @gh @eV) (ai @fp @ab)) (ai (ai @jq @List.append_assoc.{0}) (ai @List.length_append.{0} (ai @Tk.nm.injEq @Tk.cell.injEq))))))
end Go.Pe
namespace Go.Tab
open Go Go.Pe
structure Nn where
 nd:Int
 dp:Int
 deriving DecidableEq
def nnC (x:Nn):List C:=[ci x.nd,ci x.dp]
def auV (x:Nn):nnC x=[ci x.nd,ci x.dp]:=rfl
def aRk (x:Nn):(nnC x).length=2:=rfl
structure Sz where
 nd:Int
 dp:Int
 deriving DecidableEq
def szC (x:Sz):List C:=[ci x.nd,ci x.dp]
def atU (x:Sz):szC x=[ci x.nd,ci x.dp]:=rfl
def aQl (x:Sz):(szC x).length=2:=rfl
structure Sh where
 le:Int
 mo:Int
 su:Int
 deriving DecidableEq
def shC (x:Sh):List C:=[ci x.le,ci x.mo,ci x.su]
def at9 (x:Sh):shC x=[ci x.le,ci x.mo,ci x.su]:=rfl
def aQO (x:Sh):(shC x).length=3:=rfl
end Go.Tab
namespace Go.Proofs.YtemdljoideegeaaGreatDoor
open Go Go.Pe Go.Tab
def a1T (x:Od):C.ref (odC x)=C.ref [aH (aD x.nm),ci x.pl,cb x.dn]:=by rw[ajR]
def a17 (x:Od) (r:List C):C.ref (odC x++r)=C.ref (aH (aD x.nm)::ci x.pl::cb x.dn::r):=by rw[ajR];rfl
def a4S (x:Od):(odC x).map X.of=[.of (aH (aD x.nm)),.of (ci x.pl),.of (cb x.dn)]:=by rw[ajR];rfl
def a4h (anm:List UInt8) (apl:Int) (adn:Bool):C.agg [aH (aD anm),ci apl,cb adn]=C.agg (odC ⟨anm,apl,adn⟩):=by rw[ajR]
def a4w (x:Od):Od.mk x.nm x.pl x.dn=x:=rfl
def a1N (x:Xp):C.ref (xpC x)=C.ref [ci x.op,ci x.v.k,ci x.v.n,aH x.v.s,aH (aD x.tb),aH (aD x.nm),cb x.di,slC xpC x.ks,slC qyC x.sb]:=by rw[adC]
def a14 (x:Xp) (r:List C):C.ref (xpC x++r)=C.ref (ci x.op::ci x.v.k::ci x.v.n::aH x.v.s::aH (aD x.tb)::aH (aD x.nm)::cb x.di::slC xpC x.ks::slC qyC x.sb::r):=by rw[adC];rfl
def a4M (x:Xp):(xpC x).map X.of=[.of (ci x.op),.of (ci x.v.k),.of (ci x.v.n),.of (aH x.v.s),.of (aH (aD x.tb)),.of (aH (aD x.nm)),.of (cb x.di),.of (slC xpC x.ks),.of (slC qyC x.sb)]:=by rw[adC];rfl
def a4b (aop:Int) (avk avn:Int) (avs:ByteArray) (atb:List UInt8) (anm:List UInt8) (adi:Bool) (aks:List Xp) (asb:List Qy):C.agg [ci aop,ci avk,ci avn,aH avs,aH (aD atb),aH (aD anm),cb adi,slC xpC aks,slC qyC asb]=C.agg (xpC (.mk aop ⟨avk,avn,avs⟩ atb anm adi aks asb)):=by rw[adC];rfl
def aDX (x:Xp):Xp.mk x.op x.v x.tb x.nm x.di x.ks x.sb=x:=by cases x;rfl
section
variable (op:Int) (v:V) (tb:List UInt8) (nm:List UInt8) (di:Bool) (ks:List Xp) (sb:List Qy)
theorem aKX:(Xp.mk op v tb nm di ks sb).op=op:=rfl
theorem aQ4:(Xp.mk op v tb nm di ks sb).v=v:=rfl
theorem aKV:(Xp.mk op v tb nm di ks sb).tb=tb:=rfl
theorem aKY:(Xp.mk op v tb nm di ks sb).nm=nm:=rfl
theorem aK0:(Xp.mk op v tb nm di ks sb).di=di:=rfl
theorem aKZ:(Xp.mk op v tb nm di ks sb).ks=ks:=rfl
theorem aKW:(Xp.mk op v tb nm di ks sb).sb=sb:=rfl
end
def a1S (x:Qy):C.ref (qyC x)=C.ref [ci x.op,cb x.al,slC qyC x.ks,cb x.di,slC imC x.its,slC fmC x.fr,slC xpC x.wh,slC xpC x.gr,slC xpC x.hv,slC odC x.od,ci x.li,ci x.sk]:=by rw[ajN]
def a16 (x:Qy) (r:List C):C.ref (qyC x++r)=C.ref (ci x.op::cb x.al::slC qyC x.ks::cb x.di::slC imC x.its::slC fmC x.fr::slC xpC x.wh::slC xpC x.gr::slC xpC x.hv::slC odC x.od::ci x.li::ci x.sk::r):=by rw[ajN];rfl
def a4R (x:Qy):(qyC x).map X.of=[.of (ci x.op),.of (cb x.al),.of (slC qyC x.ks),.of (cb x.di),.of (slC imC x.its),.of (slC fmC x.fr),.of (slC xpC x.wh),.of (slC xpC x.gr),.of (slC xpC x.hv),.of (slC odC x.od),.of (ci x.li),.of (ci x.sk)]:=by rw[ajN];rfl
def a4g (aop:Int) (aal:Bool) (aks:List Qy) (adi:Bool) (aits:List Im) (afr:List Fm) (awh:List Xp) (agr:List Xp) (ahv:List Xp) (aod:List Od) (ali:Int) (ask:Int):C.agg [ci aop,cb aal,slC qyC aks,cb adi,slC imC aits,slC fmC afr,slC xpC awh,slC xpC agr,slC xpC ahv,slC odC aod,ci ali,ci ask]=C.agg (qyC (.mk aop aal aks adi aits afr awh agr ahv aod ali ask)):=by rw[ajN];rfl
def a4v (x:Qy):Qy.mk x.op x.al x.ks x.di x.its x.fr x.wh x.gr x.hv x.od x.li x.sk=x:=by cases x;rfl
def a1W (x:Im):C.ref (imC x)=C.ref [cb x.st,aH (aD x.tb),ci x.e.op,ci x.e.v.k,ci x.e.v.n,aH x.e.v.s,aH (aD x.e.tb),aH (aD x.e.nm),cb x.e.di,slC xpC x.e.ks,slC qyC x.e.sb,aH (aD x.az)]:=by rw[amf]
def a2a (x:Im) (r:List C):C.ref (imC x++r)=C.ref (cb x.st::aH (aD x.tb)::ci x.e.op::ci x.e.v.k::ci x.e.v.n::aH x.e.v.s::aH (aD x.e.tb)::aH (aD x.e.nm)::cb x.e.di::slC xpC x.e.ks::slC qyC x.e.sb::aH (aD x.az)::r):=by rw[amf];rfl
def a4V (x:Im):(imC x).map X.of=[.of (cb x.st),.of (aH (aD x.tb)),.of (ci x.e.op),.of (ci x.e.v.k),.of (ci x.e.v.n),.of (aH x.e.v.s),.of (aH (aD x.e.tb)),.of (aH (aD x.e.nm)),.of (cb x.e.di),.of (slC xpC x.e.ks),.of (slC qyC x.e.sb),.of (aH (aD x.az))]:=by rw[amf];rfl
def a4k (ast:Bool) (atb:List UInt8) (aeop:Int) (aevk aevn:Int) (aevs:ByteArray) (aetb:List UInt8) (aenm:List UInt8) (aedi:Bool) (aeks:List Xp) (aesb:List Qy) (aaz:List UInt8):C.agg [cb ast,aH (aD atb),ci aeop,ci aevk,ci aevn,aH aevs,aH (aD aetb),aH (aD aenm),cb aedi,slC xpC aeks,slC qyC aesb,aH (aD aaz)]=C.agg (imC (.mk ast atb (.mk aeop ⟨aevk,aevn,aevs⟩ aetb aenm aedi aeks aesb) aaz)):=by rw[amf];rfl
def a4y (x:Im):Im.mk x.st x.tb x.e x.az=x:=by cases x;rfl
def a1X (x:Fm):C.ref (fmC x)=C.ref [ci x.kd,aH (aD x.nm),aH (aD x.az),slC qyC x.sb,slC fmC x.ks,slC xpC x.on]:=by rw[amh]
def a2b (x:Fm) (r:List C):C.ref (fmC x++r)=C.ref (ci x.kd::aH (aD x.nm)::aH (aD x.az)::slC qyC x.sb::slC fmC x.ks::slC xpC x.on::r):=by rw[amh];rfl
def a4W (x:Fm):(fmC x).map X.of=[.of (ci x.kd),.of (aH (aD x.nm)),.of (aH (aD x.az)),.of (slC qyC x.sb),.of (slC fmC x.ks),.of (slC xpC x.on)]:=by rw[amh];rfl
def a4l (akd:Int) (anm:List UInt8) (aaz:List UInt8) (asb:List Qy) (aks:List Fm) (aon:List Xp):C.agg [ci akd,aH (aD anm),aH (aD aaz),slC qyC asb,slC fmC aks,slC xpC aon]=C.agg (fmC (.mk akd anm aaz asb aks aon)):=by rw[amh];rfl
def a4z (x:Fm):Fm.mk x.kd x.nm x.az x.sb x.ks x.on=x:=by cases x;rfl
def a1Y (x:Cd):C.ref (cdC x)=C.ref [aH (aD x.nm),ci x.ty,cb x.nn]:=by rw[aj7]
def a2c (x:Cd) (r:List C):C.ref (cdC x++r)=C.ref (aH (aD x.nm)::ci x.ty::cb x.nn::r):=by rw[aj7];rfl
def a4X (x:Cd):(cdC x).map X.of=[.of (aH (aD x.nm)),.of (ci x.ty),.of (cb x.nn)]:=by rw[aj7];rfl
def a4m (anm:List UInt8) (aty:Int) (ann:Bool):C.agg [aH (aD anm),ci aty,cb ann]=C.agg (cdC ⟨anm,aty,ann⟩):=by rw[aj7]
def a4A (x:Cd):Cd.mk x.nm x.ty x.nn=x:=rfl
def a1V (x:Kd):C.ref (kdC x)=C.ref [cb x.pr,slC bA x.ns]:=by rw[amb]
def a19 (x:Kd) (r:List C):C.ref (kdC x++r)=C.ref (cb x.pr::slC bA x.ns::r):=by rw[amb];rfl
def a4U (x:Kd):(kdC x).map X.of=[.of (cb x.pr),.of (slC bA x.ns)]:=by rw[amb];rfl
def a4j (apr:Bool) (ans:List (List UInt8)):C.agg [cb apr,slC bA ans]=C.agg (kdC ⟨apr,ans⟩):=by rw[amb]
def a4x (x:Kd):Kd.mk x.pr x.ns=x:=rfl
def a1R (x:Rd):C.ref (rdC x)=C.ref [slC bA x.ns,aH (aD x.tb),slC bA x.to]:=by rw[al0]
def a15 (x:Rd) (r:List C):C.ref (rdC x++r)=C.ref (slC bA x.ns::aH (aD x.tb)::slC bA x.to::r):=by rw[al0];rfl
def a4Q (x:Rd):(rdC x).map X.of=[.of (slC bA x.ns),.of (aH (aD x.tb)),.of (slC bA x.to)]:=by rw[al0];rfl
def a4f (ans:List (List UInt8)) (atb:List UInt8) (ato:List (List UInt8)):C.agg [slC bA ans,aH (aD atb),slC bA ato]=C.agg (rdC ⟨ans,atb,ato⟩):=by rw[al0]
def a4u (x:Rd):Rd.mk x.ns x.tb x.to=x:=rfl
def a1Z (x:As):C.ref (asC x)=C.ref [aH (aD x.nm),ci x.e.op,ci x.e.v.k,ci x.e.v.n,aH x.e.v.s,aH (aD x.e.tb),aH (aD x.e.nm),cb x.e.di,slC xpC x.e.ks,slC qyC x.e.sb]:=by rw[amz]
def a2d (x:As) (r:List C):C.ref (asC x++r)=C.ref (aH (aD x.nm)::ci x.e.op::ci x.e.v.k::ci x.e.v.n::aH x.e.v.s::aH (aD x.e.tb)::aH (aD x.e.nm)::cb x.e.di::slC xpC x.e.ks::slC qyC x.e.sb::r):=by rw[amz];rfl
def a4Y (x:As):(asC x).map X.of=[.of (aH (aD x.nm)),.of (ci x.e.op),.of (ci x.e.v.k),.of (ci x.e.v.n),.of (aH x.e.v.s),.of (aH (aD x.e.tb)),.of (aH (aD x.e.nm)),.of (cb x.e.di),.of (slC xpC x.e.ks),.of (slC qyC x.e.sb)]:=by rw[amz];rfl
def a4n (anm:List UInt8) (aeop:Int) (aevk aevn:Int) (aevs:ByteArray) (aetb:List UInt8) (aenm:List UInt8) (aedi:Bool) (aeks:List Xp) (aesb:List Qy):C.agg [aH (aD anm),ci aeop,ci aevk,ci aevn,aH aevs,aH (aD aetb),aH (aD aenm),cb aedi,slC xpC aeks,slC qyC aesb]=C.agg (asC ⟨anm,(.mk aeop ⟨aevk,aevn,aevs⟩ aetb aenm aedi aeks aesb)⟩):=by rw[amz] <;> rfl
def a4B (x:As):As.mk x.nm x.e=x:=rfl
def a1P (x:Sm):C.ref (smC x)=C.ref [ci x.kd,aH (aD x.tb),aH (aD x.nm),slC cdC x.cs,slC bA x.ns,cb x.un,slC kdC x.kys,slC rdC x.rfs,slC xpC x.chs,slC (lsC xpC) x.rws,slC asC x.sts,slC xpC x.wh,slC qyC x.q]:=by rw[iB]
def a4O (x:Sm):(smC x).map X.of=[.of (ci x.kd),.of (aH (aD x.tb)),.of (aH (aD x.nm)),.of (slC cdC x.cs),.of (slC bA x.ns),.of (cb x.un),.of (slC kdC x.kys),.of (slC rdC x.rfs),.of (slC xpC x.chs),.of (slC (lsC xpC) x.rws),.of (slC asC x.sts),.of (slC xpC x.wh),.of (slC qyC x.q)]:=by rw[iB];rfl
def a4d (akd:Int) (atb:List UInt8) (anm:List UInt8) (acs:List Cd) (ans:List (List UInt8)) (aun:Bool) (akys:List Kd) (arfs:List Rd) (achs:List Xp) (arws:List (List Xp)) (asts:List As) (awh:List Xp) (aq:List Qy):C.agg [ci akd,aH (aD atb),aH (aD anm),slC cdC acs,slC bA ans,cb aun,slC kdC akys,slC rdC arfs,slC xpC achs,slC (lsC xpC) arws,slC asC asts,slC xpC awh,slC qyC aq]=C.agg (smC ⟨akd,atb,anm,acs,ans,aun,akys,arfs,achs,arws,asts,awh,aq⟩):=by rw[iB]
def a4t (x:Sm):Sm.mk x.kd x.tb x.nm x.cs x.ns x.un x.kys x.rfs x.chs x.rws x.sts x.wh x.q=x:=rfl
def a1U (x:Nn):C.ref (nnC x)=C.ref [ci x.nd,ci x.dp]:=by rw[auV]
def a4T (x:Nn):(nnC x).map X.of=[.of (ci x.nd),.of (ci x.dp)]:=by rw[auV];rfl
def a4i (and:Int) (adp:Int):C.agg [ci and,ci adp]=C.agg (nnC ⟨and,adp⟩):=by rw[auV]
def a1O (x:Sz):C.ref (szC x)=C.ref [ci x.nd,ci x.dp]:=by rw[atU]
def a4N (x:Sz):(szC x).map X.of=[.of (ci x.nd),.of (ci x.dp)]:=by rw[atU];rfl
def a4c (and:Int) (adp:Int):C.agg [ci and,ci adp]=C.agg (szC ⟨and,adp⟩):=by rw[atU]
def a4s (x:Sz):Sz.mk x.nd x.dp=x:=rfl
def a1Q (x:Sh):C.ref (shC x)=C.ref [ci x.le,ci x.mo,ci x.su]:=by rw[at9]
def a4P (x:Sh):(shC x).map X.of=[.of (ci x.le),.of (ci x.mo),.of (ci x.su)]:=by rw[at9];rfl
def a4e (ale:Int) (amo:Int) (asu:Int):C.agg [ci ale,ci amo,ci asu]=C.agg (shC ⟨ale,amo,asu⟩):=by rw[at9]
def aUK (x:V):C.ref (acE x)=C.ref [ci x.k,ci x.n,aH x.s]:=rfl
def apO (k n:Int) (s:ByteArray):C.agg [ci k,ci n,aH s]=C.agg (acE ⟨k,n,s⟩):=rfl
def apP (x:V):V.mk x.k x.n x.s=x:=rfl
def aUP (x:Int) (r:List C):C.ref (abj x++r)=C.ref (ci x::r):=rfl
def aUO (x:List UInt8) (r:List C):C.ref (bA x++r)=C.ref (aH (aD x)::r):=rfl
def aqB (x:Bool) (r:List C):C.ref (aan x++r)=C.ref (cb x::r):=rfl
def a18 {α:Type} (f:α→List C) (x:List α) (r:List C):C.ref (lsC f x++r)=C.ref (slC f x::r):=rfl
def aIB (l) (i:Int):dG (TT.of Tryz.prog) 39 (.of (slC odC l)) (.of (.lit (.int .i64 i)))=acb (dE l i) fun x=>.of (.ref (odC x++fl odC (l.drop (i.toNat+1)))):=adc E39 ayl (by decide) l i
def aHe (l):abx (some (.slice 64)) (.of (slC odC l))=out (aU l.length):=ac2 odC l rfl
def aEr (tk:Tk) (xs:List X):dY tk 1 (Pe.elemOf (TT.of Tryz.prog) 39) (some [(0,xs)])=if xs.length=3 then dB ((X.rds xs).map fun cs=>.own tk 64 3 cs 1) else none:=ahJ E39 (by decide) (by decide) rfl tk xs
def aLx (l) (i:Int):dG (TT.of Tryz.prog) 26 (.of (slC xpC l)) (.of (.lit (.int .i64 i)))=acb (dE l i) fun x=>.of (.ref (xpC x++fl xpC (l.drop (i.toNat+1)))):=adc E26 aqg (by decide) l i
def aCv (l) (a:Int):aao (TT.of Tryz.prog) 26 (.of (slC xpC l)) (some (.of (.lit (.int .i64 a)))) none=acb (alQ l a l.length) fun q=>.of (slC xpC q):=aKD E26 aqg l a
def aLn (l):abx (some (.slice 45)) (.of (slC xpC l))=out (aU l.length):=ac2 xpC l rfl
def aJr (tk:Tk) (xs:List X):dY tk 1 (Pe.elemOf (TT.of Tryz.prog) 26) (some [(0,xs)])=if xs.length=9 then dB ((X.rds xs).map fun cs=>.own tk 45 9 cs 1) else none:=ahJ E26 (by decide) (by decide) rfl tk xs
def aDH (l) (i:Int):dG (TT.of Tryz.prog) 29 (.of (slC qyC l)) (.of (.lit (.int .i64 i)))=acb (dE l i) fun x=>.of (.ref (qyC x++fl qyC (l.drop (i.toNat+1)))):=adc E29 ayf (by decide) l i
def aDp (l):abx (some (.slice 41)) (.of (slC qyC l))=out (aU l.length):=ac2 qyC l rfl
def axJ (tk:Tk) (xs:List X):dY tk 1 (Pe.elemOf (TT.of Tryz.prog) 29) (some [(0,xs)])=if xs.length=12 then dB ((X.rds xs).map fun cs=>.own tk 41 12 cs 1) else none:=ahJ E29 (by decide) (by decide) rfl tk xs
def aLv (l) (i:Int):dG (TT.of Tryz.prog) 37 (.of (slC imC l)) (.of (.lit (.int .i64 i)))=acb (dE l i) fun x=>.of (.ref (imC x++fl imC (l.drop (i.toNat+1)))):=adc E37 aAI (by decide) l i
def aLk (l):abx (some (.slice 60)) (.of (slC imC l))=out (aU l.length):=ac2 imC l rfl
def aJp (tk:Tk) (xs:List X):dY tk 1 (Pe.elemOf (TT.of Tryz.prog) 37) (some [(0,xs)])=if xs.length=12 then dB ((X.rds xs).map fun cs=>.own tk 60 12 cs 1) else none:=ahJ E37 (by decide) (by decide) rfl tk xs
def aLw (l) (i:Int):dG (TT.of Tryz.prog) 38 (.of (slC fmC l)) (.of (.lit (.int .i64 i)))=acb (dE l i) fun x=>.of (.ref (fmC x++fl fmC (l.drop (i.toNat+1)))):=adc E38 aAN (by decide) l i
def aLm (l):abx (some (.slice 62)) (.of (slC fmC l))=out (aU l.length):=ac2 fmC l rfl
def aJq (tk:Tk) (xs:List X):dY tk 1 (Pe.elemOf (TT.of Tryz.prog) 38) (some [(0,xs)])=if xs.length=6 then dB ((X.rds xs).map fun cs=>.own tk 62 6 cs 1) else none:=ahJ E38 (by decide) (by decide) rfl tk xs
def aDJ (l) (i:Int):dG (TT.of Tryz.prog) 22 (.of (slC cdC l)) (.of (.lit (.int .i64 i)))=acb (dE l i) fun x=>.of (.ref (cdC x++fl cdC (l.drop (i.toNat+1)))):=adc E22 aAU (by decide) l i
def aDr (l):abx (some (.slice 56)) (.of (slC cdC l))=out (aU l.length):=ac2 cdC l rfl
def axL (tk:Tk) (xs:List X):dY tk 1 (Pe.elemOf (TT.of Tryz.prog) 22) (some [(0,xs)])=if xs.length=3 then dB ((X.rds xs).map fun cs=>.own tk 56 3 cs 1) else none:=ahJ E22 (by decide) (by decide) rfl tk xs
def aDI (l) (i:Int):dG (TT.of Tryz.prog) 24 (.of (slC kdC l)) (.of (.lit (.int .i64 i)))=acb (dE l i) fun x=>.of (.ref (kdC x++fl kdC (l.drop (i.toNat+1)))):=adc E24 aAH (by decide) l i
def aDq (l):abx (some (.slice 58)) (.of (slC kdC l))=out (aU l.length):=ac2 kdC l rfl
def axK (tk:Tk) (xs:List X):dY tk 1 (Pe.elemOf (TT.of Tryz.prog) 24) (some [(0,xs)])=if xs.length=2 then dB ((X.rds xs).map fun cs=>.own tk 58 2 cs 1) else none:=ahJ E24 (by decide) (by decide) rfl tk xs
def aDG (l) (i:Int):dG (TT.of Tryz.prog) 25 (.of (slC rdC l)) (.of (.lit (.int .i64 i)))=acb (dE l i) fun x=>.of (.ref (rdC x++fl rdC (l.drop (i.toNat+1)))):=adc E25 aye (by decide) l i
def aDo (l):abx (some (.slice 145)) (.of (slC rdC l))=out (aU l.length):=ac2 rdC l rfl
def aDK (l) (i:Int):dG (TT.of Tryz.prog) 28 (.of (slC asC l)) (.of (.lit (.int .i64 i)))=acb (dE l i) fun x=>.of (.ref (asC x++fl asC (l.drop (i.toNat+1)))):=adc E28 aBH (by decide) l i
def aDs (l):abx (some (.slice 54)) (.of (slC asC l))=out (aU l.length):=ac2 asC l rfl
def aDF (l) (i:Int):dG (TT.of Tryz.prog) 23 (.of (slC bA l)) (.of (.lit (.int .i64 i)))=acb (dE l i) fun x=>.of (.ref (bA x++fl bA (l.drop (i.toNat+1)))):=adc E23 (fun _=>rfl) (by decide) l i
def aDn (l):abx (some (.slice 9)) (.of (slC bA l))=out (aU l.length):=ac2 bA l rfl
def aDO (l):(fl bA l).length=l.length*1:=ami (f:=bA) (z:=1) (fun _=>rfl) l
def aEC (tk tk' tk2:Tk) (cs0 cs:List C) (n m e2 z2:Nat):js (TT.of Tryz.prog) tk 23 23 (.own tk' 9 1 cs0 n) (.own tk2 e2 z2 cs m)=if cs.length=m*1∧n+m≤LIM then some (.own tk 9 1 (cs0++cs) (n+m),some tk') else none:=amA E23 (by decide) (by decide) tk tk' cs0 n _ cs m rfl
def aEz (tk tk':Tk) (cs0:List C) (n:Nat) (l):js (TT.of Tryz.prog) tk 23 23 (.own tk' 9 1 cs0 n) (.of (slC bA l))=if (fl bA l).length=l.length*1∧n+l.length≤LIM then some (.own tk 9 1 (cs0++fl bA l) (n+l.length),some tk') else none:=amA E23 (by decide) (by decide) tk tk' cs0 n _ _ _ rfl
def axR (tk:Tk) (l):js (TT.of Tryz.prog) tk 23 23 .nil (.of (slC bA l))=if (fl bA l).length=l.length*1∧l.length≤LIM then some (.own tk 9 1 (fl bA l) l.length,none) else none:=aTw E23 (by decide) (by decide) tk _ _ _ rfl
def axI (tk:Tk) (xs:List X):dY tk 1 (Pe.elemOf (TT.of Tryz.prog) 23) (some [(0,xs)])=if xs.length=1 then dB ((X.rds xs).map fun cs=>.own tk 9 1 cs 1) else none:=ahJ E23 (by decide) (by decide) rfl tk xs
def axM (tk:Tk):dY tk 0 (Pe.elemOf (TT.of Tryz.prog) 23) (some [])=out (.own tk 9 1 [] 0):=a7q E23 (by decide) rfl tk
def aRA (l) (i:Int):dG (TT.of Tryz.prog) 229 (.of (slC abj l)) (.of (.lit (.int .i64 i)))=acb (dE l i) fun x=>.of (.ref (abj x++fl abj (l.drop (i.toNat+1)))):=adc aE8 (fun _=>rfl) (by decide) l i
def axt (l) (i:Int):dG (TT.of Tryz.prog) 27 (.of (slC (lsC xpC) l)) (.of (.lit (.int .i64 i)))=acb (dE l i) fun x=>.of (.ref ((lsC xpC) x++fl (lsC xpC) (l.drop (i.toNat+1)))):=adc E27 (fun _=>rfl) (by decide) l i
def axm (l):abx (some (.slice 26)) (.of (slC (lsC xpC) l))=out (aU l.length):=ac2 (lsC xpC) l rfl
def aWD (s:List UInt8) (i:Int):adb (TT.of Tryz.prog) 9 (.of (.lit (.string (aD s)))) (.of (.lit (.int .i64 i)))=acb (dE s i) fun c=>.of (.lit (.int .u8 (c.toNat:Nat))):=avm (T:=TT.of Tryz.prog) (t:=9) U9 s i
def acN:=ai (ai (ai @a1T (ai @a17 @a4S)) (ai @a4h (ai @a4w @ayl))) (ai (ai @T64 (ai @Q64 @aWT)) (ai (ai @aWS @aWR) (ai @T39 @Q39)))
def cQ:=ai (ai (ai (ai (ai @a1N @a14) (ai @a4M @a4b)) (ai (ai @aDX @aKX) (ai @aQ4 @aKV))) (ai (ai (ai @aKY @aK0) (ai @aKZ @aKW)) (ai (ai @aqg @T45) (ai @P45 (ai @Q45 @aYX))))) (ai (ai (ai (ai @aXh @aYW) (ai @aXg @aYV)) (ai (ai @aXf @aYU) (ai @aXe @aYT))) (ai (ai (ai @aXd @aYS) (ai @aXc @aYR)) (ai (ai @aXb @T26) (ai @Q26 (ai @apP @apO)))))
def eu:=ai (ai (ai (ai @a1S @a16) (ai @a4R (ai @a4g @a4v))) (ai (ai @ayf (ai @T41 @Q41)) (ai @aXu (ai @aXt @aXs)))) (ai (ai (ai @aXr @aXq) (ai @aXp (ai @aXo @aXn))) (ai (ai @aXm (ai @aXl @aRI)) (ai @aRH (ai @T29 @Q29))))
def abc:=ai (ai (ai (ai @a1W @a2a) (ai @a4V @a4k)) (ai (ai @a4y @aAI) (ai @T60 @Q60))) (ai (ai (ai @aW3 @aW2) (ai @aW1 @aW0)) (ai (ai @T37 @Q37) (ai @aDX (ai @apP @apO))))
def jl:=ai (ai (ai (ai @a1X @a2b) (ai @a4W @a4l)) (ai (ai @a4z @aAN) (ai @T62 @Q62))) (ai (ai (ai @aWZ @aWY) (ai @aWX @aWW)) (ai (ai @aWV @aWU) (ai @T38 @Q38)))
def aes:=ai (ai (ai @a1Y (ai @a2c @a4X)) (ai @a4m (ai @a4A @aAU))) (ai (ai @T56 (ai @Q56 @aW8)) (ai (ai @aW7 @aW6) (ai @T22 @Q22)))
def adQ:=ai (ai (ai @a1V (ai @a19 @a4U)) (ai @a4j (ai @a4x @aAH))) (ai (ai @T58 (ai @Q58 @aW5)) (ai @aW4 (ai @T24 @Q24)))
def aer:=ai (ai (ai @a1R (ai @a15 @a4Q)) (ai @a4f (ai @a4u @aye))) (ai (ai @arc (ai @a7v @aRR)) (ai (ai @aRQ @aRP) (ai @T25 @Q25)))
def abQ:=ai (ai (ai @a1Z (ai @a2d @a4Y)) (ai (ai @a4n @a4B) (ai @aBH @T54))) (ai (ai (ai @Q54 @aXa) (ai @aW9 @T28)) (ai (ai @Q28 @aDX) (ai @apP @apO)))
def abb:=ai (ai (ai (ai (ai @a1P @a4O) (ai @a4d @a4t)) (ai (ai @aQL @T31) (ai @P31 @Q31))) (ai (ai (ai @aY7 @aXE) (ai @aY6 @aXD)) (ai (ai @aY5 @aXC) (ai @aY4 (ai @aXB @aY3))))) (ai (ai (ai (ai @aXA @aY2) (ai @aXz @aY1)) (ai (ai @aXy @aY0) (ai @aXx @aYZ))) (ai (ai (ai @aXw @aYY) (ai @aXv @aRX)) (ai (ai @aRL @aRW) (ai @aRK (ai @aRV @aRJ)))))
def akA:=ai (ai (ai @a1U @a4T) (ai @a4i @aRk)) (ai (ai @aEN @a7w) (ai @aRT @aRS))
def adw:=ai (ai (ai @a1O @a4N) (ai @a4c (ai @a4s @aQl))) (ai (ai @T80 @P80) (ai @Q80 (ai @aWQ @aWP)))
def aMX:=ai (ai (ai @a1Q @a4P) (ai @a4e @aQO)) (ai (ai @aEM @aRO) (ai @aRN @aRM))
def ad6:=ai (ai (ai @aUK @apO) (ai @apP @T43)) (ai (ai @P43 @Q43) (ai @aXk (ai @aXj @aXi)))
def abX:=ai @aIB (ai @aHe @aEr)
def d6:=ai (ai @aLx @aCv) (ai @aLn @aJr)
def d7:=ai @aDH (ai @aDp @axJ)
def ab9:=ai @aLv (ai @aLk @aJp)
def iM:=ai @aLw (ai @aLm @aJq)
def acn:=ai @aDJ (ai @aDr @axL)
def acm:=ai @aDI (ai @aDq @axK)
def ac5:=ai @aDG @aDo
def abR:=ai @aDK @aDs
def bN:=ai (ai (ai @aDF @aDn) (ai @aDO (ai @aEC @aEz))) (ai (ai @axR (ai @axI @axM)) (ai @T23 (ai @P23 @Q23)))
def aQd:=ai @aRA @a0e
def hY:=ai (ai @axt @axm) (ai @T27 @Q27)
def zT0:=ai (ai (ai (ai @aUP @aUO) (ai @aqB @a18)) (ai (ai @aWD @T3) (ai @Q3 @T4))) (ai (ai (ai @P4 @Q4) (ai @T9 @Q9)) (ai (ai @U9 @T5) (ai @Q5 @T34)))
end Go.Proofs.YtemdljoideegeaaGreatDoor
namespace Go.Tab
open Go.Pe
def cM {α:Type} {l:List α} {k:Nat} (h:k<l.length):l.drop k=l[k]::l.drop (k+1):=bK h
def ig {α:Type} (p:α→Bool):Nat→List α→Int
 | _,[]=>-1
 | k,x::r=>if p x then k else ig p (k+1) r
def iX {α:Type} (p:α→Bool) (l:List α):Int:=ig p 0 l
end Go.Tab
namespace Go.Pe
def bW {P:Program} {pr:Pr} {c:Code} {s:S} {Q:Ex→S→Prop} (n:Nat) (I:Nat→S→Prop) (h0:I 0 s)
  (h:∀ k s,k≤n→I k s→WC P pr c s (fun e s'=>match e with
   | .normal=>k<n∧I (k+1) s'
   | e=>Q e s')):WC P pr (.loop c) s Q:=by
 refine a0b c Q (fun m s=>∃ k,k≤n∧m=n-k∧I k s) ?_ n s ⟨0,e9 _,rfl,h0⟩
 rintro m s ⟨k,hk,rfl,hI⟩
 refine WC.mono (h k s hk hI) fun e s' hq=>?_
 cases e with
 | normal=>exact⟨n-(k+1),by omega,k+1,by omega,rfl,hq.2⟩
 | _=>exact hq
end Go.Pe
namespace Go.Proofs.YtemdljoideegeaaGreatDoor
open Go Go.Pe Go.Tab
def cE (n:Nat) (h:n<4611686018427387904):IntKind.i64.wrap ((n:Int)+1)=((n+1:Nat):Int):=by rw[eh _ (by omega) (by omega)];rfl
def aKn (a b:List UInt8):aD a++aD b=aD (a++b):=by
 apply akD.1
 simp[aD]
def afO {P:Program} {T:TT} {t:Nat} {u:Option TypeDesc} (a b:List UInt8):gS P T t u .add (.of (.lit (.string (aD a)))) (.of (.lit (.string (aD b))))=if a.length+b.length≤gH then out (dw (aD (a++b))) else none:=by
 rw[Z1u,acw,acw,aKn]
def aJN (u:TypeDesc) (n b:Nat) (a:Bool) (z:List Value) (f:List (Nat×Nat)):ik ⟨u,n,b,a,z,f⟩=z.map abT:=rfl
def bU (a b:List UInt8):(aD a=aD b)=(a=b):=propext ⟨atZ,fun h=>h▸rfl⟩
def ib (a:List UInt8):(aD a=({data:=#[]}:ByteArray))=(a=[]):=bU a []
def aK (a b:Nat):((a:Int)<(b:Int))=(a<b):=propext Int.ofNat_lt
def aMa (P:Program) (t n b:Nat) (a:Bool) (fs:Array Field) (z:List Value) (fl:List (Nat×Nat)) (qs:List (Nat×List X)):amv P t (some ⟨.struct fs,n,b,a,z,fl⟩) (some qs)=dB ((iY (fun i=>fl[i]?) (ik ⟨.struct fs,n,b,a,z,fl⟩) qs).map .agg):=rfl
def a5G (x:X):Option.map (fun p:X×Option Tk=>p.1) (out x)=some x:=rfl
def aLF (f:Nat) (xs:List X) (cs:List C):fnX f xs (some cs)=out (.of (.fn f cs)):=rfl
def zG:=ai (ai (ai (ai @arC @aF5) (ai @aJN @aMa)) (ai (ai @a5G @ib) (ai @aLF @Z2x))) (ai (ai (ai @a1M @aXG) (ai @avp @acw)) (ai (ai @aUQ @a2g) (ai @ayg @a2h)))
def zH:=ai (ai (ai @aa1 @jq) (ai @bG (ai @bE @fk))) (ai (ai @dZ (ai @aX @aZ)) (ai @dK (ai @cO @afm)))
def zq:=ai (ai @zU @zU2) (ai @zB (ai @zG @zH))
def zA:=ai @zD (ai @zD2 @zE)
def wX (t:Tk):Option (List To)→X
 | none=>.nil
 | some L=>.own t 9 1 (fl bA L) L.length
def wT (t:Tk) (o:Option (List To)):Ob:=.var 67 [wX t o]
def wTo (u:Option Tk) (o:Option (List To)):Ob:=match u with
 | some t=>wT t o
 | none=>.var 67 [(wX (.nm 0 0 0) o).tr some fun _=>none]
def iz (o:Option (List To)) (T:List To):Option (List To):=match T with
 | []=>o
 | a::r=>some (o.getD []++(a::r))
def bi (o:Option (List To)):Nat:=(o.getD []).length
def aMj (o:Option (List To)):iz o []=o:=rfl
def aMk (o:Option (List To)) (T:List To):(iz o T).getD []=o.getD []++T:=by cases T <;> simp[iz]
def aMl (o:Option (List To)) (A B:List To):iz (iz o A) B=iz o (A++B):=by
 cases A with
 | nil=>rfl
 | cons a r =>
  cases B with
  | nil=>simp[iz]
  | cons b q=>simp[iz]
def af2 (o:Option (List To)) (T:List To):bi (iz o T)=bi o+T.length:=by unfold bi;rw[aMk,av]
def a1u (σ:Nat→Option Nat) (ρ:Tk→Option Tk) (t:Tk) (o:Option (List To)):(wT t o).tr σ ρ=wTo (ρ t) o:=by
 unfold wT wTo
 cases o with
 | none=>cases ρ t <;> rfl
 | some L=>simp only[Ob.tr,X.trs,X.tr,wX];cases ρ t <;> rfl
def aJV (t:Tk) (o:Option (List To)):wTo (some t) o=wT t o:=rfl
def aQf (t:Tk) (o:Option (List To)):(wT t o).refs=[]:=by cases o <;> rfl
def aQg (t u:Tk) (o:Option (List To)) (h:t≠u):(wT t o).drop u=wT t o:=by
 cases o with
 | none=>rfl
 | some L=>unfold wT;simp only[Ob.drop,X.drops,wX,X.drop];rw[aj h]
def a1v (r off a b c:Nat) (o:Option (List To)):(wT (.cell r off) o).drop (.nm a b c)=wT (.cell r off) o:=aQg _ _ _ (by simp)
def aTu (d:TD) (xs:List X):aEu (some d) (some xs)=if xs.length=d.size then some xs else none:=rfl
def axj (obj:Nat→Bool):∀ x0 x1 x2,ic obj (.makeFunc x0 x1 x2)=false:=fun _ _ _=>rfl
def aQY:List.range 1=[0]:=rfl
def aQX:List.range 2=[0,1]:=rfl
def aQW:List.range 3=[0,1,2]:=rfl
def dt (ty r o:Nat):(Ob.var ty [.ptr r o]).refs=[r]:=rfl
def zW:=ai (ai (ai @a1u (ai @aQf @a1v)) (ai @aTu (ai @axj @aJV))) (ai (ai @aQY (ai @aQX @aQW)) (ai @aMl (ai @af2 @List.flatten_cons.{0})))
def afR (P:Program) (pr:Pr) (f:Nat) (xs:List X) (obs:List Ob) (K:An→Prop):Prop:=bp P pr f xs obs K
def ae1 {P:Program} {pr:Pr} {f:Nat} {xs:List X} {obs:List Ob} {p:Prop} {an:An} (h:p→aN P pr f xs obs an) (K:An→Prop):bp P pr f xs obs K↔ifP p (K an) (afR P pr f xs obs K):=by
 by_cases hp:p
 .rw[aj0 hp];exact aN.k (h hp) K
 .simp only[ifP,hp,bD,jq,cW,fp];exact cY
abbrev cw:Tk:=.cell 0 0
def GW (f:Nat) (xs:List X) (T:List To):Prop:=∀ o,bi o+T.length≤LIM→aN Tryz.prog pr f (.ptr 0 0::xs) [wT cw o] ⟨false,[],[wT cw (iz o T)]⟩
theorem GW.k {f:Nat} {xs:List X} {T:List To} (h:GW f xs T) (o:Option (List To)) (K:An→Prop):bp Tryz.prog pr f (.ptr 0 0::xs) [wT cw o] K↔ifP (bi o+T.length≤LIM) (K ⟨false,[],[wT cw (iz o T)]⟩) (afR Tryz.prog pr f (.ptr 0 0::xs) [wT cw o] K):=ae1 (h o) K
def aIz {p A B:Prop} (h:p) (a:A):ifP p A B:=(aj0 h).2 a
def acC (T:List To):(fl bA T).length=T.length*1:=ami (f:=bA) (z:=1) (fun _=>rfl) T
def aTL:=ai (ai @zq (ai @T67 @amk)) (ai (ai @bN @zT0) (ai @aIc (ba aYy)))
def aux (T:List To) (hT:T≠[]):GW 36 [.of (slC bA T)] T:=by
 intro o h
 have hn:bi o=(o.getD []).length:=rfl
 have hl:=acC T
 obtain⟨a,r,rfl⟩ : ∃ a r,T=a::r:=by cases T with
  | nil=>exact absurd rfl hT
  | cons a r=>exact⟨a,r,rfl⟩
 refine ah rfl aYy aIc rfl ?_
 cases o with
 | none =>
  have h1:(a::r).length≤LIM:=by simpa [bi] using h
  simp -implicitDefEqProofs(maxSteps:=9^9)only[Tryz.f36,↓zA,sevalprocAttr,aTL,wT,wX,hl,iz,acq]
  exact⟨h1,rfl⟩
 | some L =>
  have h1:L.length+(a::r).length≤LIM:=by simpa [bi] using h
  simp -implicitDefEqProofs(maxSteps:=9^9)only[Tryz.f36,↓zA,sevalprocAttr,aTL,wT,wX,hl,iz,agF,aXH]
  exact⟨h1,rfl,rfl⟩
def auw (cs:List C) (T:List To) (n:Nat) (hn:n=T.length) (hc:cs=fl bA T) (hT:T≠[]):GW 36 [.of (.sl cs n)] T:=by
 subst hn hc
 exact aux T hT
def dF (a:To) (o:Option (List To)) (K:An→Prop):bp Tryz.prog pr 36 [.ptr 0 0,.of (.sl [.lit (.string (aD a))] 1)] [wT cw o] K↔ifP (bi o+1≤LIM) (K ⟨false,[],[wT cw (iz o [a])]⟩) (afR Tryz.prog pr 36 [.ptr 0 0,.of (.sl [.lit (.string (aD a))] 1)] [wT cw o] K):=(auw _ [a] 1 rfl rfl (by simp)).k o K
def fR (a b:To) (o:Option (List To)) (K:An→Prop):bp Tryz.prog pr 36 [.ptr 0 0,.of (.sl [.lit (.string (aD a)),.lit (.string (aD b))] 2)] [wT cw o] K↔ifP (bi o+2≤LIM) (K ⟨false,[],[wT cw (iz o [a,b])]⟩) (afR Tryz.prog pr 36 [.ptr 0 0,.of (.sl [.lit (.string (aD a)),.lit (.string (aD b))] 2)] [wT cw o] K):=(auw _ [a,b] 2 rfl rfl (by simp)).k o K
def aJR:=ai (ai @zq (ai @ac6 @ab3)) (ai (ai @aeB @zT0) (ai @aIb (ba aYx)))
def gv (is:Bool) (cs:List C) (T:List To) (n:Nat) (hn:n=T.length) (hc:cs=fl bA T) (hT:T≠[]):GW 37 [aG is,.of (.sl cs n)] (aF is T):=by
 intro o h
 have kp:=fun o K=>(auw cs T n hn hc hT).k o K
 refine ah rfl aYx aIb rfl ?_
 cases is with
 | false =>
  simp -implicitDefEqProofs(maxSteps:=9^9)only[Tryz.f37,↓zA,sevalprocAttr,aJR,zW,aF,aMj]
  try rfl
 | true =>
  simp -implicitDefEqProofs(maxSteps:=9^9)only[Tryz.f37,↓zA,sevalprocAttr,aJR,zW,kp,aF]
  refine aIz (by simpa [aF] using h) ?_
  simp -implicitDefEqProofs(maxSteps:=9^9)only[Tryz.f37,↓zA,sevalprocAttr,aJR,zW,kp,aF]
  try rfl
def aDS:FnI Tryz.prog 226 Tryz.f226:=⟨by kernel_rfl,Tryz.func226⟩
def aSv:ak Tryz.prog 226=true:=by kernel_rfl
def aVt:bh 226=false:=rfl
def aqO:aY 226=false:=rfl
def alo (b:Bool):List UInt8:=if b then [116,114,117,101] else [102,97,108,115,101]
def aol (b:Bool):G1 226 [aG b] (dw (aD (alo b))):=by
 refine ah rfl aDS aqO rfl ?_
 cases b
 .simp -implicitDefEqProofs only [Tryz.f226,↓zA,sevalprocAttr,zq,zT0,ba aDS,aqO]
  try rfl
 .simp -implicitDefEqProofs only [Tryz.f226,↓zA,sevalprocAttr,zq,zT0,ba aDS,aqO]
  try rfl
def aqe (b:Bool):G1 171 [aG b] (dw (aD (alo b))):=by
 have k:=fun K=>aN.k (aol b) K
 refine ah rfl aOW azA rfl ?_
 simp -implicitDefEqProofs only [Tryz.f171,↓zA,sevalprocAttr,zq,zT0,ba aOW,azA,aVt,aSv,k]
def aCI (n:Int) (h:jd n=true):aN Tryz.prog pr 227 [aU n] [] ⟨false,[dw (aD (Lib.itoa n))],[]⟩:=aN.of_prim (by simp only[pr,apa,aA,ats,h];rfl)
def axc (s:List UInt8) (h:s.length≤1048576):aN Tryz.prog pr 173 [.of (aH (aD s)),.of (aH (aD [39])),.of (aH (aD [39,39]))] [] ⟨false,[dw (aD (iG s))],[]⟩:=aN.of_prim (by
 show raP [.of (aH (aD s)),.of (aH ⟨#[39]⟩),.of (aH ⟨#[39,39]⟩)] []=_
 unfold raP
 simp only
 have h1:=Lib.countB_le ⟨#[39]⟩ (aM 1) (aD s).size (aD s) (aM _)
 have h2:=acw s
 rw[aE ⟨by omega,by decide,by
  have:(ByteArray.mk #[39,39]).size=2:=rfl
  rw[this]
  omega⟩]
 show some (An.mk false [dw (aD (Lib.replaceAll (aD s).data.toList [39] [39,39]))] [])=_
 rw[an2,show (aD s).data.toList=s by simp[aD]])
def a07:=ai (ai @zq (ai @aVs @aSu)) (ai @zT0 (ai @azz (ba aOV)))
def auU (n:Int) (h:jd n=true):G1 172 [aU n] (dw (aD (Lib.itoa n))):=by
 have hk:=fun K=>aN.k (aCI n h) K
 refine ah rfl aOV azz rfl ?_
 simp -implicitDefEqProofs(maxSteps:=9^9)only[Tryz.f172,↓zA,sevalprocAttr,a07,hk]
def txt (v:V):List UInt8:=if v.k=1 then alo (decide (v.n≠0)) else if v.k=2 then Lib.itoa v.n else if v.k=3 then 39::(iG v.s.data.toList++[39]) else [110,117,108,108]
def alK (v:V):ahe v=txt v:=by
 unfold ahe aCl txt
 by_cases h1:v.k=1
 .by_cases h2:v.n=0
  .simp[h1,h2,alo,avC]
  .simp[h1,h2,alo,aCj]
 .by_cases h2:v.k=2
  .simp[h2,aD]
  .by_cases h3:v.k=3
   .simp[h3,V.t,aD]
   .simp[h1,h2,h3,aC8]
def aFD (s:ByteArray):aD s.data.toList=s:=by simp[aD]
def apA:({data:=#[39]}:ByteArray)=aD [39]:=rfl
def aRq:({data:=#[39,39]}:ByteArray)=aD [39,39]:=rfl
def aBP:=ai (ai (ai @zq (ai @a22 @aGy)) (ai (ai @aBi @aVU) (ai @aSW @aVT))) (ai (ai @aSV (ai @ad6 @Q3)) (ai (ai @Q9 @zT0) (ai @aHF (ba aX1))))
def anG (v:V) (hn:jd v.n=true) (hs:v.s.size≤1048576):G1 80 [.of (.agg (acE v))] (dw (aD (ahe v))):=by
 rw[alK]
 have kb:=fun K=>aN.k (aqe (decide (v.n≠0))) K
 have kn:=fun K=>aN.k (auU v.n hn) K
 have kq:=fun K=>aN.k (axc v.s.data.toList (by simpa using hs)) K
 simp only[aFD] at kq
 have hq:=agt v.s.data.toList
 have el:v.s.data.toList.length=v.s.size:=by simp
 have l1:1+(iG v.s.data.toList).length≤gH:=by unfold gH;omega
 have vl:(acE v).length=3:=rfl
 have l3:(iG v.s.data.toList).length+1+1≤gH:=by unfold gH;omega
 have l2:1+(iG v.s.data.toList).length+1≤gH:=by unfold gH;omega
 refine ah rfl aX1 aHF rfl ?_
 by_cases h1:v.k=1
 .have e1:(!decide (v.n=0))=decide (v.n≠0):=by simp
  simp -implicitDefEqProofs(maxSteps:=9^9)only[Tryz.f80,↓zA,sevalprocAttr,aBP,vl,h1,kb,e1,aGy,aBi,txt]
 .by_cases h2:v.k=2
  .simp -implicitDefEqProofs(maxSteps:=9^9)only[Tryz.f80,↓zA,sevalprocAttr,aBP,vl,h1,h2,kn,txt]
  .by_cases h3:v.k=3
   .simp -implicitDefEqProofs(maxSteps:=9^9)only[Tryz.f80,↓zA,sevalprocAttr,aBP,vl,h1,h2,h3,kq,apA,aRq,afO,txt,aR,l1,l2,l3,aA,ce]
   .simp -implicitDefEqProofs(maxSteps:=9^9)only[Tryz.f80,↓zA,sevalprocAttr,aBP,vl,h1,h2,h3,txt]
    try rfl
end Go.Proofs.YtemdljoideegeaaGreatDoor
namespace Go.Tab
open Go Go.Pe
def al8 {s:List UInt8} (h:bk s=true):s≠[]:=by rintro rfl;cases h
def adO {s:List UInt8} (h:bk s=true):s.length≤20:=by
 cases s with
 | nil=>cases h
 | cons c r=>simp only[bk,ab,ar] at h;simpa using h.2
def aDb {s:List UInt8} (h:bk s=true):anb s=true:=by
 cases s with
 | nil=>cases h
 | cons c r=>simp only[bk,ab] at h;simp only[anb,ab];exact h.1
def ai8 {s:List UInt8} (h:bk s=true):∀ c∈s,(fD c||jc c)=true:=by
 cases s with
 | nil=>cases h
 | cons c r =>
  simp only[bk,ab] at h
  intro x hx
  rcases cX.1 hx with rfl|hx
  .rw[h.1.1];rfl
  .exact bQ.1 h.1.2 x hx
def aua {c:UInt8} (h:(fD c||jc c)=true):c.toNat<128∧c≠32:=by
 simp only[fD,jc,cz,ab,ar] at h
 rcases h with (h|rfl)|h
 .exact⟨by omega,by rintro rfl;have:=h.1;simp at this⟩
 .exact⟨by decide,by decide⟩
 .exact⟨by omega,by rintro rfl;have:=h.1;simp at this⟩
def aG0 {s:List UInt8} (h:bk s=true):s.all (fun c=>decide (c.toNat<128))=true:=bQ.2 fun c hc=>ct (aua (ai8 h c hc)).1
def avP {s p:List UInt8} (h:Lib.contains s p=true):∀ c∈p,c∈s:=by
 unfold Lib.contains at h
 rw[ar] at h
 rcases Lib.index_spec s p with ⟨h1,_⟩|⟨i,h1,h2,h3,_⟩
 .omega
 .intro c hc
  unfold Lib.occAt at h3
  obtain⟨t,ht⟩:=List.isPrefixOf_iff_prefix.1 h3
  have:c∈s.drop i:=by rw[← ht];exact acG _ hc
  exact fg this
def axi {s:List UInt8} (h:bk s=true):Lib.contains s [32]=false:=by
 cases hc:Lib.contains s [32] with
 | false=>rfl
 | true =>
  have:=avP hc 32 (by simp)
  exact absurd rfl (aua (ai8 h 32 this)).2
end Go.Tab
namespace Go.Proofs.YtemdljoideegeaaGreatDoor
open Go Go.Pe Go.Tab
def aIZ (w p:ByteArray) (h:w.size<4294967281):G1 246 [.of (.lit (.string w)),.of (.lit (.string p))] (aG (Lib.contains w.data.toList p.data.toList)):=aN.of_prim (by
 show apW [.of (.lit (.string w)),.of (.lit (.string p))] []=_
 unfold apW
 simp only
 rw[aE h])
def aZk (w p:ByteArray) (K:An→Prop):bp Tryz.prog pr 246 [.of (.lit (.string w)),.of (.lit (.string p))] [] K↔ifP (w.size<4294967281) (K ⟨false,[aG (Lib.contains w.data.toList p.data.toList)],[]⟩) (abW Tryz.prog pr 246 [.of (.lit (.string w)),.of (.lit (.string p))] K):=adG (aIZ w p) K
def au0 (s:List UInt8) (h:bk s=true):G1 207 [.of (aH (aD s))] (aG true):=aN.of_prim (by
 show lxP [.of (aH (aD s))] []=_
 have e:(aD s).data.toList=s:=by simp[aD]
 have h1:=adO h
 have h2:(aD s).size=s.length:=acw s
 unfold lxP
 simp only
 rw[aE ⟨by rw[e];exact aG0 h,by omega⟩,e,aDb h])
def a0P:=ai (ai @zq (ai @aVe @aSg)) (ai @zT0 (ai @ay2 (ba aOo)))
def apv (s:List UInt8) (h:bk s=true):G1 208 [.of (aH (aD s))] (aG (agV s)):=by
 have hne:(s=[])=False:=aO (al8 h)
 have hl:=adO h
 have l1:(s.length<4294967281)=True:=aa (by omega)
 have hb:=axi h
 have l2:1+s.length≤gH:=by unfold gH;omega
 have l3:1+s.length+1≤gH:=by unfold gH;omega
 have l4:s.length+1+1≤gH:=by unfold gH;omega
 have e:∀ s:List UInt8,(aD s).data.toList=s:=fun s=>by simp[aD]
 have e32:=aL [32]
 refine ah rfl aOo ay2 rfl ?_
 simp -implicitDefEqProofs(maxSteps:=9^9)only[Tryz.f208,↓zA,sevalprocAttr,a0P,hne,aZk,l1,hb,e,e32,afO,l2,l3,l4,aA,dI,av,ce]
 refine aIz (by decide) ?_
 rfl
def a1j:=ai (ai (ai @zq @aVC) (ai @aSE @aVB)) (ai (ai @aSD @zT0) (ai @aAm (ba aPI)))
def axk (s:List UInt8) (h:bk s=true):G1 120 [.of (aH (aD s))] (aG (!agV s)):=by
 have kp:=fun K=>aN.k (au0 s h) K
 have kr:=fun K=>aN.k (apv s h) K
 have l1:((s.length:Int)≤20)=True:=aa (by have:=adO h;omega)
 refine ah rfl aPI aAm rfl ?_
 simp -implicitDefEqProofs(maxSteps:=9^9)only[Tryz.f120,↓zA,sevalprocAttr,a1j,kp,kr,l1]
def aLy (b:Bool) (l:List To):bI b l=aF b [lpT]++(l++aF b [rpT]):=by cases b <;> simp[bI,aF]
def ahs (b:Bool) (l:List To):(aF b l).length=if b=true then l.length else 0:=by cases b <;> rfl
def aTK:=ai (ai (ai @zq @aWg) (ai @aTi (ai @ac6 @ab3))) (ai (ai @aeB @bN) (ai @zT0 (ai @aIa (ba aYw))))
def arJ (s:List UInt8) (hs:bk s=true):GW 38 [.of (aH (aD s))] [bF s]:=by
 intro o h
 have kl:=fun K=>aN.k (axk s hs) K
 have hl:=adO hs
 have l1:1+s.length≤gH:=by unfold gH;omega
 have l2:1+s.length+1≤gH:=by unfold gH;omega
 have l3:s.length+1+1≤gH:=by unfold gH;omega
 have l4:s.length+1≤gH:=by unfold gH;omega
 have e34:=aL [34]
 have h1:bi o+1≤LIM:=h
 refine ah rfl aYw aIa rfl ?_
 cases hr:agV s with
 | true =>
  have hn:bF s=34::(s++[34]):=by unfold bF;rw[hr];rfl
  simp -implicitDefEqProofs(maxSteps:=9^9)only[Tryz.f38,↓zA,sevalprocAttr,aTK,zW,kl,hr,e34,afO,l1,l2,l3,l4,aA,dI,av,ce,dF,h1,hn]
 | false =>
  have hn:bF s=s:=by unfold bF;rw[hr];rfl
  simp -implicitDefEqProofs(maxSteps:=9^9)only[Tryz.f38,↓zA,sevalprocAttr,aTK,zW,kl,hr,dF,h1,hn]
def aaF (s:List UInt8) (hs:bk s=true) (o:Option (List To)) (K:An→Prop):bp Tryz.prog pr 38 [.ptr 0 0,.of (.lit (.string (aD s)))] [wT cw o] K↔ifP (bi o+1≤LIM) (K ⟨false,[],[wT cw (iz o [bF s])]⟩) (afR Tryz.prog pr 38 [.ptr 0 0,.of (.lit (.string (aD s)))] [wT cw o] K):=(arJ s hs).k o K
def aMS:=ai (ai (ai @zq @ac6) (ai @ab3 (ai @aeB @afK))) (ai (ai @aec (ai @ahR @bN)) (ai @zT0 (ai @azU (ba aPg))))
def aq8 (s:List UInt8) (hs:fV s=true):GW 149 [.of (aH (aD s))] (asT s):=by
 intro o h
 have eas:({data:=#[97,115]}:ByteArray)=aD [97,115]:=rfl
 refine ah rfl aPg azU rfl ?_
 by_cases h0:s=[]
 .subst h0
  simp -implicitDefEqProofs(maxSteps:=9^9)only[Tryz.f149,↓zA,sevalprocAttr,aMS,zW]
  try rfl
 .have hn:bk s=true:=by simpa [fV,h0] using hs
  have ha:asT s=[[97,115],bF s]:=by simp[asT,aF,h0]
  rw[ha] at h ⊢
  have h1:bi o+1≤LIM:=by simp at h;omega
  have h2:bi o+(1+1)≤LIM:=by simpa using h
  have h3:bi o+1+1≤LIM:=by simpa using h
  simp -implicitDefEqProofs(maxSteps:=9^9)only[Tryz.f149,↓zA,sevalprocAttr,aMS,zW,h0,eas,dF,h1,aaF s hn,dI,h2,h3,ce]
def a1a:=ai (ai @zq (ai @a25 @ad6)) (ai @zT0 (ai @azP (ba aPb)))
def aCg (n:Int):G1 154 [aU n] (.of (.agg (acE ⟨2,n,ByteArray.empty⟩))):=by
 refine ah rfl aPb azP rfl ?_
 simp -implicitDefEqProofs(maxSteps:=9^9)only[Tryz.f154,↓zA,sevalprocAttr,a1a]
 try rfl
def a5b:=ai (ai (ai @zq (ai @aV2 @aS4)) (ai @aNj (ai @aI9 @ac6))) (ai (ai @ab3 (ai @aeB @bN)) (ai @zT0 (ai @aHL (ba aX7))))
def aLc (n:Int) (hn:jd n=true):GW 71 [aU n] [Lib.itoa n]:=by
 intro o h
 have k1:=fun K=>aN.k (aCg n) K
 have k2:=fun K=>aN.k (anG ⟨2,n,ByteArray.empty⟩ hn (show (0:Nat)≤1048576 by omega)) K
 have e:ahe ⟨2,n,ByteArray.empty⟩=Lib.itoa n:=by rw[alK];rfl
 rw[e] at k2
 have h1:bi o+1≤LIM:=h
 refine ah rfl aX7 aHL rfl ?_
 simp -implicitDefEqProofs(maxSteps:=9^9)only[Tryz.f71,↓zA,sevalprocAttr,a5b,zW,k1,k2,dF,h1]
def apq (n:Int) (hn:jd n=true) (o:Option (List To)) (K:An→Prop):bp Tryz.prog pr 71 [.ptr 0 0,.of (.lit (.int .i64 n))] [wT cw o] K↔ifP (bi o+1≤LIM) (K ⟨false,[],[wT cw (iz o [Lib.itoa n])]⟩) (afR Tryz.prog pr 71 [.ptr 0 0,.of (.lit (.int .i64 n))] [wT cw o] K):=(aLc n hn).k o K
def cN {α:Type} (A:List α) (x:α):(A++[x])[A.length]?=some x:=by simp
def cm {α:Type} (A:List α) (x y:α):(A++[x]).set A.length y=A++[y]:=by simp
def bg (tk:Tk) (a b:ByteArray):dY tk 2 (Pe.elemOf (TT.of Tryz.prog) 23) (some [(0,[dw a]),(1,[dw b])])=out (.own tk 9 1 [aH a,aH b] 2):=by rw[E23];kernel_rfl
abbrev wP (r:Nat):Ob:=.var 65 [.ptr r 0]
def GC (f:Nat) (cs:List C) (T:List To):Prop:=bh f=true∧tkF f=false∧ak Tryz.prog f=true∧∀ o,bi o+T.length≤LIM→aN Tryz.prog pr f [.ptr 0 0,.of (.ref cs)] [wP 1,wT (.cell 1 0) o] ⟨false,[],[wP 1,wT (.cell 1 0) (iz o T)]⟩
def GH (cs:List C) (f:Nat) (is:Bool) (T:List To):Prop:=∀ o,bi o+(bI is T).length≤LIM→aN Tryz.prog pr 150 [.ptr 0 0,aG is,.clo (2*f) [.ptr 1 0,.of (.ref cs)]] [wT cw o,wP 0] ⟨false,[],[wT cw (iz o (bI is T)),wP 0]⟩
def a1e:=ai (ai (ai @zq @aet) (ai @adk @agn)) (ai (ai @bN @zT0) (ai @azT (ba aPf)))
def ahG (f:Nat) (cs:List C) (T:List To) (is:Bool) (h:GC f cs T):GH cs f is T:=by
 obtain⟨h1,h2,h3,h4⟩:=h
 intro o hl
 have kc:=fun o K=>ae1 (h4 o) K
 have e40:=aL [40]
 have e41:=aL [41]
 have kw1:=fun o K=>(gv is [.lit (.string (aD [40]))] [[40]] 1 rfl rfl (by simp)).k o K
 have kw2:=fun o K=>(gv is [.lit (.string (aD [41]))] [[41]] 1 rfl rfl (by simp)).k o K
 rw[aLy] at hl ⊢
 simp only[av,ahs,lpT,rpT,dI] at hl
 have q1:bi o+(aF is [[40]]).length≤LIM:=by rw[ahs];simp only[dI];omega
 have q2:bi o+(aF is [[40]]).length+T.length≤LIM:=by rw[ahs];simp only[dI];omega
 have q3:bi o+((aF is [[40]]).length+T.length)+(aF is [[41]]).length≤LIM:=by rw[ahs,ahs];simp only[dI];omega
 refine ah rfl aPf azT rfl ?_
 simp -implicitDefEqProofs(maxSteps:=9^9)only[Tryz.f150,↓zA,sevalprocAttr,a1e,zW,e40,e41,kw1,kw2,kc,h1,h2,h3,aI2,aI1,q1,q2,q3,av,am,lpT,rpT,dt]
def afW (b:Bool):bc b []=[]:=by cases b <;> rfl
def ary (b:Bool) (a:List To) (r:List (List To)):bc b (a::r)=aF (!b) [cmT]++(a++bc false r):=by cases b <;> rfl
def aii {α:Type} (T:α→List To) {l:List α} {k:Nat} (h:k<l.length):bc (decide (k=0)) ((l.drop k).map T)=aF (decide (0<k)) [cmT]++(T l[k]++bc (decide (k+1=0)) ((l.drop (k+1)).map T)):=by
 have e:decide (k+1=0)=false:=by simp
 have e2:(!decide (k=0))=decide (0<k):=by by_cases h:k=0 <;> simp[h];omega
 rw[bK h,aV,ary,e,e2]
def acK (k:Nat):decide ((0:Int)<(k:Int))=decide (0<k):=fE.2 (by omega)
def as8:=ai (ai (ai @zq @aet) (ai @adk @agn)) (ai (ai @bN @Q9) (ai @zT0 (ai @aAl (ba aPH))))
def aqK (f:Nat) (l:List (List UInt8)) (T:List UInt8→List To) (hl:l.length≤4611686018427387903) (h1:bh f=true) (h2:tkF f=false) (h3:ak Tryz.prog f=true) (h:∀ x∈l,GW f [.of (.lit (.string (aD x)))] (T x)):GW 121 [.of (slC bA l),.clo (2*f+1) [.ptr 0 0]] (bc true (l.map T)):=by
 intro o hb
 have e44:=aL [44]
 refine ah rfl aPH aAl rfl ?_
 simp -implicitDefEqProofs(maxSteps:=9^9)only[Tryz.f121,↓zA,sevalprocAttr,as8]
 refine bW l.length (fun k s=>s.fr 0=.ptr 0 0∧s.fr 2=.clo (2*f+1) [.ptr 0 0]∧s.fr 8=.of (slC bA l)∧s.fr 9=aU l.length∧s.fr 10=aU k∧∃ A,s.objs=[wT cw (iz o A)]∧bc true (l.map T)=A++bc (decide (k=0)) ((l.drop k).map T)) ?_ ?_
 .simp -implicitDefEqProofs(maxSteps:=9^9)only[Tryz.f121,↓zA,sevalprocAttr,as8]
  exact⟨[],rfl,rfl⟩
 rintro k ⟨frk,obk,ckk⟩ hk ⟨f0,f2,f8,f9,f10,A,fo,E⟩
 dsimp only at f0 f2 f8 f9 f10 fo
 rcases ap k l.length with dk|dk
 .have hw:=cE k (by omega)
  have gx:=bq dk
  have hx:=h _ (ay dk)
  rw[aii T dk] at E
  generalize l[k]=x at *
  have kw:=fun o K=>(gv (decide (0<k)) [.lit (.string (aD [44]))] [[44]] 1 rfl rfl (by simp)).k o K
  have kx:=fun o K=>hx.k o K
  have hb2:=hb
  rw[E] at hb2
  simp only[av,cmT] at hb2
  have q1:bi o+A.length+(aF (decide (0<k)) [[44]]).length≤LIM:=by omega
  have q2:bi o+(A.length+(aF (decide (0<k)) [[44]]).length)+(T x).length≤LIM:=by omega
  simp -implicitDefEqProofs(maxSteps:=9^9)only[Tryz.f121,↓zA,sevalprocAttr,as8,f0,f2,f8,f9,f10,fo,zW,aK,dk,gx,hw,e44,acK,kw,kx,q1,q2,h1,h2,h3,aj6,aj5,av,af2]
  refine⟨_,rfl,?_⟩
  have ek:decide (k+1=0)=false:=by simp
  rw[E,ek];simp only[cmT,am]
  try rfl
 have e:k=l.length:=by omega
 subst e
 rw[aw,bC,afW,cD] at E
 simp -implicitDefEqProofs(maxSteps:=9^9)only[Tryz.f121,↓zA,sevalprocAttr,as8,f0,f2,f8,f9,f10,fo,zW,aK,au,E]
def aBS:=ai (ai (ai @zq @aDc) (ai @aet (ai @adk @agn))) (ai (ai @cQ (ai @bN @d6)) (ai @zT0 (ai @aHQ (ba aYc))))
def aev (f:Nat) (l:List (Xp)) (T:Xp→List To) (hl:l.length≤4611686018427387903) (h1:bh f=true) (h2:tkF f=false) (h3:ak Tryz.prog f=true) (h:∀ x∈l,GW f [.of (.agg (xpC x))] (T x)):GW 66 [.of (slC xpC l),.clo (2*f+1) [.ptr 0 0]] (bc true (l.map T)):=by
 intro o hb
 have e44:=aL [44]
 refine ah rfl aYc aHQ rfl ?_
 simp -implicitDefEqProofs(maxSteps:=9^9)only[Tryz.f66,↓zA,sevalprocAttr,aBS]
 refine bW l.length (fun k s=>s.fr 0=.ptr 0 0∧s.fr 2=.clo (2*f+1) [.ptr 0 0]∧s.fr 8=.of (slC xpC l)∧s.fr 9=aU l.length∧s.fr 10=aU k∧∃ A,s.objs=[wT cw (iz o A)]∧bc true (l.map T)=A++bc (decide (k=0)) ((l.drop k).map T)) ?_ ?_
 .simp -implicitDefEqProofs(maxSteps:=9^9)only[Tryz.f66,↓zA,sevalprocAttr,aBS]
  exact⟨[],rfl,rfl⟩
 rintro k ⟨frk,obk,ckk⟩ hk ⟨f0,f2,f8,f9,f10,A,fo,E⟩
 dsimp only at f0 f2 f8 f9 f10 fo
 rcases ap k l.length with dk|dk
 .have hw:=cE k (by omega)
  have gx:=bq dk
  have hx:=h _ (ay dk)
  rw[aii T dk] at E
  generalize l[k]=x at *
  have kw:=fun o K=>(gv (decide (0<k)) [.lit (.string (aD [44]))] [[44]] 1 rfl rfl (by simp)).k o K
  have kx:=fun o K=>hx.k o K
  have hb2:=hb
  rw[E] at hb2
  simp only[av,cmT] at hb2
  have q1:bi o+A.length+(aF (decide (0<k)) [[44]]).length≤LIM:=by omega
  have q2:bi o+(A.length+(aF (decide (0<k)) [[44]]).length)+(T x).length≤LIM:=by omega
  simp -implicitDefEqProofs(maxSteps:=9^9)only[Tryz.f66,↓zA,sevalprocAttr,aBS,f0,f2,f8,f9,f10,fo,zW,aK,dk,gx,hw,e44,acK,kw,kx,q1,q2,h1,h2,h3,aj6,aj5,av,af2]
  refine⟨_,rfl,?_⟩
  have ek:decide (k+1=0)=false:=by simp
  rw[E,ek];simp only[cmT,am]
  try rfl
 have e:k=l.length:=by omega
 subst e
 rw[aw,bC,afW,cD] at E
 simp -implicitDefEqProofs(maxSteps:=9^9)only[Tryz.f66,↓zA,sevalprocAttr,aBS,f0,f2,f8,f9,f10,fo,zW,aK,au,E]
def aBT:=ai (ai (ai @zq @aDc) (ai @aet (ai @adk @agn))) (ai (ai @abc (ai @bN @ab9)) (ai @zT0 (ai @aHT (ba aYf))))
def aja (f:Nat) (l:List (Im)) (T:Im→List To) (hl:l.length≤4611686018427387903) (h1:bh f=true) (h2:tkF f=false) (h3:ak Tryz.prog f=true) (h:∀ x∈l,GW f [.of (.agg (imC x))] (T x)):GW 63 [.of (slC imC l),.clo (2*f+1) [.ptr 0 0]] (bc true (l.map T)):=by
 intro o hb
 have e44:=aL [44]
 refine ah rfl aYf aHT rfl ?_
 simp -implicitDefEqProofs(maxSteps:=9^9)only[Tryz.f63,↓zA,sevalprocAttr,aBT]
 refine bW l.length (fun k s=>s.fr 0=.ptr 0 0∧s.fr 2=.clo (2*f+1) [.ptr 0 0]∧s.fr 8=.of (slC imC l)∧s.fr 9=aU l.length∧s.fr 10=aU k∧∃ A,s.objs=[wT cw (iz o A)]∧bc true (l.map T)=A++bc (decide (k=0)) ((l.drop k).map T)) ?_ ?_
 .simp -implicitDefEqProofs(maxSteps:=9^9)only[Tryz.f63,↓zA,sevalprocAttr,aBT]
  exact⟨[],rfl,rfl⟩
 rintro k ⟨frk,obk,ckk⟩ hk ⟨f0,f2,f8,f9,f10,A,fo,E⟩
 dsimp only at f0 f2 f8 f9 f10 fo
 rcases ap k l.length with dk|dk
 .have hw:=cE k (by omega)
  have gx:=bq dk
  have hx:=h _ (ay dk)
  rw[aii T dk] at E
  generalize l[k]=x at *
  have kw:=fun o K=>(gv (decide (0<k)) [.lit (.string (aD [44]))] [[44]] 1 rfl rfl (by simp)).k o K
  have kx:=fun o K=>hx.k o K
  have hb2:=hb
  rw[E] at hb2
  simp only[av,cmT] at hb2
  have q1:bi o+A.length+(aF (decide (0<k)) [[44]]).length≤LIM:=by omega
  have q2:bi o+(A.length+(aF (decide (0<k)) [[44]]).length)+(T x).length≤LIM:=by omega
  simp -implicitDefEqProofs(maxSteps:=9^9)only[Tryz.f63,↓zA,sevalprocAttr,aBT,f0,f2,f8,f9,f10,fo,zW,aK,dk,gx,hw,e44,acK,kw,kx,q1,q2,h1,h2,h3,aj6,aj5,av,af2]
  refine⟨_,rfl,?_⟩
  have ek:decide (k+1=0)=false:=by simp
  rw[E,ek];simp only[cmT,am]
  try rfl
 have e:k=l.length:=by omega
 subst e
 rw[aw,bC,afW,cD] at E
 simp -implicitDefEqProofs(maxSteps:=9^9)only[Tryz.f63,↓zA,sevalprocAttr,aBT,f0,f2,f8,f9,f10,fo,zW,aK,au,E]
def aBQ:=ai (ai (ai @zq @aDc) (ai @aet (ai @adk @agn))) (ai (ai @acN (ai @bN @abX)) (ai @zT0 (ai @aHN (ba aX9))))
def aiE (f:Nat) (l:List (Od)) (T:Od→List To) (hl:l.length≤4611686018427387903) (h1:bh f=true) (h2:tkF f=false) (h3:ak Tryz.prog f=true) (h:∀ x∈l,GW f [.of (.agg (odC x))] (T x)):GW 69 [.of (slC odC l),.clo (2*f+1) [.ptr 0 0]] (bc true (l.map T)):=by
 intro o hb
 have e44:=aL [44]
 refine ah rfl aX9 aHN rfl ?_
 simp -implicitDefEqProofs(maxSteps:=9^9)only[Tryz.f69,↓zA,sevalprocAttr,aBQ]
 refine bW l.length (fun k s=>s.fr 0=.ptr 0 0∧s.fr 2=.clo (2*f+1) [.ptr 0 0]∧s.fr 8=.of (slC odC l)∧s.fr 9=aU l.length∧s.fr 10=aU k∧∃ A,s.objs=[wT cw (iz o A)]∧bc true (l.map T)=A++bc (decide (k=0)) ((l.drop k).map T)) ?_ ?_
 .simp -implicitDefEqProofs(maxSteps:=9^9)only[Tryz.f69,↓zA,sevalprocAttr,aBQ]
  exact⟨[],rfl,rfl⟩
 rintro k ⟨frk,obk,ckk⟩ hk ⟨f0,f2,f8,f9,f10,A,fo,E⟩
 dsimp only at f0 f2 f8 f9 f10 fo
 rcases ap k l.length with dk|dk
 .have hw:=cE k (by omega)
  have gx:=bq dk
  have hx:=h _ (ay dk)
  rw[aii T dk] at E
  generalize l[k]=x at *
  have kw:=fun o K=>(gv (decide (0<k)) [.lit (.string (aD [44]))] [[44]] 1 rfl rfl (by simp)).k o K
  have kx:=fun o K=>hx.k o K
  have hb2:=hb
  rw[E] at hb2
  simp only[av,cmT] at hb2
  have q1:bi o+A.length+(aF (decide (0<k)) [[44]]).length≤LIM:=by omega
  have q2:bi o+(A.length+(aF (decide (0<k)) [[44]]).length)+(T x).length≤LIM:=by omega
  simp -implicitDefEqProofs(maxSteps:=9^9)only[Tryz.f69,↓zA,sevalprocAttr,aBQ,f0,f2,f8,f9,f10,fo,zW,aK,dk,gx,hw,e44,acK,kw,kx,q1,q2,h1,h2,h3,aj6,aj5,av,af2]
  refine⟨_,rfl,?_⟩
  have ek:decide (k+1=0)=false:=by simp
  rw[E,ek];simp only[cmT,am]
  try rfl
 have e:k=l.length:=by omega
 subst e
 rw[aw,bC,afW,cD] at E
 simp -implicitDefEqProofs(maxSteps:=9^9)only[Tryz.f69,↓zA,sevalprocAttr,aBQ,f0,f2,f8,f9,f10,fo,zW,aK,au,E]
def as7:=ai (ai (ai @zq @aet) (ai @adk (ai @agn @cQ))) (ai (ai @bN @hY) (ai @zT0 (ai @aAk (ba aPG))))
def aqL (f:Nat) (l:List (List Xp)) (T:List Xp→List To) (hl:l.length≤4611686018427387903) (h1:bh f=true) (h2:tkF f=false) (h3:ak Tryz.prog f=true) (h:∀ x∈l,GW f [.of (slC xpC x)] (T x)):GW 122 [.of (slC (lsC xpC) l),.clo (2*f+1) [.ptr 0 0]] (bc true (l.map T)):=by
 intro o hb
 have e44:=aL [44]
 refine ah rfl aPG aAk rfl ?_
 simp -implicitDefEqProofs(maxSteps:=9^9)only[Tryz.f122,↓zA,sevalprocAttr,as7]
 refine bW l.length (fun k s=>s.fr 0=.ptr 0 0∧s.fr 2=.clo (2*f+1) [.ptr 0 0]∧s.fr 8=.of (slC (lsC xpC) l)∧s.fr 9=aU l.length∧s.fr 10=aU k∧∃ A,s.objs=[wT cw (iz o A)]∧bc true (l.map T)=A++bc (decide (k=0)) ((l.drop k).map T)) ?_ ?_
 .simp -implicitDefEqProofs(maxSteps:=9^9)only[Tryz.f122,↓zA,sevalprocAttr,as7]
  exact⟨[],rfl,rfl⟩
 rintro k ⟨frk,obk,ckk⟩ hk ⟨f0,f2,f8,f9,f10,A,fo,E⟩
 dsimp only at f0 f2 f8 f9 f10 fo
 rcases ap k l.length with dk|dk
 .have hw:=cE k (by omega)
  have gx:=bq dk
  have hx:=h _ (ay dk)
  rw[aii T dk] at E
  generalize l[k]=x at *
  have kw:=fun o K=>(gv (decide (0<k)) [.lit (.string (aD [44]))] [[44]] 1 rfl rfl (by simp)).k o K
  have kx:=fun o K=>hx.k o K
  have hb2:=hb
  rw[E] at hb2
  simp only[av,cmT] at hb2
  have q1:bi o+A.length+(aF (decide (0<k)) [[44]]).length≤LIM:=by omega
  have q2:bi o+(A.length+(aF (decide (0<k)) [[44]]).length)+(T x).length≤LIM:=by omega
  simp -implicitDefEqProofs(maxSteps:=9^9)only[Tryz.f122,↓zA,sevalprocAttr,as7,f0,f2,f8,f9,f10,fo,zW,aK,dk,gx,hw,e44,acK,kw,kx,q1,q2,h1,h2,h3,aj6,aj5,av,af2]
  refine⟨_,rfl,?_⟩
  have ek:decide (k+1=0)=false:=by simp
  rw[E,ek];simp only[cmT,am]
  try rfl
 have e:k=l.length:=by omega
 subst e
 rw[aw,bC,afW,cD] at E
 simp -implicitDefEqProofs(maxSteps:=9^9)only[Tryz.f122,↓zA,sevalprocAttr,as7,f0,f2,f8,f9,f10,fo,zW,aK,au,E]
end Go.Proofs.YtemdljoideegeaaGreatDoor

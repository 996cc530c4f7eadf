/-
  Instances of the library's generic functions. Conditions: none.
-/
import Derived.Test.YtemdljoideegeaaGreatDoorPa11
set_option linter.defProp false
set_option linter.unusedSectionVars false
set_option maxRecDepth 100000
set_option maxHeartbeats 64000000
namespace Go.Proofs.YtemdljoideegeaaGreatDoor
open Go Go.Pe Go.Tab
def acW:=ai (ai @zq @zT0) (ai @aHG (ba aX2))
def auz (op:Int):G1 79 [aU op] (aU (fw op)):=by
 unfold fw
 refine ah rfl aX2 aHG rfl ?_
 by_cases h18:op=18
 .subst h18
  simp -implicitDefEqProofs(maxSteps:=9^9)only[Tryz.f79,↓zA,sevalprocAttr,acW,Int.reduceEq]
  try rfl
 by_cases h17:op=17
 .subst h17
  simp -implicitDefEqProofs(maxSteps:=9^9)only[Tryz.f79,↓zA,sevalprocAttr,acW,Int.reduceEq]
  try rfl
 by_cases h4:op=4
 .subst h4
  simp -implicitDefEqProofs(maxSteps:=9^9)only[Tryz.f79,↓zA,sevalprocAttr,acW,Int.reduceEq]
  try rfl
 by_cases h11:op=11
 .subst h11
  simp -implicitDefEqProofs(maxSteps:=9^9)only[Tryz.f79,↓zA,sevalprocAttr,acW,Int.reduceEq]
  try rfl
 by_cases h12:op=12
 .subst h12
  simp -implicitDefEqProofs(maxSteps:=9^9)only[Tryz.f79,↓zA,sevalprocAttr,acW,Int.reduceEq]
  try rfl
 by_cases h13:op=13
 .subst h13
  simp -implicitDefEqProofs(maxSteps:=9^9)only[Tryz.f79,↓zA,sevalprocAttr,acW,Int.reduceEq]
  try rfl
 by_cases h14:op=14
 .subst h14
  simp -implicitDefEqProofs(maxSteps:=9^9)only[Tryz.f79,↓zA,sevalprocAttr,acW,Int.reduceEq]
  try rfl
 by_cases h15:op=15
 .subst h15
  simp -implicitDefEqProofs(maxSteps:=9^9)only[Tryz.f79,↓zA,sevalprocAttr,acW,Int.reduceEq]
  try rfl
 by_cases h16:op=16
 .subst h16
  simp -implicitDefEqProofs(maxSteps:=9^9)only[Tryz.f79,↓zA,sevalprocAttr,acW,Int.reduceEq]
  try rfl
 by_cases h19:op=19
 .subst h19
  simp -implicitDefEqProofs(maxSteps:=9^9)only[Tryz.f79,↓zA,sevalprocAttr,acW,Int.reduceEq]
  try rfl
 by_cases h20:op=20
 .subst h20
  simp -implicitDefEqProofs(maxSteps:=9^9)only[Tryz.f79,↓zA,sevalprocAttr,acW,Int.reduceEq]
  try rfl
 by_cases h21:op=21
 .subst h21
  simp -implicitDefEqProofs(maxSteps:=9^9)only[Tryz.f79,↓zA,sevalprocAttr,acW,Int.reduceEq]
  try rfl
 by_cases h22:op=22
 .subst h22
  simp -implicitDefEqProofs(maxSteps:=9^9)only[Tryz.f79,↓zA,sevalprocAttr,acW,Int.reduceEq]
  try rfl
 by_cases h28:op=28
 .subst h28
  simp -implicitDefEqProofs(maxSteps:=9^9)only[Tryz.f79,↓zA,sevalprocAttr,acW,Int.reduceEq]
  try rfl
 by_cases h10:op=10
 .subst h10
  simp -implicitDefEqProofs(maxSteps:=9^9)only[Tryz.f79,↓zA,sevalprocAttr,acW,Int.reduceEq]
  try rfl
 by_cases h5:op=5
 .subst h5
  simp -implicitDefEqProofs(maxSteps:=9^9)only[Tryz.f79,↓zA,sevalprocAttr,acW,Int.reduceEq]
  try rfl
 by_cases h6:op=6
 .subst h6
  simp -implicitDefEqProofs(maxSteps:=9^9)only[Tryz.f79,↓zA,sevalprocAttr,acW,Int.reduceEq]
  try rfl
 by_cases h7:op=7
 .subst h7
  simp -implicitDefEqProofs(maxSteps:=9^9)only[Tryz.f79,↓zA,sevalprocAttr,acW,Int.reduceEq]
  try rfl
 by_cases h8:op=8
 .subst h8
  simp -implicitDefEqProofs(maxSteps:=9^9)only[Tryz.f79,↓zA,sevalprocAttr,acW,Int.reduceEq]
  try rfl
 by_cases h9:op=9
 .subst h9
  simp -implicitDefEqProofs(maxSteps:=9^9)only[Tryz.f79,↓zA,sevalprocAttr,acW,Int.reduceEq]
  try rfl
 by_cases h3:op=3
 .subst h3
  simp -implicitDefEqProofs(maxSteps:=9^9)only[Tryz.f79,↓zA,sevalprocAttr,acW,Int.reduceEq]
  try rfl
 simp -implicitDefEqProofs(maxSteps:=9^9)only[Tryz.f79,↓zA,sevalprocAttr,acW,h18,h17,h4,h11,h12,h13,h14,h15,h16,h19,h20,h21,h22,h28,h10,h5,h6,h7,h8,h9,h3]
 try rfl
def acV:=ai (ai @zq @zT0) (ai @aHs (ba aXO))
def asw (op:Int):G1 94 [aU op] (aU (fw op)):=by
 unfold fw
 refine ah rfl aXO aHs rfl ?_
 by_cases h18:op=18
 .subst h18
  simp -implicitDefEqProofs(maxSteps:=9^9)only[Tryz.f94,↓zA,sevalprocAttr,acV,Int.reduceEq]
  try rfl
 by_cases h17:op=17
 .subst h17
  simp -implicitDefEqProofs(maxSteps:=9^9)only[Tryz.f94,↓zA,sevalprocAttr,acV,Int.reduceEq]
  try rfl
 by_cases h4:op=4
 .subst h4
  simp -implicitDefEqProofs(maxSteps:=9^9)only[Tryz.f94,↓zA,sevalprocAttr,acV,Int.reduceEq]
  try rfl
 by_cases h11:op=11
 .subst h11
  simp -implicitDefEqProofs(maxSteps:=9^9)only[Tryz.f94,↓zA,sevalprocAttr,acV,Int.reduceEq]
  try rfl
 by_cases h12:op=12
 .subst h12
  simp -implicitDefEqProofs(maxSteps:=9^9)only[Tryz.f94,↓zA,sevalprocAttr,acV,Int.reduceEq]
  try rfl
 by_cases h13:op=13
 .subst h13
  simp -implicitDefEqProofs(maxSteps:=9^9)only[Tryz.f94,↓zA,sevalprocAttr,acV,Int.reduceEq]
  try rfl
 by_cases h14:op=14
 .subst h14
  simp -implicitDefEqProofs(maxSteps:=9^9)only[Tryz.f94,↓zA,sevalprocAttr,acV,Int.reduceEq]
  try rfl
 by_cases h15:op=15
 .subst h15
  simp -implicitDefEqProofs(maxSteps:=9^9)only[Tryz.f94,↓zA,sevalprocAttr,acV,Int.reduceEq]
  try rfl
 by_cases h16:op=16
 .subst h16
  simp -implicitDefEqProofs(maxSteps:=9^9)only[Tryz.f94,↓zA,sevalprocAttr,acV,Int.reduceEq]
  try rfl
 by_cases h19:op=19
 .subst h19
  simp -implicitDefEqProofs(maxSteps:=9^9)only[Tryz.f94,↓zA,sevalprocAttr,acV,Int.reduceEq]
  try rfl
 by_cases h20:op=20
 .subst h20
  simp -implicitDefEqProofs(maxSteps:=9^9)only[Tryz.f94,↓zA,sevalprocAttr,acV,Int.reduceEq]
  try rfl
 by_cases h21:op=21
 .subst h21
  simp -implicitDefEqProofs(maxSteps:=9^9)only[Tryz.f94,↓zA,sevalprocAttr,acV,Int.reduceEq]
  try rfl
 by_cases h22:op=22
 .subst h22
  simp -implicitDefEqProofs(maxSteps:=9^9)only[Tryz.f94,↓zA,sevalprocAttr,acV,Int.reduceEq]
  try rfl
 by_cases h28:op=28
 .subst h28
  simp -implicitDefEqProofs(maxSteps:=9^9)only[Tryz.f94,↓zA,sevalprocAttr,acV,Int.reduceEq]
  try rfl
 by_cases h10:op=10
 .subst h10
  simp -implicitDefEqProofs(maxSteps:=9^9)only[Tryz.f94,↓zA,sevalprocAttr,acV,Int.reduceEq]
  try rfl
 by_cases h5:op=5
 .subst h5
  simp -implicitDefEqProofs(maxSteps:=9^9)only[Tryz.f94,↓zA,sevalprocAttr,acV,Int.reduceEq]
  try rfl
 by_cases h6:op=6
 .subst h6
  simp -implicitDefEqProofs(maxSteps:=9^9)only[Tryz.f94,↓zA,sevalprocAttr,acV,Int.reduceEq]
  try rfl
 by_cases h7:op=7
 .subst h7
  simp -implicitDefEqProofs(maxSteps:=9^9)only[Tryz.f94,↓zA,sevalprocAttr,acV,Int.reduceEq]
  try rfl
 by_cases h8:op=8
 .subst h8
  simp -implicitDefEqProofs(maxSteps:=9^9)only[Tryz.f94,↓zA,sevalprocAttr,acV,Int.reduceEq]
  try rfl
 by_cases h9:op=9
 .subst h9
  simp -implicitDefEqProofs(maxSteps:=9^9)only[Tryz.f94,↓zA,sevalprocAttr,acV,Int.reduceEq]
  try rfl
 by_cases h3:op=3
 .subst h3
  simp -implicitDefEqProofs(maxSteps:=9^9)only[Tryz.f94,↓zA,sevalprocAttr,acV,Int.reduceEq]
  try rfl
 simp -implicitDefEqProofs(maxSteps:=9^9)only[Tryz.f94,↓zA,sevalprocAttr,acV,h18,h17,h4,h11,h12,h13,h14,h15,h16,h19,h20,h21,h22,h28,h10,h5,h6,h7,h8,h9,h3]
 try rfl
def ij (op:Int) (K:An→Prop):bp Tryz.prog pr 79 [.of (.lit (.int .i64 op))] [] K↔K ⟨false,[aU (fw op)],[]⟩:=aN.k (auz op) K
abbrev xpL (e:Xp):List C:=[ci e.op,ci e.v.k,ci e.v.n,aH e.v.s,aH (aD e.tb),aH (aD e.nm),cb e.di,slC xpC e.ks,slC qyC e.sb]
abbrev WX (e:Xp):Prop:=GW 28 [.of (.agg (xpC e))] (xpT e)
abbrev WQ (q:Qy):Prop:=GW 24 [.of (.agg (qyC q))] (qyT q)
abbrev WF (f:Fm):Prop:=GW 65 [.of (.agg (fmC f))] (fmT f)
def a06:=ai (ai (ai @zq @aNt) (ai @aJj @aUa)) (ai (ai @cQ @P65) (ai @zT0 (ai @azy (ba aOU))))
def aMc (e:Xp) (hx:WX e):GC 174 (xpL e) (xpT e):=by
 refine⟨aGx,aM4,aBh,fun o h=>?_⟩
 have kx:=fun o K=>hx.k o K
 refine ah rfl aOU azy rfl ?_
 simp -implicitDefEqProofs(maxSteps:=9^9)only[Tryz.f174,↓zA,sevalprocAttr,a06,zW,dt,cN,cm,kx,h]
def a49:=ai (ai (ai (ai @zq @a6y) (ai @T65 @a6x)) (ai (ai @aNk @aJa) (ai @apk (ai @ano @atf)))) (ai (ai (ai @cQ @aGx) (ai @aBh @aM4)) (ai (ai @P65 @Q3) (ai @zT0 (ai @aHE (ba aX0)))))
def acD (e:Xp) (n:Int) (hx:WX e):GW 81 [.of (.agg (xpC e)),aU n] (dS n e):=by
 intro o h
 have kh:=fun K=>ae1 (ahG 174 (xpL e) (xpT e) (decide (fw e.op<n)) (aMc e hx) o) K
 simp only[Nat.reduceMul] at kh
 have h':bi o+(bI (decide (fw e.op<n)) (xpT e)).length≤LIM:=h
 refine ah rfl aX0 aHE rfl ?_
 simp -implicitDefEqProofs(maxSteps:=9^9)only[Tryz.f81,↓zA,sevalprocAttr,a49,zW,dt,cN,cm,ij,kh,h']
 try rfl
def a5g:=ai (ai (ai @zq @a65) (ai @aNi @aI8)) (ai (ai @aT7 @cQ) (ai @zT0 (ai @aH6 (ba aYs))))
def adu (e:Xp) (hx:WX e):GW 43 [.of (.agg (xpC e))] (bv e):=by
 intro o h
 have ka:=fun o K=>(acD e 1 hx).k o K
 have h':bi o+(dS 1 e).length≤LIM:=h
 refine ah rfl aYs aH6 rfl ?_
 simp -implicitDefEqProofs(maxSteps:=9^9)only[Tryz.f43,↓zA,sevalprocAttr,a5g,zW,ka,h']
 try rfl
def a48:=ai (ai (ai @zq (ai @ac6 @ab3)) (ai (ai @aeB @aCY) (ai @avZ @aJ7))) (ai (ai (ai @cQ @bN) (ai @agx @aeQ)) (ai (ai @aix @zT0) (ai @aHD (ba aXZ))))
def ajb (l:List Xp) (hl:l.length≤4611686018427387903) (hx:∀ e∈l,WX e):GW 82 [.of (slC xpC l)] (gD l):=by
 intro o h
 have kl:=fun o K=>(aev 43 l bv hl agx aix aeQ fun e he=>adu e (hx e he)).k o K
 simp only[Nat.reduceMul,Nat.reduceAdd] at kl
 have e40:=aL [40]
 have e41:=aL [41]
 have hT:gD l=[40]::(bc true (l.map bv)++[[41]]):=rfl
 rw[hT] at h ⊢
 simp only[aB,av,cd] at h
 have q1:bi o+1≤LIM:=by omega
 have q2:bi o+1+(bc true (l.map bv)).length≤LIM:=by omega
 have q3:bi o+((bc true (l.map bv)).length+1)+1≤LIM:=by omega
 refine ah rfl aXZ aHD rfl ?_
 simp -implicitDefEqProofs(maxSteps:=9^9)only[Tryz.f82,↓zA,sevalprocAttr,a48,zW,e40,e41,dF,kl,q1,q2,q3,dI,av,ce]
def a5i:=ai (ai (ai @zq (ai @ac6 @ab3)) (ai (ai @aeB @aWf) (ai @aTh @a1A))) (ai (ai @bN (ai @afK @aec)) (ai (ai @ahR @zT0) (ai @aH9 (ba aYv))))
def aft (l:List (List UInt8)) (hl:l.length≤4611686018427387903) (hx:∀ s∈l,bk s=true):GW 39 [.of (slC bA l)] (dN l):=by
 intro o h
 have kl:=fun o K=>(aqK 38 l (fun s=>[bF s]) hl afK ahR aec fun s hs=>arJ s (hx s hs)).k o K
 simp only[Nat.reduceMul,Nat.reduceAdd] at kl
 have e40:=aL [40]
 have e41:=aL [41]
 have hT:dN l=[40]::(bc true (l.map fun s=>[bF s])++[[41]]):=rfl
 rw[hT] at h ⊢
 simp only[aB,av,cd] at h
 have q1:bi o+1≤LIM:=by omega
 have q2:bi o+1+(bc true (l.map fun s=>[bF s])).length≤LIM:=by omega
 have q3:bi o+((bc true (l.map fun s=>[bF s])).length+1)+1≤LIM:=by omega
 refine ah rfl aYv aH9 rfl ?_
 simp -implicitDefEqProofs(maxSteps:=9^9)only[Tryz.f39,↓zA,sevalprocAttr,a5i,zW,e40,e41,dF,kl,q1,q2,q3,dI,av,ce]
def a05:=ai (ai (ai @zq @am7) (ai @akb (ai @aqh @eu))) (ai (ai @cQ (ai @d7 @P65)) (ai @zT0 (ai @azx (ba aOT))))
def axP (e:Xp) (q:Qy) (hq:e.sb=[q]) (hx:WQ q):GC 175 (xpL e) (qyT q):=by
 refine⟨aGw,aM3,aBg,fun o h=>?_⟩
 have kx:=fun o K=>hx.k o K
 have g0:dE e.sb 0=some q:=by rw[hq];rfl
 refine ah rfl aOT azx rfl ?_
 simp -implicitDefEqProofs(maxSteps:=9^9)only[Tryz.f175,↓zA,sevalprocAttr,a05,zW,dt,cN,cm,g0,kx,h]
def a47:=ai (ai (ai @zq (ai @a64 @T65)) (ai (ai @a63 @apk) (ai @ano @atf))) (ai (ai (ai @cQ @aGw) (ai @aBg @aM3)) (ai (ai @P65 @zT0) (ai @aHC (ba aXY))))
def alp (e:Xp) (q:Qy) (hq:e.sb=[q]) (hx:WQ q):GW 83 [.of (.agg (xpC e))] (bI true (qyT q)):=by
 intro o h
 have kh:=fun K=>ae1 (ahG 175 (xpL e) (qyT q) true (axP e q hq hx) o) K
 simp only[Nat.reduceMul] at kh
 refine ah rfl aXY aHC rfl ?_
 simp -implicitDefEqProofs(maxSteps:=9^9)only[Tryz.f83,↓zA,sevalprocAttr,a47,zW,dt,cN,cm,kh,h]
 try rfl
end Go.Proofs.YtemdljoideegeaaGreatDoor
namespace Go.Tab
open Go Go.Pe
def awC:i7.all (fun c=>decide (c=32)||(decide (97≤c.toNat)&&decide (c.toNat≤122)))=true:=by decide
def aFk:i7.length=379:=rfl
def auy {p l:List UInt8}:p.isPrefixOf l=true↔l.take p.length=p:=by
 rw[List.isPrefixOf_iff_prefix,List.prefix_iff_eq_take]
 exact⟨fun h=>h.symm,fun h=>h.symm⟩
def aiA (s:List UInt8):List UInt8:=32::(s++[32])
def aQJ (s:List UInt8):(aiA s).length=s.length+2:=by simp[aiA]
def aQQ {s:List UInt8} {k:Nat} (h:(i7.drop k).take (s.length+2)=aiA s):agV s=true:=by
 unfold agV Lib.contains
 rw[ar]
 rcases Lib.index_spec i7 (32::(s++[32])) with ⟨h1,h2⟩|⟨i,h1,_⟩
 .by_cases hk:k≤i7.length
  .have h3:=h2 k hk
   unfold Lib.occAt at h3
   have h4:(aiA s).isPrefixOf (i7.drop k)=true:=auy.2 (by rw[aQJ];exact h)
   unfold aiA at h4
   rw[h3] at h4
   cases h4
  .rw[fh (by omega)] at h
   simp[aiA] at h
 .omega
def aud {s:List UInt8} (h:∀ k,k+(s.length+2)≤i7.length→(i7.drop k).take (s.length+2)≠aiA s):agV s=false:=by
 unfold agV Lib.contains
 rw[iH]
 rcases Lib.index_spec i7 (32::(s++[32])) with ⟨h1,_⟩|⟨i,h1,h2,h3,_⟩
 .omega
 .unfold Lib.occAt at h3
  have h4:=auy.1 h3
  have e:(32::(s++[32])).length=s.length+2:=by simp
  rw[e] at h4
  have h5:=congrArg List.length h4
  rw[e,aaj,iV] at h5
  exact absurd h4 (h i (by omega))
def ao5 {s:List UInt8} {c:UInt8} (hc:c∈s) (h:¬(97≤c.toNat∧c.toNat≤122)) (h32:c≠32):agV s=false:=by
 refine aud fun k _ e=>?_
 have h1:c∈(i7.drop k).take (s.length+2):=by rw[e];simp[aiA,hc]
 have h2:=bQ.1 awC c (fg (iv h1))
 simp only[cz,ab,ar] at h2
 rcases h2 with h2|h2
 .exact h32 h2
 .exact h h2
end Go.Tab
namespace Go.Proofs.YtemdljoideegeaaGreatDoor
open Go Go.Pe Go.Tab
def avo (s:List UInt8) (i:Int):adb (TT.of Tryz.prog) 9 (.of (.lit (.string (aD s)))) (.of (.lit (.int .i64 i)))=acb (dE s i) fun c=>.of (.lit (.int .u8 (c.toNat:Nat))):=avm (by rw[T9];rfl) s i
def aQM (s:List UInt8) (a b:Nat) (h1:a≤b) (h2:b≤s.length):aao (TT.of Tryz.prog) 9 (.of (.lit (.string (aD s)))) (some (.of (.lit (.int .i64 a)))) (some (.of (.lit (.int .i64 b))))=out (dw (aD ((s.take b).drop a))):=by
 have hs:(aD s).size=s.length:=acw s
 simp only[aao,T9,bH,ada,aA,acY,acg,hs]
 rw[aE ⟨by omega,by omega,by omega⟩,dl,dl]
 congr 4
 apply akD.1
 simp only[ByteArray.data_extract,Array.toList_extract,abw,aD,abC]
 rw[aeL]
def aBW:=ai (ai @zq @zT0) (ai @ayx (ba aNS))
def axn (c:UInt8):G1 247 [.of (.lit (.int .u8 (c.toNat:Nat)))] (aG (fD c)):=by
 have e95:(((c.toNat:Nat):Int)=95)=(c=95):=propext ⟨fun h=>abG.1 (by have:(95:UInt8).toNat=95:=rfl;omega),fun h=>by rw[h];rfl⟩
 have e1:((97:Int)≤((c.toNat:Nat):Int))=(97≤c.toNat):=propext (by omega)
 have e2:(((c.toNat:Nat):Int)≤122)=(c.toNat≤122):=propext (by omega)
 refine ah rfl aNS ayx rfl ?_
 by_cases a1:97≤c.toNat
 .by_cases a2:c.toNat≤122
  .simp -implicitDefEqProofs(maxSteps:=9^9)only[Tryz.f247,↓zA,sevalprocAttr,aBW,e1,e2,a1,a2,fD]
   try rfl
  .simp -implicitDefEqProofs(maxSteps:=9^9)only[Tryz.f247,↓zA,sevalprocAttr,aBW,e1,e2,a1,a2,e95,fD]
   try rfl
 .simp -implicitDefEqProofs(maxSteps:=9^9)only[Tryz.f247,↓zA,sevalprocAttr,aBW,e1,a1,e95,fD]
  try rfl
def au6 (c:UInt8) (K:An→Prop):bp Tryz.prog pr 247 [.of (.lit (.int .u8 (c.toNat:Nat)))] [] K↔K ⟨false,[aG (fD c)],[]⟩:=aN.k (axn c) K
def aMN:=ai (ai @zq @zT0) (ai @ayw (ba aNR))
def aD7 (c:UInt8):G1 248 [.of (.lit (.int .u8 (c.toNat:Nat)))] (aG (jc c)):=by
 have e1:((48:Int)≤((c.toNat:Nat):Int))=(48≤c.toNat):=propext (by omega)
 have e2:(((c.toNat:Nat):Int)≤57)=(c.toNat≤57):=propext (by omega)
 refine ah rfl aNR ayw rfl ?_
 by_cases a1:48≤c.toNat
 .simp -implicitDefEqProofs(maxSteps:=9^9)only[Tryz.f248,↓zA,sevalprocAttr,aMN,e1,e2,a1,jc]
  try rfl
 .simp -implicitDefEqProofs(maxSteps:=9^9)only[Tryz.f248,↓zA,sevalprocAttr,aMN,e1,a1,jc]
  try rfl
def aR0 (c:UInt8) (K:An→Prop):bp Tryz.prog pr 248 [.of (.lit (.int .u8 (c.toNat:Nat)))] [] K↔K ⟨false,[aG (jc c)],[]⟩:=aN.k (aD7 c) K
def aRm {s:List UInt8} (h:bk s=true) (h0:0<s.length):fD (s[0]'h0)=true:=by
 cases s with
 | nil=>cases h
 | cons c r=>simp only[bk,ab] at h;exact h.1.1
def aoB:=ai (ai (ai @zq @aVd) (ai @aSf @aVc)) (ai (ai @aSe @zT0) (ai @ay1 (ba aOn)))
def aER (s:List UInt8) (h:bk s=true):G1 210 [.of (aH (aD s))] (aG true):=by
 have hl:=adO h
 have h0:0<s.length:=by cases s with|nil=>cases h|cons c r=>simp
 have h0':((0:Int)<(s.length:Int))=True:=aa (by omega)
 refine ah rfl aOn ay1 rfl ?_
 simp -implicitDefEqProofs(maxSteps:=9^9)only[Tryz.f210,↓zA,sevalprocAttr,aoB]
 refine bW s.length (fun k t=>t.fr 0=.of (aH (aD s))∧t.fr 3=aU k∧t.objs=[]) ?_ ?_
 .simp -implicitDefEqProofs(maxSteps:=9^9)only[Tryz.f210,↓zA,sevalprocAttr,aoB]
  try exact rfl
 rintro k ⟨frk,obk,ckk⟩ hk ⟨f0,f2,fo⟩
 dsimp only at f0 f2 fo
 rcases ap k s.length with dk|dk
 .have hw:=cE k (by omega)
  have gx:=bq dk
  have hsd:=ai8 h s[k] (ay dk)
  by_cases a1:fD s[k]=true
  .simp -implicitDefEqProofs(maxSteps:=9^9)only[Tryz.f210,↓zA,sevalprocAttr,aoB,f0,f2,fo,aK,dk,avo,gx,hw,au6,a1]
  .have kz:k≠0:=by rintro rfl;exact a1 (aRm h dk)
   have a1':fD s[k]=false:=by simpa using a1
   have a2:jc s[k]=true:=by rw[a1'] at hsd;simpa using hsd
   have kz':((k:Int)=0)=False:=aO (by omega)
   simp -implicitDefEqProofs(maxSteps:=9^9)only[Tryz.f210,↓zA,sevalprocAttr,aoB,f0,f2,fo,aK,dk,avo,gx,hw,au6,aR0,a1',a2,kz']
 .have e:k=s.length:=by omega
  subst e
  simp -implicitDefEqProofs(maxSteps:=9^9)only[Tryz.f210,↓zA,sevalprocAttr,aoB,f0,f2,fo,aK,au,h0']
def eW:({data:=#[32,97,108,108,32,97,110,97,108,121,122,101,32,97,110,100,32,97,115,32,97,115,99,32,98,101,103,105,110,32,98,101,116,119,101,101,110,32,98,111,111,108,32,98,121,32,99,97,115,101,32,99,104,101,99,107,32,99,104,101,99,107,112,111,105,110,116,32,99,111,109,109,105,116,32,99,114,101,97,116,101,32,99,114,111,115,115,32,100,101,108,101,116,101,32,100,101,115,99,32,100,105,115,116,105,110,99,116,32,100,114,111,112,32,101,108,115,101,32,101,110,100,32,101,120,99,101,112,116,32,101,120,105,115,116,115,32,101,120,112,108,97,105,110,32,102,97,108,115,101,32,102,111,114,101,105,103,110,32,102,114,111,109,32,103,114,111,117,112,32,104,97,118,105,110,103,32,105,110,32,105,110,100,101,120,32,105,110,110,101,114,32,105,110,115,101,114,116,32,105,110,116,32,105,110,116,101,114,115,101,99,116,32,105,110,116,111,32,105,115,32,106,111,105,110,32,107,101,121,32,108,101,102,116,32,108,105,107,101,32,108,105,109,105,116,32,110,111,116,32,110,117,108,108,32,111,102,102,115,101,116,32,111,110,32,111,114,32,111,114,100,101,114,32,112,114,105,109,97,114,121,32,114,101,102,101,114,101,110,99,101,115,32,114,111,108,108,98,97,99,107,32,115,101,108,101,99,116,32,115,101,116,32,116,97,98,108,101,32,116,101,120,116,32,116,104,101,110,32,116,114,117,101,32,117,110,105,111,110,32,117,110,105,113,117,101,32,117,112,100,97,116,101,32,118,97,99,117,117,109,32,118,97,108,117,101,115,32,119,104,101,110,32,119,104,101,114,101,32]}:ByteArray)=aD i7:=rfl
def ahc:=ai (ai @zq @zT0) (ai @ay0 (ba aOm))
def ao7 (s:List UInt8) (h:bk s=true):G1 211 [.of (aH (aD s))] (aG (agV s)):=by
 have hl:=adO h
 have h0:0<s.length:=by cases s with|nil=>cases h|cons c r=>simp
 have h0':((0:Int)<(s.length:Int))=True:=aa (by omega)
 have e32:=aL [32]
 have wl:i7.length=379:=aFk
 refine ah rfl aOm ay0 rfl ?_
 simp -implicitDefEqProofs(maxSteps:=9^9)only[Tryz.f211,↓zA,sevalprocAttr,ahc,eW]
 refine bW s.length (fun k t=>t.fr 0=.of (aH (aD s))∧t.fr 3=.of (aH (aD i7))∧t.fr 4=aU k∧t.objs=[]) ?_ ?_
 .simp -implicitDefEqProofs(maxSteps:=9^9)only[Tryz.f211,↓zA,sevalprocAttr,ahc,eW]
  try exact rfl
 rintro k ⟨frk,obk,ckk⟩ hk ⟨f0,f2,f3,fo⟩
 dsimp only at f0 f2 f3 fo
 rcases ap k s.length with dk|dk
 .have hw:=cE k (by omega)
  have gx:=bq dk
  have hm:=ay dk
  have hsd:=aua (ai8 h s[k] hm)
  have e1:(((s[k].toNat:Nat):Int)<97)=¬(97≤s[k].toNat):=propext (by omega)
  have e2:((122:Int)<((s[k].toNat:Nat):Int))=¬(s[k].toNat≤122):=propext (by omega)
  by_cases a1:97≤s[k].toNat
  .by_cases a2:s[k].toNat≤122
   .simp -implicitDefEqProofs(maxSteps:=9^9)only[Tryz.f211,↓zA,sevalprocAttr,ahc,f0,f2,f3,fo,aK,dk,avo,gx,hw,e1,e2,a1,a2]
   .have hr:=ao5 hm (fun q=>a2 q.2) hsd.2
    simp -implicitDefEqProofs(maxSteps:=9^9)only[Tryz.f211,↓zA,sevalprocAttr,ahc,f0,f2,f3,fo,aK,dk,avo,gx,hw,e1,e2,a1,a2,hr]
  .have hr:=ao5 hm (fun q=>a1 q.1) hsd.2
   simp -implicitDefEqProofs(maxSteps:=9^9)only[Tryz.f211,↓zA,sevalprocAttr,ahc,f0,f2,f3,fo,aK,dk,avo,gx,hw,e1,a1,hr]
 have e:k=s.length:=by omega
 subst e
 simp -implicitDefEqProofs(maxSteps:=9^9)only[Tryz.f211,↓zA,sevalprocAttr,ahc,f0,f2,f3,fo,aK,au]
 refine bW (i7.length-(s.length+2)+1) (fun k t=>t.fr 0=.of (aH (aD s))∧t.fr 3=.of (aH (aD i7))∧t.fr 5=aU k∧t.objs=[]∧∀ j,j<k→(i7.drop j).take (s.length+2)≠aiA s) ?_ ?_
 .simp -implicitDefEqProofs(maxSteps:=9^9)only[Tryz.f211,↓zA,sevalprocAttr,ahc,f0,f2,fo]
  try exact fun j hj=>absurd hj (gI _)
 rintro k ⟨frq,obq,ckq⟩ hk2 ⟨g0,g2,g3,go,E⟩
 dsimp only at g0 g2 g3 go
 have w1:IntKind.i64.wrap ((k:Int)+(s.length:Int))=((k+s.length:Nat):Int):=eh _ (by omega) (by omega)
 have w2:IntKind.i64.wrap (((k+s.length:Nat):Int)+2)=((k+s.length+2:Nat):Int):=eh _ (by omega) (by omega)
 have hw:=cE k (by omega)
 have l1:1+s.length≤gH:=by unfold gH;omega
 have l2:(32::s).length+1≤gH:=by unfold gH;simp only[aB];omega
 have le:(((k+s.length+2:Nat):Int)≤(i7.length:Int))=(k+s.length+2≤i7.length):=propext Int.ofNat_le
 by_cases d:k+s.length+2≤i7.length
 .have sb:=aQM i7 k (k+s.length+2) (by omega) d
  have et:(i7.take (k+s.length+2)).drop k=(i7.drop k).take (s.length+2):=by rw[aeL];congr 1;omega
  rw[et] at sb
  by_cases c:(i7.drop k).take (s.length+2)=aiA s
  .have hr:=aQQ c
   rw[c] at sb
   have cc:(aD (aiA s)=aD (32::(s++[32])))=True:=aa rfl
   simp -implicitDefEqProofs(maxSteps:=9^9)only[Tryz.f211,↓zA,sevalprocAttr,ahc,g0,g2,g3,go,w1,w2,hw,le,d,h0',sb,e32,afO,l1,l2,dI,ce,cc,hr]
   unfold gH
   omega
  .have cc:(aD ((i7.drop k).take (s.length+2))=aD (32::(s++[32])))=False:=aO fun q=>c (atZ q)
   simp -implicitDefEqProofs(maxSteps:=9^9)only[Tryz.f211,↓zA,sevalprocAttr,ahc,g0,g2,g3,go,w1,w2,hw,le,d,h0',sb,e32,afO,l1,l2,dI,ce,cc]
   refine⟨by unfold gH;omega,by omega,fun j hj=>?_⟩
   rcases ap j k with hj2|hj2
   .exact E j hj2
   .have:j=k:=by omega
    rw[this];exact c
 .have hr:agV s=false:=aud fun j hj=>E j (by omega)
  simp -implicitDefEqProofs(maxSteps:=9^9)only[Tryz.f211,↓zA,sevalprocAttr,ahc,g0,g2,g3,go,w1,w2,le,d,hr]
def a1h:=ai (ai (ai @zq @aVA) (ai @aSC @aVz)) (ai (ai @aSB @zT0) (ai @az8 (ba aPu)))
def aw4 (s:List UInt8) (h:bk s=true):G1 135 [.of (aH (aD s))] (aG (!agV s)):=by
 have kp:=fun K=>aN.k (aER s h) K
 have kr:=fun K=>aN.k (ao7 s h) K
 have l1:((s.length:Int)≤20)=True:=aa (by have:=adO h;omega)
 refine ah rfl aPu az8 rfl ?_
 simp -implicitDefEqProofs(maxSteps:=9^9)only[Tryz.f135,↓zA,sevalprocAttr,a1h,kp,kr,l1]
def aTI:=ai (ai @zq (ai @aV7 @aS9)) (ai @zT0 (ai @aHZ (ba aYl)))
def aus (s:List UInt8) (h:bk s=true):G1 54 [.of (aH (aD s))] (dw (aD (bF s))):=by
 have hl:=adO h
 have kn:=fun K=>aN.k (aw4 s h) K
 have e34:=aL [34]
 have l1:1+s.length≤gH:=by unfold gH;omega
 have l2:(34::s).length+1≤gH:=by unfold gH;simp only[aB];omega
 refine ah rfl aYl aHZ rfl ?_
 cases c:agV s
 .have e:bF s=s:=by unfold bF;rw[c];rfl
  simp -implicitDefEqProofs(maxSteps:=9^9)only[Tryz.f54,↓zA,sevalprocAttr,aTI,kn,c,e]
 .have e:bF s=34::(s++[34]):=by unfold bF;rw[c];rfl
  simp -implicitDefEqProofs(maxSteps:=9^9)only[Tryz.f54,↓zA,sevalprocAttr,aTI,kn,c,e,e34,afO,l1,l2,dI,ce]
  unfold gH
  omega
def fO (s:List UInt8) (h:bk s=true) (K:An→Prop):bp Tryz.prog pr 54 [.of (aH (aD s))] [] K↔K ⟨false,[dw (aD (bF s))],[]⟩:=aN.k (aus s h) K
end Go.Proofs.YtemdljoideegeaaGreatDoor
namespace Go.Tab
open Go Go.Pe
def tkW:List To→Nat
 | []=>0
 | s::r=>s.length+2+tkW r
theorem fb:∀ a b:List To,tkW (a++b)=tkW a+tkW b
 | [],b=>by simp[tkW]
 | s::r,b=>by rw[bt,tkW,tkW,fb r b];omega
theorem aFn:∀ T:List To,T.length≤tkW T
 | []=>aM _
 | s::r=>by have:=aFn r;rw[tkW,aB];omega
theorem avq:∀ (p:Option To) (T:List To),(gu p T).length≤tkW T
 | _,[]=>aM _
 | p,s::r=>by
  have:=avq (some s) r
  have h:(gu.whenB (!abe p s)).length≤1:=by cases abe p s <;> decide
  rw[gu,tkW,av,av]
  omega
def adJ (b:Bool) (l:List To):tkW (bI b l)≤tkW l+6:=by
 cases b
 .simp[bI]
 .simp only[bI,aA,lpT,rpT,tkW,fb,dI];omega
def afQ (n:Int) (p:Int×List To):tkW (atT n p)≤tkW p.2+6:=adJ _ _
def acA (s:List UInt8):(bF s).length≤s.length+2:=by
 unfold bF
 split
 .simp
 .omega
def abr (b:Bool) (l:List To):tkW (aF b l)≤tkW l:=by cases b <;> simp[aF,tkW]
def SL (l:List (List To)):Nat:=(l.map fun x=>tkW x+20).sum
def aa5 (a:List To) (l:List (List To)):SL (a::l)=tkW a+20+SL l:=by simp[SL]
def a0q:SL []=0:=rfl
def ado {α:Type} {g:α→List To} {w:α→Nat} {l:List α} (h:∀ x∈l,tkW (g x)+24≤64*w x):SL (l.map g)+64≤64*lsW w l:=by
 induction l with
 | nil=>simp[SL,lsW]
 | cons a r ih =>
  have h1:=h a (by simp)
  have h2:=ih fun x hx=>h x (by simp[hx])
  simp only[lsW,aV,bT,aa5] at *
  omega
theorem alW:∀ (b:Bool) (l:List (List To)),tkW (bc b l)≤SL l
 | true,[]=>aM _
 | false,[]=>aM _
 | true,a::r=>by
  have:=alW false r
  rw[bc,fb,aa5];omega
 | false,a::r=>by
  have:=alW false r
  rw[bc,tkW,fb,aa5];simp only[cmT,dI];omega
theorem aij:∀ (b:Bool) (l:List (Int×List To)),tkW (bc b (l.map (atT 1)))≤SL (l.map Prod.snd)
 | true,[]=>aM _
 | false,[]=>aM _
 | true,a::r=>by
  have:=aij false r
  have:=afQ 1 a
  rw[aV,aV,bc,fb,aa5];omega
 | false,a::r=>by
  have:=aij false r
  have:=afQ 1 a
  rw[aV,aV,bc,tkW,fb,aa5];simp only[cmT,dI];omega
theorem aAO (w:To) (hw:w.length≤8):∀ l:List (List To),tkW ((l.map fun x=>w::x).flatten)≤SL l
 | []=>aM _
 | a::r=>by
  have:=aAO w hw r
  rw[aV,fq,fb,tkW,aa5];omega
theorem avw:∀ l:List (List To),tkW l.flatten≤SL l
 | []=>aM _
 | a::r=>by
  have:=avw r
  rw[fq,fb,aa5];omega
theorem amZ (w:To) (hw:w.length≤8):∀ l:List (Int×List To),tkW (ju w l)≤SL (l.map Prod.snd)
 | []=>aM _
 | a::r=>by
  have h:=amZ w hw r
  have h1:=afQ 1 a
  unfold ju at h ⊢
  rw[aV,fq,fb,tkW,aV,aa5];omega
def aFy (sb:List (Qy×List To)):tkW (ajo sb)≤SL (sb.map Prod.snd):=by
 cases sb with
 | nil=>exact aM _
 | cons a r=>have:=adJ true a.2;rw[ajo,aV,aa5];omega
def ag4 (n:Int) (i:Nat):abM n [] i=[]:=by unfold abM;rw[List.getElem?_nil]
def atr (n:Int) (a:Int×List To) (r:List (Int×List To)):abM n (a::r) 0=atT n a:=rfl
def aDw (n:Int) (a:Int×List To) (r:List (Int×List To)) (i:Nat):abM n (a::r) (i+1)=abM n r i:=by unfold abM;rw[List.getElem?_cons_succ]
def ane (n:Int) (ks:List (Int×List To)):tkW (abM n ks 0)≤SL (ks.map Prod.snd):=by
 cases ks with
 | nil=>rw[ag4];exact aM _
 | cons a r=>have:=afQ n a;rw[atr,aV,aa5];omega
def aqN (n m:Int) (ks:List (Int×List To)):tkW (abM n ks 0)+tkW (abM m ks 1)≤SL (ks.map Prod.snd):=by
 cases ks with
 | nil=>rw[ag4,ag4];exact aM _
 | cons a r=>have:=afQ n a;have:=ane m r;rw[atr,aDw,aV,aa5];omega
def aRy (n m k:Int) (ks:List (Int×List To)):tkW (abM n ks 0)+tkW (abM m ks 1)+tkW (abM k ks 2)≤SL (ks.map Prod.snd):=by
 cases ks with
 | nil=>rw[ag4,ag4,ag4];exact aM _
 | cons a r=>have:=afQ n a;have:=aqN m k r;rw[atr,aDw,aDw,aV,aa5];omega
def aRx (n:Int) (ks:List (Int×List To)):tkW (abM n ks 0)+tkW (ajd (ks.drop 1))≤SL (ks.map Prod.snd)+6:=by
 cases ks with
 | nil=>rw[ag4];decide
 | cons a r =>
  have:=afQ n a
  have h1:=aij true r
  have h2:=adJ true (bc true (r.map (atT 1)))
  rw[atr,aV,aa5,List.drop_one,List.tail_cons]
  unfold ajd
  omega
def aRr (ks:List (Int×List To)):tkW (ajd ks)≤SL (ks.map Prod.snd)+6:=by
 have h1:=aij true ks
 have h2:=adJ true (bc true (ks.map (atT 1)))
 unfold ajd
 omega
theorem aAV:∀ ks:List (Int×List To),tkW (aam ks)≤SL (ks.map Prod.snd)
 | []=>aM _
 | [a]=>by
  have:=afQ 1 a
  simp only[aam,tkW,aV,bC,aa5,a0q,dI];omega
 | a::b::r=>by
  have:=afQ 1 a
  have:=afQ 1 b
  have:=aAV r
  simp only[aam,tkW,fb,aV,aa5,dI];omega
theorem arL {m:Nat}:∀ (l:List (Int×List UInt8)) (n:Int),(∀ p∈l,p.2.length≤m)→((apx l n).getD []).length≤m
 | [],_,_=>e9 _
 | p::l,n,h=>by
  rw[apx]
  split
  .exact h p (by simp)
  .exact arL l n fun q hq=>h q (iw _ hq)
def aCQ (op:Int):(aeI op).length≤4:=arL aNb op (by decide)
def aKf (v:V) (h:V64 v):(ahe v).length≤2*v.s.size+22:=by
 have h1:=agt v.t
 have h2:=aiJ v.n h.2.1 h.2.2
 have hs:v.t.length=v.s.size:=by unfold V.t;exact fm
 unfold ahe aCl
 split
 .split <;> (have e1:avC.data.toList.length≤22:=(by decide);have e2:aCj.data.toList.length≤22:=(by decide);omega)
 .split
  .simp only[aD];omega
  .split
   .simp only[aD,aR];omega
   .have e1:aC8.data.toList.length≤22:=by decide
    omega
def aZl (tb nm:List UInt8):tkW (amp tb nm)≤tb.length+nm.length+20:=by
 have h1:=acA tb
 have h2:=acA nm
 have h3:=abr (decide (tb≠[])) [bF tb,ab2]
 unfold amp
 rw[fb]
 simp only[tkW,ab2,dI] at *
 omega
def aQc (s:List UInt8):tkW (asT s)≤s.length+20:=by
 have h1:=acA s
 have h3:=abr (decide (s≠[])) [[97,115],bF s]
 unfold asT
 simp only[tkW,dI] at *
 omega
def aWE {c:Prop} [Decidable c] {a b:List To} {n:Nat} (h1:c→tkW a≤n) (h2:¬c→tkW b≤n):tkW (if c then a else b)≤n:=by
 split
 .exact h1 (by assumption)
 .exact h2 (by assumption)
def a2i (op:Int) (v:V) (tb nm:List UInt8) (di:Bool) (ks:List (Int×List To)) (sb:List (Qy×List To)) (hv:V64 v) :
  tkW (opT op v tb nm di ks sb)≤SL (ks.map Prod.snd)+SL (sb.map Prod.snd)+2*v.s.size+tb.length+nm.length+60:=by
 have a1:=aKf v hv
 have a2:=aZl tb nm
 have a3:=ane 8 ks
 have a4:=ane 3 ks
 have a5:=ane 5 ks
 have a6:=aqN 5 5 ks
 have a7:=aRy 5 5 5 ks
 have a8:=aRx 5 ks
 have a9:=aFy sb
 have b1:=aAV ks
 have b2:=acA nm
 have b3:=aRr ks
 have b4:=aqN (fw op) (fw op+1) ks
 have b5:=aCQ op
 have b6:=aij true ks
 have b7:=abr di [[100,105,115,116,105,110,99,116]]
 have b8:=abr (decide (ks.length=0)) [aaM]
 have b9:=adJ true (aF di [[100,105,115,116,105,110,99,116]]++(aF (decide (ks.length=0)) [aaM]++bc true (ks.map (atT 1))))
 rw[fb,fb] at b9
 simp only[tkW,aaM,dI] at b7 b8 b9
 unfold opT
 repeat' (refine aWE (fun _=>?_) (fun _=>?_))
 all_goals try simp only[tkW,fb,dI,aaM]
 all_goals omega
def TX (e:Xp):Prop:=tkW (xpT e)+24≤64*xpW e
def TQ (q:Qy):Prop:=tkW (qyT q)+24≤64*qyW q
def TI (i:Im):Prop:=tkW (imT i)+24≤64*imW i
def TF (f:Fm):Prop:=tkW (fmT f)+24≤64*fmW f
def at5 (l:List Xp):(l.map xpP).map Prod.snd=l.map xpT:=by rw[ia];rfl
def at6 (l:List Qy):(l.map qyP).map Prod.snd=l.map qyT:=by rw[ia];rfl
def aUB (l:List Fm):(l.map fmP).map Prod.snd=l.map fmT:=by rw[ia];rfl
def aFh (e:Xp):xpT e=opT e.op e.v e.tb e.nm e.di (e.ks.map xpP) (e.sb.map qyP):=by cases e;rw[xpT,adR,afX];rfl
def aIx (i:Im):imT i=aeo i.st i.tb i.az (xpP i.e):=by cases i;rw[imT];rfl
def aIH (f:Fm):fmT f=af3 f.kd f.nm f.az (f.sb.map qyP) (f.ks.map fmP) (f.on.map xpP):=by cases f;rw[fmT,afX,aiM,adR];rfl
def ao9 (q:Qy):qyT q=(if q.op=1 then akJ q.di (q.its.map imT) ((q.fr.map fmP).map Prod.snd) (q.wh.map xpP) (q.gr.map xpP) (q.hv.map xpP) else ahp q.op q.al (q.ks.map qyP))++ajz q.od q.li q.sk:=by
 cases q;rw[qyT,aok,aiM,adR,adR,adR,afX];rfl
def a1x (e:Xp) (h:V64 e.v) (h1:∀ x∈e.ks,TX x) (h2:∀ q∈e.sb,TQ q):TX e:=by
 have a:=a2i e.op e.v e.tb e.nm e.di (e.ks.map xpP) (e.sb.map qyP) h
 rw[at5,at6] at a
 have b1:=ado (w:=xpW) h1
 have b2:=ado (w:=qyW) h2
 have hw:=aaV e
 unfold TX
 rw[aFh]
 simp only[d8,alH,cU] at hw
 omega
def a1C (i:Im) (h:TX i.e):TI i:=by
 have hw:=ack i
 have a1:tkW (atT 1 (xpP i.e))≤tkW (xpT i.e)+6:=afQ 1 (xpP i.e)
 have a2:=aQc i.az
 have a3:=abr (decide (i.tb≠[])) [bF i.tb,ab2]
 have a4:=acA i.tb
 unfold TI
 unfold TX at h
 rw[aIx]
 unfold aeo
 simp only[tkW,ab2,dI] at a3
 simp only[d8,cU] at hw
 split
 .simp only[tkW,fb,aaM,ab2,dI];omega
 .rw[fb];omega
def a1D (f:Fm) (h1:∀ q∈f.sb,TQ q) (h2:∀ x∈f.ks,TF x) (h3:∀ x∈f.on,TX x):TF f:=by
 have hw:=jb f
 have b1:=ado (w:=qyW) h1
 have b2:=ado (w:=fmW) h2
 have b3:=ado (w:=xpW) h3
 have a1:=aFy (f.sb.map qyP)
 have a2:=amZ [111,110] (by decide) (f.on.map xpP)
 rw[at6] at a1
 rw[at5] at a2
 have a3:=aQc f.az
 have a4:=acA f.nm
 unfold TF
 rw[aIH]
 unfold af3
 simp only[d8,cU] at hw
 split
 .rw[tkW];omega
 .split
  .rw[fb];omega
  .have hj:tkW (adY f.kd)≤20:=by unfold adY;(repeat' split) <;> decide
   rcases hk:f.ks with _|⟨a,_|⟨b,r⟩⟩
   .simp only[bC,tkW];omega
   .simp only[bC,aV,tkW];omega
   .have b2':SL (f.ks.map fmT)=tkW (fmT a)+20+(tkW (fmT b)+20+SL (r.map fmT)):=by rw[hk];simp only[aV,aa5]
    have c:tkW (bI (decide (3≤(fmP b).1)) (fmP b).2)≤tkW (fmT b)+6:=adJ _ _
    have c2:tkW (fmP a).2=tkW (fmT a):=rfl
    simp only[aV,fb]
    omega
def ayh (n:Int) (p:Qy×List To):tkW (dT n p)≤tkW p.2+6:=adJ _ _
def aTv (op:Int) (al:Bool) (ks:List (Qy×List To)):tkW (ahp op al ks)≤SL (ks.map Prod.snd)+20:=by
 rcases ks with _|⟨a,_|⟨b,r⟩⟩
 .simp[ahp,tkW]
 .simp[ahp,tkW]
 .have c1:=ayh (cK op) a
  have c2:=ayh (cK op+1) b
  have c3:=abr al [[97,108,108]]
  have c4:(ahU op).length≤9:=by unfold ahU;(repeat' split) <;> decide
  simp only[tkW,dI] at c3
  simp only[ahp,fb,tkW,aV,aa5]
  omega
def a2j (o:Od) (h:I64 o.pl):tkW (odT o)+24≤64*odW o:=by
 have h1:=aiJ o.pl h.1 h.2
 have h2:=acA o.nm
 have h3:=abr o.dn [[100,101,115,99]]
 have hw:odW o=cU o.nm+d8 o.pl+d8 o.dn+1:=rfl
 simp only[d8,cU] at hw
 unfold odT
 simp only[tkW,dI] at h3
 rw[fb]
 split
 .simp only[tkW];omega
 .simp only[tkW];omega
def aZg (od:List Od) (li sk:Int) (h:lsP aws od) (h1:I64 li) (h2:I64 sk):tkW (ajz od li sk)+64≤64*lsW odW od+120:=by
 have a1:=ado (w:=odW) (g:=odT) (l:=od) fun o ho=>a2j o (h o ho).2.1
 have a2:=alW true (od.map odT)
 have a3:=abr (decide (od≠[])) [[111,114,100,101,114],[98,121]]
 have a4:=abr (decide (0≤li)) [[108,105,109,105,116],Lib.itoa li]
 have a5:=abr (decide (0<sk)) [[111,102,102,115,101,116],Lib.itoa sk]
 have h3:=aiJ li h1.1 h1.2
 have h4:=aiJ sk h2.1 h2.2
 simp only[tkW,dI] at a3 a4 a5
 unfold ajz
 simp only[fb]
 omega
def a1y (q:Qy) (h:ii q) (h1:∀ x∈q.ks,TQ x) (h2:∀ x∈q.its,TI x) (h3:∀ x∈q.fr,TF x) (h4:∀ x∈q.wh,TX x) (h5:∀ x∈q.gr,TX x) (h6:∀ x∈q.hv,TX x):TQ q:=by
 rw[ag9] at h
 obtain⟨_,_,_,_,_,_,_,_,_,go,gl,gs⟩:=h
 have hw:=iC q
 have b1:=ado (w:=qyW) h1
 have b2:=ado (w:=imW) h2
 have b3:=ado (w:=fmW) h3
 have b4:=ado (w:=xpW) h4
 have b5:=ado (w:=xpW) h5
 have b6:=ado (w:=xpW) h6
 have a1:=aTv q.op q.al (q.ks.map qyP)
 have a2:=alW true (q.its.map imT)
 obtain⟨F,hF,a3⟩ : ∃ F,tkW (((q.fr.map fmT).map fun x=>[102,114,111,109]::x).flatten)=F∧F≤SL (q.fr.map fmT):=⟨_,rfl,aAO _ (by decide) _⟩
 have a4:=amZ [119,104,101,114,101] (by decide) (q.wh.map xpP)
 have a5:=aij true (q.gr.map xpP)
 have a6:=amZ [104,97,118,105,110,103] (by decide) (q.hv.map xpP)
 have a7:=aZg q.od q.li q.sk go gl gs
 have a8:=abr q.di [[100,105,115,116,105,110,99,116]]
 have a9:=abr (decide (q.gr.map xpP≠[])) [[103,114,111,117,112],[98,121]]
 rw[at6] at a1
 rw[at5] at a4 a5 a6
 simp only[tkW,dI] at a8 a9
 simp only[d8,cU] at hw
 unfold TQ
 rw[ao9,fb,aUB]
 split
 .have hS:tkW (akJ q.di (q.its.map imT) (q.fr.map fmT) (q.wh.map xpP) (q.gr.map xpP) (q.hv.map xpP))=8+(tkW (aF q.di [[100,105,115,116,105,110,99,116]])+(tkW (bc true (q.its.map imT))+(F+(tkW (ju [119,104,101,114,101] (q.wh.map xpP))+(tkW (aF (decide (q.gr.map xpP≠[])) [[103,114,111,117,112],[98,121]])+(tkW (bc true ((q.gr.map xpP).map (atT 1)))+tkW (ju [104,97,118,105,110,103] (q.hv.map xpP)))))))):=by
   unfold akJ
   rw[tkW,fb,fb,fb,fb,fb,fb,← hF]
   rfl
  omega
 .omega
theorem atM:∀ n,(∀ e,e7 e→xpW e≤n→TX e)∧(∀ q,ii q→qyW q≤n→TQ q)∧(∀ i,aeU i→imW i≤n→TI i)∧(∀ f,acZ f→fmW f≤n→TF f)
 | 0=>⟨fun e _ h=>by have:=aaV e;omega,fun e _ h=>by have:=iC e;omega,fun e _ h=>by have:=ack e;omega,fun e _ h=>by have:=jb e;omega⟩
 | n+1=>by
  obtain⟨i1,i2,i3,i4⟩:=atM n
  have sX:∀ l:List Xp,lsP e7 l→lsW xpW l≤n+1→∀ x∈l,TX x:=fun l g h x hx=>i1 x (g x hx) (by have:=bP (w:=xpW) hx;omega)
  have sQ:∀ l:List Qy,lsP ii l→lsW qyW l≤n+1→∀ x∈l,TQ x:=fun l g h x hx=>i2 x (g x hx) (by have:=bP (w:=qyW) hx;omega)
  have sI:∀ l:List Im,lsP aeU l→lsW imW l≤n+1→∀ x∈l,TI x:=fun l g h x hx=>i3 x (g x hx) (by have:=bP (w:=imW) hx;omega)
  have sF:∀ l:List Fm,lsP acZ l→lsW fmW l≤n+1→∀ x∈l,TF x:=fun l g h x hx=>i4 x (g x hx) (by have:=bP (w:=fmW) hx;omega)
  refine⟨fun e g h=>?_,fun q g h=>?_,fun i g h=>?_,fun f g h=>?_⟩
  .have h':=aaV e
   rw[ac3] at g
   exact a1x e g.2.1 (sX _ g.2.2.2.2.2.1 (by omega)) (sQ _ g.2.2.2.2.2.2 (by omega))
  .have h':=iC q
   have g0:=g
   rw[ag9] at g
   obtain⟨_,_,g1,_,g2,g3,g4,g5,g6,_⟩:=g
   exact a1y q g0 (sQ _ g1 (by omega)) (sI _ g2 (by omega)) (sF _ g3 (by omega)) (sX _ g4 (by omega)) (sX _ g5 (by omega)) (sX _ g6 (by omega))
  .have h':=ack i
   rw[aip] at g
   exact a1C i (i1 _ g.2.2.1 (by omega))
  .have h':=jb f
   rw[aiq] at g
   obtain⟨_,_,_,g1,g2,g3⟩:=g
   exact a1D f (sQ _ g1 (by omega)) (sF _ g2 (by omega)) (sX _ g3 (by omega))
def ajH (e:Xp) (h:e7 e):TX e:=(atM _).1 e h (aM _)
def atL (q:Qy) (h:ii q):TQ q:=(atM _).2.1 q h (aM _)
def akV (l:List (List UInt8)):tkW (dN l)+64≤64*lsW cU l+6:=by
 have a1:=adJ true (bc true (l.map fun s=>[bF s]))
 have a2:=alW true (l.map fun s=>[bF s])
 have a3:=ado (w:=cU) (g:=fun s=>[bF s]) (l:=l) fun s _=>by
  have:=acA s
  simp only[tkW,cU];omega
 unfold dN
 omega
def a4G (c:Cd):tkW (cdT c)+24≤64*cdW c:=by
 have a1:=acA c.nm
 have a2:=abr c.nn [[110,111,116],[110,117,108,108]]
 have a3:(aeX c.ty).length≤4:=by unfold aeX;(repeat' split) <;> decide
 have hw:cdW c=cU c.nm+d8 c.ty+d8 c.nn+1:=rfl
 simp only[tkW,dI] at a2
 simp only[d8,cU] at hw
 unfold cdT
 simp only[tkW]
 omega
def a36 (k:Kd):tkW (kdT k)+24≤64*kdW k:=by
 have a1:=akV k.ns
 have hw:kdW k=d8 k.pr+lsW cU k.ns+1:=rfl
 simp only[d8] at hw
 unfold kdT
 rw[fb]
 split
 .simp only[tkW,dI];omega
 .simp only[tkW,dI];omega
def a13 (r:Rd):tkW (rdT r)+24≤64*rdW r:=by
 have a1:=akV r.ns
 have a2:=akV r.to
 have a3:=acA r.tb
 have hw:rdW r=lsW cU r.ns+cU r.tb+lsW cU r.to+1:=rfl
 have h0:1≤lsW cU r.ns:=by unfold lsW;omega
 simp only[cU] at hw
 unfold rdT
 simp only[tkW,fb,dI]
 omega
def ap7 (e:Xp):tkW (bv e)≤tkW (xpT e)+6:=afQ 1 (xpP e)
def a4F (e:Xp) (h:e7 e):tkW (chT e)+3≤64*xpW e:=by
 have a1:=ap7 e
 have a2:=adJ true (bv e)
 have a3:=ajH e h
 unfold TX at a3
 unfold chT
 simp only[tkW,dI]
 omega
theorem ae0 {α:Type} {g:α→List To} {w:α→Nat}:∀ (b:Bool) (l:List α),(∀ x∈l,tkW (g x)+3≤64*w x)→tkW (bc b (l.map g))+64≤64*lsW w l
 | true,[],_=>by simp[bc,tkW,lsW]
 | false,[],_=>by simp[bc,tkW,lsW]
 | true,a::r,h=>by
  have h1:=h a (by simp)
  have h2:=ae0 false r fun x hx=>h x (by simp[hx])
  simp only[lsW,aV,bT,bc,fb] at *
  omega
 | false,a::r,h=>by
  have h1:=h a (by simp)
  have h2:=ae0 false r fun x hx=>h x (by simp[hx])
  simp only[lsW,aV,bT,bc,tkW,fb,cmT,dI] at *
  omega
def aUI (l:List Xp) (h:lsP e7 l):tkW (gD l)+58≤64*lsW xpW l:=by
 have a1:=ae0 (w:=xpW) (g:=bv) true l fun x hx=>by
  have a1:=ap7 x
  have a3:=ajH x (h x hx)
  unfold TX at a3
  omega
 have a2:=adJ true (bc true (l.map bv))
 unfold gD
 omega
def aKB (w:To) (hw:w.length≤8) (l:List Xp) (h:lsP e7 l):tkW (dz w l)+64≤64*lsW xpW l:=by
 induction l with
 | nil=>simp[dz,tkW,lsW]
 | cons a r ih =>
  have h1:=ih fun x hx=>h x (by simp[hx])
  have a1:=ap7 a
  have a3:=ajH a (h a (by simp))
  unfold TX at a3
  simp only[dz,lsW,aV,bT,fq,tkW,fb] at *
  omega
def aZ2 (a:As) (h:e7 a.e):tkW (aby a)+24≤64*asW a:=by
 have a1:=ap7 a.e
 have a3:=ajH a.e h
 have a4:=acA a.nm
 have hw:asW a=cU a.nm+xpW a.e+1:=rfl
 unfold TX at a3
 simp only[cU] at hw
 unfold aby
 simp only[tkW,dI]
 omega
def a2e (l:List Qy) (h:lsP ii l):tkW ((l.map qyT).flatten)+64≤64*lsW qyW l:=by
 have a1:=avw (l.map qyT)
 have a2:=ado (w:=qyW) (g:=qyT) (l:=l) fun q hq=>atL q (h q hq)
 omega
theorem alX:∀ (b:Bool) (l r:List (List To)),tkW (bc b (l++r))≤tkW (bc b l)+tkW (bc false r)
 | true,[],r=>by
  cases r with
  | nil=>simp[bc]
  | cons a r=>simp only[bw,bc,fb,tkW];omega
 | false,[],r=>by simp[bc,tkW]
 | true,a::l,r=>by have:=alX false l r;simp only[bt,bc,fb];omega
 | false,a::l,r=>by have:=alX false l r;simp only[bt,bc,fb,tkW];omega
def aNa (s:Sm) (h:abz s):tkW (smT s)≤64*smW s:=by
 obtain⟨_,_,_,_,_,_,_,_,g1,g2,g3,g4,g5⟩:=h
 have hw:smW s=d8 s.kd+cU s.tb+cU s.nm+(lsW cdW) s.cs+(lsW cU) s.ns+d8 s.un+(lsW kdW) s.kys+(lsW rdW) s.rfs+(lsW xpW) s.chs+(lsW (lsW xpW)) s.rws+(lsW asW) s.sts+(lsW xpW) s.wh+(lsW qyW) s.q+1:=rfl
 have a1:=acA s.tb
 have a2:=acA s.nm
 have a3:=akV s.ns
 have b1:=ae0 (w:=cdW) (g:=cdT) true s.cs fun x _=>by have:=a4G x;omega
 have b2:=ae0 (w:=kdW) (g:=kdT) false s.kys fun x _=>by have:=a36 x;omega
 have b3:=ae0 (w:=rdW) (g:=rdT) false s.rfs fun x _=>by have:=a13 x;omega
 have b4:=ae0 (w:=xpW) (g:=chT) false s.chs fun x hx=>a4F x (g1 x hx)
 have c1:=alX true (s.cs.map cdT) (s.kys.map kdT++(s.rfs.map rdT++s.chs.map chT))
 have c2:=alX false (s.kys.map kdT) (s.rfs.map rdT++s.chs.map chT)
 have c3:=alX false (s.rfs.map rdT) (s.chs.map chT)
 have c4:=adJ true (bc true (s.cs.map cdT++(s.kys.map kdT++(s.rfs.map rdT++s.chs.map chT))))
 have d1:=ae0 (w:=lsW xpW) (g:=gD) true s.rws fun x hx=>by have:=aUI x (g2 x hx);omega
 have d2:=ae0 (w:=asW) (g:=aby) true s.sts fun x hx=>by have:=aZ2 x (g3 x hx).2;omega
 have d3:=aKB [119,104,101,114,101] (by decide) s.wh g4
 have d4:=a2e s.q g5
 have e1:=abr s.un [[117,110,105,113,117,101]]
 have e2:=abr (decide (s.ns≠[])) (dN s.ns)
 have e3:=abr (decide (s.rws≠[])) [[118,97,108,117,101,115]]
 have e4:(aiv s.kd).length≤10:=by unfold aiv;(repeat' split) <;> decide
 simp only[tkW,dI] at e1 e3
 simp only[d8,cU] at hw
 unfold smT
 repeat' split
 all_goals try simp only[tkW,fb,dI]
 all_goals omega
end Go.Tab
namespace Go.Proofs.YtemdljoideegeaaGreatDoor
open Go Go.Pe Go.Tab
def GR (f:Nat) (xs:List X) (T:List To):Prop:=T.length≤LIM→aN Tryz.prog pr f xs [] ⟨false,[.own (.nm 0 0 0) 9 1 (fl bA T) T.length],[]⟩
theorem GR.k {f:Nat} {xs:List X} {T:List To} (h:GR f xs T) (hT:T.length≤LIM) (K:An→Prop):bp Tryz.prog pr f xs [] K↔K ⟨false,[.own (.nm 0 0 0) 9 1 (fl bA T) T.length],[]⟩:=aN.k (h hT) K
abbrev RX (e:Xp):Prop:=GR 30 [.of (.agg (xpC e))] (xpT e)
abbrev RQ (q:Qy):Prop:=GR 26 [.of (.agg (qyC q))] (qyT q)
abbrev RF (f:Fm):Prop:=GR 163 [.of (.agg (fmC f))] (fmT f)
def dy (tk tk':Tk) (cs0:List C) (n:Nat):js (TT.of Tryz.prog) tk 23 23 (.own tk' 9 1 cs0 n) .nil=if n≤LIM then some (.own tk 9 1 cs0 n,some tk') else none:=by
 rw[amA E23 (by decide) (by decide) tk tk' cs0 n .nil [] 0 rfl]
 simp
def aEH (tk tk':Tk) (cs0 cs:List C) (n m:Nat):js (TT.of Tryz.prog) tk 23 23 (.own tk' 9 1 cs0 n) (.of (.sl cs m))=if cs.length=m*1∧n+m≤LIM then some (.own tk 9 1 (cs0++cs) (n+m),some tk') else none:=amA E23 (by decide) (by decide) tk tk' cs0 n (.of (.sl cs m)) cs m rfl
def iA (tk:Tk) (a b c:ByteArray):dY tk 3 (Pe.elemOf (TT.of Tryz.prog) 23) (some [(0,[dw a]),(1,[dw b]),(2,[dw c])])=out (.own tk 9 1 [aH a,aH b,aH c] 3):=by rw[E23];kernel_rfl
def ajp (tk:Tk) (a b c d:ByteArray):dY tk 4 (Pe.elemOf (TT.of Tryz.prog) 23) (some [(0,[dw a]),(1,[dw b]),(2,[dw c]),(3,[dw d])])=out (.own tk 9 1 [aH a,aH b,aH c,aH d] 4):=by rw[E23];kernel_rfl
def avx (a:To) (r:List To):fl bA (a::r)=aH (aD a)::fl bA r:=rfl
def aRU:fl bA ([]:List To)=[]:=rfl
def cI (T:List To):fl bA T=T.map fun s=>aH (aD s):=by
 induction T with
 | nil=>rfl
 | cons a r ih=>rw[avx,ih];rfl
def cy {cs cs':List C} {n n':Nat} (h1:cs=cs') (h2:n=n'):(some (⟨false,[X.own (.nm 0 0 0) 9 1 cs n],[]⟩ : An))=some ⟨false,[X.own (.nm 0 0 0) 9 1 cs' n'],[]⟩:=by rw[h1,h2]
def a43:=ai (ai @zq @bN) (ai @zT0 (ai @aHv (ba aXR)))
def ao4 (cs:List C) (n:Nat) (hc:cs.length=n) (hn:n+2≤LIM):aN Tryz.prog pr 90 [.of (.sl cs n)] [] ⟨false,[.own (.nm 0 0 0) 9 1 (aH (aD [40])::(cs++[aH (aD [41])])) (n+2)],[]⟩:=by
 have e40:=aL [40]
 have e41:=aL [41]
 refine ah rfl aXR aHv rfl ?_
 simp -implicitDefEqProofs(maxSteps:=9^9)only[Tryz.f90,↓zA,sevalprocAttr,a43,e40,e41,aEH,jo,hc]
 (and_intros <;> first|(exact cy (by (try simp only[cI,cH]) <;> rfl) (by (try simp only[aR]) <;> omega))|((try simp only[aR]) <;> omega))
def aaX (T:List To) (h:(bI true T).length≤LIM) (K:An→Prop):bp Tryz.prog pr 90 [.of (slC bA T)] [] K↔K ⟨false,[.own (.nm 0 0 0) 9 1 (fl bA (bI true T)) (bI true T).length],[]⟩:=by
 have hl:(bI true T).length=T.length+2:=by simp[bI]
 have e:fl bA (bI true T)=aH (aD [40])::(fl bA T++[aH (aD [41])]):=by simp only[bI,aA,lpT,rpT,cI,cH]
 rw[hl,e]
 exact aN.k (ao4 (fl bA T) T.length (by rw[acC,jo]) (by omega)) K
def iT (op:Int) (K:An→Prop):bp Tryz.prog pr 94 [.of (.lit (.int .i64 op))] [] K↔K ⟨false,[aU (fw op)],[]⟩:=aN.k (asw op) K
def aTF:=ai (ai (ai @zq (ai @a33 @aNh)) (ai @aI7 (ai @aNs @aJi))) (ai (ai @ai5 (ai @ahI @cQ)) (ai (ai @Q3 @zT0) (ai @aHW (ba aYi))))
def dJ (e:Xp) (n:Int) (hx:RX e):GR 59 [.of (.agg (xpC e)),aU n] (dS n e):=by
 intro h
 refine ah rfl aYi aHW rfl ?_
 by_cases c:fw e.op<n
 .have e1:dS n e=bI true (xpT e):=by show bI (decide (fw e.op<n)) (xpT e)=_;rw[ct c]
  rw[e1] at h ⊢
  have hl:(bI true (xpT e)).length=(xpT e).length+2:=by simp[bI]
  have kx:=fun K=>hx.k (by omega) K
  have kr:=fun K=>aaX (xpT e) h K
  simp -implicitDefEqProofs(maxSteps:=9^9)only[Tryz.f59,↓zA,sevalprocAttr,aTF,iT,c,kx,kr]
  try rfl
 .have e1:dS n e=xpT e:=by show bI (decide (fw e.op<n)) (xpT e)=_;rw[bO c];rfl
  rw[e1] at h ⊢
  have kx:=fun K=>hx.k h K
  simp -implicitDefEqProofs(maxSteps:=9^9)only[Tryz.f59,↓zA,sevalprocAttr,aTF,iT,c,kx]
  try rfl
def aMP:=ai (ai @zq (ai @ahl @afF)) (ai (ai @bN @zT0) (ai @aqP (ba aDT)))
def aqE:G1 222 [.of (aH {data:=#[]})] .nil:=by
 refine ah rfl aDT aqP rfl ?_
 simp -implicitDefEqProofs(maxSteps:=9^9)only[Tryz.f222,↓zA,sevalprocAttr,aMP]
 try rfl
def aqD (s:List UInt8) (h:bk s=true):GR 222 [.of (aH (aD s))] [[97,115],bF s]:=by
 intro hl
 have aZh:=aL [97,115]
 have hne:(s=[])=False:=aO (al8 h)
 have kn:=fun K=>fO s h K
 refine ah rfl aDT aqP rfl ?_
 simp -implicitDefEqProofs(maxSteps:=9^9)only[Tryz.f222,↓zA,sevalprocAttr,aMP,hne,kn,aZh,bg]
 try rfl
def aB5:=ai (ai @zq @zT0) (ai @az7 (ba aPt))
def aut (k:Int):G1 136 [aU k] (dw (aD (aeX k))):=by
 unfold aeX
 refine ah rfl aPt az7 rfl ?_
 by_cases h1:k=1
 .simp -implicitDefEqProofs(maxSteps:=9^9)only[Tryz.f136,↓zA,sevalprocAttr,aB5,h1]
  try rfl
 by_cases h2:k=2
 .simp -implicitDefEqProofs(maxSteps:=9^9)only[Tryz.f136,↓zA,sevalprocAttr,aB5,h1,h2]
  try rfl
 simp -implicitDefEqProofs(maxSteps:=9^9)only[Tryz.f136,↓zA,sevalprocAttr,aB5,h1,h2]
 try rfl
def as2:=ai (ai @zq @zT0) (ai @azG (ba aO2))
def asv (n:Int):G1 164 [aU n] (aU (if n=2∨n=4 then 1 else if n=3 then 2 else 3)):=by
 refine ah rfl aO2 azG rfl ?_
 by_cases h2:n=2
 .simp -implicitDefEqProofs(maxSteps:=9^9)only[Tryz.f164,↓zA,sevalprocAttr,as2,h2,bo,aA]
  try rfl
 by_cases h4:n=4
 .simp -implicitDefEqProofs(maxSteps:=9^9)only[Tryz.f164,↓zA,sevalprocAttr,as2,h2,h4,br,aA]
  try rfl
 by_cases h3:n=3
 .simp -implicitDefEqProofs(maxSteps:=9^9)only[Tryz.f164,↓zA,sevalprocAttr,as2,h2,h4,h3,bm,aQ]
  try rfl
 simp -implicitDefEqProofs(maxSteps:=9^9)only[Tryz.f164,↓zA,sevalprocAttr,as2,h2,h4,h3,bm,aQ]
 try rfl
def ao8 (n:Int) (h:n=1∨n=2∨n=3∨n=4) (K:An→Prop):bp Tryz.prog pr 164 [.of (.lit (.int .i64 n))] [] K↔K ⟨false,[aU (cK n)],[]⟩:=by
 have e:cK n=if n=2∨n=4 then 1 else if n=3 then 2 else 3:=by rcases h with h|h|h|h <;> (subst h;rfl)
 rw[e]
 exact aN.k (asv n) K
def ao0:List To:=[[43],[45],[42],[47],[37],[124,124],[61],[60,62],[60],[60,61],[62],[62,61],[97,110,100],[111,114]]
def aub (tk:Tk):dY tk 14 (Pe.elemOf (TT.of Tryz.prog) 23) (some [(0,[dw ⟨#[43]⟩]),(1,[dw ⟨#[45]⟩]),(2,[dw ⟨#[42]⟩]),(3,[dw ⟨#[47]⟩]),(4,[dw ⟨#[37]⟩]),(5,[dw ⟨#[124,124]⟩]),(6,[dw ⟨#[61]⟩]),(7,[dw ⟨#[60,62]⟩]),(8,[dw ⟨#[60]⟩]),(9,[dw ⟨#[60,61]⟩]),(10,[dw ⟨#[62]⟩]),(11,[dw ⟨#[62,61]⟩]),(12,[dw ⟨#[97,110,100]⟩]),(13,[dw ⟨#[111,114]⟩])])=out (.own tk 9 1 (fl bA ao0) 14):=by rw[E23];kernel_rfl
def apJ (tk:Tk) (e z:Nat) (l:List (List UInt8)) (n:Nat) (hn:n=l.length) (i:Int):dG (TT.of Tryz.prog) 23 (.own tk e z (fl bA l) n) (.of (.lit (.int .i64 i)))=dG (TT.of Tryz.prog) 23 (.of (slC bA l)) (.of (.lit (.int .i64 i))):=by
 subst hn
 rw[abk E23 _ _ i _ rfl,abk E23 _ _ i _ rfl]
def a4a (tk:Tk) (e z:Nat) (i:Int):dG (TT.of Tryz.prog) 23 (.own tk e z (fl bA ao0) 14) (.of (.lit (.int .i64 i)))=dG (TT.of Tryz.prog) 23 (.of (slC bA ao0)) (.of (.lit (.int .i64 i))):=apJ tk e z ao0 14 rfl i
def a42:=ai (ai @zq (ai @bN @Q9)) (ai @zT0 (ai @aHr (ba aXN)))
def aur (op:Int) (h:5≤op∧op≤18):G1 95 [aU op] (dw (aD (aeI op))):=by
 obtain⟨h1,h2⟩:=h
 have hw:IntKind.i64.wrap (op-5)=op-5:=eh _ (by omega) (by omega)
 have hS:dE ao0 (op-5)=some (aeI op):=by
  have:op=5∨op=6∨op=7∨op=8∨op=9∨op=10∨op=11∨op=12∨op=13∨op=14∨op=15∨op=16∨op=17∨op=18:=by omega
  rcases this with h|h|h|h|h|h|h|h|h|h|h|h|h|h <;> (subst h;rfl)
 refine ah rfl aXN aHr rfl ?_
 simp -implicitDefEqProofs(maxSteps:=9^9)only[Tryz.f95,↓zA,sevalprocAttr,a42,aub,a4a,hw,hS]
 try rfl
def aFX (op:Int) (h:5≤op∧op≤18) (K:An→Prop):bp Tryz.prog pr 95 [.of (.lit (.int .i64 op))] [] K↔K ⟨false,[dw (aD (aeI op))],[]⟩:=aN.k (aur op h) K
end Go.Proofs.YtemdljoideegeaaGreatDoor
namespace Go.Tab
open Go Go.Pe
def aFi (e:Xp):xpT e=opT e.op e.v e.tb e.nm e.di (e.ks.map xpP) (e.sb.map qyP):=by cases e;rw[xpT,adR,afX];rfl
def ajc (l:List Xp):ajd (l.map xpP)=gD l:=by unfold ajd gD;rw[ia];rfl
def am1 (l:List Xp):bc true ((l.map xpP).map (atT 1))=bc true (l.map bv):=by rw[ia];rfl
def arZ (a b:Xp) (r:List Xp):aam ((a::b::r).map xpP)=[119,104,101,110]::(bv a++([116,104,101,110]::(bv b++aam (r.map xpP)))):=rfl
def aUf {α:Type} {L:List α} (h:2≤L.length):alQ L 2 (L.length:Int)=some (L.drop 2):=by
 unfold alQ
 rw[aE ⟨by omega,by omega,by omega⟩]
 simp
def aFz {α:Type} {L:List α} (h:1≤L.length):alQ L 1 (L.length:Int)=some (L.drop 1):=by
 unfold alQ
 rw[aE ⟨by omega,by omega,by omega⟩]
 simp
end Go.Tab
namespace Go.Proofs.YtemdljoideegeaaGreatDoor
open Go Go.Pe Go.Tab
def atD:=ai (ai (ai @zq (ai @ac6 @ab3)) (ai @aeB (ai @agx @aeQ))) (ai (ai @aix (ai @cQ @bN)) (ai (ai @d6 @zT0) (ai @aHB (ba aXX))))
def aEl (l:List Xp) (hl:l.length≤4611686018427387903) (hx:∀ e∈l,WX e):GW 84 [.of (slC xpC l)] ([99,97,115,101]::(aam (l.map xpP)++[[101,110,100]])):=by
 intro o h
 have ec:=aL [99,97,115,101]
 have ew:({data:=#[119,104,101,110]}:ByteArray)=aD [119,104,101,110]:=rfl
 have et:({data:=#[116,104,101,110]}:ByteArray)=aD [116,104,101,110]:=rfl
 have ee:=aL [101,108,115,101]
 have en:({data:=#[101,110,100]}:ByteArray)=aD [101,110,100]:=rfl
 simp only[aB,av,cd] at h
 have q0:bi o+1≤LIM:=by omega
 refine ah rfl aXX aHB rfl ?_
 simp -implicitDefEqProofs(maxSteps:=9^9)only[Tryz.f84,↓zA,sevalprocAttr,atD,zW,ec,dF,q0]
 refine bW (l.length / 2) (fun k s=>s.fr 0=.ptr 0 0∧s.fr 1=.of (slC xpC (l.drop (2*k)))∧∃ A,s.objs=[wT cw (iz o A)]∧[99,97,115,101]::aam (l.map xpP)=A++aam ((l.drop (2*k)).map xpP)) ?_ ?_
 .simp -implicitDefEqProofs(maxSteps:=9^9)only[Tryz.f84,↓zA,sevalprocAttr,atD]
  exact⟨[[99,97,115,101]],rfl,rfl⟩
 rintro k ⟨frk,obk,ckk⟩ hk ⟨f0,f1,A,fo,E⟩
 dsimp only at f0 f1 fo
 have E2:=congrArg List.length E
 simp only[aB,av] at E2
 have hL:(l.drop (2*k)).length=l.length-2*k:=iV
 have hmem:∀ e∈l.drop (2*k),WX e:=fun e he=>hx e (fg he)
 have hnx:(l.drop (2*k)).drop 2=l.drop (2*(k+1)):=by rw[ac9];congr 1
 rcases ap (l.length-2*k) 2 with dk|dk
 .have c1:((1:Int)<((l.drop (2*k)).length:Int))=False:=by rw[hL];simp only[ag3,abu];omega
  have c2:(((l.drop (2*k)).length:Int)=1)=(l.length-2*k=1):=by rw[hL];simp only[ag3];omega
  generalize hq:l.drop (2*k)=L at *
  by_cases d1:l.length-2*k=1
  .obtain⟨a,rfl⟩ : ∃ a,L=[a]:=by
    cases L with
    | nil=>simp at hL;omega
    | cons a r=>cases r with
     | nil=>exact⟨a,rfl⟩
     | cons b r=>simp at hL;omega
   have ka:=fun o K=>(adu a (hmem a (by simp))).k o K
   have hT:aam (([a]:List Xp).map xpP)=[101,108,115,101]::bv a:=rfl
   rw[hT] at E E2
   simp only[aB,av] at E2
   have q1:bi o+A.length+1≤LIM:=by omega
   have q2:bi o+(A.length+1)+(bv a).length≤LIM:=by omega
   have q3:bi o+(A.length+(1+(bv a).length))+1≤LIM:=by omega
   have q4:bi o+(A.length+((bv a).length+1))+1≤LIM:=by omega
   have g0:dE [a] 0=some a:=rfl
   simp -implicitDefEqProofs(maxSteps:=9^9)only[Tryz.f84,↓zA,sevalprocAttr,atD,f0,f1,fo,zW,c1,c2,d1,g0,ee,en,dF,ka,q1,q2,q3,q4,aR,am,ce]
   have E3:[99,97,115,101]::(aam (l.map xpP)++[[101,110,100]])=(A++([101,108,115,101]::bv a))++[[101,110,100]]:=by rw[← E];rfl
   rw[E3]
   simp
  .have hT:aam (L.map xpP)=[]:=by
    cases L with
    | nil=>rfl
    | cons a r=>simp at hL;omega
   rw[hT,cD] at E
   rw[hT,cd] at E2
   have q1:bi o+A.length+1≤LIM:=by omega
   simp -implicitDefEqProofs(maxSteps:=9^9)only[Tryz.f84,↓zA,sevalprocAttr,atD,f0,f1,fo,zW,c1,c2,d1,en,dF,q1,aR,am,ce]
   try (rw[← E];simp)
 .have c1:((1:Int)<((l.drop (2*k)).length:Int))=True:=aa (by rw[hL];omega)
  have hs:=aUf (L:=l.drop (2*k)) (by omega)
  rw[hnx] at hs
  obtain⟨a,b,r,hq⟩ : ∃ a b r,l.drop (2*k)=a::b::r:=by
   cases hq:l.drop (2*k) with
   | nil=>rw[hq] at hL;simp at hL;omega
   | cons a r=>cases r with
    | nil=>rw[hq] at hL;simp at hL;omega
    | cons b r=>exact⟨a,b,r,rfl⟩
  have hr:r=l.drop (2*(k+1)):=by rw[← hnx,hq];rfl
  have g0:dE (l.drop (2*k)) 0=some a:=by rw[hq];rfl
  have g1:dE (l.drop (2*k)) 1=some b:=by rw[hq];rfl
  have ka:=fun o K=>(adu a (hmem a (by rw[hq];simp))).k o K
  have kb:=fun o K=>(adu b (hmem b (by rw[hq];simp))).k o K
  rw[hq,arZ] at E E2
  rw[hr] at E E2
  simp only[aB,av] at E2
  have q1:bi o+A.length+1≤LIM:=by omega
  have q2:bi o+(A.length+1)+(bv a).length≤LIM:=by omega
  have q3:bi o+(A.length+((bv a).length+1))+1≤LIM:=by omega
  have q4:bi o+(A.length+((bv a).length+(1+1)))+(bv b).length≤LIM:=by omega
  have q5:bi o+(A.length+((bv a).length+1+1))+(bv b).length≤LIM:=by omega
  have hk2:k<l.length / 2:=by omega
  simp -implicitDefEqProofs(maxSteps:=9^9)only[Tryz.f84,↓zA,sevalprocAttr,atD,f0,f1,fo,zW,c1,g0,g1,hs,ew,et,dF,ka,kb,q1,q2,q3,q4,q5,hk2,aR,am,ce]
  exact⟨_,rfl,by rw[E];simp⟩
def a45:=ai (ai (ai (ai @zq (ai @a61 @afK)) (ai @aec (ai @ahR @ac6))) (ai (ai @ab3 (ai @aeB @aet)) (ai (ai @adk @agn) (ai @aCY @avZ)))) (ai (ai (ai @aJ7 (ai @cQ @bN)) (ai @d6 (ai @agx @aeQ))) (ai (ai @aix (ai @Q9 @P4)) (ai (ai @Q4 @zT0) (ai @aHA (ba aXW)))))
def aMh (e:Xp) (hn:bk e.nm=true) (hl:e.ks.length≤4611686018427387903) (hx:∀ x∈e.ks,WX x):GW 85 [.of (.agg (xpC e))] (bF e.nm::bI true (aF e.di [[100,105,115,116,105,110,99,116]]++(aF (decide (e.ks.length=0)) [aaM]++bc true (e.ks.map bv)))):=by
 intro o h
 have e40:=aL [40]
 have e41:=aL [41]
 have e42:=aL [42]
 have ed:=aL [100,105,115,116,105,110,99,116]
 have kl:=fun o K=>(aev 43 e.ks bv hl agx aix aeQ fun x hx'=>adu x (hx x hx')).k o K
 simp only[Nat.reduceMul,Nat.reduceAdd] at kl
 have kd:=fun o K=>(gv e.di [.lit (.string (aD [100,105,115,116,105,110,99,116]))] [[100,105,115,116,105,110,99,116]] 1 rfl rfl (by simp)).k o K
 have ks:=fun o K=>(gv (decide (e.ks.length=0)) [.lit (.string (aD [42]))] [[42]] 1 rfl rfl (by simp)).k o K
 have c0:(((e.ks.length:Nat):Int)=0)=(e.ks.length=0):=propext (by omega)
 have hT:(bF e.nm::bI true (aF e.di [[100,105,115,116,105,110,99,116]]++(aF (decide (e.ks.length=0)) [aaM]++bc true (e.ks.map bv))))=bF e.nm::([40]::(aF e.di [[100,105,115,116,105,110,99,116]]++(aF (decide (e.ks.length=0)) [[42]]++(bc true (e.ks.map bv)++[[41]])))):=by simp[bI,lpT,rpT,aaM]
 rw[hT] at h ⊢
 simp only[aB,av,cd] at h
 generalize hd:aF e.di [[100,105,115,116,105,110,99,116]]=D at *
 generalize hs:aF (decide (e.ks.length=0)) [[42]]=S at *
 generalize hm:bc true (e.ks.map bv)=M at *
 have q1:bi o+1≤LIM:=by omega
 have q2:bi o+1+1≤LIM:=by omega
 have q2':bi o+(1+1)≤LIM:=by omega
 have q3:bi o+(1+1)+D.length≤LIM:=by omega
 have q4:bi o+(D.length+1+1)+S.length≤LIM:=by omega
 have q5:bi o+(D.length+S.length+1+1)+M.length≤LIM:=by omega
 have q6:bi o+(D.length+(S.length+M.length)+1+1)+1≤LIM:=by omega
 refine ah rfl aXW aHA rfl ?_
 simp -implicitDefEqProofs(maxSteps:=9^9)only[Tryz.f85,↓zA,sevalprocAttr,a45,zW,aaF _ hn,e40,e41,e42,ed,dF,kl,kd,ks,c0,q1,q2,q2',q3,q4,q5,q6,aR,am,ce,bd]
 try rfl
def anZ {α:Type} (g:α→List To) {l:List α} {k:Nat} (h:k<l.length):bc (decide (k=0)) ((l.drop k).map g)=aF (decide (k≠0)) [[44]]++(g l[k]++bc (decide (k+1=0)) ((l.drop (k+1)).map g)):=by
 rw[bK h,aV,bO (abh k)]
 cases k with
 | zero=>rfl
 | succ k=>rfl
def okN {c d:Nat} (x i:Nat) (h:c<d) (af:List Edge):abg d af (some (.nm c x i))=true:=Z69 ((Z68 ..).2 h) af
def abU {clk d e f n:Nat} {cs:List C} {T R:List To} (A2:List To) (h0:d<clk) (h1:cs=fl bA A2) (h2:n=A2.length) (h3:T=A2++R):∃ A c x i,c<clk∧X.own (.nm d e f) 9 1 cs n=X.own (.nm c x i) 9 1 (fl bA A) A.length∧T=A++R:=⟨A2,d,e,f,h0,by rw[h1,h2],h3⟩
def atC:=ai (ai (ai @zq @ah7) (ai @agP @cQ)) (ai (ai @bN @d6) (ai @zT0 (ai @aHu (ba aXQ))))
def aeF (l:List Xp) (hl:l.length≤4611686018427387903) (hx:∀ x∈l,RX x):GR 91 [.of (slC xpC l)] (bc true (l.map bv)):=by
 intro h
 generalize hT:bc true (l.map bv)=T at *
 have e44:=aL [44]
 refine ah rfl aXQ aHu rfl ?_
 simp -implicitDefEqProofs(maxSteps:=9^9)only[Tryz.f91,↓zA,sevalprocAttr,atC]
 refine bW l.length (fun k s=>s.fr 0=.of (slC xpC l)∧s.fr 4=aU k∧s.objs=[]∧∃ A c x i,c<s.clk∧s.fr 3=.own (.nm c x i) 9 1 (fl bA A) A.length∧T=A++bc (decide (k=0)) ((l.drop k).map bv)) ?_ ?_
 .simp -implicitDefEqProofs(maxSteps:=9^9)only[Tryz.f91,↓zA,sevalprocAttr,atC]
  exact⟨[],_,_,_,by omega,rfl,hT.symm⟩
 rintro k ⟨frk,obk,ckk⟩ hk ⟨f0,fi,fo,A,c,x,i,hc,fa,E⟩
 dsimp only at f0 fi fo hc fa
 rcases ap k l.length with dk|dk
 .have hw:=cE k (by omega)
  have gx:=bq dk
  rw[anZ bv dk] at E
  have hm:=hx l[k] (ay dk)
  generalize l[k]=y at *
  have EL:=congrArg List.length E
  simp only[av] at EL
  have ka:=fun K=>(dJ y 1 hm).k (T:=bv y) (by omega) K
  rcases fC k with hkz|hz
  .subst hkz
   have hw1:aF (decide ((0:Nat)≠0)) [[44]]=[]:=rfl
   have hd1:decide (0+1=0)=false:=rfl
   have dk':((0:Int)<(l.length:Int))=True:=aa (by omega)
   have fi':frk 4=aU 0:=fi
   have gx':dE l 0=some y:=gx
   have hw':IntKind.i64.wrap 1=1:=by decide
   have E2:T=(A++bv y)++bc false ((l.drop (0+1)).map bv):=by rw[E,hw1,hd1];simp only[am,bw,bt]
   simp -implicitDefEqProofs(maxSteps:=9^9)only[Tryz.f91,↓zA,sevalprocAttr,atC,f0,fa,fo,fi',dk',gx',hw',ka]
   and_intros
   all_goals first|exact okN _ _ (by omega) _|omega|rfl|exact abU (A++bv y) (by omega) (by (try simp only[cI,cH]) <;> rfl) (by (try simp only[aR]) <;> omega) E2|((try simp only[aR]) <;> omega)
  .have hkz:k≠0:=by omega
   have hw1:aF (decide (k≠0)) [[44]]=[[44]]:=by simp[aF,hkz]
   have hwt:(aF (decide (k≠0)) [[44]]).length=1:=by rw[hw1];rfl
   have hd1:decide (k+1=0)=false:=bO (abh k)
   have kz:((0:Int)<(k:Int))=True:=aa (by omega)
   have E2:T=(A++([44]::(bv y)))++bc false ((l.drop (k+1)).map bv):=by rw[E,hw1,hd1];simp only[am,bw,bt]
   simp -implicitDefEqProofs(maxSteps:=9^9)only[Tryz.f91,↓zA,sevalprocAttr,atC,f0,fa,fo,fi,aK,dk,kz,e44,gx,hw,ka]
   and_intros
   all_goals first|exact okN _ _ (by omega) _|omega|rfl|exact abU (A++([44]::(bv y))) (by omega) (by (try simp only[cI,cH]) <;> rfl) (by (try simp only[aR]) <;> omega) E2|((try simp only[aR]) <;> omega)
 .have e:k=l.length:=by omega
  subst e
  rw[aw,bC] at E
  have E:T=A:=by rw[E];cases (decide (l.length=0)) <;> simp[bc]
  subst E
  simp -implicitDefEqProofs(maxSteps:=9^9)only[Tryz.f91,↓zA,sevalprocAttr,atC,f0,fa,fi,fo,aK,au]
  try rfl
def aoD:=ai (ai (ai @zq @ahl) (ai @afF (ai @ai5 @ahI))) (ai (ai @bN @Q9) (ai @zT0 (ai @az6 (ba aPs))))
def aca (l:List (List UInt8)) (hl:l.length≤4611686018427387903) (hx:∀ s∈l,bk s=true):GR 137 [.of (slC bA l)] (dN l):=by
 intro h
 have e44:=aL [44]
 unfold dN at h ⊢
 generalize hT:bc true (l.map fun s=>[bF s])=T at *
 have hT2:(bI true T).length=T.length+2:=by simp[bI]
 refine ah rfl aPs az6 rfl ?_
 simp -implicitDefEqProofs(maxSteps:=9^9)only[Tryz.f137,↓zA,sevalprocAttr,aoD]
 refine bW l.length (fun k s=>s.fr 0=.of (slC bA l)∧s.fr 4=aU k∧s.objs=[]∧∃ A c x i,c<s.clk∧s.fr 3=.own (.nm c x i) 9 1 (fl bA A) A.length∧T=A++bc (decide (k=0)) ((l.drop k).map (fun s=>[bF s]))) ?_ ?_
 .simp -implicitDefEqProofs(maxSteps:=9^9)only[Tryz.f137,↓zA,sevalprocAttr,aoD]
  exact⟨[],_,_,_,by omega,rfl,hT.symm⟩
 rintro k ⟨frk,obk,ckk⟩ hk ⟨f0,fi,fo,A,c,x,i,hc,fa,E⟩
 dsimp only at f0 fi fo hc fa
 rcases ap k l.length with dk|dk
 .have hw:=cE k (by omega)
  have gx:=bq dk
  rw[anZ (fun s=>[bF s]) dk] at E
  have hm:=hx l[k] (ay dk)
  generalize l[k]=y at *
  have EL:=congrArg List.length E
  simp only[aR] at EL
  have kn:=fun K=>fO y hm K
  rcases fC k with hkz|hz
  .subst hkz
   have hw1:aF (decide ((0:Nat)≠0)) [[44]]=[]:=rfl
   have hd1:decide (0+1=0)=false:=rfl
   have dk':((0:Int)<(l.length:Int))=True:=aa (by omega)
   have fi':frk 4=aU 0:=fi
   have gx':dE l 0=some y:=gx
   have hw':IntKind.i64.wrap 1=1:=by decide
   have E2:T=(A++[bF y])++bc false ((l.drop (0+1)).map (fun s=>[bF s])):=by rw[E,hw1,hd1];simp only[am,bw,bt]
   simp -implicitDefEqProofs(maxSteps:=9^9)only[Tryz.f137,↓zA,sevalprocAttr,aoD,f0,fa,fo,fi',dk',gx',hw',kn]
   and_intros
   all_goals first|exact okN _ _ (by omega) _|omega|rfl|exact abU (A++[bF y]) (by omega) (by (try simp only[cI,cH]) <;> rfl) (by (try simp only[aR]) <;> omega) E2|((try simp only[aR]) <;> omega)
  .have hkz:k≠0:=by omega
   have hw1:aF (decide (k≠0)) [[44]]=[[44]]:=by simp[aF,hkz]
   have hwt:(aF (decide (k≠0)) [[44]]).length=1:=by rw[hw1];rfl
   have hd1:decide (k+1=0)=false:=bO (abh k)
   have kz:((0:Int)<(k:Int))=True:=aa (by omega)
   have E2:T=(A++([44]::([bF y])))++bc false ((l.drop (k+1)).map (fun s=>[bF s])):=by rw[E,hw1,hd1];simp only[am,bw,bt]
   simp -implicitDefEqProofs(maxSteps:=9^9)only[Tryz.f137,↓zA,sevalprocAttr,aoD,f0,fa,fo,fi,aK,dk,kz,e44,gx,hw,kn]
   and_intros
   all_goals first|exact okN _ _ (by omega) _|omega|rfl|exact abU (A++([44]::([bF y]))) (by omega) (by (try simp only[cI,cH]) <;> rfl) (by (try simp only[aR]) <;> omega) E2|((try simp only[aR]) <;> omega)
 .have e:k=l.length:=by omega
  subst e
  rw[aw,bC] at E
  have E:T=A:=by rw[E];cases (decide (l.length=0)) <;> simp[bc]
  subst E
  have kr:=fun K=>aaX T h K
  simp -implicitDefEqProofs(maxSteps:=9^9)only[Tryz.f137,↓zA,sevalprocAttr,aoD,f0,fa,fi,fo,aK,au,kr]
  try rfl
def aTG:=ai (ai @zq @bN) (ai @zT0 (ai @aHX (ba aYj)))
def aw8 (A T:List To) (h:A.length+1+T.length≤LIM):aN Tryz.prog pr 58 [.own (.nm 0 0 0) 9 1 (fl bA A) A.length,.own (.nm 0 0 1) 9 1 (fl bA T) T.length] [] ⟨false,[.own (.nm 0 0 0) 9 1 (fl bA (A++(aF (decide (A≠[])) [[44]]++T))) (A++(aF (decide (A≠[])) [[44]]++T)).length],[]⟩:=by
 have e44:=aL [44]
 have hT:=acC T
 refine ah rfl aYj aHX rfl ?_
 cases A with
 | nil =>
  have e:aF (decide (([]:List To)≠[])) [[44]]=[]:=rfl
  rw[e]
  simp only[bw,cd] at h ⊢
  simp -implicitDefEqProofs(maxSteps:=9^9)only[Tryz.f58,↓zA,sevalprocAttr,aTG,e44,aRU,hT]
  (and_intros <;> first|(exact cy (by (try simp only[cI,cH]) <;> rfl) (by (try simp only[aR]) <;> omega))|((try simp only[aR]) <;> omega))
 | cons a r =>
  have e:aF (decide ((a::r)≠[])) [[44]]=[[44]]:=rfl
  rw[e]
  have c:((0:Int)<((r.length+1:Nat):Int))=True:=aa (by omega)
  simp only[aB] at h
  simp -implicitDefEqProofs(maxSteps:=9^9)only[Tryz.f58,↓zA,sevalprocAttr,aTG,e44,c,hT]
  (and_intros <;> first|(exact cy (by (try simp only[cI,cH]) <;> rfl) (by (try simp only[aR]) <;> omega))|((try simp only[aR]) <;> omega))
end Go.Proofs.YtemdljoideegeaaGreatDoor
namespace Go.Tab
deriving instance DecidableEq for Od,Cd
end Go.Tab
namespace Go.Proofs.YtemdljoideegeaaGreatDoor
open Go Go.Pe Go.Tab
def FnB {α:Type} (A:α→C) (g:Nat) (cp:List C) (p:α→Bool) (l:List α):Prop:=bh g=false∧ak Tryz.prog g=true∧∀ x∈l,G1 g (.of (A x)::cp.map .of) (aG (p x))
def afs {α:Type} (A:α→C) (g:Nat) (cp:List C) (p:α→α→Bool) (l:List α) (m:List α):Prop:=bh g=false∧ak Tryz.prog g=true∧∀ x∈l,∀ y∈m,G1 g (.of (A x)::.of (A y)::cp.map .of) (aG (p x y))
theorem aAK {α:Type} (p:α→Bool):∀ (l:List α) (k:Nat),ig p k l=-1∧l.any p=false∨(k:Int)≤ig p k l∧l.any p=true
 | [],k=>by simp[ig]
 | x::r,k=>by
  simp only[ig,afl]
  cases hp:p x
  .simp only[aW,aQ,dh]
   rcases aAK p r (k+1) with h|h
   .exact .inl h
   .exact .inr ⟨by omega,h.2⟩
  .exact .inr ⟨by simp,rfl⟩
def acd {α:Type} (p:α→Bool) (l:List α):decide (0≤iX p l)=l.any p:=by
 rcases aAK p l 0 with h|h
 .rw[iX,h.1,h.2];rfl
 .rw[h.2];exact ct h.1
def aLu {α:Type} [DecidableEq α] (v:α) (l:List α) [Decidable (v∈l)]:decide (0≤iX (fun x=>decide (v=x)) l)=decide (v∈l):=by
 rw[acd,bX]
 simp
def fK (a b:Nat):((a:Int)=(b:Int))=(a=b):=propext Int.natCast_inj
def eqR {α:Type} (q:α→α→Bool):List α→List α→Bool
 | [],[]=>true
 | x::l,y::m=>q x y&&eqR q l m
 | _,_=>false
theorem aea {α:Type} (q:α→α→Bool):∀ l m:List α,¬l.length=m.length→eqR q l m=false
 | [],[],h=>absurd rfl h
 | [],_::_,_=>rfl
 | _::_,[],_=>rfl
 | x::l,y::m,h=>by
  rw[eqR,aea q l m (fun e=>h (by simp[e])),cO]
theorem aIT {α:Type} [DecidableEq α] (q:α→α→Bool):∀ l m:List α,(∀ x∈l,∀ y∈m,q x y=decide (x=y))→eqR q l m=decide (l=m)
 | [],[],_=>by simp[eqR]
 | [],_::_,_=>by simp[eqR]
 | _::_,[],_=>by simp[eqR]
 | x::l,y::m,h=>by
  rw[eqR,h x (by simp) y (by simp),aIT q l m (fun a ha b hb=>h a (by simp[ha]) b (by simp[hb])),bX]
  simp
def aor {P:Program} {T:TT} {t:Nat} {u:Option TypeDesc} {cs ds:List C} {b:Bool} (h:ad0 P T t cs ds=some b):gS P T t u .eql (.of (.agg cs)) (.of (.agg ds))=out (aG b)∧gS P T t u .neq (.of (.agg cs)) (.of (.agg ds))=out (aG (!b)):=by
 constructor
 .simp only[gS,fY,X.rd,ahK,h]
  rfl
 .simp only[gS,fY,X.rd,ahK,h]
  rfl
def aCh (a c:V):(a.k=c.k∧a.n=c.n∧a.s=c.s)=(a=c):=by
 apply propext
 constructor
 .rintro⟨h1,h2,h3⟩
  cases a;cases c
  simp only at h1 h2 h3
  rw[h1,h2,h3]
 .rintro rfl;exact⟨rfl,rfl,rfl⟩
def aZm (a c:Cd):(a.nm=c.nm∧a.ty=c.ty∧a.nn=c.nn)=(a=c):=by
 apply propext
 constructor
 .rintro⟨h1,h2,h3⟩
  cases a;cases c
  simp only at h1 h2 h3
  rw[h1,h2,h3]
 .rintro rfl;exact⟨rfl,rfl,rfl⟩
def aU0 (a c:Od):(a.nm=c.nm∧a.pl=c.pl∧a.dn=c.dn)=(a=c):=by
 apply propext
 constructor
 .rintro⟨h1,h2,h3⟩
  cases a;cases c
  simp only at h1 h2 h3
  rw[h1,h2,h3]
 .rintro rfl;exact⟨rfl,rfl,rfl⟩
def aWJ:Tryz.prog.stoodInHeld 43=false:=by kernel_rfl
def aRD:Tryz.prog.eqGuardType Tryz.prog.depth 43=false:=by kernel_rfl
def aRC:Tryz.prog.stoodInHeld 56=false:=by kernel_rfl
def aLA:Tryz.prog.eqGuardType Tryz.prog.depth 56=false:=by kernel_rfl
def aRB:Tryz.prog.stoodInHeld 64=false:=by kernel_rfl
def aLz:Tryz.prog.eqGuardType Tryz.prog.depth 64=false:=by kernel_rfl
def arX (x y:V):ad0 Tryz.prog (TT.of Tryz.prog) 43 (acE x) (acE y)=some (decide (x=y)):=by
 simp only[ad0,T43,aWJ,aRD,da,aA,acE,adg,T3,T9,bH,ajx,aic,← aCh]
 by_cases h1:x.k=y.k
 .by_cases h2:x.n=y.n
  .by_cases h3:x.s=y.s
   .simp[h1,h2,h3]
   .simp[h1,h2,h3]
  .simp[h1,h2]
 .simp[h1]
def aDZ (x y:Cd):ad0 Tryz.prog (TT.of Tryz.prog) 56 (cdC x) (cdC y)=some (decide (x=y)):=by
 simp only[ad0,T56,aRC,aLA,da,aA,aj7,adg,T3,T9,T4,bH,ajx,aic,← aZm]
 by_cases h1:x.nm=y.nm
 .by_cases h2:x.ty=y.ty
  .by_cases h3:x.nn=y.nn
   .simp[h1,h2,h3]
   .simp[h1,h2,h3]
  .simp[h1,h2]
 .simp[h1,bU]
def aIS (x y:Od):ad0 Tryz.prog (TT.of Tryz.prog) 64 (odC x) (odC y)=some (decide (x=y)):=by
 simp only[ad0,T64,aRB,aLz,da,aA,ajR,adg,T3,T9,T4,bH,ajx,aic,← aU0]
 by_cases h1:x.nm=y.nm
 .by_cases h2:x.pl=y.pl
  .by_cases h3:x.dn=y.dn
   .simp[h1,h2,h3]
   .simp[h1,h2,h3]
  .simp[h1,h2]
 .simp[h1,bU]
def ca:=fun (u:Option TypeDesc) (x y:V)=>aor (u:=u) (arX x y)
def aDY:=fun (u:Option TypeDesc) (x y:Cd)=>aor (u:=u) (aDZ x y)
def aIR:=fun (u:Option TypeDesc) (x y:Od)=>aor (u:=u) (aIS x y)
def szP (a:Nat×Nat):Sz:=⟨a.1,a.2⟩
def aoT (a:Nat×Nat):(szP a).nd=a.1:=rfl
def aoU (a:Nat×Nat):(szP a).dp=a.2:=rfl
def FnS {α:Type} (A:α→C) (g:Nat) (cp:List C) (w:α→Nat×Nat) (l:List α):Prop:=bh g=false∧ak Tryz.prog g=true∧∀ x∈l,G1 g (.of (A x)::cp.map .of) (.of (.agg (szC (szP (w x)))))
def ac0 {α:Type} (w:α→Nat×Nat) (x:α) (r:List α):bl w (x::r)=bx (w x) (bl w r):=rfl
def akg (a b:Nat×Nat):(bx a b).1=a.1+b.1:=rfl
def bu {α:Type} (l:List α) (a b:Int) (p:α→Bool):Bool:=decide (a≤(l.length:Int))&&decide ((l.length:Int)≤b)&&l.all p
def adN {α:Type} (p:α→Bool) (l:List α):l.any (fun x=>!p x)=!l.all p:=by
 induction l with
 | nil=>rfl
 | cons x r ih=>simp[afl,ach,ih]
def amQ:=ai (ai @zq (ai @aes @acn)) (ai @zT0 (ai @ayL (ba aN7)))
def asH (l:List Cd) (p:Cd→Bool) (g:Nat) (cp:List C) (h:l.length≤4611686018427387903∧FnB (fun x=>.agg (cdC x)) g cp p l):G1 232 [.of (slC cdC l),.of (.fn g cp)] (aU (iX p l)):=by
 obtain⟨hl,ho,hc,hg⟩:=h
 refine ah rfl aN7 ayL rfl ?_
 simp -implicitDefEqProofs(maxSteps:=9^9)only[Tryz.f232,↓zA,sevalprocAttr,amQ,ho]
 refine bW l.length (fun k s=>s.fr 0=.of (slC cdC l)∧s.fr 1=.of (.fn g cp)∧s.fr 7=aU l.length∧s.fr 8=aU k∧s.objs=[]∧iX p l=ig p k (l.drop k)) ?_ ?_
 .simp -implicitDefEqProofs(maxSteps:=9^9)only[Tryz.f232,↓zA,sevalprocAttr,amQ]
  exact rfl
 .rintro k s hk ⟨f0,f1,f7,f8,hob,E⟩
  rcases ap k l.length with c1|c1
  .have hw:=cE k (by omega)
   have hx:=fun K=>aN.k (hg l[k] (ay c1)) K
   rw[cM c1,ig] at E
   simp -implicitDefEqProofs(maxSteps:=9^9)only[Tryz.f232,↓zA,sevalprocAttr,amQ,f0,f1,f7,f8,hob,ho,hc,aK,c1,bq c1,hw,hx]
   by_cases c2:p l[k]=true
   .simp only[c2,aA] at E
    simp -implicitDefEqProofs(maxSteps:=9^9)only[Tryz.f232,↓zA,sevalprocAttr,amQ,c2,E]
   .simp only[c2,aW,aQ] at E
    simp -implicitDefEqProofs(maxSteps:=9^9)only[Tryz.f232,↓zA,sevalprocAttr,amQ,c2,E]
  .have e:k=l.length:=by omega
   subst e
   rw[aw,ig] at E
   simp -implicitDefEqProofs(maxSteps:=9^9)only[Tryz.f232,↓zA,sevalprocAttr,amQ,f0,f1,f7,f8,hob,aK,au,E]
def aE0 (l:List Cd) (p:Cd→Bool) (g:Nat) (cp:List C) (h:l.length≤4611686018427387903∧FnB (fun x=>.agg (cdC x)) g cp p l) (K:An→Prop):bp Tryz.prog pr 232 [.of (slC cdC l),.of (.fn g cp)] [] K↔K ⟨false,[aU (iX p l)],[]⟩:=aN.k (asH l p g cp h) K
def amN:=ai (ai @zq (ai @cQ @d6)) (ai @zT0 (ai @ayI (ba aN4)))
def axW (l:List Xp) (p:Xp→Bool) (g:Nat) (cp:List C) (h:l.length≤4611686018427387903∧FnB (fun x=>.agg (xpC x)) g cp p l):G1 235 [.of (slC xpC l),.of (.fn g cp)] (aU (iX p l)):=by
 obtain⟨hl,ho,hc,hg⟩:=h
 refine ah rfl aN4 ayI rfl ?_
 simp -implicitDefEqProofs(maxSteps:=9^9)only[Tryz.f235,↓zA,sevalprocAttr,amN,ho]
 refine bW l.length (fun k s=>s.fr 0=.of (slC xpC l)∧s.fr 1=.of (.fn g cp)∧s.fr 7=aU l.length∧s.fr 8=aU k∧s.objs=[]∧iX p l=ig p k (l.drop k)) ?_ ?_
 .simp -implicitDefEqProofs(maxSteps:=9^9)only[Tryz.f235,↓zA,sevalprocAttr,amN]
  exact rfl
 .rintro k s hk ⟨f0,f1,f7,f8,hob,E⟩
  rcases ap k l.length with c1|c1
  .have hw:=cE k (by omega)
   have hx:=fun K=>aN.k (hg l[k] (ay c1)) K
   rw[cM c1,ig] at E
   simp -implicitDefEqProofs(maxSteps:=9^9)only[Tryz.f235,↓zA,sevalprocAttr,amN,f0,f1,f7,f8,hob,ho,hc,aK,c1,bq c1,hw,hx]
   by_cases c2:p l[k]=true
   .simp only[c2,aA] at E
    simp -implicitDefEqProofs(maxSteps:=9^9)only[Tryz.f235,↓zA,sevalprocAttr,amN,c2,E]
   .simp only[c2,aW,aQ] at E
    simp -implicitDefEqProofs(maxSteps:=9^9)only[Tryz.f235,↓zA,sevalprocAttr,amN,c2,E]
  .have e:k=l.length:=by omega
   subst e
   rw[aw,ig] at E
   simp -implicitDefEqProofs(maxSteps:=9^9)only[Tryz.f235,↓zA,sevalprocAttr,amN,f0,f1,f7,f8,hob,aK,au,E]
def aMB (l:List Xp) (p:Xp→Bool) (g:Nat) (cp:List C) (h:l.length≤4611686018427387903∧FnB (fun x=>.agg (xpC x)) g cp p l) (K:An→Prop):bp Tryz.prog pr 235 [.of (slC xpC l),.of (.fn g cp)] [] K↔K ⟨false,[aU (iX p l)],[]⟩:=aN.k (axW l p g cp h) K
def amO:=ai (ai @zq (ai @aer @ac5)) (ai @zT0 (ai @ayJ (ba aN5)))
def asF (l:List Rd) (p:Rd→Bool) (g:Nat) (cp:List C) (h:l.length≤4611686018427387903∧FnB (fun x=>.agg (rdC x)) g cp p l):G1 234 [.of (slC rdC l),.of (.fn g cp)] (aU (iX p l)):=by
 obtain⟨hl,ho,hc,hg⟩:=h
 refine ah rfl aN5 ayJ rfl ?_
 simp -implicitDefEqProofs(maxSteps:=9^9)only[Tryz.f234,↓zA,sevalprocAttr,amO,ho]
 refine bW l.length (fun k s=>s.fr 0=.of (slC rdC l)∧s.fr 1=.of (.fn g cp)∧s.fr 7=aU l.length∧s.fr 8=aU k∧s.objs=[]∧iX p l=ig p k (l.drop k)) ?_ ?_
 .simp -implicitDefEqProofs(maxSteps:=9^9)only[Tryz.f234,↓zA,sevalprocAttr,amO]
  exact rfl
 .rintro k s hk ⟨f0,f1,f7,f8,hob,E⟩
  rcases ap k l.length with c1|c1
  .have hw:=cE k (by omega)
   have hx:=fun K=>aN.k (hg l[k] (ay c1)) K
   rw[cM c1,ig] at E
   simp -implicitDefEqProofs(maxSteps:=9^9)only[Tryz.f234,↓zA,sevalprocAttr,amO,f0,f1,f7,f8,hob,ho,hc,aK,c1,bq c1,hw,hx]
   by_cases c2:p l[k]=true
   .simp only[c2,aA] at E
    simp -implicitDefEqProofs(maxSteps:=9^9)only[Tryz.f234,↓zA,sevalprocAttr,amO,c2,E]
   .simp only[c2,aW,aQ] at E
    simp -implicitDefEqProofs(maxSteps:=9^9)only[Tryz.f234,↓zA,sevalprocAttr,amO,c2,E]
  .have e:k=l.length:=by omega
   subst e
   rw[aw,ig] at E
   simp -implicitDefEqProofs(maxSteps:=9^9)only[Tryz.f234,↓zA,sevalprocAttr,amO,f0,f1,f7,f8,hob,aK,au,E]
def aEY (l:List Rd) (p:Rd→Bool) (g:Nat) (cp:List C) (h:l.length≤4611686018427387903∧FnB (fun x=>.agg (rdC x)) g cp p l) (K:An→Prop):bp Tryz.prog pr 234 [.of (slC rdC l),.of (.fn g cp)] [] K↔K ⟨false,[aU (iX p l)],[]⟩:=aN.k (asF l p g cp h) K
def amP:=ai (ai @zq (ai @adQ @acm)) (ai @zT0 (ai @ayK (ba aN6)))
def asG (l:List Kd) (p:Kd→Bool) (g:Nat) (cp:List C) (h:l.length≤4611686018427387903∧FnB (fun x=>.agg (kdC x)) g cp p l):G1 233 [.of (slC kdC l),.of (.fn g cp)] (aU (iX p l)):=by
 obtain⟨hl,ho,hc,hg⟩:=h
 refine ah rfl aN6 ayK rfl ?_
 simp -implicitDefEqProofs(maxSteps:=9^9)only[Tryz.f233,↓zA,sevalprocAttr,amP,ho]
 refine bW l.length (fun k s=>s.fr 0=.of (slC kdC l)∧s.fr 1=.of (.fn g cp)∧s.fr 7=aU l.length∧s.fr 8=aU k∧s.objs=[]∧iX p l=ig p k (l.drop k)) ?_ ?_
 .simp -implicitDefEqProofs(maxSteps:=9^9)only[Tryz.f233,↓zA,sevalprocAttr,amP]
  exact rfl
 .rintro k s hk ⟨f0,f1,f7,f8,hob,E⟩
  rcases ap k l.length with c1|c1
  .have hw:=cE k (by omega)
   have hx:=fun K=>aN.k (hg l[k] (ay c1)) K
   rw[cM c1,ig] at E
   simp -implicitDefEqProofs(maxSteps:=9^9)only[Tryz.f233,↓zA,sevalprocAttr,amP,f0,f1,f7,f8,hob,ho,hc,aK,c1,bq c1,hw,hx]
   by_cases c2:p l[k]=true
   .simp only[c2,aA] at E
    simp -implicitDefEqProofs(maxSteps:=9^9)only[Tryz.f233,↓zA,sevalprocAttr,amP,c2,E]
   .simp only[c2,aW,aQ] at E
    simp -implicitDefEqProofs(maxSteps:=9^9)only[Tryz.f233,↓zA,sevalprocAttr,amP,c2,E]
  .have e:k=l.length:=by omega
   subst e
   rw[aw,ig] at E
   simp -implicitDefEqProofs(maxSteps:=9^9)only[Tryz.f233,↓zA,sevalprocAttr,amP,f0,f1,f7,f8,hob,aK,au,E]
def aEZ (l:List Kd) (p:Kd→Bool) (g:Nat) (cp:List C) (h:l.length≤4611686018427387903∧FnB (fun x=>.agg (kdC x)) g cp p l) (K:An→Prop):bp Tryz.prog pr 233 [.of (slC kdC l),.of (.fn g cp)] [] K↔K ⟨false,[aU (iX p l)],[]⟩:=aN.k (asG l p g cp h) K
def amM:=ai (ai @zq (ai @eu @d7)) (ai @zT0 (ai @ayF (ba aN1)))
def awv (l:List Qy) (p:Qy→Bool) (g:Nat) (cp:List C) (h:l.length≤4611686018427387903∧FnB (fun x=>.agg (qyC x)) g cp p l):G1 238 [.of (slC qyC l),.of (.fn g cp)] (aU (iX p l)):=by
 obtain⟨hl,ho,hc,hg⟩:=h
 refine ah rfl aN1 ayF rfl ?_
 simp -implicitDefEqProofs(maxSteps:=9^9)only[Tryz.f238,↓zA,sevalprocAttr,amM,ho]
 refine bW l.length (fun k s=>s.fr 0=.of (slC qyC l)∧s.fr 1=.of (.fn g cp)∧s.fr 7=aU l.length∧s.fr 8=aU k∧s.objs=[]∧iX p l=ig p k (l.drop k)) ?_ ?_
 .simp -implicitDefEqProofs(maxSteps:=9^9)only[Tryz.f238,↓zA,sevalprocAttr,amM]
  exact rfl
 .rintro k s hk ⟨f0,f1,f7,f8,hob,E⟩
  rcases ap k l.length with c1|c1
  .have hw:=cE k (by omega)
   have hx:=fun K=>aN.k (hg l[k] (ay c1)) K
   rw[cM c1,ig] at E
   simp -implicitDefEqProofs(maxSteps:=9^9)only[Tryz.f238,↓zA,sevalprocAttr,amM,f0,f1,f7,f8,hob,ho,hc,aK,c1,bq c1,hw,hx]
   by_cases c2:p l[k]=true
   .simp only[c2,aA] at E
    simp -implicitDefEqProofs(maxSteps:=9^9)only[Tryz.f238,↓zA,sevalprocAttr,amM,c2,E]
   .simp only[c2,aW,aQ] at E
    simp -implicitDefEqProofs(maxSteps:=9^9)only[Tryz.f238,↓zA,sevalprocAttr,amM,c2,E]
  .have e:k=l.length:=by omega
   subst e
   rw[aw,ig] at E
   simp -implicitDefEqProofs(maxSteps:=9^9)only[Tryz.f238,↓zA,sevalprocAttr,amM,f0,f1,f7,f8,hob,aK,au,E]
def aJD (l:List Qy) (p:Qy→Bool) (g:Nat) (cp:List C) (h:l.length≤4611686018427387903∧FnB (fun x=>.agg (qyC x)) g cp p l) (K:An→Prop):bp Tryz.prog pr 238 [.of (slC qyC l),.of (.fn g cp)] [] K↔K ⟨false,[aU (iX p l)],[]⟩:=aN.k (awv l p g cp h) K
def amL:=ai (ai @zq (ai @cQ @hY)) (ai @zT0 (ai @ayE (ba aN0)))
def arj (l:List (List Xp)) (p:(List Xp)→Bool) (g:Nat) (cp:List C) (h:l.length≤4611686018427387903∧FnB (slC xpC) g cp p l):G1 239 [.of (slC (lsC xpC) l),.of (.fn g cp)] (aU (iX p l)):=by
 obtain⟨hl,ho,hc,hg⟩:=h
 refine ah rfl aN0 ayE rfl ?_
 simp -implicitDefEqProofs(maxSteps:=9^9)only[Tryz.f239,↓zA,sevalprocAttr,amL,ho]
 refine bW l.length (fun k s=>s.fr 0=.of (slC (lsC xpC) l)∧s.fr 1=.of (.fn g cp)∧s.fr 7=aU l.length∧s.fr 8=aU k∧s.objs=[]∧iX p l=ig p k (l.drop k)) ?_ ?_
 .simp -implicitDefEqProofs(maxSteps:=9^9)only[Tryz.f239,↓zA,sevalprocAttr,amL]
  exact rfl
 .rintro k s hk ⟨f0,f1,f7,f8,hob,E⟩
  rcases ap k l.length with c1|c1
  .have hw:=cE k (by omega)
   have hx:=fun K=>aN.k (hg l[k] (ay c1)) K
   rw[cM c1,ig] at E
   simp -implicitDefEqProofs(maxSteps:=9^9)only[Tryz.f239,↓zA,sevalprocAttr,amL,f0,f1,f7,f8,hob,ho,hc,aK,c1,bq c1,hw,hx]
   by_cases c2:p l[k]=true
   .simp only[c2,aA] at E
    simp -implicitDefEqProofs(maxSteps:=9^9)only[Tryz.f239,↓zA,sevalprocAttr,amL,c2,E]
   .simp only[c2,aW,aQ] at E
    simp -implicitDefEqProofs(maxSteps:=9^9)only[Tryz.f239,↓zA,sevalprocAttr,amL,c2,E]
  .have e:k=l.length:=by omega
   subst e
   rw[aw,ig] at E
   simp -implicitDefEqProofs(maxSteps:=9^9)only[Tryz.f239,↓zA,sevalprocAttr,amL,f0,f1,f7,f8,hob,aK,au,E]
def axX (l:List (List Xp)) (p:(List Xp)→Bool) (g:Nat) (cp:List C) (h:l.length≤4611686018427387903∧FnB (slC xpC) g cp p l) (K:An→Prop):bp Tryz.prog pr 239 [.of (slC (lsC xpC) l),.of (.fn g cp)] [] K↔K ⟨false,[aU (iX p l)],[]⟩:=aN.k (arj l p g cp h) K
def amK:=ai (ai @zq (ai @abQ @abR)) (ai @zT0 (ai @ayD (ba aNZ)))
def asI (l:List As) (p:As→Bool) (g:Nat) (cp:List C) (h:l.length≤4611686018427387903∧FnB (fun x=>.agg (asC x)) g cp p l):G1 240 [.of (slC asC l),.of (.fn g cp)] (aU (iX p l)):=by
 obtain⟨hl,ho,hc,hg⟩:=h
 refine ah rfl aNZ ayD rfl ?_
 simp -implicitDefEqProofs(maxSteps:=9^9)only[Tryz.f240,↓zA,sevalprocAttr,amK,ho]
 refine bW l.length (fun k s=>s.fr 0=.of (slC asC l)∧s.fr 1=.of (.fn g cp)∧s.fr 7=aU l.length∧s.fr 8=aU k∧s.objs=[]∧iX p l=ig p k (l.drop k)) ?_ ?_
 .simp -implicitDefEqProofs(maxSteps:=9^9)only[Tryz.f240,↓zA,sevalprocAttr,amK]
  exact rfl
 .rintro k s hk ⟨f0,f1,f7,f8,hob,E⟩
  rcases ap k l.length with c1|c1
  .have hw:=cE k (by omega)
   have hx:=fun K=>aN.k (hg l[k] (ay c1)) K
   rw[cM c1,ig] at E
   simp -implicitDefEqProofs(maxSteps:=9^9)only[Tryz.f240,↓zA,sevalprocAttr,amK,f0,f1,f7,f8,hob,ho,hc,aK,c1,bq c1,hw,hx]
   by_cases c2:p l[k]=true
   .simp only[c2,aA] at E
    simp -implicitDefEqProofs(maxSteps:=9^9)only[Tryz.f240,↓zA,sevalprocAttr,amK,c2,E]
   .simp only[c2,aW,aQ] at E
    simp -implicitDefEqProofs(maxSteps:=9^9)only[Tryz.f240,↓zA,sevalprocAttr,amK,c2,E]
  .have e:k=l.length:=by omega
   subst e
   rw[aw,ig] at E
   simp -implicitDefEqProofs(maxSteps:=9^9)only[Tryz.f240,↓zA,sevalprocAttr,amK,f0,f1,f7,f8,hob,aK,au,E]
def aE1 (l:List As) (p:As→Bool) (g:Nat) (cp:List C) (h:l.length≤4611686018427387903∧FnB (fun x=>.agg (asC x)) g cp p l) (K:An→Prop):bp Tryz.prog pr 240 [.of (slC asC l),.of (.fn g cp)] [] K↔K ⟨false,[aU (iX p l)],[]⟩:=aN.k (asI l p g cp h) K
def amF:=ai (ai @zq (ai @bN @Q9)) (ai @zT0 (ai @ayo (ba aNJ)))
def asE (l:List (List UInt8)) (p:(List UInt8)→Bool) (g:Nat) (cp:List C) (h:l.length≤4611686018427387903∧FnB (fun x=>aH (aD x)) g cp p l):G1 262 [.of (slC bA l),.of (.fn g cp)] (aU (iX p l)):=by
 obtain⟨hl,ho,hc,hg⟩:=h
 refine ah rfl aNJ ayo rfl ?_
 simp -implicitDefEqProofs(maxSteps:=9^9)only[Tryz.f262,↓zA,sevalprocAttr,amF,ho]
 refine bW l.length (fun k s=>s.fr 0=.of (slC bA l)∧s.fr 1=.of (.fn g cp)∧s.fr 7=aU l.length∧s.fr 8=aU k∧s.objs=[]∧iX p l=ig p k (l.drop k)) ?_ ?_
 .simp -implicitDefEqProofs(maxSteps:=9^9)only[Tryz.f262,↓zA,sevalprocAttr,amF]
  exact rfl
 .rintro k s hk ⟨f0,f1,f7,f8,hob,E⟩
  rcases ap k l.length with c1|c1
  .have hw:=cE k (by omega)
   have hx:=fun K=>aN.k (hg l[k] (ay c1)) K
   rw[cM c1,ig] at E
   simp -implicitDefEqProofs(maxSteps:=9^9)only[Tryz.f262,↓zA,sevalprocAttr,amF,f0,f1,f7,f8,hob,ho,hc,aK,c1,bq c1,hw,hx]
   by_cases c2:p l[k]=true
   .simp only[c2,aA] at E
    simp -implicitDefEqProofs(maxSteps:=9^9)only[Tryz.f262,↓zA,sevalprocAttr,amF,c2,E]
   .simp only[c2,aW,aQ] at E
    simp -implicitDefEqProofs(maxSteps:=9^9)only[Tryz.f262,↓zA,sevalprocAttr,amF,c2,E]
  .have e:k=l.length:=by omega
   subst e
   rw[aw,ig] at E
   simp -implicitDefEqProofs(maxSteps:=9^9)only[Tryz.f262,↓zA,sevalprocAttr,amF,f0,f1,f7,f8,hob,aK,au,E]
def aEX (l:List (List UInt8)) (p:(List UInt8)→Bool) (g:Nat) (cp:List C) (h:l.length≤4611686018427387903∧FnB (fun x=>aH (aD x)) g cp p l) (K:An→Prop):bp Tryz.prog pr 262 [.of (slC bA l),.of (.fn g cp)] [] K↔K ⟨false,[aU (iX p l)],[]⟩:=aN.k (asE l p g cp h) K
def amJ:=ai (ai @zq (ai @acN @abX)) (ai @zT0 (ai @ayv (ba aNQ)))
def aww (l:List Od) (p:Od→Bool) (g:Nat) (cp:List C) (h:l.length≤4611686018427387903∧FnB (fun x=>.agg (odC x)) g cp p l):G1 249 [.of (slC odC l),.of (.fn g cp)] (aU (iX p l)):=by
 obtain⟨hl,ho,hc,hg⟩:=h
 refine ah rfl aNQ ayv rfl ?_
 simp -implicitDefEqProofs(maxSteps:=9^9)only[Tryz.f249,↓zA,sevalprocAttr,amJ,ho]
 refine bW l.length (fun k s=>s.fr 0=.of (slC odC l)∧s.fr 1=.of (.fn g cp)∧s.fr 7=aU l.length∧s.fr 8=aU k∧s.objs=[]∧iX p l=ig p k (l.drop k)) ?_ ?_
 .simp -implicitDefEqProofs(maxSteps:=9^9)only[Tryz.f249,↓zA,sevalprocAttr,amJ]
  exact rfl
 .rintro k s hk ⟨f0,f1,f7,f8,hob,E⟩
  rcases ap k l.length with c1|c1
  .have hw:=cE k (by omega)
   have hx:=fun K=>aN.k (hg l[k] (ay c1)) K
   rw[cM c1,ig] at E
   simp -implicitDefEqProofs(maxSteps:=9^9)only[Tryz.f249,↓zA,sevalprocAttr,amJ,f0,f1,f7,f8,hob,ho,hc,aK,c1,bq c1,hw,hx]
   by_cases c2:p l[k]=true
   .simp only[c2,aA] at E
    simp -implicitDefEqProofs(maxSteps:=9^9)only[Tryz.f249,↓zA,sevalprocAttr,amJ,c2,E]
   .simp only[c2,aW,aQ] at E
    simp -implicitDefEqProofs(maxSteps:=9^9)only[Tryz.f249,↓zA,sevalprocAttr,amJ,c2,E]
  .have e:k=l.length:=by omega
   subst e
   rw[aw,ig] at E
   simp -implicitDefEqProofs(maxSteps:=9^9)only[Tryz.f249,↓zA,sevalprocAttr,amJ,f0,f1,f7,f8,hob,aK,au,E]
def aJE (l:List Od) (p:Od→Bool) (g:Nat) (cp:List C) (h:l.length≤4611686018427387903∧FnB (fun x=>.agg (odC x)) g cp p l) (K:An→Prop):bp Tryz.prog pr 249 [.of (slC odC l),.of (.fn g cp)] [] K↔K ⟨false,[aU (iX p l)],[]⟩:=aN.k (aww l p g cp h) K
def amI:=ai (ai @zq (ai @abc @ab9)) (ai @zT0 (ai @ayu (ba aNP)))
def axU (l:List Im) (p:Im→Bool) (g:Nat) (cp:List C) (h:l.length≤4611686018427387903∧FnB (fun x=>.agg (imC x)) g cp p l):G1 250 [.of (slC imC l),.of (.fn g cp)] (aU (iX p l)):=by
 obtain⟨hl,ho,hc,hg⟩:=h
 refine ah rfl aNP ayu rfl ?_
 simp -implicitDefEqProofs(maxSteps:=9^9)only[Tryz.f250,↓zA,sevalprocAttr,amI,ho]
 refine bW l.length (fun k s=>s.fr 0=.of (slC imC l)∧s.fr 1=.of (.fn g cp)∧s.fr 7=aU l.length∧s.fr 8=aU k∧s.objs=[]∧iX p l=ig p k (l.drop k)) ?_ ?_
 .simp -implicitDefEqProofs(maxSteps:=9^9)only[Tryz.f250,↓zA,sevalprocAttr,amI]
  exact rfl
 .rintro k s hk ⟨f0,f1,f7,f8,hob,E⟩
  rcases ap k l.length with c1|c1
  .have hw:=cE k (by omega)
   have hx:=fun K=>aN.k (hg l[k] (ay c1)) K
   rw[cM c1,ig] at E
   simp -implicitDefEqProofs(maxSteps:=9^9)only[Tryz.f250,↓zA,sevalprocAttr,amI,f0,f1,f7,f8,hob,ho,hc,aK,c1,bq c1,hw,hx]
   by_cases c2:p l[k]=true
   .simp only[c2,aA] at E
    simp -implicitDefEqProofs(maxSteps:=9^9)only[Tryz.f250,↓zA,sevalprocAttr,amI,c2,E]
   .simp only[c2,aW,aQ] at E
    simp -implicitDefEqProofs(maxSteps:=9^9)only[Tryz.f250,↓zA,sevalprocAttr,amI,c2,E]
  .have e:k=l.length:=by omega
   subst e
   rw[aw,ig] at E
   simp -implicitDefEqProofs(maxSteps:=9^9)only[Tryz.f250,↓zA,sevalprocAttr,amI,f0,f1,f7,f8,hob,aK,au,E]
def aMz (l:List Im) (p:Im→Bool) (g:Nat) (cp:List C) (h:l.length≤4611686018427387903∧FnB (fun x=>.agg (imC x)) g cp p l) (K:An→Prop):bp Tryz.prog pr 250 [.of (slC imC l),.of (.fn g cp)] [] K↔K ⟨false,[aU (iX p l)],[]⟩:=aN.k (axU l p g cp h) K
def amH:=ai (ai @zq (ai @jl @iM)) (ai @zT0 (ai @ayt (ba aNO)))
def axV (l:List Fm) (p:Fm→Bool) (g:Nat) (cp:List C) (h:l.length≤4611686018427387903∧FnB (fun x=>.agg (fmC x)) g cp p l):G1 251 [.of (slC fmC l),.of (.fn g cp)] (aU (iX p l)):=by
 obtain⟨hl,ho,hc,hg⟩:=h
 refine ah rfl aNO ayt rfl ?_
 simp -implicitDefEqProofs(maxSteps:=9^9)only[Tryz.f251,↓zA,sevalprocAttr,amH,ho]
 refine bW l.length (fun k s=>s.fr 0=.of (slC fmC l)∧s.fr 1=.of (.fn g cp)∧s.fr 7=aU l.length∧s.fr 8=aU k∧s.objs=[]∧iX p l=ig p k (l.drop k)) ?_ ?_
 .simp -implicitDefEqProofs(maxSteps:=9^9)only[Tryz.f251,↓zA,sevalprocAttr,amH]
  exact rfl
 .rintro k s hk ⟨f0,f1,f7,f8,hob,E⟩
  rcases ap k l.length with c1|c1
  .have hw:=cE k (by omega)
   have hx:=fun K=>aN.k (hg l[k] (ay c1)) K
   rw[cM c1,ig] at E
   simp -implicitDefEqProofs(maxSteps:=9^9)only[Tryz.f251,↓zA,sevalprocAttr,amH,f0,f1,f7,f8,hob,ho,hc,aK,c1,bq c1,hw,hx]
   by_cases c2:p l[k]=true
   .simp only[c2,aA] at E
    simp -implicitDefEqProofs(maxSteps:=9^9)only[Tryz.f251,↓zA,sevalprocAttr,amH,c2,E]
   .simp only[c2,aW,aQ] at E
    simp -implicitDefEqProofs(maxSteps:=9^9)only[Tryz.f251,↓zA,sevalprocAttr,amH,c2,E]
  .have e:k=l.length:=by omega
   subst e
   rw[aw,ig] at E
   simp -implicitDefEqProofs(maxSteps:=9^9)only[Tryz.f251,↓zA,sevalprocAttr,amH,f0,f1,f7,f8,hob,aK,au,E]
def aMA (l:List Fm) (p:Fm→Bool) (g:Nat) (cp:List C) (h:l.length≤4611686018427387903∧FnB (fun x=>.agg (fmC x)) g cp p l) (K:An→Prop):bp Tryz.prog pr 251 [.of (slC fmC l),.of (.fn g cp)] [] K↔K ⟨false,[aU (iX p l)],[]⟩:=aN.k (axV l p g cp h) K
end Go.Proofs.YtemdljoideegeaaGreatDoor

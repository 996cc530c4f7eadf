/-
  Instances of the library's generic functions. Conditions: none.
-/
import Derived.Test.YtemdljoideegeaaGreatDoorPa11
set_option linter.defProp false
set_option linter.unusedSectionVars false
set_option maxRecDepth 100000
set_option maxHeartbeats 64000000
namespace Go.Proofs.YtemdljoideegeaaGreatDoor
open Go Go.Pe Go.Tab
def acU:=ai (ai @zq @zT0) (ai @aHE (ba aX0))
def aux (op:Int):G1 79 [aU op] (aU (fG op)):=by
 unfold fG
 refine ah rfl aX0 aHE rfl ?_
 by_cases h18:op=18
 .subst h18
  simp -implicitDefEqProofs(maxSteps:=9^9)only[Tryz.f79,↓zA,sevalprocAttr,acU,Int.reduceEq]
  try rfl
 by_cases h17:op=17
 .subst h17
  simp -implicitDefEqProofs(maxSteps:=9^9)only[Tryz.f79,↓zA,sevalprocAttr,acU,Int.reduceEq]
  try rfl
 by_cases h4:op=4
 .subst h4
  simp -implicitDefEqProofs(maxSteps:=9^9)only[Tryz.f79,↓zA,sevalprocAttr,acU,Int.reduceEq]
  try rfl
 by_cases h11:op=11
 .subst h11
  simp -implicitDefEqProofs(maxSteps:=9^9)only[Tryz.f79,↓zA,sevalprocAttr,acU,Int.reduceEq]
  try rfl
 by_cases h12:op=12
 .subst h12
  simp -implicitDefEqProofs(maxSteps:=9^9)only[Tryz.f79,↓zA,sevalprocAttr,acU,Int.reduceEq]
  try rfl
 by_cases h13:op=13
 .subst h13
  simp -implicitDefEqProofs(maxSteps:=9^9)only[Tryz.f79,↓zA,sevalprocAttr,acU,Int.reduceEq]
  try rfl
 by_cases h14:op=14
 .subst h14
  simp -implicitDefEqProofs(maxSteps:=9^9)only[Tryz.f79,↓zA,sevalprocAttr,acU,Int.reduceEq]
  try rfl
 by_cases h15:op=15
 .subst h15
  simp -implicitDefEqProofs(maxSteps:=9^9)only[Tryz.f79,↓zA,sevalprocAttr,acU,Int.reduceEq]
  try rfl
 by_cases h16:op=16
 .subst h16
  simp -implicitDefEqProofs(maxSteps:=9^9)only[Tryz.f79,↓zA,sevalprocAttr,acU,Int.reduceEq]
  try rfl
 by_cases h19:op=19
 .subst h19
  simp -implicitDefEqProofs(maxSteps:=9^9)only[Tryz.f79,↓zA,sevalprocAttr,acU,Int.reduceEq]
  try rfl
 by_cases h20:op=20
 .subst h20
  simp -implicitDefEqProofs(maxSteps:=9^9)only[Tryz.f79,↓zA,sevalprocAttr,acU,Int.reduceEq]
  try rfl
 by_cases h21:op=21
 .subst h21
  simp -implicitDefEqProofs(maxSteps:=9^9)only[Tryz.f79,↓zA,sevalprocAttr,acU,Int.reduceEq]
  try rfl
 by_cases h22:op=22
 .subst h22
  simp -implicitDefEqProofs(maxSteps:=9^9)only[Tryz.f79,↓zA,sevalprocAttr,acU,Int.reduceEq]
  try rfl
 by_cases h28:op=28
 .subst h28
  simp -implicitDefEqProofs(maxSteps:=9^9)only[Tryz.f79,↓zA,sevalprocAttr,acU,Int.reduceEq]
  try rfl
 by_cases h10:op=10
 .subst h10
  simp -implicitDefEqProofs(maxSteps:=9^9)only[Tryz.f79,↓zA,sevalprocAttr,acU,Int.reduceEq]
  try rfl
 by_cases h5:op=5
 .subst h5
  simp -implicitDefEqProofs(maxSteps:=9^9)only[Tryz.f79,↓zA,sevalprocAttr,acU,Int.reduceEq]
  try rfl
 by_cases h6:op=6
 .subst h6
  simp -implicitDefEqProofs(maxSteps:=9^9)only[Tryz.f79,↓zA,sevalprocAttr,acU,Int.reduceEq]
  try rfl
 by_cases h7:op=7
 .subst h7
  simp -implicitDefEqProofs(maxSteps:=9^9)only[Tryz.f79,↓zA,sevalprocAttr,acU,Int.reduceEq]
  try rfl
 by_cases h8:op=8
 .subst h8
  simp -implicitDefEqProofs(maxSteps:=9^9)only[Tryz.f79,↓zA,sevalprocAttr,acU,Int.reduceEq]
  try rfl
 by_cases h9:op=9
 .subst h9
  simp -implicitDefEqProofs(maxSteps:=9^9)only[Tryz.f79,↓zA,sevalprocAttr,acU,Int.reduceEq]
  try rfl
 by_cases h3:op=3
 .subst h3
  simp -implicitDefEqProofs(maxSteps:=9^9)only[Tryz.f79,↓zA,sevalprocAttr,acU,Int.reduceEq]
  try rfl
 simp -implicitDefEqProofs(maxSteps:=9^9)only[Tryz.f79,↓zA,sevalprocAttr,acU,h18,h17,h4,h11,h12,h13,h14,h15,h16,h19,h20,h21,h22,h28,h10,h5,h6,h7,h8,h9,h3]
 try rfl
def acT:=ai (ai @zq @zT0) (ai @aHq (ba aXM))
def ass (op:Int):G1 94 [aU op] (aU (fG op)):=by
 unfold fG
 refine ah rfl aXM aHq rfl ?_
 by_cases h18:op=18
 .subst h18
  simp -implicitDefEqProofs(maxSteps:=9^9)only[Tryz.f94,↓zA,sevalprocAttr,acT,Int.reduceEq]
  try rfl
 by_cases h17:op=17
 .subst h17
  simp -implicitDefEqProofs(maxSteps:=9^9)only[Tryz.f94,↓zA,sevalprocAttr,acT,Int.reduceEq]
  try rfl
 by_cases h4:op=4
 .subst h4
  simp -implicitDefEqProofs(maxSteps:=9^9)only[Tryz.f94,↓zA,sevalprocAttr,acT,Int.reduceEq]
  try rfl
 by_cases h11:op=11
 .subst h11
  simp -implicitDefEqProofs(maxSteps:=9^9)only[Tryz.f94,↓zA,sevalprocAttr,acT,Int.reduceEq]
  try rfl
 by_cases h12:op=12
 .subst h12
  simp -implicitDefEqProofs(maxSteps:=9^9)only[Tryz.f94,↓zA,sevalprocAttr,acT,Int.reduceEq]
  try rfl
 by_cases h13:op=13
 .subst h13
  simp -implicitDefEqProofs(maxSteps:=9^9)only[Tryz.f94,↓zA,sevalprocAttr,acT,Int.reduceEq]
  try rfl
 by_cases h14:op=14
 .subst h14
  simp -implicitDefEqProofs(maxSteps:=9^9)only[Tryz.f94,↓zA,sevalprocAttr,acT,Int.reduceEq]
  try rfl
 by_cases h15:op=15
 .subst h15
  simp -implicitDefEqProofs(maxSteps:=9^9)only[Tryz.f94,↓zA,sevalprocAttr,acT,Int.reduceEq]
  try rfl
 by_cases h16:op=16
 .subst h16
  simp -implicitDefEqProofs(maxSteps:=9^9)only[Tryz.f94,↓zA,sevalprocAttr,acT,Int.reduceEq]
  try rfl
 by_cases h19:op=19
 .subst h19
  simp -implicitDefEqProofs(maxSteps:=9^9)only[Tryz.f94,↓zA,sevalprocAttr,acT,Int.reduceEq]
  try rfl
 by_cases h20:op=20
 .subst h20
  simp -implicitDefEqProofs(maxSteps:=9^9)only[Tryz.f94,↓zA,sevalprocAttr,acT,Int.reduceEq]
  try rfl
 by_cases h21:op=21
 .subst h21
  simp -implicitDefEqProofs(maxSteps:=9^9)only[Tryz.f94,↓zA,sevalprocAttr,acT,Int.reduceEq]
  try rfl
 by_cases h22:op=22
 .subst h22
  simp -implicitDefEqProofs(maxSteps:=9^9)only[Tryz.f94,↓zA,sevalprocAttr,acT,Int.reduceEq]
  try rfl
 by_cases h28:op=28
 .subst h28
  simp -implicitDefEqProofs(maxSteps:=9^9)only[Tryz.f94,↓zA,sevalprocAttr,acT,Int.reduceEq]
  try rfl
 by_cases h10:op=10
 .subst h10
  simp -implicitDefEqProofs(maxSteps:=9^9)only[Tryz.f94,↓zA,sevalprocAttr,acT,Int.reduceEq]
  try rfl
 by_cases h5:op=5
 .subst h5
  simp -implicitDefEqProofs(maxSteps:=9^9)only[Tryz.f94,↓zA,sevalprocAttr,acT,Int.reduceEq]
  try rfl
 by_cases h6:op=6
 .subst h6
  simp -implicitDefEqProofs(maxSteps:=9^9)only[Tryz.f94,↓zA,sevalprocAttr,acT,Int.reduceEq]
  try rfl
 by_cases h7:op=7
 .subst h7
  simp -implicitDefEqProofs(maxSteps:=9^9)only[Tryz.f94,↓zA,sevalprocAttr,acT,Int.reduceEq]
  try rfl
 by_cases h8:op=8
 .subst h8
  simp -implicitDefEqProofs(maxSteps:=9^9)only[Tryz.f94,↓zA,sevalprocAttr,acT,Int.reduceEq]
  try rfl
 by_cases h9:op=9
 .subst h9
  simp -implicitDefEqProofs(maxSteps:=9^9)only[Tryz.f94,↓zA,sevalprocAttr,acT,Int.reduceEq]
  try rfl
 by_cases h3:op=3
 .subst h3
  simp -implicitDefEqProofs(maxSteps:=9^9)only[Tryz.f94,↓zA,sevalprocAttr,acT,Int.reduceEq]
  try rfl
 simp -implicitDefEqProofs(maxSteps:=9^9)only[Tryz.f94,↓zA,sevalprocAttr,acT,h18,h17,h4,h11,h12,h13,h14,h15,h16,h19,h20,h21,h22,h28,h10,h5,h6,h7,h8,h9,h3]
 try rfl
def ip (op:Int) (K:An→Prop):bp Tryz.prog pr 79 [.of (.lit (.int .i64 op))] [] K↔K ⟨false,[aU (fG op)],[]⟩:=aN.k (aux op) K
abbrev xpL (e:Xp):List C:=[ci e.op,ci e.v.k,ci e.v.n,aH e.v.s,aH (aD e.tb),aH (aD e.nm),cb e.di,slC xpC e.ks,slC qyC e.sb]
abbrev WX (e:Xp):Prop:=GW 28 [.of (.agg (xpC e))] (xpT e)
abbrev WQ (q:Qy):Prop:=GW 24 [.of (.agg (qyC q))] (qyT q)
abbrev WF (f:Fm):Prop:=GW 65 [.of (.agg (fmC f))] (fmT f)
def a04:=ai (ai (ai @zq @aNr) (ai @aJh @aT8)) (ai (ai @cR @P65) (ai @zT0 (ai @azw (ba aOS))))
def aMa (e:Xp) (hx:WX e):GC 174 (xpL e) (xpT e):=by
 refine⟨aGv,aM2,aBf,fun o h=>?_⟩
 have kx:=fun o K=>hx.k o K
 refine ah rfl aOS azw rfl ?_
 simp -implicitDefEqProofs(maxSteps:=9^9)only[Tryz.f174,↓zA,sevalprocAttr,a04,zW,du,cO,co,kx,h]
def a47:=ai (ai (ai (ai @zq @a6w) (ai @T65 @a6v)) (ai (ai @aNi @aI8) (ai @api (ai @ank @atd)))) (ai (ai (ai @cR @aGv) (ai @aBf @aM2)) (ai (ai @P65 @Q3) (ai @zT0 (ai @aHC (ba aXY)))))
def acB (e:Xp) (n:Int) (hx:WX e):GW 81 [.of (.agg (xpC e)),aU n] (dY n e):=by
 intro o h
 have kh:=fun K=>aeZ (ahE 174 (xpL e) (xpT e) (decide (fG e.op<n)) (aMa e hx) o) K
 simp only[Nat.reduceMul] at kh
 have h':bi o+(bI (decide (fG e.op<n)) (xpT e)).length≤LIM:=h
 refine ah rfl aXY aHC rfl ?_
 simp -implicitDefEqProofs(maxSteps:=9^9)only[Tryz.f81,↓zA,sevalprocAttr,a47,zW,du,cO,co,ip,kh,h']
 try rfl
def a5e:=ai (ai (ai @zq @a63) (ai @aNg @aI6)) (ai (ai @aT5 @cR) (ai @zT0 (ai @aH4 (ba aYq))))
def adr (e:Xp) (hx:WX e):GW 43 [.of (.agg (xpC e))] (bv e):=by
 intro o h
 have ka:=fun o K=>(acB e 1 hx).k o K
 have h':bi o+(dY 1 e).length≤LIM:=h
 refine ah rfl aYq aH4 rfl ?_
 simp -implicitDefEqProofs(maxSteps:=9^9)only[Tryz.f43,↓zA,sevalprocAttr,a5e,zW,ka,h']
 try rfl
def a45:=ai (ai (ai @zq (ai @ac4 @ab1)) (ai (ai @aez @aCW) (ai @avX @aJ5))) (ai (ai (ai @cR @bO) (ai @agv @aeO)) (ai (ai @aiv @zT0) (ai @aHB (ba aXX))))
def ai9 (l:List Xp) (hl:l.length≤4611686018427387903) (hx:∀ e∈l,WX e):GW 82 [.of (slC xpC l)] (gK l):=by
 intro o h
 have kl:=fun o K=>(aes 43 l bv hl agv aiv aeO fun e he=>adr e (hx e he)).k o K
 simp only[Nat.reduceMul,Nat.reduceAdd] at kl
 have e40:=aL [40]
 have e41:=aL [41]
 have hT:gK l=[40]::(bc true (l.map bv)++[[41]]):=rfl
 rw[hT] at h ⊢
 simp only[aB,av,ce] at h
 have q1:bi o+1≤LIM:=by omega
 have q2:bi o+1+(bc true (l.map bv)).length≤LIM:=by omega
 have q3:bi o+((bc true (l.map bv)).length+1)+1≤LIM:=by omega
 refine ah rfl aXX aHB rfl ?_
 simp -implicitDefEqProofs(maxSteps:=9^9)only[Tryz.f82,↓zA,sevalprocAttr,a45,zW,e40,e41,dI,kl,q1,q2,q3,dN,av,ch]
def a5g:=ai (ai (ai @zq (ai @ac4 @ab1)) (ai (ai @aez @aWd) (ai @aTf @a1y))) (ai (ai @bO (ai @afI @ad9)) (ai (ai @ahP @zT0) (ai @aH7 (ba aYt))))
def afq (l:List (List UInt8)) (hl:l.length≤4611686018427387903) (hx:∀ s∈l,bk s=true):GW 39 [.of (slC bA l)] (dT l):=by
 intro o h
 have kl:=fun o K=>(aqI 38 l (fun s=>[bF s]) hl afI ahP ad9 fun s hs=>arH s (hx s hs)).k o K
 simp only[Nat.reduceMul,Nat.reduceAdd] at kl
 have e40:=aL [40]
 have e41:=aL [41]
 have hT:dT l=[40]::(bc true (l.map fun s=>[bF s])++[[41]]):=rfl
 rw[hT] at h ⊢
 simp only[aB,av,ce] at h
 have q1:bi o+1≤LIM:=by omega
 have q2:bi o+1+(bc true (l.map fun s=>[bF s])).length≤LIM:=by omega
 have q3:bi o+((bc true (l.map fun s=>[bF s])).length+1)+1≤LIM:=by omega
 refine ah rfl aYt aH7 rfl ?_
 simp -implicitDefEqProofs(maxSteps:=9^9)only[Tryz.f39,↓zA,sevalprocAttr,a5g,zW,e40,e41,dI,kl,q1,q2,q3,dN,av,ch]
def a03:=ai (ai (ai @zq @am5) (ai @aj9 (ai @aqf @eY))) (ai (ai @cR (ai @eI @P65)) (ai @zT0 (ai @azv (ba aOR))))
def axN (e:Xp) (q:Qy) (hq:e.sb=[q]) (hx:WQ q):GC 175 (xpL e) (qyT q):=by
 refine⟨aGu,aM1,aBe,fun o h=>?_⟩
 have kx:=fun o K=>hx.k o K
 have g0:dH e.sb 0=some q:=by rw[hq];rfl
 refine ah rfl aOR azv rfl ?_
 simp -implicitDefEqProofs(maxSteps:=9^9)only[Tryz.f175,↓zA,sevalprocAttr,a03,zW,du,cO,co,g0,kx,h]
def a44:=ai (ai (ai @zq (ai @a62 @T65)) (ai (ai @a61 @api) (ai @ank @atd))) (ai (ai (ai @cR @aGu) (ai @aBe @aM1)) (ai (ai @P65 @zT0) (ai @aHA (ba aXW))))
def aln (e:Xp) (q:Qy) (hq:e.sb=[q]) (hx:WQ q):GW 83 [.of (.agg (xpC e))] (bI true (qyT q)):=by
 intro o h
 have kh:=fun K=>aeZ (ahE 175 (xpL e) (qyT q) true (axN e q hq hx) o) K
 simp only[Nat.reduceMul] at kh
 refine ah rfl aXW aHA rfl ?_
 simp -implicitDefEqProofs(maxSteps:=9^9)only[Tryz.f83,↓zA,sevalprocAttr,a44,zW,du,cO,co,kh,h]
 try rfl
end Go.Proofs.YtemdljoideegeaaGreatDoor
namespace Go.Tab
open Go Go.Pe
def awA:jd.all (fun c=>decide (c=32)||(decide (97≤c.toNat)&&decide (c.toNat≤122)))=true:=by decide
def aFi:jd.length=379:=rfl
def auw {p l:List UInt8}:p.isPrefixOf l=true↔l.take p.length=p:=by
 rw[List.isPrefixOf_iff_prefix,List.prefix_iff_eq_take]
 exact⟨fun h=>h.symm,fun h=>h.symm⟩
def aiy (s:List UInt8):List UInt8:=32::(s++[32])
def aQH (s:List UInt8):(aiy s).length=s.length+2:=by simp[aiy]
def aQO {s:List UInt8} {k:Nat} (h:(jd.drop k).take (s.length+2)=aiy s):agT s=true:=by
 unfold agT Lib.contains
 rw[ar]
 rcases Lib.index_spec jd (32::(s++[32])) with ⟨h1,h2⟩|⟨i,h1,_⟩
 .by_cases hk:k≤jd.length
  .have h3:=h2 k hk
   unfold Lib.occAt at h3
   have h4:(aiy s).isPrefixOf (jd.drop k)=true:=auw.2 (by rw[aQH];exact h)
   unfold aiy at h4
   rw[h3] at h4
   cases h4
  .rw[fv (by omega)] at h
   simp[aiy] at h
 .omega
def aub {s:List UInt8} (h:∀ k,k+(s.length+2)≤jd.length→(jd.drop k).take (s.length+2)≠aiy s):agT s=false:=by
 unfold agT Lib.contains
 rw[iM]
 rcases Lib.index_spec jd (32::(s++[32])) with ⟨h1,_⟩|⟨i,h1,h2,h3,_⟩
 .omega
 .unfold Lib.occAt at h3
  have h4:=auw.1 h3
  have e:(32::(s++[32])).length=s.length+2:=by simp
  rw[e] at h4
  have h5:=congrArg List.length h4
  rw[e,aaj,i7] at h5
  exact absurd h4 (h i (by omega))
def ao3 {s:List UInt8} {c:UInt8} (hc:c∈s) (h:¬(97≤c.toNat∧c.toNat≤122)) (h32:c≠32):agT s=false:=by
 refine aub fun k _ e=>?_
 have h1:c∈(jd.drop k).take (s.length+2):=by rw[e];simp[aiy,hc]
 have h2:=bR.1 awA c (fu (iB h1))
 simp only[cA,ab,ar] at h2
 rcases h2 with h2|h2
 .exact h32 h2
 .exact h h2
end Go.Tab
namespace Go.Proofs.YtemdljoideegeaaGreatDoor
open Go Go.Pe Go.Tab
def avl (s:List UInt8) (i:Int):ac9 (TT.of Tryz.prog) 9 (.of (.lit (.string (aD s)))) (.of (.lit (.int .i64 i)))=ab9 (dH s i) fun c=>.of (.lit (.int .u8 (c.toNat:Nat))):=avj (by rw[T9];rfl) s i
def aQK (s:List UInt8) (a b:Nat) (h1:a≤b) (h2:b≤s.length):aao (TT.of Tryz.prog) 9 (.of (.lit (.string (aD s)))) (some (.of (.lit (.int .i64 a)))) (some (.of (.lit (.int .i64 b))))=out (dy (aD ((s.take b).drop a))):=by
 have hs:(aD s).size=s.length:=acu s
 simp only[aao,T9,bH,ac8,aA,acW,ace,hs]
 rw[aE ⟨by omega,by omega,by omega⟩,dm,dm]
 congr 4
 apply akB.1
 simp only[ByteArray.data_extract,Array.toList_extract,abv,aD,abB]
 rw[aeJ]
def aBU:=ai (ai @zq @zT0) (ai @ayv (ba aNQ))
def axl (c:UInt8):G1 247 [.of (.lit (.int .u8 (c.toNat:Nat)))] (aG (fN c)):=by
 have e95:(((c.toNat:Nat):Int)=95)=(c=95):=propext ⟨fun h=>UInt8.toNat_inj.1 (by have:(95:UInt8).toNat=95:=rfl;omega),fun h=>by rw[h];rfl⟩
 have e1:((97:Int)≤((c.toNat:Nat):Int))=(97≤c.toNat):=propext (by omega)
 have e2:(((c.toNat:Nat):Int)≤122)=(c.toNat≤122):=propext (by omega)
 refine ah rfl aNQ ayv rfl ?_
 by_cases a1:97≤c.toNat
 .by_cases a2:c.toNat≤122
  .simp -implicitDefEqProofs(maxSteps:=9^9)only[Tryz.f247,↓zA,sevalprocAttr,aBU,e1,e2,a1,a2,fN]
   try rfl
  .simp -implicitDefEqProofs(maxSteps:=9^9)only[Tryz.f247,↓zA,sevalprocAttr,aBU,e1,e2,a1,a2,e95,fN]
   try rfl
 .simp -implicitDefEqProofs(maxSteps:=9^9)only[Tryz.f247,↓zA,sevalprocAttr,aBU,e1,a1,e95,fN]
  try rfl
def au4 (c:UInt8) (K:An→Prop):bp Tryz.prog pr 247 [.of (.lit (.int .u8 (c.toNat:Nat)))] [] K↔K ⟨false,[aG (fN c)],[]⟩:=aN.k (axl c) K
def aML:=ai (ai @zq @zT0) (ai @ayu (ba aNP))
def aD5 (c:UInt8):G1 248 [.of (.lit (.int .u8 (c.toNat:Nat)))] (aG (jh c)):=by
 have e1:((48:Int)≤((c.toNat:Nat):Int))=(48≤c.toNat):=propext (by omega)
 have e2:(((c.toNat:Nat):Int)≤57)=(c.toNat≤57):=propext (by omega)
 refine ah rfl aNP ayu rfl ?_
 by_cases a1:48≤c.toNat
 .simp -implicitDefEqProofs(maxSteps:=9^9)only[Tryz.f248,↓zA,sevalprocAttr,aML,e1,e2,a1,jh]
  try rfl
 .simp -implicitDefEqProofs(maxSteps:=9^9)only[Tryz.f248,↓zA,sevalprocAttr,aML,e1,a1,jh]
  try rfl
def aRY (c:UInt8) (K:An→Prop):bp Tryz.prog pr 248 [.of (.lit (.int .u8 (c.toNat:Nat)))] [] K↔K ⟨false,[aG (jh c)],[]⟩:=aN.k (aD5 c) K
def aRk {s:List UInt8} (h:bk s=true) (h0:0<s.length):fN (s[0]'h0)=true:=by
 cases s with
 | nil=>cases h
 | cons c r=>simp only[bk,ab] at h;exact h.1.1
def aoz:=ai (ai (ai @zq @aVb) (ai @aSd @aVa)) (ai (ai @aSc @zT0) (ai @ayZ (ba aOl)))
def aEP (s:List UInt8) (h:bk s=true):G1 210 [.of (aH (aD s))] (aG true):=by
 have hl:=adL h
 have h0:0<s.length:=by cases s with|nil=>cases h|cons c r=>simp
 have h0':((0:Int)<(s.length:Int))=True:=aa (by omega)
 refine ah rfl aOl ayZ rfl ?_
 simp -implicitDefEqProofs(maxSteps:=9^9)only[Tryz.f210,↓zA,sevalprocAttr,aoz]
 refine bX s.length (fun k t=>t.fr 0=.of (aH (aD s))∧t.fr 3=aU k∧t.objs=[]) ?_ ?_
 .simp -implicitDefEqProofs(maxSteps:=9^9)only[Tryz.f210,↓zA,sevalprocAttr,aoz]
  try exact rfl
 rintro k ⟨frk,obk,ckk⟩ hk ⟨f0,f2,fo⟩
 dsimp only at f0 f2 fo
 rcases ap k s.length with dk|dk
 .have hw:=cF k (by omega)
  have gx:=bq dk
  have hsd:=ai6 h s[k] (ay dk)
  by_cases a1:fN s[k]=true
  .simp -implicitDefEqProofs(maxSteps:=9^9)only[Tryz.f210,↓zA,sevalprocAttr,aoz,f0,f2,fo,aK,dk,avl,gx,hw,au4,a1]
  .have kz:k≠0:=by rintro rfl;exact a1 (aRk h dk)
   have a1':fN s[k]=false:=by simpa using a1
   have a2:jh s[k]=true:=by rw[a1'] at hsd;simpa using hsd
   have kz':((k:Int)=0)=False:=aO (by omega)
   simp -implicitDefEqProofs(maxSteps:=9^9)only[Tryz.f210,↓zA,sevalprocAttr,aoz,f0,f2,fo,aK,dk,avl,gx,hw,au4,aRY,a1',a2,kz']
 .have e:k=s.length:=by omega
  subst e
  simp -implicitDefEqProofs(maxSteps:=9^9)only[Tryz.f210,↓zA,sevalprocAttr,aoz,f0,f2,fo,aK,au,h0']
def eW:({data:=#[32,97,108,108,32,97,110,97,108,121,122,101,32,97,110,100,32,97,115,32,97,115,99,32,98,101,103,105,110,32,98,101,116,119,101,101,110,32,98,111,111,108,32,98,121,32,99,97,115,101,32,99,104,101,99,107,32,99,104,101,99,107,112,111,105,110,116,32,99,111,109,109,105,116,32,99,114,101,97,116,101,32,99,114,111,115,115,32,100,101,108,101,116,101,32,100,101,115,99,32,100,105,115,116,105,110,99,116,32,100,114,111,112,32,101,108,115,101,32,101,110,100,32,101,120,99,101,112,116,32,101,120,105,115,116,115,32,101,120,112,108,97,105,110,32,102,97,108,115,101,32,102,111,114,101,105,103,110,32,102,114,111,109,32,103,114,111,117,112,32,104,97,118,105,110,103,32,105,110,32,105,110,100,101,120,32,105,110,110,101,114,32,105,110,115,101,114,116,32,105,110,116,32,105,110,116,101,114,115,101,99,116,32,105,110,116,111,32,105,115,32,106,111,105,110,32,107,101,121,32,108,101,102,116,32,108,105,107,101,32,108,105,109,105,116,32,110,111,116,32,110,117,108,108,32,111,102,102,115,101,116,32,111,110,32,111,114,32,111,114,100,101,114,32,112,114,105,109,97,114,121,32,114,101,102,101,114,101,110,99,101,115,32,114,111,108,108,98,97,99,107,32,115,101,108,101,99,116,32,115,101,116,32,116,97,98,108,101,32,116,101,120,116,32,116,104,101,110,32,116,114,117,101,32,117,110,105,111,110,32,117,110,105,113,117,101,32,117,112,100,97,116,101,32,118,97,99,117,117,109,32,118,97,108,117,101,115,32,119,104,101,110,32,119,104,101,114,101,32]}:ByteArray)=aD jd:=rfl
def aha:=ai (ai @zq @zT0) (ai @ayY (ba aOk))
def ao5 (s:List UInt8) (h:bk s=true):G1 211 [.of (aH (aD s))] (aG (agT s)):=by
 have hl:=adL h
 have h0:0<s.length:=by cases s with|nil=>cases h|cons c r=>simp
 have h0':((0:Int)<(s.length:Int))=True:=aa (by omega)
 have e32:=aL [32]
 have wl:jd.length=379:=aFi
 refine ah rfl aOk ayY rfl ?_
 simp -implicitDefEqProofs(maxSteps:=9^9)only[Tryz.f211,↓zA,sevalprocAttr,aha,eW]
 refine bX s.length (fun k t=>t.fr 0=.of (aH (aD s))∧t.fr 3=.of (aH (aD jd))∧t.fr 4=aU k∧t.objs=[]) ?_ ?_
 .simp -implicitDefEqProofs(maxSteps:=9^9)only[Tryz.f211,↓zA,sevalprocAttr,aha,eW]
  try exact rfl
 rintro k ⟨frk,obk,ckk⟩ hk ⟨f0,f2,f3,fo⟩
 dsimp only at f0 f2 f3 fo
 rcases ap k s.length with dk|dk
 .have hw:=cF k (by omega)
  have gx:=bq dk
  have hm:=ay dk
  have hsd:=at7 (ai6 h s[k] hm)
  have e1:(((s[k].toNat:Nat):Int)<97)=¬(97≤s[k].toNat):=propext (by omega)
  have e2:((122:Int)<((s[k].toNat:Nat):Int))=¬(s[k].toNat≤122):=propext (by omega)
  by_cases a1:97≤s[k].toNat
  .by_cases a2:s[k].toNat≤122
   .simp -implicitDefEqProofs(maxSteps:=9^9)only[Tryz.f211,↓zA,sevalprocAttr,aha,f0,f2,f3,fo,aK,dk,avl,gx,hw,e1,e2,a1,a2]
   .have hr:=ao3 hm (fun q=>a2 q.2) hsd.2
    simp -implicitDefEqProofs(maxSteps:=9^9)only[Tryz.f211,↓zA,sevalprocAttr,aha,f0,f2,f3,fo,aK,dk,avl,gx,hw,e1,e2,a1,a2,hr]
  .have hr:=ao3 hm (fun q=>a1 q.1) hsd.2
   simp -implicitDefEqProofs(maxSteps:=9^9)only[Tryz.f211,↓zA,sevalprocAttr,aha,f0,f2,f3,fo,aK,dk,avl,gx,hw,e1,a1,hr]
 have e:k=s.length:=by omega
 subst e
 simp -implicitDefEqProofs(maxSteps:=9^9)only[Tryz.f211,↓zA,sevalprocAttr,aha,f0,f2,f3,fo,aK,au]
 refine bX (jd.length-(s.length+2)+1) (fun k t=>t.fr 0=.of (aH (aD s))∧t.fr 3=.of (aH (aD jd))∧t.fr 5=aU k∧t.objs=[]∧∀ j,j<k→(jd.drop j).take (s.length+2)≠aiy s) ?_ ?_
 .simp -implicitDefEqProofs(maxSteps:=9^9)only[Tryz.f211,↓zA,sevalprocAttr,aha,f0,f2,fo]
  try exact fun j hj=>absurd hj (gO _)
 rintro k ⟨frq,obq,ckq⟩ hk2 ⟨g0,g2,g3,go,E⟩
 dsimp only at g0 g2 g3 go
 have w1:IntKind.i64.wrap ((k:Int)+(s.length:Int))=((k+s.length:Nat):Int):=eX _ (by omega) (by omega)
 have w2:IntKind.i64.wrap (((k+s.length:Nat):Int)+2)=((k+s.length+2:Nat):Int):=eX _ (by omega) (by omega)
 have hw:=cF k (by omega)
 have l1:1+s.length≤gN:=by unfold gN;omega
 have l2:(32::s).length+1≤gN:=by unfold gN;simp only[aB];omega
 have le:(((k+s.length+2:Nat):Int)≤(jd.length:Int))=(k+s.length+2≤jd.length):=propext Int.ofNat_le
 by_cases d:k+s.length+2≤jd.length
 .have sb:=aQK jd k (k+s.length+2) (by omega) d
  have et:(jd.take (k+s.length+2)).drop k=(jd.drop k).take (s.length+2):=by rw[aeJ];congr 1;omega
  rw[et] at sb
  by_cases c:(jd.drop k).take (s.length+2)=aiy s
  .have hr:=aQO c
   rw[c] at sb
   have cc:(aD (aiy s)=aD (32::(s++[32])))=True:=aa rfl
   simp -implicitDefEqProofs(maxSteps:=9^9)only[Tryz.f211,↓zA,sevalprocAttr,aha,g0,g2,g3,go,w1,w2,hw,le,d,h0',sb,e32,afM,l1,l2,dN,ch,cc,hr]
   unfold gN
   omega
  .have cc:(aD ((jd.drop k).take (s.length+2))=aD (32::(s++[32])))=False:=aO fun q=>c (atX q)
   simp -implicitDefEqProofs(maxSteps:=9^9)only[Tryz.f211,↓zA,sevalprocAttr,aha,g0,g2,g3,go,w1,w2,hw,le,d,h0',sb,e32,afM,l1,l2,dN,ch,cc]
   refine⟨by unfold gN;omega,by omega,fun j hj=>?_⟩
   rcases ap j k with hj2|hj2
   .exact E j hj2
   .have:j=k:=by omega
    rw[this];exact c
 .have hr:agT s=false:=aub fun j hj=>E j (by omega)
  simp -implicitDefEqProofs(maxSteps:=9^9)only[Tryz.f211,↓zA,sevalprocAttr,aha,g0,g2,g3,go,w1,w2,le,d,hr]
def a1f:=ai (ai (ai @zq @aVy) (ai @aSA @aVx)) (ai (ai @aSz @zT0) (ai @az6 (ba aPs)))
def aw2 (s:List UInt8) (h:bk s=true):G1 135 [.of (aH (aD s))] (aG (!agT s)):=by
 have kp:=fun K=>aN.k (aEP s h) K
 have kr:=fun K=>aN.k (ao5 s h) K
 have l1:((s.length:Int)≤20)=True:=aa (by have:=adL h;omega)
 refine ah rfl aPs az6 rfl ?_
 simp -implicitDefEqProofs(maxSteps:=9^9)only[Tryz.f135,↓zA,sevalprocAttr,a1f,kp,kr,l1]
def aTG:=ai (ai @zq (ai @aV5 @aS7)) (ai @zT0 (ai @aHX (ba aYj)))
def auq (s:List UInt8) (h:bk s=true):G1 54 [.of (aH (aD s))] (dy (aD (bF s))):=by
 have hl:=adL h
 have kn:=fun K=>aN.k (aw2 s h) K
 have e34:=aL [34]
 have l1:1+s.length≤gN:=by unfold gN;omega
 have l2:(34::s).length+1≤gN:=by unfold gN;simp only[aB];omega
 refine ah rfl aYj aHX rfl ?_
 cases c:agT s
 .have e:bF s=s:=by unfold bF;rw[c];rfl
  simp -implicitDefEqProofs(maxSteps:=9^9)only[Tryz.f54,↓zA,sevalprocAttr,aTG,kn,c,e]
 .have e:bF s=34::(s++[34]):=by unfold bF;rw[c];rfl
  simp -implicitDefEqProofs(maxSteps:=9^9)only[Tryz.f54,↓zA,sevalprocAttr,aTG,kn,c,e,e34,afM,l1,l2,dN,ch]
  unfold gN
  omega
def fX (s:List UInt8) (h:bk s=true) (K:An→Prop):bp Tryz.prog pr 54 [.of (aH (aD s))] [] K↔K ⟨false,[dy (aD (bF s))],[]⟩:=aN.k (auq s h) K
end Go.Proofs.YtemdljoideegeaaGreatDoor
namespace Go.Tab
open Go Go.Pe
def tkW:List To→Nat
 | []=>0
 | s::r=>s.length+2+tkW r
theorem fk:∀ a b:List To,tkW (a++b)=tkW a+tkW b
 | [],b=>by simp[tkW]
 | s::r,b=>by rw[bt,tkW,tkW,fk r b];omega
theorem aFl:∀ T:List To,T.length≤tkW T
 | []=>aM _
 | s::r=>by have:=aFl r;rw[tkW,aB];omega
theorem avo:∀ (p:Option To) (T:List To),(gC p T).length≤tkW T
 | _,[]=>aM _
 | p,s::r=>by
  have:=avo (some s) r
  have h:(gC.whenB (!abd p s)).length≤1:=by cases abd p s <;> decide
  rw[gC,tkW,av,av]
  omega
def adG (b:Bool) (l:List To):tkW (bI b l)≤tkW l+6:=by
 cases b
 .simp[bI]
 .simp only[bI,aA,lpT,rpT,tkW,fk,dN];omega
def afO (n:Int) (p:Int×List To):tkW (atT n p)≤tkW p.2+6:=adG _ _
def acy (s:List UInt8):(bF s).length≤s.length+2:=by
 unfold bF
 split
 .simp
 .omega
def abq (b:Bool) (l:List To):tkW (aF b l)≤tkW l:=by cases b <;> simp[aF,tkW]
def SL (l:List (List To)):Nat:=(l.map fun x=>tkW x+20).sum
def aa4 (a:List To) (l:List (List To)):SL (a::l)=tkW a+20+SL l:=by simp[SL]
def a0o:SL []=0:=rfl
def adl {α:Type} {g:α→List To} {w:α→Nat} {l:List α} (h:∀ x∈l,tkW (g x)+24≤64*w x):SL (l.map g)+64≤64*lsW w l:=by
 induction l with
 | nil=>simp[SL,lsW]
 | cons a r ih =>
  have h1:=h a (by simp)
  have h2:=ih fun x hx=>h x (by simp[hx])
  simp only[lsW,aV,bU,aa4] at *
  omega
theorem alU:∀ (b:Bool) (l:List (List To)),tkW (bc b l)≤SL l
 | true,[]=>aM _
 | false,[]=>aM _
 | true,a::r=>by
  have:=alU false r
  rw[bc,fk,aa4];omega
 | false,a::r=>by
  have:=alU false r
  rw[bc,tkW,fk,aa4];simp only[cmT,dN];omega
theorem aih:∀ (b:Bool) (l:List (Int×List To)),tkW (bc b (l.map (atT 1)))≤SL (l.map Prod.snd)
 | true,[]=>aM _
 | false,[]=>aM _
 | true,a::r=>by
  have:=aih false r
  have:=afO 1 a
  rw[aV,aV,bc,fk,aa4];omega
 | false,a::r=>by
  have:=aih false r
  have:=afO 1 a
  rw[aV,aV,bc,tkW,fk,aa4];simp only[cmT,dN];omega
theorem aAM (w:To) (hw:w.length≤8):∀ l:List (List To),tkW ((l.map fun x=>w::x).flatten)≤SL l
 | []=>aM _
 | a::r=>by
  have:=aAM w hw r
  rw[aV,fC,fk,tkW,aa4];omega
theorem avu:∀ l:List (List To),tkW l.flatten≤SL l
 | []=>aM _
 | a::r=>by
  have:=avu r
  rw[fC,fk,aa4];omega
theorem amX (w:To) (hw:w.length≤8):∀ l:List (Int×List To),tkW (jA w l)≤SL (l.map Prod.snd)
 | []=>aM _
 | a::r=>by
  have h:=amX w hw r
  have h1:=afO 1 a
  unfold jA at h ⊢
  rw[aV,fC,fk,tkW,aV,aa4];omega
def aFw (sb:List (Qy×List To)):tkW (ajm sb)≤SL (sb.map Prod.snd):=by
 cases sb with
 | nil=>exact aM _
 | cons a r=>have:=adG true a.2;rw[ajm,aV,aa4];omega
def ag2 (n:Int) (i:Nat):abK n [] i=[]:=by unfold abK;rw[List.getElem?_nil]
def atp (n:Int) (a:Int×List To) (r:List (Int×List To)):abK n (a::r) 0=atT n a:=rfl
def aDu (n:Int) (a:Int×List To) (r:List (Int×List To)) (i:Nat):abK n (a::r) (i+1)=abK n r i:=by unfold abK;rw[dK]
def anb (n:Int) (ks:List (Int×List To)):tkW (abK n ks 0)≤SL (ks.map Prod.snd):=by
 cases ks with
 | nil=>rw[ag2];exact aM _
 | cons a r=>have:=afO n a;rw[atp,aV,aa4];omega
def aqL (n m:Int) (ks:List (Int×List To)):tkW (abK n ks 0)+tkW (abK m ks 1)≤SL (ks.map Prod.snd):=by
 cases ks with
 | nil=>rw[ag2,ag2];exact aM _
 | cons a r=>have:=afO n a;have:=anb m r;rw[atp,aDu,aV,aa4];omega
def aRw (n m k:Int) (ks:List (Int×List To)):tkW (abK n ks 0)+tkW (abK m ks 1)+tkW (abK k ks 2)≤SL (ks.map Prod.snd):=by
 cases ks with
 | nil=>rw[ag2,ag2,ag2];exact aM _
 | cons a r=>have:=afO n a;have:=aqL m k r;rw[atp,aDu,aDu,aV,aa4];omega
def aRv (n:Int) (ks:List (Int×List To)):tkW (abK n ks 0)+tkW (ajb (ks.drop 1))≤SL (ks.map Prod.snd)+6:=by
 cases ks with
 | nil=>rw[ag2];decide
 | cons a r =>
  have:=afO n a
  have h1:=aih true r
  have h2:=adG true (bc true (r.map (atT 1)))
  rw[atp,aV,aa4,List.drop_one,List.tail_cons]
  unfold ajb
  omega
def aRp (ks:List (Int×List To)):tkW (ajb ks)≤SL (ks.map Prod.snd)+6:=by
 have h1:=aih true ks
 have h2:=adG true (bc true (ks.map (atT 1)))
 unfold ajb
 omega
theorem aAT:∀ ks:List (Int×List To),tkW (aam ks)≤SL (ks.map Prod.snd)
 | []=>aM _
 | [a]=>by
  have:=afO 1 a
  simp only[aam,tkW,aV,bC,aa4,a0o,dN];omega
 | a::b::r=>by
  have:=afO 1 a
  have:=afO 1 b
  have:=aAT r
  simp only[aam,tkW,fk,aV,aa4,dN];omega
theorem arJ {m:Nat}:∀ (l:List (Int×List UInt8)) (n:Int),(∀ p∈l,p.2.length≤m)→((apv l n).getD []).length≤m
 | [],_,_=>fj _
 | p::l,n,h=>by
  rw[apv]
  split
  .exact h p (by simp)
  .exact arJ l n fun q hq=>h q (iC _ hq)
def aCO (op:Int):(aeG op).length≤4:=arJ aM9 op (by decide)
def aKd (v:V) (h:V64 v):(ahc v).length≤2*v.s.size+22:=by
 have h1:=agq v.t
 have h2:=aiH v.n h.2.1 h.2.2
 have hs:v.t.length=v.s.size:=by unfold V.t;exact fy
 unfold ahc aCj
 split
 .split <;> (have e1:avA.data.toList.length≤22:=(by decide);have e2:aCh.data.toList.length≤22:=(by decide);omega)
 .split
  .simp only[aD];omega
  .split
   .simp only[aD,aR];omega
   .have e1:aC6.data.toList.length≤22:=by decide
    omega
def aZj (tb nm:List UInt8):tkW (amm tb nm)≤tb.length+nm.length+20:=by
 have h1:=acy tb
 have h2:=acy nm
 have h3:=abq (decide (tb≠[])) [bF tb,ab0]
 unfold amm
 rw[fk]
 simp only[tkW,ab0,dN] at *
 omega
def aQa (s:List UInt8):tkW (asT s)≤s.length+20:=by
 have h1:=acy s
 have h3:=abq (decide (s≠[])) [[97,115],bF s]
 unfold asT
 simp only[tkW,dN] at *
 omega
def aWC {c:Prop} [Decidable c] {a b:List To} {n:Nat} (h1:c→tkW a≤n) (h2:¬c→tkW b≤n):tkW (if c then a else b)≤n:=by
 split
 .exact h1 (by assumption)
 .exact h2 (by assumption)
def a2g (op:Int) (v:V) (tb nm:List UInt8) (di:Bool) (ks:List (Int×List To)) (sb:List (Qy×List To)) (hv:V64 v) :
  tkW (opT op v tb nm di ks sb)≤SL (ks.map Prod.snd)+SL (sb.map Prod.snd)+2*v.s.size+tb.length+nm.length+60:=by
 have a1:=aKd v hv
 have a2:=aZj tb nm
 have a3:=anb 8 ks
 have a4:=anb 3 ks
 have a5:=anb 5 ks
 have a6:=aqL 5 5 ks
 have a7:=aRw 5 5 5 ks
 have a8:=aRv 5 ks
 have a9:=aFw sb
 have b1:=aAT ks
 have b2:=acy nm
 have b3:=aRp ks
 have b4:=aqL (fG op) (fG op+1) ks
 have b5:=aCO op
 have b6:=aih true ks
 have b7:=abq di [[100,105,115,116,105,110,99,116]]
 have b8:=abq (decide (ks.length=0)) [aaM]
 have b9:=adG true (aF di [[100,105,115,116,105,110,99,116]]++(aF (decide (ks.length=0)) [aaM]++bc true (ks.map (atT 1))))
 rw[fk,fk] at b9
 simp only[tkW,aaM,dN] at b7 b8 b9
 unfold opT
 repeat' (refine aWC (fun _=>?_) (fun _=>?_))
 all_goals try simp only[tkW,fk,dN,aaM]
 all_goals omega
def TX (e:Xp):Prop:=tkW (xpT e)+24≤64*xpW e
def TQ (q:Qy):Prop:=tkW (qyT q)+24≤64*qyW q
def TI (i:Im):Prop:=tkW (imT i)+24≤64*imW i
def TF (f:Fm):Prop:=tkW (fmT f)+24≤64*fmW f
def at3 (l:List Xp):(l.map xpP).map Prod.snd=l.map xpT:=by rw[ii];rfl
def at4 (l:List Qy):(l.map qyP).map Prod.snd=l.map qyT:=by rw[ii];rfl
def aUz (l:List Fm):(l.map fmP).map Prod.snd=l.map fmT:=by rw[ii];rfl
def aFf (e:Xp):xpT e=opT e.op e.v e.tb e.nm e.di (e.ks.map xpP) (e.sb.map qyP):=by cases e;rw[xpT,adO,afV];rfl
def aIv (i:Im):imT i=ael i.st i.tb i.az (xpP i.e):=by cases i;rw[imT];rfl
def aIF (f:Fm):fmT f=af1 f.kd f.nm f.az (f.sb.map qyP) (f.ks.map fmP) (f.on.map xpP):=by cases f;rw[fmT,afV,aiK,adO];rfl
def ao7 (q:Qy):qyT q=(if q.op=1 then akH q.di (q.its.map imT) ((q.fr.map fmP).map Prod.snd) (q.wh.map xpP) (q.gr.map xpP) (q.hv.map xpP) else ahn q.op q.al (q.ks.map qyP))++ajx q.od q.li q.sk:=by
 cases q;rw[qyT,aoi,aiK,adO,adO,adO,afV];rfl
def a1v (e:Xp) (h:V64 e.v) (h1:∀ x∈e.ks,TX x) (h2:∀ q∈e.sb,TQ q):TX e:=by
 have a:=a2g e.op e.v e.tb e.nm e.di (e.ks.map xpP) (e.sb.map qyP) h
 rw[at3,at4] at a
 have b1:=adl (w:=xpW) h1
 have b2:=adl (w:=qyW) h2
 have hw:=aaU e
 unfold TX
 rw[aFf]
 simp only[eN,alF,cV] at hw
 omega
def a1A (i:Im) (h:TX i.e):TI i:=by
 have hw:=aci i
 have a1:tkW (atT 1 (xpP i.e))≤tkW (xpT i.e)+6:=afO 1 (xpP i.e)
 have a2:=aQa i.az
 have a3:=abq (decide (i.tb≠[])) [bF i.tb,ab0]
 have a4:=acy i.tb
 unfold TI
 unfold TX at h
 rw[aIv]
 unfold ael
 simp only[tkW,ab0,dN] at a3
 simp only[eN,cV] at hw
 split
 .simp only[tkW,fk,aaM,ab0,dN];omega
 .rw[fk];omega
def a1B (f:Fm) (h1:∀ q∈f.sb,TQ q) (h2:∀ x∈f.ks,TF x) (h3:∀ x∈f.on,TX x):TF f:=by
 have hw:=jg f
 have b1:=adl (w:=qyW) h1
 have b2:=adl (w:=fmW) h2
 have b3:=adl (w:=xpW) h3
 have a1:=aFw (f.sb.map qyP)
 have a2:=amX [111,110] (by decide) (f.on.map xpP)
 rw[at4] at a1
 rw[at3] at a2
 have a3:=aQa f.az
 have a4:=acy f.nm
 unfold TF
 rw[aIF]
 unfold af1
 simp only[eN,cV] at hw
 split
 .rw[tkW];omega
 .split
  .rw[fk];omega
  .have hj:tkW (adV f.kd)≤20:=by unfold adV;(repeat' split) <;> decide
   rcases hk:f.ks with _|⟨a,_|⟨b,r⟩⟩
   .simp only[bC,tkW];omega
   .simp only[bC,aV,tkW];omega
   .have b2':SL (f.ks.map fmT)=tkW (fmT a)+20+(tkW (fmT b)+20+SL (r.map fmT)):=by rw[hk];simp only[aV,aa4]
    have c:tkW (bI (decide (3≤(fmP b).1)) (fmP b).2)≤tkW (fmT b)+6:=adG _ _
    have c2:tkW (fmP a).2=tkW (fmT a):=rfl
    simp only[aV,fk]
    omega
def ayf (n:Int) (p:Qy×List To):tkW (dZ n p)≤tkW p.2+6:=adG _ _
def aTt (op:Int) (al:Bool) (ks:List (Qy×List To)):tkW (ahn op al ks)≤SL (ks.map Prod.snd)+20:=by
 rcases ks with _|⟨a,_|⟨b,r⟩⟩
 .simp[ahn,tkW]
 .simp[ahn,tkW]
 .have c1:=ayf (cL op) a
  have c2:=ayf (cL op+1) b
  have c3:=abq al [[97,108,108]]
  have c4:(ahS op).length≤9:=by unfold ahS;(repeat' split) <;> decide
  simp only[tkW,dN] at c3
  simp only[ahn,fk,tkW,aV,aa4]
  omega
def a2h (o:Od) (h:I64 o.pl):tkW (odT o)+24≤64*odW o:=by
 have h1:=aiH o.pl h.1 h.2
 have h2:=acy o.nm
 have h3:=abq o.dn [[100,101,115,99]]
 have hw:odW o=cV o.nm+eN o.pl+eN o.dn+1:=rfl
 simp only[eN,cV] at hw
 unfold odT
 simp only[tkW,dN] at h3
 rw[fk]
 split
 .simp only[tkW];omega
 .simp only[tkW];omega
def aZe (od:List Od) (li sk:Int) (h:lsP awq od) (h1:I64 li) (h2:I64 sk):tkW (ajx od li sk)+64≤64*lsW odW od+120:=by
 have a1:=adl (w:=odW) (g:=odT) (l:=od) fun o ho=>a2h o (h o ho).2.1
 have a2:=alU true (od.map odT)
 have a3:=abq (decide (od≠[])) [[111,114,100,101,114],[98,121]]
 have a4:=abq (decide (0≤li)) [[108,105,109,105,116],Lib.itoa li]
 have a5:=abq (decide (0<sk)) [[111,102,102,115,101,116],Lib.itoa sk]
 have h3:=aiH li h1.1 h1.2
 have h4:=aiH sk h2.1 h2.2
 simp only[tkW,dN] at a3 a4 a5
 unfold ajx
 simp only[fk]
 omega
def a1w (q:Qy) (h:io q) (h1:∀ x∈q.ks,TQ x) (h2:∀ x∈q.its,TI x) (h3:∀ x∈q.fr,TF x) (h4:∀ x∈q.wh,TX x) (h5:∀ x∈q.gr,TX x) (h6:∀ x∈q.hv,TX x):TQ q:=by
 rw[ag7] at h
 obtain⟨_,_,_,_,_,_,_,_,_,go,gl,gs⟩:=h
 have hw:=iK q
 have b1:=adl (w:=qyW) h1
 have b2:=adl (w:=imW) h2
 have b3:=adl (w:=fmW) h3
 have b4:=adl (w:=xpW) h4
 have b5:=adl (w:=xpW) h5
 have b6:=adl (w:=xpW) h6
 have a1:=aTt q.op q.al (q.ks.map qyP)
 have a2:=alU true (q.its.map imT)
 obtain⟨F,hF,a3⟩ : ∃ F,tkW (((q.fr.map fmT).map fun x=>[102,114,111,109]::x).flatten)=F∧F≤SL (q.fr.map fmT):=⟨_,rfl,aAM _ (by decide) _⟩
 have a4:=amX [119,104,101,114,101] (by decide) (q.wh.map xpP)
 have a5:=aih true (q.gr.map xpP)
 have a6:=amX [104,97,118,105,110,103] (by decide) (q.hv.map xpP)
 have a7:=aZe q.od q.li q.sk go gl gs
 have a8:=abq q.di [[100,105,115,116,105,110,99,116]]
 have a9:=abq (decide (q.gr.map xpP≠[])) [[103,114,111,117,112],[98,121]]
 rw[at4] at a1
 rw[at3] at a4 a5 a6
 simp only[tkW,dN] at a8 a9
 simp only[eN,cV] at hw
 unfold TQ
 rw[ao7,fk,aUz]
 split
 .have hS:tkW (akH q.di (q.its.map imT) (q.fr.map fmT) (q.wh.map xpP) (q.gr.map xpP) (q.hv.map xpP))=8+(tkW (aF q.di [[100,105,115,116,105,110,99,116]])+(tkW (bc true (q.its.map imT))+(F+(tkW (jA [119,104,101,114,101] (q.wh.map xpP))+(tkW (aF (decide (q.gr.map xpP≠[])) [[103,114,111,117,112],[98,121]])+(tkW (bc true ((q.gr.map xpP).map (atT 1)))+tkW (jA [104,97,118,105,110,103] (q.hv.map xpP)))))))):=by
   unfold akH
   rw[tkW,fk,fk,fk,fk,fk,fk,← hF]
   rfl
  omega
 .omega
theorem atK:∀ n,(∀ e,fh e→xpW e≤n→TX e)∧(∀ q,io q→qyW q≤n→TQ q)∧(∀ i,aeS i→imW i≤n→TI i)∧(∀ f,acX f→fmW f≤n→TF f)
 | 0=>⟨fun e _ h=>by have:=aaU e;omega,fun e _ h=>by have:=iK e;omega,fun e _ h=>by have:=aci e;omega,fun e _ h=>by have:=jg e;omega⟩
 | n+1=>by
  obtain⟨i1,i2,i3,i4⟩:=atK n
  have sX:∀ l:List Xp,lsP fh l→lsW xpW l≤n+1→∀ x∈l,TX x:=fun l g h x hx=>i1 x (g x hx) (by have:=bQ (w:=xpW) hx;omega)
  have sQ:∀ l:List Qy,lsP io l→lsW qyW l≤n+1→∀ x∈l,TQ x:=fun l g h x hx=>i2 x (g x hx) (by have:=bQ (w:=qyW) hx;omega)
  have sI:∀ l:List Im,lsP aeS l→lsW imW l≤n+1→∀ x∈l,TI x:=fun l g h x hx=>i3 x (g x hx) (by have:=bQ (w:=imW) hx;omega)
  have sF:∀ l:List Fm,lsP acX l→lsW fmW l≤n+1→∀ x∈l,TF x:=fun l g h x hx=>i4 x (g x hx) (by have:=bQ (w:=fmW) hx;omega)
  refine⟨fun e g h=>?_,fun q g h=>?_,fun i g h=>?_,fun f g h=>?_⟩
  .have h':=aaU e
   rw[ac1] at g
   exact a1v e g.2.1 (sX _ g.2.2.2.2.2.1 (by omega)) (sQ _ g.2.2.2.2.2.2 (by omega))
  .have h':=iK q
   have g0:=g
   rw[ag7] at g
   obtain⟨_,_,g1,_,g2,g3,g4,g5,g6,_⟩:=g
   exact a1w q g0 (sQ _ g1 (by omega)) (sI _ g2 (by omega)) (sF _ g3 (by omega)) (sX _ g4 (by omega)) (sX _ g5 (by omega)) (sX _ g6 (by omega))
  .have h':=aci i
   rw[ain] at g
   exact a1A i (i1 _ g.2.2.1 (by omega))
  .have h':=jg f
   rw[aio] at g
   obtain⟨_,_,_,g1,g2,g3⟩:=g
   exact a1B f (sQ _ g1 (by omega)) (sF _ g2 (by omega)) (sX _ g3 (by omega))
def ajF (e:Xp) (h:fh e):TX e:=(atK _).1 e h (aM _)
def atJ (q:Qy) (h:io q):TQ q:=(atK _).2.1 q h (aM _)
def akT (l:List (List UInt8)):tkW (dT l)+64≤64*lsW cV l+6:=by
 have a1:=adG true (bc true (l.map fun s=>[bF s]))
 have a2:=alU true (l.map fun s=>[bF s])
 have a3:=adl (w:=cV) (g:=fun s=>[bF s]) (l:=l) fun s _=>by
  have:=acy s
  simp only[tkW,cV];omega
 unfold dT
 omega
def a4E (c:Cd):tkW (cdT c)+24≤64*cdW c:=by
 have a1:=acy c.nm
 have a2:=abq c.nn [[110,111,116],[110,117,108,108]]
 have a3:(aeV c.ty).length≤4:=by unfold aeV;(repeat' split) <;> decide
 have hw:cdW c=cV c.nm+eN c.ty+eN c.nn+1:=rfl
 simp only[tkW,dN] at a2
 simp only[eN,cV] at hw
 unfold cdT
 simp only[tkW]
 omega
def a34 (k:Kd):tkW (kdT k)+24≤64*kdW k:=by
 have a1:=akT k.ns
 have hw:kdW k=eN k.pr+lsW cV k.ns+1:=rfl
 simp only[eN] at hw
 unfold kdT
 rw[fk]
 split
 .simp only[tkW,dN];omega
 .simp only[tkW,dN];omega
def a1Y (r:Rd):tkW (rdT r)+24≤64*rdW r:=by
 have a1:=akT r.ns
 have a2:=akT r.to
 have a3:=acy r.tb
 have hw:rdW r=lsW cV r.ns+cV r.tb+lsW cV r.to+1:=rfl
 have h0:1≤lsW cV r.ns:=by unfold lsW;omega
 simp only[cV] at hw
 unfold rdT
 simp only[tkW,fk,dN]
 omega
def ap5 (e:Xp):tkW (bv e)≤tkW (xpT e)+6:=afO 1 (xpP e)
def a4D (e:Xp) (h:fh e):tkW (chT e)+3≤64*xpW e:=by
 have a1:=ap5 e
 have a2:=adG true (bv e)
 have a3:=ajF e h
 unfold TX at a3
 unfold chT
 simp only[tkW,dN]
 omega
theorem aeY {α:Type} {g:α→List To} {w:α→Nat}:∀ (b:Bool) (l:List α),(∀ x∈l,tkW (g x)+3≤64*w x)→tkW (bc b (l.map g))+64≤64*lsW w l
 | true,[],_=>by simp[bc,tkW,lsW]
 | false,[],_=>by simp[bc,tkW,lsW]
 | true,a::r,h=>by
  have h1:=h a (by simp)
  have h2:=aeY false r fun x hx=>h x (by simp[hx])
  simp only[lsW,aV,bU,bc,fk] at *
  omega
 | false,a::r,h=>by
  have h1:=h a (by simp)
  have h2:=aeY false r fun x hx=>h x (by simp[hx])
  simp only[lsW,aV,bU,bc,tkW,fk,cmT,dN] at *
  omega
def aUG (l:List Xp) (h:lsP fh l):tkW (gK l)+58≤64*lsW xpW l:=by
 have a1:=aeY (w:=xpW) (g:=bv) true l fun x hx=>by
  have a1:=ap5 x
  have a3:=ajF x (h x hx)
  unfold TX at a3
  omega
 have a2:=adG true (bc true (l.map bv))
 unfold gK
 omega
def aKz (w:To) (hw:w.length≤8) (l:List Xp) (h:lsP fh l):tkW (dC w l)+64≤64*lsW xpW l:=by
 induction l with
 | nil=>simp[dC,tkW,lsW]
 | cons a r ih =>
  have h1:=ih fun x hx=>h x (by simp[hx])
  have a1:=ap5 a
  have a3:=ajF a (h a (by simp))
  unfold TX at a3
  simp only[dC,lsW,aV,bU,fC,tkW,fk] at *
  omega
def aZ0 (a:As) (h:fh a.e):tkW (abx a)+24≤64*asW a:=by
 have a1:=ap5 a.e
 have a3:=ajF a.e h
 have a4:=acy a.nm
 have hw:asW a=cV a.nm+xpW a.e+1:=rfl
 unfold TX at a3
 simp only[cV] at hw
 unfold abx
 simp only[tkW,dN]
 omega
def a2c (l:List Qy) (h:lsP io l):tkW ((l.map qyT).flatten)+64≤64*lsW qyW l:=by
 have a1:=avu (l.map qyT)
 have a2:=adl (w:=qyW) (g:=qyT) (l:=l) fun q hq=>atJ q (h q hq)
 omega
theorem alV:∀ (b:Bool) (l r:List (List To)),tkW (bc b (l++r))≤tkW (bc b l)+tkW (bc false r)
 | true,[],r=>by
  cases r with
  | nil=>simp[bc]
  | cons a r=>simp only[bw,bc,fk,tkW];omega
 | false,[],r=>by simp[bc,tkW]
 | true,a::l,r=>by have:=alV false l r;simp only[bt,bc,fk];omega
 | false,a::l,r=>by have:=alV false l r;simp only[bt,bc,fk,tkW];omega
def aM8 (s:Sm) (h:aby s):tkW (smT s)≤64*smW s:=by
 obtain⟨_,_,_,_,_,_,_,_,g1,g2,g3,g4,g5⟩:=h
 have hw:smW s=eN s.kd+cV s.tb+cV s.nm+(lsW cdW) s.cs+(lsW cV) s.ns+eN s.un+(lsW kdW) s.kys+(lsW rdW) s.rfs+(lsW xpW) s.chs+(lsW (lsW xpW)) s.rws+(lsW asW) s.sts+(lsW xpW) s.wh+(lsW qyW) s.q+1:=rfl
 have a1:=acy s.tb
 have a2:=acy s.nm
 have a3:=akT s.ns
 have b1:=aeY (w:=cdW) (g:=cdT) true s.cs fun x _=>by have:=a4E x;omega
 have b2:=aeY (w:=kdW) (g:=kdT) false s.kys fun x _=>by have:=a34 x;omega
 have b3:=aeY (w:=rdW) (g:=rdT) false s.rfs fun x _=>by have:=a1Y x;omega
 have b4:=aeY (w:=xpW) (g:=chT) false s.chs fun x hx=>a4D x (g1 x hx)
 have c1:=alV true (s.cs.map cdT) (s.kys.map kdT++(s.rfs.map rdT++s.chs.map chT))
 have c2:=alV false (s.kys.map kdT) (s.rfs.map rdT++s.chs.map chT)
 have c3:=alV false (s.rfs.map rdT) (s.chs.map chT)
 have c4:=adG true (bc true (s.cs.map cdT++(s.kys.map kdT++(s.rfs.map rdT++s.chs.map chT))))
 have d1:=aeY (w:=lsW xpW) (g:=gK) true s.rws fun x hx=>by have:=aUG x (g2 x hx);omega
 have d2:=aeY (w:=asW) (g:=abx) true s.sts fun x hx=>by have:=aZ0 x (g3 x hx).2;omega
 have d3:=aKz [119,104,101,114,101] (by decide) s.wh g4
 have d4:=a2c s.q g5
 have e1:=abq s.un [[117,110,105,113,117,101]]
 have e2:=abq (decide (s.ns≠[])) (dT s.ns)
 have e3:=abq (decide (s.rws≠[])) [[118,97,108,117,101,115]]
 have e4:(ait s.kd).length≤10:=by unfold ait;(repeat' split) <;> decide
 simp only[tkW,dN] at e1 e3
 simp only[eN,cV] at hw
 unfold smT
 repeat' split
 all_goals try simp only[tkW,fk,dN]
 all_goals omega
end Go.Tab
namespace Go.Proofs.YtemdljoideegeaaGreatDoor
open Go Go.Pe Go.Tab
def GR (f:Nat) (xs:List X) (T:List To):Prop:=T.length≤LIM→aN Tryz.prog pr f xs [] ⟨false,[.own (.nm 0 0 0) 9 1 (fl bA T) T.length],[]⟩
theorem GR.k {f:Nat} {xs:List X} {T:List To} (h:GR f xs T) (hT:T.length≤LIM) (K:An→Prop):bp Tryz.prog pr f xs [] K↔K ⟨false,[.own (.nm 0 0 0) 9 1 (fl bA T) T.length],[]⟩:=aN.k (h hT) K
abbrev RX (e:Xp):Prop:=GR 30 [.of (.agg (xpC e))] (xpT e)
abbrev RQ (q:Qy):Prop:=GR 26 [.of (.agg (qyC q))] (qyT q)
abbrev RF (f:Fm):Prop:=GR 163 [.of (.agg (fmC f))] (fmT f)
def dz (tk tk':Tk) (cs0:List C) (n:Nat):jy (TT.of Tryz.prog) tk 23 23 (.own tk' 9 1 cs0 n) .nil=if n≤LIM then some (.own tk 9 1 cs0 n,some tk') else none:=by
 rw[amy E23 (by decide) (by decide) tk tk' cs0 n .nil [] 0 rfl]
 simp
def aEF (tk tk':Tk) (cs0 cs:List C) (n m:Nat):jy (TT.of Tryz.prog) tk 23 23 (.own tk' 9 1 cs0 n) (.of (.sl cs m))=if cs.length=m*1∧n+m≤LIM then some (.own tk 9 1 (cs0++cs) (n+m),some tk') else none:=amy E23 (by decide) (by decide) tk tk' cs0 n (.of (.sl cs m)) cs m rfl
def iI (tk:Tk) (a b c:ByteArray):ef tk 3 (Pe.elemOf (TT.of Tryz.prog) 23) (some [(0,[dy a]),(1,[dy b]),(2,[dy c])])=out (.own tk 9 1 [aH a,aH b,aH c] 3):=by rw[E23];kernel_rfl
def ajn (tk:Tk) (a b c d:ByteArray):ef tk 4 (Pe.elemOf (TT.of Tryz.prog) 23) (some [(0,[dy a]),(1,[dy b]),(2,[dy c]),(3,[dy d])])=out (.own tk 9 1 [aH a,aH b,aH c,aH d] 4):=by rw[E23];kernel_rfl
def avv (a:To) (r:List To):fl bA (a::r)=aH (aD a)::fl bA r:=rfl
def aRS:fl bA ([]:List To)=[]:=rfl
def cJ (T:List To):fl bA T=T.map fun s=>aH (aD s):=by
 induction T with
 | nil=>rfl
 | cons a r ih=>rw[avv,ih];rfl
def cz {cs cs':List C} {n n':Nat} (h1:cs=cs') (h2:n=n'):(some (⟨false,[X.own (.nm 0 0 0) 9 1 cs n],[]⟩ : An))=some ⟨false,[X.own (.nm 0 0 0) 9 1 cs' n'],[]⟩:=by rw[h1,h2]
def a41:=ai (ai @zq @bO) (ai @zT0 (ai @aHt (ba aXP)))
def ao2 (cs:List C) (n:Nat) (hc:cs.length=n) (hn:n+2≤LIM):aN Tryz.prog pr 90 [.of (.sl cs n)] [] ⟨false,[.own (.nm 0 0 0) 9 1 (aH (aD [40])::(cs++[aH (aD [41])])) (n+2)],[]⟩:=by
 have e40:=aL [40]
 have e41:=aL [41]
 refine ah rfl aXP aHt rfl ?_
 simp -implicitDefEqProofs(maxSteps:=9^9)only[Tryz.f90,↓zA,sevalprocAttr,a41,e40,e41,aEF,jt,hc]
 (and_intros <;> first|(exact cz (by (try simp only[cJ,cI]) <;> rfl) (by (try simp only[aR]) <;> omega))|((try simp only[aR]) <;> omega))
def aaW (T:List To) (h:(bI true T).length≤LIM) (K:An→Prop):bp Tryz.prog pr 90 [.of (slC bA T)] [] K↔K ⟨false,[.own (.nm 0 0 0) 9 1 (fl bA (bI true T)) (bI true T).length],[]⟩:=by
 have hl:(bI true T).length=T.length+2:=by simp[bI]
 have e:fl bA (bI true T)=aH (aD [40])::(fl bA T++[aH (aD [41])]):=by simp only[bI,aA,lpT,rpT,cJ,cI]
 rw[hl,e]
 exact aN.k (ao2 (fl bA T) T.length (by rw[acA,jt]) (by omega)) K
def iY (op:Int) (K:An→Prop):bp Tryz.prog pr 94 [.of (.lit (.int .i64 op))] [] K↔K ⟨false,[aU (fG op)],[]⟩:=aN.k (ass op) K
def aTD:=ai (ai (ai @zq (ai @a31 @aNf)) (ai @aI5 (ai @aNq @aJg))) (ai (ai @ai3 (ai @ahG @cR)) (ai (ai @Q3 @zT0) (ai @aHU (ba aYg))))
def dP (e:Xp) (n:Int) (hx:RX e):GR 59 [.of (.agg (xpC e)),aU n] (dY n e):=by
 intro h
 refine ah rfl aYg aHU rfl ?_
 by_cases c:fG e.op<n
 .have e1:dY n e=bI true (xpT e):=by show bI (decide (fG e.op<n)) (xpT e)=_;rw[cy c]
  rw[e1] at h ⊢
  have hl:(bI true (xpT e)).length=(xpT e).length+2:=by simp[bI]
  have kx:=fun K=>hx.k (by omega) K
  have kr:=fun K=>aaW (xpT e) h K
  simp -implicitDefEqProofs(maxSteps:=9^9)only[Tryz.f59,↓zA,sevalprocAttr,aTD,iY,c,kx,kr]
  try rfl
 .have e1:dY n e=xpT e:=by show bI (decide (fG e.op<n)) (xpT e)=_;rw[bP c];rfl
  rw[e1] at h ⊢
  have kx:=fun K=>hx.k h K
  simp -implicitDefEqProofs(maxSteps:=9^9)only[Tryz.f59,↓zA,sevalprocAttr,aTD,iY,c,kx]
  try rfl
def aMN:=ai (ai @zq (ai @ahj @afD)) (ai (ai @bO @zT0) (ai @aqN (ba aDR)))
def aqC:G1 222 [.of (aH {data:=#[]})] .nil:=by
 refine ah rfl aDR aqN rfl ?_
 simp -implicitDefEqProofs(maxSteps:=9^9)only[Tryz.f222,↓zA,sevalprocAttr,aMN]
 try rfl
def aqB (s:List UInt8) (h:bk s=true):GR 222 [.of (aH (aD s))] [[97,115],bF s]:=by
 intro hl
 have aZf:=aL [97,115]
 have hne:(s=[])=False:=aO (al6 h)
 have kn:=fun K=>fX s h K
 refine ah rfl aDR aqN rfl ?_
 simp -implicitDefEqProofs(maxSteps:=9^9)only[Tryz.f222,↓zA,sevalprocAttr,aMN,hne,kn,aZf,bg]
 try rfl
def aB3:=ai (ai @zq @zT0) (ai @az5 (ba aPr))
def aur (k:Int):G1 136 [aU k] (dy (aD (aeV k))):=by
 unfold aeV
 refine ah rfl aPr az5 rfl ?_
 by_cases h1:k=1
 .simp -implicitDefEqProofs(maxSteps:=9^9)only[Tryz.f136,↓zA,sevalprocAttr,aB3,h1]
  try rfl
 by_cases h2:k=2
 .simp -implicitDefEqProofs(maxSteps:=9^9)only[Tryz.f136,↓zA,sevalprocAttr,aB3,h1,h2]
  try rfl
 simp -implicitDefEqProofs(maxSteps:=9^9)only[Tryz.f136,↓zA,sevalprocAttr,aB3,h1,h2]
 try rfl
def as0:=ai (ai @zq @zT0) (ai @azE (ba aO0))
def asr (n:Int):G1 164 [aU n] (aU (if n=2∨n=4 then 1 else if n=3 then 2 else 3)):=by
 refine ah rfl aO0 azE rfl ?_
 by_cases h2:n=2
 .simp -implicitDefEqProofs(maxSteps:=9^9)only[Tryz.f164,↓zA,sevalprocAttr,as0,h2,bo,aA]
  try rfl
 by_cases h4:n=4
 .simp -implicitDefEqProofs(maxSteps:=9^9)only[Tryz.f164,↓zA,sevalprocAttr,as0,h2,h4,br,aA]
  try rfl
 by_cases h3:n=3
 .simp -implicitDefEqProofs(maxSteps:=9^9)only[Tryz.f164,↓zA,sevalprocAttr,as0,h2,h4,h3,bm,aQ]
  try rfl
 simp -implicitDefEqProofs(maxSteps:=9^9)only[Tryz.f164,↓zA,sevalprocAttr,as0,h2,h4,h3,bm,aQ]
 try rfl
def ao6 (n:Int) (h:n=1∨n=2∨n=3∨n=4) (K:An→Prop):bp Tryz.prog pr 164 [.of (.lit (.int .i64 n))] [] K↔K ⟨false,[aU (cL n)],[]⟩:=by
 have e:cL n=if n=2∨n=4 then 1 else if n=3 then 2 else 3:=by rcases h with h|h|h|h <;> (subst h;rfl)
 rw[e]
 exact aN.k (asr n) K
def aoY:List To:=[[43],[45],[42],[47],[37],[124,124],[61],[60,62],[60],[60,61],[62],[62,61],[97,110,100],[111,114]]
def at9 (tk:Tk):ef tk 14 (Pe.elemOf (TT.of Tryz.prog) 23) (some [(0,[dy ⟨#[43]⟩]),(1,[dy ⟨#[45]⟩]),(2,[dy ⟨#[42]⟩]),(3,[dy ⟨#[47]⟩]),(4,[dy ⟨#[37]⟩]),(5,[dy ⟨#[124,124]⟩]),(6,[dy ⟨#[61]⟩]),(7,[dy ⟨#[60,62]⟩]),(8,[dy ⟨#[60]⟩]),(9,[dy ⟨#[60,61]⟩]),(10,[dy ⟨#[62]⟩]),(11,[dy ⟨#[62,61]⟩]),(12,[dy ⟨#[97,110,100]⟩]),(13,[dy ⟨#[111,114]⟩])])=out (.own tk 9 1 (fl bA aoY) 14):=by rw[E23];kernel_rfl
def apH (tk:Tk) (e z:Nat) (l:List (List UInt8)) (n:Nat) (hn:n=l.length) (i:Int):dL (TT.of Tryz.prog) 23 (.own tk e z (fl bA l) n) (.of (.lit (.int .i64 i)))=dL (TT.of Tryz.prog) 23 (.of (slC bA l)) (.of (.lit (.int .i64 i))):=by
 subst hn
 rw[abj E23 _ _ i _ rfl,abj E23 _ _ i _ rfl]
def a38 (tk:Tk) (e z:Nat) (i:Int):dL (TT.of Tryz.prog) 23 (.own tk e z (fl bA aoY) 14) (.of (.lit (.int .i64 i)))=dL (TT.of Tryz.prog) 23 (.of (slC bA aoY)) (.of (.lit (.int .i64 i))):=apH tk e z aoY 14 rfl i
def a40:=ai (ai @zq (ai @bO @Q9)) (ai @zT0 (ai @aHp (ba aXL)))
def aup (op:Int) (h:5≤op∧op≤18):G1 95 [aU op] (dy (aD (aeG op))):=by
 obtain⟨h1,h2⟩:=h
 have hw:IntKind.i64.wrap (op-5)=op-5:=eX _ (by omega) (by omega)
 have hS:dH aoY (op-5)=some (aeG op):=by
  have:op=5∨op=6∨op=7∨op=8∨op=9∨op=10∨op=11∨op=12∨op=13∨op=14∨op=15∨op=16∨op=17∨op=18:=by omega
  rcases this with h|h|h|h|h|h|h|h|h|h|h|h|h|h <;> (subst h;rfl)
 refine ah rfl aXL aHp rfl ?_
 simp -implicitDefEqProofs(maxSteps:=9^9)only[Tryz.f95,↓zA,sevalprocAttr,a40,at9,a38,hw,hS]
 try rfl
def aFV (op:Int) (h:5≤op∧op≤18) (K:An→Prop):bp Tryz.prog pr 95 [.of (.lit (.int .i64 op))] [] K↔K ⟨false,[dy (aD (aeG op))],[]⟩:=aN.k (aup op h) K
end Go.Proofs.YtemdljoideegeaaGreatDoor
namespace Go.Tab
open Go Go.Pe
def aFg (e:Xp):xpT e=opT e.op e.v e.tb e.nm e.di (e.ks.map xpP) (e.sb.map qyP):=by cases e;rw[xpT,adO,afV];rfl
def aja (l:List Xp):ajb (l.map xpP)=gK l:=by unfold ajb gK;rw[ii];rfl
def amZ (l:List Xp):bc true ((l.map xpP).map (atT 1))=bc true (l.map bv):=by rw[ii];rfl
def arX (a b:Xp) (r:List Xp):aam ((a::b::r).map xpP)=[119,104,101,110]::(bv a++([116,104,101,110]::(bv b++aam (r.map xpP)))):=rfl
def aUd {α:Type} {L:List α} (h:2≤L.length):alO L 2 (L.length:Int)=some (L.drop 2):=by
 unfold alO
 rw[aE ⟨by omega,by omega,by omega⟩]
 simp
def aFx {α:Type} {L:List α} (h:1≤L.length):alO L 1 (L.length:Int)=some (L.drop 1):=by
 unfold alO
 rw[aE ⟨by omega,by omega,by omega⟩]
 simp
end Go.Tab
namespace Go.Proofs.YtemdljoideegeaaGreatDoor
open Go Go.Pe Go.Tab
def atB:=ai (ai (ai @zq (ai @ac4 @ab1)) (ai @aez (ai @agv @aeO))) (ai (ai @aiv (ai @cR @bO)) (ai (ai @ey @zT0) (ai @aHz (ba aXV))))
def aEj (l:List Xp) (hl:l.length≤4611686018427387903) (hx:∀ e∈l,WX e):GW 84 [.of (slC xpC l)] ([99,97,115,101]::(aam (l.map xpP)++[[101,110,100]])):=by
 intro o h
 have ec:=aL [99,97,115,101]
 have ew:({data:=#[119,104,101,110]}:ByteArray)=aD [119,104,101,110]:=rfl
 have et:({data:=#[116,104,101,110]}:ByteArray)=aD [116,104,101,110]:=rfl
 have ee:=aL [101,108,115,101]
 have en:({data:=#[101,110,100]}:ByteArray)=aD [101,110,100]:=rfl
 simp only[aB,av,ce] at h
 have q0:bi o+1≤LIM:=by omega
 refine ah rfl aXV aHz rfl ?_
 simp -implicitDefEqProofs(maxSteps:=9^9)only[Tryz.f84,↓zA,sevalprocAttr,atB,zW,ec,dI,q0]
 refine bX (l.length / 2) (fun k s=>s.fr 0=.ptr 0 0∧s.fr 1=.of (slC xpC (l.drop (2*k)))∧∃ A,s.objs=[wT cw (iH o A)]∧[99,97,115,101]::aam (l.map xpP)=A++aam ((l.drop (2*k)).map xpP)) ?_ ?_
 .simp -implicitDefEqProofs(maxSteps:=9^9)only[Tryz.f84,↓zA,sevalprocAttr,atB]
  exact⟨[[99,97,115,101]],rfl,rfl⟩
 rintro k ⟨frk,obk,ckk⟩ hk ⟨f0,f1,A,fo,E⟩
 dsimp only at f0 f1 fo
 have E2:=congrArg List.length E
 simp only[aB,av] at E2
 have hL:(l.drop (2*k)).length=l.length-2*k:=i7
 have hmem:∀ e∈l.drop (2*k),WX e:=fun e he=>hx e (fu he)
 have hnx:(l.drop (2*k)).drop 2=l.drop (2*(k+1)):=by rw[ac7];congr 1
 rcases ap (l.length-2*k) 2 with dk|dk
 .have c1:((1:Int)<((l.drop (2*k)).length:Int))=False:=by rw[hL];simp only[ag1,abt];omega
  have c2:(((l.drop (2*k)).length:Int)=1)=(l.length-2*k=1):=by rw[hL];simp only[ag1];omega
  generalize hq:l.drop (2*k)=L at *
  by_cases d1:l.length-2*k=1
  .obtain⟨a,rfl⟩ : ∃ a,L=[a]:=by
    cases L with
    | nil=>simp at hL;omega
    | cons a r=>cases r with
     | nil=>exact⟨a,rfl⟩
     | cons b r=>simp at hL;omega
   have ka:=fun o K=>(adr a (hmem a (by simp))).k o K
   have hT:aam (([a]:List Xp).map xpP)=[101,108,115,101]::bv a:=rfl
   rw[hT] at E E2
   simp only[aB,av] at E2
   have q1:bi o+A.length+1≤LIM:=by omega
   have q2:bi o+(A.length+1)+(bv a).length≤LIM:=by omega
   have q3:bi o+(A.length+(1+(bv a).length))+1≤LIM:=by omega
   have q4:bi o+(A.length+((bv a).length+1))+1≤LIM:=by omega
   have g0:dH [a] 0=some a:=rfl
   simp -implicitDefEqProofs(maxSteps:=9^9)only[Tryz.f84,↓zA,sevalprocAttr,atB,f0,f1,fo,zW,c1,c2,d1,g0,ee,en,dI,ka,q1,q2,q3,q4,aR,am,ch]
   have E3:[99,97,115,101]::(aam (l.map xpP)++[[101,110,100]])=(A++([101,108,115,101]::bv a))++[[101,110,100]]:=by rw[← E];rfl
   rw[E3]
   simp
  .have hT:aam (L.map xpP)=[]:=by
    cases L with
    | nil=>rfl
    | cons a r=>simp at hL;omega
   rw[hT,cE] at E
   rw[hT,ce] at E2
   have q1:bi o+A.length+1≤LIM:=by omega
   simp -implicitDefEqProofs(maxSteps:=9^9)only[Tryz.f84,↓zA,sevalprocAttr,atB,f0,f1,fo,zW,c1,c2,d1,en,dI,q1,aR,am,ch]
   try (rw[← E];simp)
 .have c1:((1:Int)<((l.drop (2*k)).length:Int))=True:=aa (by rw[hL];omega)
  have hs:=aUd (L:=l.drop (2*k)) (by omega)
  rw[hnx] at hs
  obtain⟨a,b,r,hq⟩ : ∃ a b r,l.drop (2*k)=a::b::r:=by
   cases hq:l.drop (2*k) with
   | nil=>rw[hq] at hL;simp at hL;omega
   | cons a r=>cases r with
    | nil=>rw[hq] at hL;simp at hL;omega
    | cons b r=>exact⟨a,b,r,rfl⟩
  have hr:r=l.drop (2*(k+1)):=by rw[← hnx,hq];rfl
  have g0:dH (l.drop (2*k)) 0=some a:=by rw[hq];rfl
  have g1:dH (l.drop (2*k)) 1=some b:=by rw[hq];rfl
  have ka:=fun o K=>(adr a (hmem a (by rw[hq];simp))).k o K
  have kb:=fun o K=>(adr b (hmem b (by rw[hq];simp))).k o K
  rw[hq,arX] at E E2
  rw[hr] at E E2
  simp only[aB,av] at E2
  have q1:bi o+A.length+1≤LIM:=by omega
  have q2:bi o+(A.length+1)+(bv a).length≤LIM:=by omega
  have q3:bi o+(A.length+((bv a).length+1))+1≤LIM:=by omega
  have q4:bi o+(A.length+((bv a).length+(1+1)))+(bv b).length≤LIM:=by omega
  have q5:bi o+(A.length+((bv a).length+1+1))+(bv b).length≤LIM:=by omega
  have hk2:k<l.length / 2:=by omega
  simp -implicitDefEqProofs(maxSteps:=9^9)only[Tryz.f84,↓zA,sevalprocAttr,atB,f0,f1,fo,zW,c1,g0,g1,hs,ew,et,dI,ka,kb,q1,q2,q3,q4,q5,hk2,aR,am,ch]
  exact⟨_,rfl,by rw[E];simp⟩
def a43:=ai (ai (ai (ai @zq (ai @a6Z @afI)) (ai @ad9 (ai @ahP @ac4))) (ai (ai @ab1 (ai @aez @aeq)) (ai (ai @adh @agl) (ai @aCW @avX)))) (ai (ai (ai @aJ5 (ai @cR @bO)) (ai @ey (ai @agv @aeO))) (ai (ai @aiv (ai @Q9 @P4)) (ai (ai @Q4 @zT0) (ai @aHy (ba aXU)))))
def aMf (e:Xp) (hn:bk e.nm=true) (hl:e.ks.length≤4611686018427387903) (hx:∀ x∈e.ks,WX x):GW 85 [.of (.agg (xpC e))] (bF e.nm::bI true (aF e.di [[100,105,115,116,105,110,99,116]]++(aF (decide (e.ks.length=0)) [aaM]++bc true (e.ks.map bv)))):=by
 intro o h
 have e40:=aL [40]
 have e41:=aL [41]
 have e42:=aL [42]
 have ed:=aL [100,105,115,116,105,110,99,116]
 have kl:=fun o K=>(aes 43 e.ks bv hl agv aiv aeO fun x hx'=>adr x (hx x hx')).k o K
 simp only[Nat.reduceMul,Nat.reduceAdd] at kl
 have kd:=fun o K=>(gD e.di [.lit (.string (aD [100,105,115,116,105,110,99,116]))] [[100,105,115,116,105,110,99,116]] 1 rfl rfl (by simp)).k o K
 have ks:=fun o K=>(gD (decide (e.ks.length=0)) [.lit (.string (aD [42]))] [[42]] 1 rfl rfl (by simp)).k o K
 have c0:(((e.ks.length:Nat):Int)=0)=(e.ks.length=0):=propext (by omega)
 have hT:(bF e.nm::bI true (aF e.di [[100,105,115,116,105,110,99,116]]++(aF (decide (e.ks.length=0)) [aaM]++bc true (e.ks.map bv))))=bF e.nm::([40]::(aF e.di [[100,105,115,116,105,110,99,116]]++(aF (decide (e.ks.length=0)) [[42]]++(bc true (e.ks.map bv)++[[41]])))):=by simp[bI,lpT,rpT,aaM]
 rw[hT] at h ⊢
 simp only[aB,av,ce] at h
 generalize hd:aF e.di [[100,105,115,116,105,110,99,116]]=D at *
 generalize hs:aF (decide (e.ks.length=0)) [[42]]=S at *
 generalize hm:bc true (e.ks.map bv)=M at *
 have q1:bi o+1≤LIM:=by omega
 have q2:bi o+1+1≤LIM:=by omega
 have q2':bi o+(1+1)≤LIM:=by omega
 have q3:bi o+(1+1)+D.length≤LIM:=by omega
 have q4:bi o+(D.length+1+1)+S.length≤LIM:=by omega
 have q5:bi o+(D.length+S.length+1+1)+M.length≤LIM:=by omega
 have q6:bi o+(D.length+(S.length+M.length)+1+1)+1≤LIM:=by omega
 refine ah rfl aXU aHy rfl ?_
 simp -implicitDefEqProofs(maxSteps:=9^9)only[Tryz.f85,↓zA,sevalprocAttr,a43,zW,aaF _ hn,e40,e41,e42,ed,dI,kl,kd,ks,c0,q1,q2,q2',q3,q4,q5,q6,aR,am,ch,bd]
 try rfl
def anW {α:Type} (g:α→List To) {l:List α} {k:Nat} (h:k<l.length):bc (decide (k=0)) ((l.drop k).map g)=aF (decide (k≠0)) [[44]]++(g l[k]++bc (decide (k+1=0)) ((l.drop (k+1)).map g)):=by
 rw[bM h,aV,bP (abg k)]
 cases k with
 | zero=>rfl
 | succ k=>rfl
def okN {c d:Nat} (x i:Nat) (h:c<d) (af:List Edge):abf d af (some (.nm c x i))=true:=Z69 ((Z68 ..).2 h) af
def abS {clk d e f n:Nat} {cs:List C} {T R:List To} (A2:List To) (h0:d<clk) (h1:cs=fl bA A2) (h2:n=A2.length) (h3:T=A2++R):∃ A c x i,c<clk∧X.own (.nm d e f) 9 1 cs n=X.own (.nm c x i) 9 1 (fl bA A) A.length∧T=A++R:=⟨A2,d,e,f,h0,by rw[h1,h2],h3⟩
def atA:=ai (ai (ai @zq @ah5) (ai @agN @cR)) (ai (ai @bO @ey) (ai @zT0 (ai @aHs (ba aXO))))
def aeD (l:List Xp) (hl:l.length≤4611686018427387903) (hx:∀ x∈l,RX x):GR 91 [.of (slC xpC l)] (bc true (l.map bv)):=by
 intro h
 generalize hT:bc true (l.map bv)=T at *
 have e44:=aL [44]
 refine ah rfl aXO aHs rfl ?_
 simp -implicitDefEqProofs(maxSteps:=9^9)only[Tryz.f91,↓zA,sevalprocAttr,atA]
 refine bX l.length (fun k s=>s.fr 0=.of (slC xpC l)∧s.fr 4=aU k∧s.objs=[]∧∃ A c x i,c<s.clk∧s.fr 3=.own (.nm c x i) 9 1 (fl bA A) A.length∧T=A++bc (decide (k=0)) ((l.drop k).map bv)) ?_ ?_
 .simp -implicitDefEqProofs(maxSteps:=9^9)only[Tryz.f91,↓zA,sevalprocAttr,atA]
  exact⟨[],_,_,_,by omega,rfl,hT.symm⟩
 rintro k ⟨frk,obk,ckk⟩ hk ⟨f0,fi,fo,A,c,x,i,hc,fa,E⟩
 dsimp only at f0 fi fo hc fa
 rcases ap k l.length with dk|dk
 .have hw:=cF k (by omega)
  have gx:=bq dk
  rw[anW bv dk] at E
  have hm:=hx l[k] (ay dk)
  generalize l[k]=y at *
  have EL:=congrArg List.length E
  simp only[av] at EL
  have ka:=fun K=>(dP y 1 hm).k (T:=bv y) (by omega) K
  rcases fM k with hkz|hz
  .subst hkz
   have hw1:aF (decide ((0:Nat)≠0)) [[44]]=[]:=rfl
   have hd1:decide (0+1=0)=false:=rfl
   have dk':((0:Int)<(l.length:Int))=True:=aa (by omega)
   have fi':frk 4=aU 0:=fi
   have gx':dH l 0=some y:=gx
   have hw':IntKind.i64.wrap 1=1:=by decide
   have E2:T=(A++bv y)++bc false ((l.drop (0+1)).map bv):=by rw[E,hw1,hd1];simp only[am,bw,bt]
   simp -implicitDefEqProofs(maxSteps:=9^9)only[Tryz.f91,↓zA,sevalprocAttr,atA,f0,fa,fo,fi',dk',gx',hw',ka]
   and_intros
   all_goals first|exact okN _ _ (by omega) _|omega|rfl|exact abS (A++bv y) (by omega) (by (try simp only[cJ,cI]) <;> rfl) (by (try simp only[aR]) <;> omega) E2|((try simp only[aR]) <;> omega)
  .have hkz:k≠0:=by omega
   have hw1:aF (decide (k≠0)) [[44]]=[[44]]:=by simp[aF,hkz]
   have hwt:(aF (decide (k≠0)) [[44]]).length=1:=by rw[hw1];rfl
   have hd1:decide (k+1=0)=false:=bP (abg k)
   have kz:((0:Int)<(k:Int))=True:=aa (by omega)
   have E2:T=(A++([44]::(bv y)))++bc false ((l.drop (k+1)).map bv):=by rw[E,hw1,hd1];simp only[am,bw,bt]
   simp -implicitDefEqProofs(maxSteps:=9^9)only[Tryz.f91,↓zA,sevalprocAttr,atA,f0,fa,fo,fi,aK,dk,kz,e44,gx,hw,ka]
   and_intros
   all_goals first|exact okN _ _ (by omega) _|omega|rfl|exact abS (A++([44]::(bv y))) (by omega) (by (try simp only[cJ,cI]) <;> rfl) (by (try simp only[aR]) <;> omega) E2|((try simp only[aR]) <;> omega)
 .have e:k=l.length:=by omega
  subst e
  rw[aw,bC] at E
  have E:T=A:=by rw[E];cases (decide (l.length=0)) <;> simp[bc]
  subst E
  simp -implicitDefEqProofs(maxSteps:=9^9)only[Tryz.f91,↓zA,sevalprocAttr,atA,f0,fa,fi,fo,aK,au]
  try rfl
def aoB:=ai (ai (ai @zq @ahj) (ai @afD (ai @ai3 @ahG))) (ai (ai @bO @Q9) (ai @zT0 (ai @az4 (ba aPq))))
def ab8 (l:List (List UInt8)) (hl:l.length≤4611686018427387903) (hx:∀ s∈l,bk s=true):GR 137 [.of (slC bA l)] (dT l):=by
 intro h
 have e44:=aL [44]
 unfold dT at h ⊢
 generalize hT:bc true (l.map fun s=>[bF s])=T at *
 have hT2:(bI true T).length=T.length+2:=by simp[bI]
 refine ah rfl aPq az4 rfl ?_
 simp -implicitDefEqProofs(maxSteps:=9^9)only[Tryz.f137,↓zA,sevalprocAttr,aoB]
 refine bX l.length (fun k s=>s.fr 0=.of (slC bA l)∧s.fr 4=aU k∧s.objs=[]∧∃ A c x i,c<s.clk∧s.fr 3=.own (.nm c x i) 9 1 (fl bA A) A.length∧T=A++bc (decide (k=0)) ((l.drop k).map (fun s=>[bF s]))) ?_ ?_
 .simp -implicitDefEqProofs(maxSteps:=9^9)only[Tryz.f137,↓zA,sevalprocAttr,aoB]
  exact⟨[],_,_,_,by omega,rfl,hT.symm⟩
 rintro k ⟨frk,obk,ckk⟩ hk ⟨f0,fi,fo,A,c,x,i,hc,fa,E⟩
 dsimp only at f0 fi fo hc fa
 rcases ap k l.length with dk|dk
 .have hw:=cF k (by omega)
  have gx:=bq dk
  rw[anW (fun s=>[bF s]) dk] at E
  have hm:=hx l[k] (ay dk)
  generalize l[k]=y at *
  have EL:=congrArg List.length E
  simp only[aR] at EL
  have kn:=fun K=>fX y hm K
  rcases fM k with hkz|hz
  .subst hkz
   have hw1:aF (decide ((0:Nat)≠0)) [[44]]=[]:=rfl
   have hd1:decide (0+1=0)=false:=rfl
   have dk':((0:Int)<(l.length:Int))=True:=aa (by omega)
   have fi':frk 4=aU 0:=fi
   have gx':dH l 0=some y:=gx
   have hw':IntKind.i64.wrap 1=1:=by decide
   have E2:T=(A++[bF y])++bc false ((l.drop (0+1)).map (fun s=>[bF s])):=by rw[E,hw1,hd1];simp only[am,bw,bt]
   simp -implicitDefEqProofs(maxSteps:=9^9)only[Tryz.f137,↓zA,sevalprocAttr,aoB,f0,fa,fo,fi',dk',gx',hw',kn]
   and_intros
   all_goals first|exact okN _ _ (by omega) _|omega|rfl|exact abS (A++[bF y]) (by omega) (by (try simp only[cJ,cI]) <;> rfl) (by (try simp only[aR]) <;> omega) E2|((try simp only[aR]) <;> omega)
  .have hkz:k≠0:=by omega
   have hw1:aF (decide (k≠0)) [[44]]=[[44]]:=by simp[aF,hkz]
   have hwt:(aF (decide (k≠0)) [[44]]).length=1:=by rw[hw1];rfl
   have hd1:decide (k+1=0)=false:=bP (abg k)
   have kz:((0:Int)<(k:Int))=True:=aa (by omega)
   have E2:T=(A++([44]::([bF y])))++bc false ((l.drop (k+1)).map (fun s=>[bF s])):=by rw[E,hw1,hd1];simp only[am,bw,bt]
   simp -implicitDefEqProofs(maxSteps:=9^9)only[Tryz.f137,↓zA,sevalprocAttr,aoB,f0,fa,fo,fi,aK,dk,kz,e44,gx,hw,kn]
   and_intros
   all_goals first|exact okN _ _ (by omega) _|omega|rfl|exact abS (A++([44]::([bF y]))) (by omega) (by (try simp only[cJ,cI]) <;> rfl) (by (try simp only[aR]) <;> omega) E2|((try simp only[aR]) <;> omega)
 .have e:k=l.length:=by omega
  subst e
  rw[aw,bC] at E
  have E:T=A:=by rw[E];cases (decide (l.length=0)) <;> simp[bc]
  subst E
  have kr:=fun K=>aaW T h K
  simp -implicitDefEqProofs(maxSteps:=9^9)only[Tryz.f137,↓zA,sevalprocAttr,aoB,f0,fa,fi,fo,aK,au,kr]
  try rfl
def aTE:=ai (ai @zq @bO) (ai @zT0 (ai @aHV (ba aYh)))
def aw6 (A T:List To) (h:A.length+1+T.length≤LIM):aN Tryz.prog pr 58 [.own (.nm 0 0 0) 9 1 (fl bA A) A.length,.own (.nm 0 0 1) 9 1 (fl bA T) T.length] [] ⟨false,[.own (.nm 0 0 0) 9 1 (fl bA (A++(aF (decide (A≠[])) [[44]]++T))) (A++(aF (decide (A≠[])) [[44]]++T)).length],[]⟩:=by
 have e44:=aL [44]
 have hT:=acA T
 refine ah rfl aYh aHV rfl ?_
 cases A with
 | nil =>
  have e:aF (decide (([]:List To)≠[])) [[44]]=[]:=rfl
  rw[e]
  simp only[bw,ce] at h ⊢
  simp -implicitDefEqProofs(maxSteps:=9^9)only[Tryz.f58,↓zA,sevalprocAttr,aTE,e44,aRS,hT]
  (and_intros <;> first|(exact cz (by (try simp only[cJ,cI]) <;> rfl) (by (try simp only[aR]) <;> omega))|((try simp only[aR]) <;> omega))
 | cons a r =>
  have e:aF (decide ((a::r)≠[])) [[44]]=[[44]]:=rfl
  rw[e]
  have c:((0:Int)<((r.length+1:Nat):Int))=True:=aa (by omega)
  simp only[aB] at h
  simp -implicitDefEqProofs(maxSteps:=9^9)only[Tryz.f58,↓zA,sevalprocAttr,aTE,e44,c,hT]
  (and_intros <;> first|(exact cz (by (try simp only[cJ,cI]) <;> rfl) (by (try simp only[aR]) <;> omega))|((try simp only[aR]) <;> omega))
end Go.Proofs.YtemdljoideegeaaGreatDoor
namespace Go.Tab
deriving instance DecidableEq for Od,Cd
end Go.Tab
namespace Go.Proofs.YtemdljoideegeaaGreatDoor
open Go Go.Pe Go.Tab
def FnB {α:Type} (A:α→C) (g:Nat) (cp:List C) (p:α→Bool) (l:List α):Prop:=bh g=false∧ak Tryz.prog g=true∧∀ x∈l,G1 g (.of (A x)::cp.map .of) (aG (p x))
def afp {α:Type} (A:α→C) (g:Nat) (cp:List C) (p:α→α→Bool) (l:List α) (m:List α):Prop:=bh g=false∧ak Tryz.prog g=true∧∀ x∈l,∀ y∈m,G1 g (.of (A x)::.of (A y)::cp.map .of) (aG (p x y))
theorem aAI {α:Type} (p:α→Bool):∀ (l:List α) (k:Nat),im p k l=-1∧l.any p=false∨(k:Int)≤im p k l∧l.any p=true
 | [],k=>by simp[im]
 | x::r,k=>by
  simp only[im,afj]
  cases hp:p x
  .simp only[aW,aQ,dl]
   rcases aAI p r (k+1) with h|h
   .exact .inl h
   .exact .inr ⟨by omega,h.2⟩
  .exact .inr ⟨by simp,rfl⟩
def acb {α:Type} (p:α→Bool) (l:List α):decide (0≤ja p l)=l.any p:=by
 rcases aAI p l 0 with h|h
 .rw[ja,h.1,h.2];rfl
 .rw[h.2];exact cy h.1
def aLs {α:Type} [DecidableEq α] (v:α) (l:List α) [Decidable (v∈l)]:decide (0≤ja (fun x=>decide (v=x)) l)=decide (v∈l):=by
 rw[acb,ca]
 simp
def fU (a b:Nat):((a:Int)=(b:Int))=(a=b):=propext Int.natCast_inj
def eqR {α:Type} (q:α→α→Bool):List α→List α→Bool
 | [],[]=>true
 | x::l,y::m=>q x y&&eqR q l m
 | _,_=>false
theorem ad7 {α:Type} (q:α→α→Bool):∀ l m:List α,¬l.length=m.length→eqR q l m=false
 | [],[],h=>absurd rfl h
 | [],_::_,_=>rfl
 | _::_,[],_=>rfl
 | x::l,y::m,h=>by
  rw[eqR,ad7 q l m (fun e=>h (by simp[e])),cP]
theorem aIR {α:Type} [DecidableEq α] (q:α→α→Bool):∀ l m:List α,(∀ x∈l,∀ y∈m,q x y=decide (x=y))→eqR q l m=decide (l=m)
 | [],[],_=>by simp[eqR]
 | [],_::_,_=>by simp[eqR]
 | _::_,[],_=>by simp[eqR]
 | x::l,y::m,h=>by
  rw[eqR,h x (by simp) y (by simp),aIR q l m (fun a ha b hb=>h a (by simp[ha]) b (by simp[hb])),ca]
  simp
def aoo {P:Program} {T:TT} {t:Nat} {u:Option TypeDesc} {cs ds:List C} {b:Bool} (h:adX P T t cs ds=some b):gY P T t u .eql (.of (.agg cs)) (.of (.agg ds))=out (aG b)∧gY P T t u .neq (.of (.agg cs)) (.of (.agg ds))=out (aG (!b)):=by
 constructor
 .simp only[gY,gk,X.rd,ahI,h]
  rfl
 .simp only[gY,gk,X.rd,ahI,h]
  rfl
def aCf (a c:V):(a.k=c.k∧a.n=c.n∧a.s=c.s)=(a=c):=by
 apply propext
 constructor
 .rintro⟨h1,h2,h3⟩
  cases a;cases c
  simp only at h1 h2 h3
  rw[h1,h2,h3]
 .rintro rfl;exact⟨rfl,rfl,rfl⟩
def aZk (a c:Cd):(a.nm=c.nm∧a.ty=c.ty∧a.nn=c.nn)=(a=c):=by
 apply propext
 constructor
 .rintro⟨h1,h2,h3⟩
  cases a;cases c
  simp only at h1 h2 h3
  rw[h1,h2,h3]
 .rintro rfl;exact⟨rfl,rfl,rfl⟩
def aUY (a c:Od):(a.nm=c.nm∧a.pl=c.pl∧a.dn=c.dn)=(a=c):=by
 apply propext
 constructor
 .rintro⟨h1,h2,h3⟩
  cases a;cases c
  simp only at h1 h2 h3
  rw[h1,h2,h3]
 .rintro rfl;exact⟨rfl,rfl,rfl⟩
def aWH:Tryz.prog.stoodInHeld 43=false:=by kernel_rfl
def aRB:Tryz.prog.eqGuardType Tryz.prog.depth 43=false:=by kernel_rfl
def aRA:Tryz.prog.stoodInHeld 56=false:=by kernel_rfl
def aLy:Tryz.prog.eqGuardType Tryz.prog.depth 56=false:=by kernel_rfl
def aRz:Tryz.prog.stoodInHeld 64=false:=by kernel_rfl
def aLx:Tryz.prog.eqGuardType Tryz.prog.depth 64=false:=by kernel_rfl
def arV (x y:V):adX Tryz.prog (TT.of Tryz.prog) 43 (acC x) (acC y)=some (decide (x=y)):=by
 simp only[adX,T43,aWH,aRB,db,aA,acC,ade,T3,T9,bH,ajv,aia,← aCf]
 by_cases h1:x.k=y.k
 .by_cases h2:x.n=y.n
  .by_cases h3:x.s=y.s
   .simp[h1,h2,h3]
   .simp[h1,h2,h3]
  .simp[h1,h2]
 .simp[h1]
def aDX (x y:Cd):adX Tryz.prog (TT.of Tryz.prog) 56 (cdC x) (cdC y)=some (decide (x=y)):=by
 simp only[adX,T56,aRA,aLy,db,aA,aj5,ade,T3,T9,T4,bH,ajv,aia,← aZk]
 by_cases h1:x.nm=y.nm
 .by_cases h2:x.ty=y.ty
  .by_cases h3:x.nn=y.nn
   .simp[h1,h2,h3]
   .simp[h1,h2,h3]
  .simp[h1,h2]
 .simp[h1,bW]
def aIQ (x y:Od):adX Tryz.prog (TT.of Tryz.prog) 64 (odC x) (odC y)=some (decide (x=y)):=by
 simp only[adX,T64,aRz,aLx,db,aA,ajP,ade,T3,T9,T4,bH,ajv,aia,← aUY]
 by_cases h1:x.nm=y.nm
 .by_cases h2:x.pl=y.pl
  .by_cases h3:x.dn=y.dn
   .simp[h1,h2,h3]
   .simp[h1,h2,h3]
  .simp[h1,h2]
 .simp[h1,bW]
def cd:=fun (u:Option TypeDesc) (x y:V)=>aoo (u:=u) (arV x y)
def aDW:=fun (u:Option TypeDesc) (x y:Cd)=>aoo (u:=u) (aDX x y)
def aIP:=fun (u:Option TypeDesc) (x y:Od)=>aoo (u:=u) (aIQ x y)
def szP (a:Nat×Nat):Sz:=⟨a.1,a.2⟩
def aoR (a:Nat×Nat):(szP a).nd=a.1:=rfl
def aoS (a:Nat×Nat):(szP a).dp=a.2:=rfl
def FnS {α:Type} (A:α→C) (g:Nat) (cp:List C) (w:α→Nat×Nat) (l:List α):Prop:=bh g=false∧ak Tryz.prog g=true∧∀ x∈l,G1 g (.of (A x)::cp.map .of) (.of (.agg (szC (szP (w x)))))
def acY {α:Type} (w:α→Nat×Nat) (x:α) (r:List α):bl w (x::r)=bx (w x) (bl w r):=rfl
def ake (a b:Nat×Nat):(bx a b).1=a.1+b.1:=rfl
def bu {α:Type} (l:List α) (a b:Int) (p:α→Bool):Bool:=decide (a≤(l.length:Int))&&decide ((l.length:Int)≤b)&&l.all p
def adK {α:Type} (p:α→Bool) (l:List α):l.any (fun x=>!p x)=!l.all p:=by
 induction l with
 | nil=>rfl
 | cons x r ih=>simp[afj,acf,ih]
def amO:=ai (ai @zq (ai @aep @acl)) (ai @zT0 (ai @ayJ (ba aN5)))
def asF (l:List Cd) (p:Cd→Bool) (g:Nat) (cp:List C) (h:l.length≤4611686018427387903∧FnB (fun x=>.agg (cdC x)) g cp p l):G1 232 [.of (slC cdC l),.of (.fn g cp)] (aU (ja p l)):=by
 obtain⟨hl,ho,hc,hg⟩:=h
 refine ah rfl aN5 ayJ rfl ?_
 simp -implicitDefEqProofs(maxSteps:=9^9)only[Tryz.f232,↓zA,sevalprocAttr,amO,ho]
 refine bX l.length (fun k s=>s.fr 0=.of (slC cdC l)∧s.fr 1=.of (.fn g cp)∧s.fr 7=aU l.length∧s.fr 8=aU k∧s.objs=[]∧ja p l=im p k (l.drop k)) ?_ ?_
 .simp -implicitDefEqProofs(maxSteps:=9^9)only[Tryz.f232,↓zA,sevalprocAttr,amO]
  exact rfl
 .rintro k s hk ⟨f0,f1,f7,f8,hob,E⟩
  rcases ap k l.length with c1|c1
  .have hw:=cF k (by omega)
   have hx:=fun K=>aN.k (hg l[k] (ay c1)) K
   rw[cN c1,im] at E
   simp -implicitDefEqProofs(maxSteps:=9^9)only[Tryz.f232,↓zA,sevalprocAttr,amO,f0,f1,f7,f8,hob,ho,hc,aK,c1,bq c1,hw,hx]
   by_cases c2:p l[k]=true
   .simp only[c2,aA] at E
    simp -implicitDefEqProofs(maxSteps:=9^9)only[Tryz.f232,↓zA,sevalprocAttr,amO,c2,E]
   .simp only[c2,aW,aQ] at E
    simp -implicitDefEqProofs(maxSteps:=9^9)only[Tryz.f232,↓zA,sevalprocAttr,amO,c2,E]
  .have e:k=l.length:=by omega
   subst e
   rw[aw,im] at E
   simp -implicitDefEqProofs(maxSteps:=9^9)only[Tryz.f232,↓zA,sevalprocAttr,amO,f0,f1,f7,f8,hob,aK,au,E]
def aEY (l:List Cd) (p:Cd→Bool) (g:Nat) (cp:List C) (h:l.length≤4611686018427387903∧FnB (fun x=>.agg (cdC x)) g cp p l) (K:An→Prop):bp Tryz.prog pr 232 [.of (slC cdC l),.of (.fn g cp)] [] K↔K ⟨false,[aU (ja p l)],[]⟩:=aN.k (asF l p g cp h) K
def amL:=ai (ai @zq (ai @cR @ey)) (ai @zT0 (ai @ayG (ba aN2)))
def axU (l:List Xp) (p:Xp→Bool) (g:Nat) (cp:List C) (h:l.length≤4611686018427387903∧FnB (fun x=>.agg (xpC x)) g cp p l):G1 235 [.of (slC xpC l),.of (.fn g cp)] (aU (ja p l)):=by
 obtain⟨hl,ho,hc,hg⟩:=h
 refine ah rfl aN2 ayG rfl ?_
 simp -implicitDefEqProofs(maxSteps:=9^9)only[Tryz.f235,↓zA,sevalprocAttr,amL,ho]
 refine bX l.length (fun k s=>s.fr 0=.of (slC xpC l)∧s.fr 1=.of (.fn g cp)∧s.fr 7=aU l.length∧s.fr 8=aU k∧s.objs=[]∧ja p l=im p k (l.drop k)) ?_ ?_
 .simp -implicitDefEqProofs(maxSteps:=9^9)only[Tryz.f235,↓zA,sevalprocAttr,amL]
  exact rfl
 .rintro k s hk ⟨f0,f1,f7,f8,hob,E⟩
  rcases ap k l.length with c1|c1
  .have hw:=cF k (by omega)
   have hx:=fun K=>aN.k (hg l[k] (ay c1)) K
   rw[cN c1,im] at E
   simp -implicitDefEqProofs(maxSteps:=9^9)only[Tryz.f235,↓zA,sevalprocAttr,amL,f0,f1,f7,f8,hob,ho,hc,aK,c1,bq c1,hw,hx]
   by_cases c2:p l[k]=true
   .simp only[c2,aA] at E
    simp -implicitDefEqProofs(maxSteps:=9^9)only[Tryz.f235,↓zA,sevalprocAttr,amL,c2,E]
   .simp only[c2,aW,aQ] at E
    simp -implicitDefEqProofs(maxSteps:=9^9)only[Tryz.f235,↓zA,sevalprocAttr,amL,c2,E]
  .have e:k=l.length:=by omega
   subst e
   rw[aw,im] at E
   simp -implicitDefEqProofs(maxSteps:=9^9)only[Tryz.f235,↓zA,sevalprocAttr,amL,f0,f1,f7,f8,hob,aK,au,E]
def aMz (l:List Xp) (p:Xp→Bool) (g:Nat) (cp:List C) (h:l.length≤4611686018427387903∧FnB (fun x=>.agg (xpC x)) g cp p l) (K:An→Prop):bp Tryz.prog pr 235 [.of (slC xpC l),.of (.fn g cp)] [] K↔K ⟨false,[aU (ja p l)],[]⟩:=aN.k (axU l p g cp h) K
def amM:=ai (ai @zq (ai @aeo @ac3)) (ai @zT0 (ai @ayH (ba aN3)))
def asD (l:List Rd) (p:Rd→Bool) (g:Nat) (cp:List C) (h:l.length≤4611686018427387903∧FnB (fun x=>.agg (rdC x)) g cp p l):G1 234 [.of (slC rdC l),.of (.fn g cp)] (aU (ja p l)):=by
 obtain⟨hl,ho,hc,hg⟩:=h
 refine ah rfl aN3 ayH rfl ?_
 simp -implicitDefEqProofs(maxSteps:=9^9)only[Tryz.f234,↓zA,sevalprocAttr,amM,ho]
 refine bX l.length (fun k s=>s.fr 0=.of (slC rdC l)∧s.fr 1=.of (.fn g cp)∧s.fr 7=aU l.length∧s.fr 8=aU k∧s.objs=[]∧ja p l=im p k (l.drop k)) ?_ ?_
 .simp -implicitDefEqProofs(maxSteps:=9^9)only[Tryz.f234,↓zA,sevalprocAttr,amM]
  exact rfl
 .rintro k s hk ⟨f0,f1,f7,f8,hob,E⟩
  rcases ap k l.length with c1|c1
  .have hw:=cF k (by omega)
   have hx:=fun K=>aN.k (hg l[k] (ay c1)) K
   rw[cN c1,im] at E
   simp -implicitDefEqProofs(maxSteps:=9^9)only[Tryz.f234,↓zA,sevalprocAttr,amM,f0,f1,f7,f8,hob,ho,hc,aK,c1,bq c1,hw,hx]
   by_cases c2:p l[k]=true
   .simp only[c2,aA] at E
    simp -implicitDefEqProofs(maxSteps:=9^9)only[Tryz.f234,↓zA,sevalprocAttr,amM,c2,E]
   .simp only[c2,aW,aQ] at E
    simp -implicitDefEqProofs(maxSteps:=9^9)only[Tryz.f234,↓zA,sevalprocAttr,amM,c2,E]
  .have e:k=l.length:=by omega
   subst e
   rw[aw,im] at E
   simp -implicitDefEqProofs(maxSteps:=9^9)only[Tryz.f234,↓zA,sevalprocAttr,amM,f0,f1,f7,f8,hob,aK,au,E]
def aEW (l:List Rd) (p:Rd→Bool) (g:Nat) (cp:List C) (h:l.length≤4611686018427387903∧FnB (fun x=>.agg (rdC x)) g cp p l) (K:An→Prop):bp Tryz.prog pr 234 [.of (slC rdC l),.of (.fn g cp)] [] K↔K ⟨false,[aU (ja p l)],[]⟩:=aN.k (asD l p g cp h) K
def amN:=ai (ai @zq (ai @adN @ack)) (ai @zT0 (ai @ayI (ba aN4)))
def asE (l:List Kd) (p:Kd→Bool) (g:Nat) (cp:List C) (h:l.length≤4611686018427387903∧FnB (fun x=>.agg (kdC x)) g cp p l):G1 233 [.of (slC kdC l),.of (.fn g cp)] (aU (ja p l)):=by
 obtain⟨hl,ho,hc,hg⟩:=h
 refine ah rfl aN4 ayI rfl ?_
 simp -implicitDefEqProofs(maxSteps:=9^9)only[Tryz.f233,↓zA,sevalprocAttr,amN,ho]
 refine bX l.length (fun k s=>s.fr 0=.of (slC kdC l)∧s.fr 1=.of (.fn g cp)∧s.fr 7=aU l.length∧s.fr 8=aU k∧s.objs=[]∧ja p l=im p k (l.drop k)) ?_ ?_
 .simp -implicitDefEqProofs(maxSteps:=9^9)only[Tryz.f233,↓zA,sevalprocAttr,amN]
  exact rfl
 .rintro k s hk ⟨f0,f1,f7,f8,hob,E⟩
  rcases ap k l.length with c1|c1
  .have hw:=cF k (by omega)
   have hx:=fun K=>aN.k (hg l[k] (ay c1)) K
   rw[cN c1,im] at E
   simp -implicitDefEqProofs(maxSteps:=9^9)only[Tryz.f233,↓zA,sevalprocAttr,amN,f0,f1,f7,f8,hob,ho,hc,aK,c1,bq c1,hw,hx]
   by_cases c2:p l[k]=true
   .simp only[c2,aA] at E
    simp -implicitDefEqProofs(maxSteps:=9^9)only[Tryz.f233,↓zA,sevalprocAttr,amN,c2,E]
   .simp only[c2,aW,aQ] at E
    simp -implicitDefEqProofs(maxSteps:=9^9)only[Tryz.f233,↓zA,sevalprocAttr,amN,c2,E]
  .have e:k=l.length:=by omega
   subst e
   rw[aw,im] at E
   simp -implicitDefEqProofs(maxSteps:=9^9)only[Tryz.f233,↓zA,sevalprocAttr,amN,f0,f1,f7,f8,hob,aK,au,E]
def aEX (l:List Kd) (p:Kd→Bool) (g:Nat) (cp:List C) (h:l.length≤4611686018427387903∧FnB (fun x=>.agg (kdC x)) g cp p l) (K:An→Prop):bp Tryz.prog pr 233 [.of (slC kdC l),.of (.fn g cp)] [] K↔K ⟨false,[aU (ja p l)],[]⟩:=aN.k (asE l p g cp h) K
def amK:=ai (ai @zq (ai @eY @eI)) (ai @zT0 (ai @ayD (ba aNZ)))
def awt (l:List Qy) (p:Qy→Bool) (g:Nat) (cp:List C) (h:l.length≤4611686018427387903∧FnB (fun x=>.agg (qyC x)) g cp p l):G1 238 [.of (slC qyC l),.of (.fn g cp)] (aU (ja p l)):=by
 obtain⟨hl,ho,hc,hg⟩:=h
 refine ah rfl aNZ ayD rfl ?_
 simp -implicitDefEqProofs(maxSteps:=9^9)only[Tryz.f238,↓zA,sevalprocAttr,amK,ho]
 refine bX l.length (fun k s=>s.fr 0=.of (slC qyC l)∧s.fr 1=.of (.fn g cp)∧s.fr 7=aU l.length∧s.fr 8=aU k∧s.objs=[]∧ja p l=im p k (l.drop k)) ?_ ?_
 .simp -implicitDefEqProofs(maxSteps:=9^9)only[Tryz.f238,↓zA,sevalprocAttr,amK]
  exact rfl
 .rintro k s hk ⟨f0,f1,f7,f8,hob,E⟩
  rcases ap k l.length with c1|c1
  .have hw:=cF k (by omega)
   have hx:=fun K=>aN.k (hg l[k] (ay c1)) K
   rw[cN c1,im] at E
   simp -implicitDefEqProofs(maxSteps:=9^9)only[Tryz.f238,↓zA,sevalprocAttr,amK,f0,f1,f7,f8,hob,ho,hc,aK,c1,bq c1,hw,hx]
   by_cases c2:p l[k]=true
   .simp only[c2,aA] at E
    simp -implicitDefEqProofs(maxSteps:=9^9)only[Tryz.f238,↓zA,sevalprocAttr,amK,c2,E]
   .simp only[c2,aW,aQ] at E
    simp -implicitDefEqProofs(maxSteps:=9^9)only[Tryz.f238,↓zA,sevalprocAttr,amK,c2,E]
  .have e:k=l.length:=by omega
   subst e
   rw[aw,im] at E
   simp -implicitDefEqProofs(maxSteps:=9^9)only[Tryz.f238,↓zA,sevalprocAttr,amK,f0,f1,f7,f8,hob,aK,au,E]
def aJB (l:List Qy) (p:Qy→Bool) (g:Nat) (cp:List C) (h:l.length≤4611686018427387903∧FnB (fun x=>.agg (qyC x)) g cp p l) (K:An→Prop):bp Tryz.prog pr 238 [.of (slC qyC l),.of (.fn g cp)] [] K↔K ⟨false,[aU (ja p l)],[]⟩:=aN.k (awt l p g cp h) K
def amJ:=ai (ai @zq (ai @cR @ie)) (ai @zT0 (ai @ayC (ba aNX)))
def arh (l:List (List Xp)) (p:(List Xp)→Bool) (g:Nat) (cp:List C) (h:l.length≤4611686018427387903∧FnB (slC xpC) g cp p l):G1 239 [.of (slC (lsC xpC) l),.of (.fn g cp)] (aU (ja p l)):=by
 obtain⟨hl,ho,hc,hg⟩:=h
 refine ah rfl aNX ayC rfl ?_
 simp -implicitDefEqProofs(maxSteps:=9^9)only[Tryz.f239,↓zA,sevalprocAttr,amJ,ho]
 refine bX l.length (fun k s=>s.fr 0=.of (slC (lsC xpC) l)∧s.fr 1=.of (.fn g cp)∧s.fr 7=aU l.length∧s.fr 8=aU k∧s.objs=[]∧ja p l=im p k (l.drop k)) ?_ ?_
 .simp -implicitDefEqProofs(maxSteps:=9^9)only[Tryz.f239,↓zA,sevalprocAttr,amJ]
  exact rfl
 .rintro k s hk ⟨f0,f1,f7,f8,hob,E⟩
  rcases ap k l.length with c1|c1
  .have hw:=cF k (by omega)
   have hx:=fun K=>aN.k (hg l[k] (ay c1)) K
   rw[cN c1,im] at E
   simp -implicitDefEqProofs(maxSteps:=9^9)only[Tryz.f239,↓zA,sevalprocAttr,amJ,f0,f1,f7,f8,hob,ho,hc,aK,c1,bq c1,hw,hx]
   by_cases c2:p l[k]=true
   .simp only[c2,aA] at E
    simp -implicitDefEqProofs(maxSteps:=9^9)only[Tryz.f239,↓zA,sevalprocAttr,amJ,c2,E]
   .simp only[c2,aW,aQ] at E
    simp -implicitDefEqProofs(maxSteps:=9^9)only[Tryz.f239,↓zA,sevalprocAttr,amJ,c2,E]
  .have e:k=l.length:=by omega
   subst e
   rw[aw,im] at E
   simp -implicitDefEqProofs(maxSteps:=9^9)only[Tryz.f239,↓zA,sevalprocAttr,amJ,f0,f1,f7,f8,hob,aK,au,E]
def axV (l:List (List Xp)) (p:(List Xp)→Bool) (g:Nat) (cp:List C) (h:l.length≤4611686018427387903∧FnB (slC xpC) g cp p l) (K:An→Prop):bp Tryz.prog pr 239 [.of (slC (lsC xpC) l),.of (.fn g cp)] [] K↔K ⟨false,[aU (ja p l)],[]⟩:=aN.k (arh l p g cp h) K
def amI:=ai (ai @zq (ai @abO @abP)) (ai @zT0 (ai @ayB (ba aNW)))
def asG (l:List As) (p:As→Bool) (g:Nat) (cp:List C) (h:l.length≤4611686018427387903∧FnB (fun x=>.agg (asC x)) g cp p l):G1 240 [.of (slC asC l),.of (.fn g cp)] (aU (ja p l)):=by
 obtain⟨hl,ho,hc,hg⟩:=h
 refine ah rfl aNW ayB rfl ?_
 simp -implicitDefEqProofs(maxSteps:=9^9)only[Tryz.f240,↓zA,sevalprocAttr,amI,ho]
 refine bX l.length (fun k s=>s.fr 0=.of (slC asC l)∧s.fr 1=.of (.fn g cp)∧s.fr 7=aU l.length∧s.fr 8=aU k∧s.objs=[]∧ja p l=im p k (l.drop k)) ?_ ?_
 .simp -implicitDefEqProofs(maxSteps:=9^9)only[Tryz.f240,↓zA,sevalprocAttr,amI]
  exact rfl
 .rintro k s hk ⟨f0,f1,f7,f8,hob,E⟩
  rcases ap k l.length with c1|c1
  .have hw:=cF k (by omega)
   have hx:=fun K=>aN.k (hg l[k] (ay c1)) K
   rw[cN c1,im] at E
   simp -implicitDefEqProofs(maxSteps:=9^9)only[Tryz.f240,↓zA,sevalprocAttr,amI,f0,f1,f7,f8,hob,ho,hc,aK,c1,bq c1,hw,hx]
   by_cases c2:p l[k]=true
   .simp only[c2,aA] at E
    simp -implicitDefEqProofs(maxSteps:=9^9)only[Tryz.f240,↓zA,sevalprocAttr,amI,c2,E]
   .simp only[c2,aW,aQ] at E
    simp -implicitDefEqProofs(maxSteps:=9^9)only[Tryz.f240,↓zA,sevalprocAttr,amI,c2,E]
  .have e:k=l.length:=by omega
   subst e
   rw[aw,im] at E
   simp -implicitDefEqProofs(maxSteps:=9^9)only[Tryz.f240,↓zA,sevalprocAttr,amI,f0,f1,f7,f8,hob,aK,au,E]
def aEZ (l:List As) (p:As→Bool) (g:Nat) (cp:List C) (h:l.length≤4611686018427387903∧FnB (fun x=>.agg (asC x)) g cp p l) (K:An→Prop):bp Tryz.prog pr 240 [.of (slC asC l),.of (.fn g cp)] [] K↔K ⟨false,[aU (ja p l)],[]⟩:=aN.k (asG l p g cp h) K
def amD:=ai (ai @zq (ai @bO @Q9)) (ai @zT0 (ai @aym (ba aNH)))
def asB (l:List (List UInt8)) (p:(List UInt8)→Bool) (g:Nat) (cp:List C) (h:l.length≤4611686018427387903∧FnB (fun x=>aH (aD x)) g cp p l):G1 262 [.of (slC bA l),.of (.fn g cp)] (aU (ja p l)):=by
 obtain⟨hl,ho,hc,hg⟩:=h
 refine ah rfl aNH aym rfl ?_
 simp -implicitDefEqProofs(maxSteps:=9^9)only[Tryz.f262,↓zA,sevalprocAttr,amD,ho]
 refine bX l.length (fun k s=>s.fr 0=.of (slC bA l)∧s.fr 1=.of (.fn g cp)∧s.fr 7=aU l.length∧s.fr 8=aU k∧s.objs=[]∧ja p l=im p k (l.drop k)) ?_ ?_
 .simp -implicitDefEqProofs(maxSteps:=9^9)only[Tryz.f262,↓zA,sevalprocAttr,amD]
  exact rfl
 .rintro k s hk ⟨f0,f1,f7,f8,hob,E⟩
  rcases ap k l.length with c1|c1
  .have hw:=cF k (by omega)
   have hx:=fun K=>aN.k (hg l[k] (ay c1)) K
   rw[cN c1,im] at E
   simp -implicitDefEqProofs(maxSteps:=9^9)only[Tryz.f262,↓zA,sevalprocAttr,amD,f0,f1,f7,f8,hob,ho,hc,aK,c1,bq c1,hw,hx]
   by_cases c2:p l[k]=true
   .simp only[c2,aA] at E
    simp -implicitDefEqProofs(maxSteps:=9^9)only[Tryz.f262,↓zA,sevalprocAttr,amD,c2,E]
   .simp only[c2,aW,aQ] at E
    simp -implicitDefEqProofs(maxSteps:=9^9)only[Tryz.f262,↓zA,sevalprocAttr,amD,c2,E]
  .have e:k=l.length:=by omega
   subst e
   rw[aw,im] at E
   simp -implicitDefEqProofs(maxSteps:=9^9)only[Tryz.f262,↓zA,sevalprocAttr,amD,f0,f1,f7,f8,hob,aK,au,E]
def aEV (l:List (List UInt8)) (p:(List UInt8)→Bool) (g:Nat) (cp:List C) (h:l.length≤4611686018427387903∧FnB (fun x=>aH (aD x)) g cp p l) (K:An→Prop):bp Tryz.prog pr 262 [.of (slC bA l),.of (.fn g cp)] [] K↔K ⟨false,[aU (ja p l)],[]⟩:=aN.k (asB l p g cp h) K
def amH:=ai (ai @zq (ai @acL @abV)) (ai @zT0 (ai @ayt (ba aNO)))
def awu (l:List Od) (p:Od→Bool) (g:Nat) (cp:List C) (h:l.length≤4611686018427387903∧FnB (fun x=>.agg (odC x)) g cp p l):G1 249 [.of (slC odC l),.of (.fn g cp)] (aU (ja p l)):=by
 obtain⟨hl,ho,hc,hg⟩:=h
 refine ah rfl aNO ayt rfl ?_
 simp -implicitDefEqProofs(maxSteps:=9^9)only[Tryz.f249,↓zA,sevalprocAttr,amH,ho]
 refine bX l.length (fun k s=>s.fr 0=.of (slC odC l)∧s.fr 1=.of (.fn g cp)∧s.fr 7=aU l.length∧s.fr 8=aU k∧s.objs=[]∧ja p l=im p k (l.drop k)) ?_ ?_
 .simp -implicitDefEqProofs(maxSteps:=9^9)only[Tryz.f249,↓zA,sevalprocAttr,amH]
  exact rfl
 .rintro k s hk ⟨f0,f1,f7,f8,hob,E⟩
  rcases ap k l.length with c1|c1
  .have hw:=cF k (by omega)
   have hx:=fun K=>aN.k (hg l[k] (ay c1)) K
   rw[cN c1,im] at E
   simp -implicitDefEqProofs(maxSteps:=9^9)only[Tryz.f249,↓zA,sevalprocAttr,amH,f0,f1,f7,f8,hob,ho,hc,aK,c1,bq c1,hw,hx]
   by_cases c2:p l[k]=true
   .simp only[c2,aA] at E
    simp -implicitDefEqProofs(maxSteps:=9^9)only[Tryz.f249,↓zA,sevalprocAttr,amH,c2,E]
   .simp only[c2,aW,aQ] at E
    simp -implicitDefEqProofs(maxSteps:=9^9)only[Tryz.f249,↓zA,sevalprocAttr,amH,c2,E]
  .have e:k=l.length:=by omega
   subst e
   rw[aw,im] at E
   simp -implicitDefEqProofs(maxSteps:=9^9)only[Tryz.f249,↓zA,sevalprocAttr,amH,f0,f1,f7,f8,hob,aK,au,E]
def aJC (l:List Od) (p:Od→Bool) (g:Nat) (cp:List C) (h:l.length≤4611686018427387903∧FnB (fun x=>.agg (odC x)) g cp p l) (K:An→Prop):bp Tryz.prog pr 249 [.of (slC odC l),.of (.fn g cp)] [] K↔K ⟨false,[aU (ja p l)],[]⟩:=aN.k (awu l p g cp h) K
def amG:=ai (ai @zq (ai @abb @ab7)) (ai @zT0 (ai @ays (ba aNN)))
def axS (l:List Im) (p:Im→Bool) (g:Nat) (cp:List C) (h:l.length≤4611686018427387903∧FnB (fun x=>.agg (imC x)) g cp p l):G1 250 [.of (slC imC l),.of (.fn g cp)] (aU (ja p l)):=by
 obtain⟨hl,ho,hc,hg⟩:=h
 refine ah rfl aNN ays rfl ?_
 simp -implicitDefEqProofs(maxSteps:=9^9)only[Tryz.f250,↓zA,sevalprocAttr,amG,ho]
 refine bX l.length (fun k s=>s.fr 0=.of (slC imC l)∧s.fr 1=.of (.fn g cp)∧s.fr 7=aU l.length∧s.fr 8=aU k∧s.objs=[]∧ja p l=im p k (l.drop k)) ?_ ?_
 .simp -implicitDefEqProofs(maxSteps:=9^9)only[Tryz.f250,↓zA,sevalprocAttr,amG]
  exact rfl
 .rintro k s hk ⟨f0,f1,f7,f8,hob,E⟩
  rcases ap k l.length with c1|c1
  .have hw:=cF k (by omega)
   have hx:=fun K=>aN.k (hg l[k] (ay c1)) K
   rw[cN c1,im] at E
   simp -implicitDefEqProofs(maxSteps:=9^9)only[Tryz.f250,↓zA,sevalprocAttr,amG,f0,f1,f7,f8,hob,ho,hc,aK,c1,bq c1,hw,hx]
   by_cases c2:p l[k]=true
   .simp only[c2,aA] at E
    simp -implicitDefEqProofs(maxSteps:=9^9)only[Tryz.f250,↓zA,sevalprocAttr,amG,c2,E]
   .simp only[c2,aW,aQ] at E
    simp -implicitDefEqProofs(maxSteps:=9^9)only[Tryz.f250,↓zA,sevalprocAttr,amG,c2,E]
  .have e:k=l.length:=by omega
   subst e
   rw[aw,im] at E
   simp -implicitDefEqProofs(maxSteps:=9^9)only[Tryz.f250,↓zA,sevalprocAttr,amG,f0,f1,f7,f8,hob,aK,au,E]
def aMx (l:List Im) (p:Im→Bool) (g:Nat) (cp:List C) (h:l.length≤4611686018427387903∧FnB (fun x=>.agg (imC x)) g cp p l) (K:An→Prop):bp Tryz.prog pr 250 [.of (slC imC l),.of (.fn g cp)] [] K↔K ⟨false,[aU (ja p l)],[]⟩:=aN.k (axS l p g cp h) K
def amF:=ai (ai @zq (ai @jq @iU)) (ai @zT0 (ai @ayr (ba aNM)))
def axT (l:List Fm) (p:Fm→Bool) (g:Nat) (cp:List C) (h:l.length≤4611686018427387903∧FnB (fun x=>.agg (fmC x)) g cp p l):G1 251 [.of (slC fmC l),.of (.fn g cp)] (aU (ja p l)):=by
 obtain⟨hl,ho,hc,hg⟩:=h
 refine ah rfl aNM ayr rfl ?_
 simp -implicitDefEqProofs(maxSteps:=9^9)only[Tryz.f251,↓zA,sevalprocAttr,amF,ho]
 refine bX l.length (fun k s=>s.fr 0=.of (slC fmC l)∧s.fr 1=.of (.fn g cp)∧s.fr 7=aU l.length∧s.fr 8=aU k∧s.objs=[]∧ja p l=im p k (l.drop k)) ?_ ?_
 .simp -implicitDefEqProofs(maxSteps:=9^9)only[Tryz.f251,↓zA,sevalprocAttr,amF]
  exact rfl
 .rintro k s hk ⟨f0,f1,f7,f8,hob,E⟩
  rcases ap k l.length with c1|c1
  .have hw:=cF k (by omega)
   have hx:=fun K=>aN.k (hg l[k] (ay c1)) K
   rw[cN c1,im] at E
   simp -implicitDefEqProofs(maxSteps:=9^9)only[Tryz.f251,↓zA,sevalprocAttr,amF,f0,f1,f7,f8,hob,ho,hc,aK,c1,bq c1,hw,hx]
   by_cases c2:p l[k]=true
   .simp only[c2,aA] at E
    simp -implicitDefEqProofs(maxSteps:=9^9)only[Tryz.f251,↓zA,sevalprocAttr,amF,c2,E]
   .simp only[c2,aW,aQ] at E
    simp -implicitDefEqProofs(maxSteps:=9^9)only[Tryz.f251,↓zA,sevalprocAttr,amF,c2,E]
  .have e:k=l.length:=by omega
   subst e
   rw[aw,im] at E
   simp -implicitDefEqProofs(maxSteps:=9^9)only[Tryz.f251,↓zA,sevalprocAttr,amF,f0,f1,f7,f8,hob,aK,au,E]
def aMy (l:List Fm) (p:Fm→Bool) (g:Nat) (cp:List C) (h:l.length≤4611686018427387903∧FnB (fun x=>.agg (fmC x)) g cp p l) (K:An→Prop):bp Tryz.prog pr 251 [.of (slC fmC l),.of (.fn g cp)] [] K↔K ⟨false,[aU (ja p l)],[]⟩:=aN.k (axT l p g cp h) K
end Go.Proofs.YtemdljoideegeaaGreatDoor

/-
  Chapter 9's document: a statement. Conditions: none.
-/
import Derived.Test.YtemdljoideegeaaGreatDoorPa18
set_option linter.defProp false
set_option linter.unusedSectionVars false
set_option maxRecDepth 100000
set_option maxHeartbeats 64000000
namespace Go.Proofs.YtemdljoideegeaaGreatDoor
open Go Go.Pe Go.Tab
def aab (u:Option TypeDesc) (v:V):gY Tryz.prog (TT.of Tryz.prog) 43 u .eql (.of (.agg (acC v))) (.agg [.of (ci 0),.of (ci 0),.of (aH {data:=#[]})])=out (aG (decide (v=jz))):=by
 have h:=arV v jz
 have e:acC jz=[ci 0,ci 0,aH {data:=#[]}]:=rfl
 rw[e] at h
 have hr:(X.agg [.of (ci 0),.of (ci 0),.of (aH {data:=#[]})]).rd=some (.agg [ci 0,ci 0,aH {data:=#[]}]):=rfl
 simp only[gY,gk,hr]
 simp only[X.rd,ahI,h]
 rfl
def ah7 (op:Int):Int×Int:=match fw op with
 | some (a,b,_)=>(a,b)
 | none=>(-1,-1)
def aBZ:=ai (ai @zq @zT0) (ai @aqO (ba aDS))
def aHi (op:Int):GN 176 [aU op] [aU (ah7 op).1,aU (ah7 op).2]:=by
 by_cases h:op=1∨op=2∨op=3∨op=4∨op=5∨op=6∨op=7∨op=8∨op=9∨op=10∨op=11∨op=12∨op=13∨op=14∨op=15∨op=16∨op=17∨op=18∨op=19∨op=20∨op=21∨op=22∨op=23∨op=24∨op=25∨op=26∨op=27∨op=28
 .rcases h with h|h|h|h|h|h|h|h|h|h|h|h|h|h|h|h|h|h|h|h|h|h|h|h|h|h|h|h <;>
  .subst h
   refine ah rfl aDS aqO rfl ?_
   simp -implicitDefEqProofs(maxSteps:=9^9)only[Tryz.f176,↓zA,sevalprocAttr,aBZ,ah7,fw,bo,br,bm,Int.reduceEq]
   try rfl
 .simp only[acn] at h
  have hs:ah7 op=(-1,-1):=by
   have:fw op=none:=by
    unfold fw
    simp only[h,bm,fd,fz,aQ]
    rw[aj (by omega)]
   rw[ah7,this]
  refine ah rfl aDS aqO rfl ?_
  by_cases a1:5≤op
  .have a2:¬op≤20:=by omega
   simp -implicitDefEqProofs(maxSteps:=9^9)only[Tryz.f176,↓zA,sevalprocAttr,aBZ,hs,h,a1,a2,bm]
   try rfl
  .simp -implicitDefEqProofs(maxSteps:=9^9)only[Tryz.f176,↓zA,sevalprocAttr,aBZ,hs,h,a1,bm]
   try rfl
def asV:=ai (ai (ai @zq @a5K) (ai @ad3 (ai @cR @Q9))) (ai (ai @P4 @Q4) (ai @zT0 (ai @ayK (ba aN6))))
def aJr (e:Xp):G1 231 [.of (.agg (xpC e))] (aG (decide (e.v=jz)&&decide (e.tb=[])&&decide (e.nm=[])&&!e.di)):=by
 refine ah rfl aN6 ayK rfl ?_
 by_cases c1:e.v=jz
 .by_cases c2:e.tb=[]
  .by_cases c3:e.nm=[]
   .simp -implicitDefEqProofs(maxSteps:=9^9)only[Tryz.f231,↓zA,sevalprocAttr,asV,aab,aa c1,aa c2,aa c3]
   .simp -implicitDefEqProofs(maxSteps:=9^9)only[Tryz.f231,↓zA,sevalprocAttr,asV,aab,aa c1,aa c2,c3]
  .simp -implicitDefEqProofs(maxSteps:=9^9)only[Tryz.f231,↓zA,sevalprocAttr,asV,aab,aa c1,c2]
 .simp -implicitDefEqProofs(maxSteps:=9^9)only[Tryz.f231,↓zA,sevalprocAttr,asV,aab,c1]
def gM (e:Xp) (K:An→Prop):bp Tryz.prog pr 231 [.of (.agg (xpC e))] [] K↔K ⟨false,[aG (decide (e.v=jz)&&decide (e.tb=[])&&decide (e.nm=[])&&!e.di)],[]⟩:=aN.k (aJr e) K
def i8 (n:Nat):((n:Int)=1)=(n=1):=propext (by omega)
def ahR (op:Int):Nat:=if op=26∨op=27∨op=28 then 1 else 0
def jD (e:Xp):Bool:=decide (e.sb.length=ahR e.op)&&fJ e.op e.v e.tb e.nm e.di e.ks.length
def iX:ahR 26=1:=rfl
def iW:ahR 27=1:=rfl
def iV:ahR 28=1:=rfl
def iT:=ai (ai (ai (ai @zq (ai @a30 @aVp)) (ai @aSr (ai @ahx @agf))) (ai (ai @auI (ai @aqW @aVo)) (ai @aSq (ai @aVn @aSp)))) (ai (ai (ai @eY (ai @ad3 @cR)) (ai @ey (ai @eI @Q3))) (ai (ai @Q9 (ai @P4 @Q4)) (ai @zT0 (ai @azu (ba aOQ)))))
def aKZ (e:Xp) (hl:e.v.s.size≤4611686018427387903):G1 177 [.of (.agg (xpC e))] (aG (jD e)):=by
 refine ah rfl aOQ azu rfl ?_
 by_cases s1:e.op=26∨e.op=27∨e.op=28
 .have hs:ahR e.op=1:=aE s1
  by_cases c0:e.sb.length=1
  .rcases s1 with s1|s1|s1
   .simp -implicitDefEqProofs(maxSteps:=9^9)only[Tryz.f177,↓zA,sevalprocAttr,iT,iX,iW,iV,aab,gM,dc,cH,fZ,fb,hl,cK,i8,e9,jD,fJ,bm,ct,Int.reduceEq,hs,c0,s1,bo,br]
    try rfl
   .simp -implicitDefEqProofs(maxSteps:=9^9)only[Tryz.f177,↓zA,sevalprocAttr,iT,iX,iW,iV,aab,gM,dc,cH,fZ,fb,hl,cK,i8,e9,jD,fJ,bm,ct,Int.reduceEq,hs,c0,s1,bo,br]
    try rfl
   .simp -implicitDefEqProofs(maxSteps:=9^9)only[Tryz.f177,↓zA,sevalprocAttr,iT,iX,iW,iV,aab,gM,dc,cH,fZ,fb,hl,cK,i8,e9,jD,fJ,bm,ct,Int.reduceEq,hs,c0,s1,bo,br]
    try rfl
  .rcases s1 with s1|s1|s1
   .simp -implicitDefEqProofs(maxSteps:=9^9)only[Tryz.f177,↓zA,sevalprocAttr,iT,iX,iW,iV,aab,gM,dc,cH,fZ,fb,hl,cK,i8,e9,jD,fJ,bm,ct,Int.reduceEq,hs,c0,s1,bo,br]
   .simp -implicitDefEqProofs(maxSteps:=9^9)only[Tryz.f177,↓zA,sevalprocAttr,iT,iX,iW,iV,aab,gM,dc,cH,fZ,fb,hl,cK,i8,e9,jD,fJ,bm,ct,Int.reduceEq,hs,c0,s1,bo,br]
   .simp -implicitDefEqProofs(maxSteps:=9^9)only[Tryz.f177,↓zA,sevalprocAttr,iT,iX,iW,iV,aab,gM,dc,cH,fZ,fb,hl,cK,i8,e9,jD,fJ,bm,ct,Int.reduceEq,hs,c0,s1,bo,br]
 have hs:ahR e.op=0:=aj s1
 simp only[acn] at s1
 by_cases c0:e.sb.length=0
 rotate_left
 .simp -implicitDefEqProofs(maxSteps:=9^9)only[Tryz.f177,↓zA,sevalprocAttr,iT,iX,iW,iV,aab,gM,dc,cH,fZ,fb,hl,cK,i8,e9,jD,fJ,bm,ct,Int.reduceEq,hs,c0,s1]
 by_cases o1:e.op=1
 .cases r1:hU e.v
  .simp -implicitDefEqProofs(maxSteps:=9^9)only[Tryz.f177,↓zA,sevalprocAttr,iT,iX,iW,iV,aab,gM,dc,cH,fZ,fb,hl,cK,i8,e9,jD,fJ,bm,ct,Int.reduceEq,hs,c0,s1,aa o1,r1]
  .by_cases r2:e.v.k=2
   .by_cases r3:0≤e.v.n
    .by_cases r4:e.tb=[]
     .by_cases r5:e.nm=[]
      .simp -implicitDefEqProofs(maxSteps:=9^9)only[Tryz.f177,↓zA,sevalprocAttr,iT,iX,iW,iV,aab,gM,dc,cH,fZ,fb,hl,cK,i8,e9,jD,fJ,bm,ct,Int.reduceEq,hs,c0,s1,aa o1,r1,aa r2,r3,aa r4,aa r5]
      .simp -implicitDefEqProofs(maxSteps:=9^9)only[Tryz.f177,↓zA,sevalprocAttr,iT,iX,iW,iV,aab,gM,dc,cH,fZ,fb,hl,cK,i8,e9,jD,fJ,bm,ct,Int.reduceEq,hs,c0,s1,aa o1,r1,aa r2,r3,aa r4,r5]
     .simp -implicitDefEqProofs(maxSteps:=9^9)only[Tryz.f177,↓zA,sevalprocAttr,iT,iX,iW,iV,aab,gM,dc,cH,fZ,fb,hl,cK,i8,e9,jD,fJ,bm,ct,Int.reduceEq,hs,c0,s1,aa o1,r1,aa r2,r3,r4]
    .simp -implicitDefEqProofs(maxSteps:=9^9)only[Tryz.f177,↓zA,sevalprocAttr,iT,iX,iW,iV,aab,gM,dc,cH,fZ,fb,hl,cK,i8,e9,jD,fJ,bm,ct,Int.reduceEq,hs,c0,s1,aa o1,r1,aa r2,r3]
   .by_cases r4:e.tb=[]
    .by_cases r5:e.nm=[]
     .simp -implicitDefEqProofs(maxSteps:=9^9)only[Tryz.f177,↓zA,sevalprocAttr,iT,iX,iW,iV,aab,gM,dc,cH,fZ,fb,hl,cK,i8,e9,jD,fJ,bm,ct,Int.reduceEq,hs,c0,s1,aa o1,r1,r2,aa r4,aa r5,dw]
     .simp -implicitDefEqProofs(maxSteps:=9^9)only[Tryz.f177,↓zA,sevalprocAttr,iT,iX,iW,iV,aab,gM,dc,cH,fZ,fb,hl,cK,i8,e9,jD,fJ,bm,ct,Int.reduceEq,hs,c0,s1,aa o1,r1,r2,aa r4,r5,dw]
    .simp -implicitDefEqProofs(maxSteps:=9^9)only[Tryz.f177,↓zA,sevalprocAttr,iT,iX,iW,iV,aab,gM,dc,cH,fZ,fb,hl,cK,i8,e9,jD,fJ,bm,ct,Int.reduceEq,hs,c0,s1,aa o1,r1,r2,r4,dw]
 .by_cases o2:e.op=2
  .by_cases r1:e.v=jz
   .cases r2:bk e.nm
    .simp -implicitDefEqProofs(maxSteps:=9^9)only[Tryz.f177,↓zA,sevalprocAttr,iT,iX,iW,iV,aab,gM,dc,cH,fZ,fb,hl,cK,i8,e9,jD,fJ,bm,ct,Int.reduceEq,hs,c0,s1,o1,aa o2,aa r1,r2]
    .cases r3:gg e.tb
     .simp -implicitDefEqProofs(maxSteps:=9^9)only[Tryz.f177,↓zA,sevalprocAttr,iT,iX,iW,iV,aab,gM,dc,cH,fZ,fb,hl,cK,i8,e9,jD,fJ,bm,ct,Int.reduceEq,hs,c0,s1,o1,aa o2,aa r1,r2,r3]
     .simp -implicitDefEqProofs(maxSteps:=9^9)only[Tryz.f177,↓zA,sevalprocAttr,iT,iX,iW,iV,aab,gM,dc,cH,fZ,fb,hl,cK,i8,e9,jD,fJ,bm,ct,Int.reduceEq,hs,c0,s1,o1,aa o2,aa r1,r2,r3]
   .simp -implicitDefEqProofs(maxSteps:=9^9)only[Tryz.f177,↓zA,sevalprocAttr,iT,iX,iW,iV,aab,gM,dc,cH,fZ,fb,hl,cK,i8,e9,jD,fJ,bm,ct,Int.reduceEq,hs,c0,s1,o1,aa o2,r1]
  .by_cases o3:e.op=24
   .by_cases r1:e.v=jz
    .by_cases r4:e.tb=[]
     .cases r2:bk e.nm
      .simp -implicitDefEqProofs(maxSteps:=9^9)only[Tryz.f177,↓zA,sevalprocAttr,iT,iX,iW,iV,aab,gM,dc,cH,fZ,fb,hl,cK,i8,e9,jD,fJ,bm,ct,Int.reduceEq,hs,c0,s1,o1,o2,aa o3,aa r1,r2,aa r4]
      .cases r3:aa3 e.nm
       .simp -implicitDefEqProofs(maxSteps:=9^9)only[Tryz.f177,↓zA,sevalprocAttr,iT,iX,iW,iV,aab,gM,dc,cH,fZ,fb,hl,cK,i8,e9,jD,fJ,bm,ct,Int.reduceEq,hs,c0,s1,o1,o2,aa o3,aa r1,r2,aa r4,r3]
       .simp -implicitDefEqProofs(maxSteps:=9^9)only[Tryz.f177,↓zA,sevalprocAttr,iT,iX,iW,iV,aab,gM,dc,cH,fZ,fb,hl,cK,i8,e9,jD,fJ,bm,ct,Int.reduceEq,hs,c0,s1,o1,o2,aa o3,aa r1,r2,aa r4,r3]
     .simp -implicitDefEqProofs(maxSteps:=9^9)only[Tryz.f177,↓zA,sevalprocAttr,iT,iX,iW,iV,aab,gM,dc,cH,fZ,fb,hl,cK,i8,e9,jD,fJ,bm,ct,Int.reduceEq,hs,c0,s1,o1,o2,aa o3,aa r1,r4]
    .simp -implicitDefEqProofs(maxSteps:=9^9)only[Tryz.f177,↓zA,sevalprocAttr,iT,iX,iW,iV,aab,gM,dc,cH,fZ,fb,hl,cK,i8,e9,jD,fJ,bm,ct,Int.reduceEq,hs,c0,s1,o1,o2,aa o3,r1]
   .by_cases o4:e.op=25
    .by_cases r1:e.v=jz
     .by_cases r4:e.tb=[]
      .cases r3:aa3 e.nm
       .simp -implicitDefEqProofs(maxSteps:=9^9)only[Tryz.f177,↓zA,sevalprocAttr,iT,iX,iW,iV,aab,gM,dc,cH,fZ,fb,hl,cK,i8,e9,jD,fJ,bm,ct,Int.reduceEq,hs,c0,s1,o1,o2,o3,aa o4,aa r1,aa r4,r3]
       .by_cases r5:e.ks.length=1
        .simp -implicitDefEqProofs(maxSteps:=9^9)only[Tryz.f177,↓zA,sevalprocAttr,iT,iX,iW,iV,aab,gM,dc,cH,fZ,fb,hl,cK,i8,e9,jD,fJ,bm,ct,Int.reduceEq,hs,c0,s1,o1,o2,o3,aa o4,aa r1,aa r4,r3,aa r5,dw]
        .by_cases r6:e.nm=afB
         .simp -implicitDefEqProofs(maxSteps:=9^9)only[Tryz.f177,↓zA,sevalprocAttr,iT,iX,iW,iV,aab,gM,dc,cH,fZ,fb,hl,cK,i8,e9,jD,fJ,bm,ct,Int.reduceEq,hs,c0,s1,o1,o2,o3,aa o4,aa r1,aa r4,r3,r5,aa r6,dl]
         .simp -implicitDefEqProofs(maxSteps:=9^9)only[Tryz.f177,↓zA,sevalprocAttr,iT,iX,iW,iV,aab,gM,dc,cH,fZ,fb,hl,cK,i8,e9,jD,fJ,bm,ct,Int.reduceEq,hs,c0,s1,o1,o2,o3,aa o4,aa r1,aa r4,r3,r5,r6,dl]
      .simp -implicitDefEqProofs(maxSteps:=9^9)only[Tryz.f177,↓zA,sevalprocAttr,iT,iX,iW,iV,aab,gM,dc,cH,fZ,fb,hl,cK,i8,e9,jD,fJ,bm,ct,Int.reduceEq,hs,c0,s1,o1,o2,o3,aa o4,aa r1,r4]
     .simp -implicitDefEqProofs(maxSteps:=9^9)only[Tryz.f177,↓zA,sevalprocAttr,iT,iX,iW,iV,aab,gM,dc,cH,fZ,fb,hl,cK,i8,e9,jD,fJ,bm,ct,Int.reduceEq,hs,c0,s1,o1,o2,o3,aa o4,r1]
    .simp -implicitDefEqProofs(maxSteps:=9^9)only[Tryz.f177,↓zA,sevalprocAttr,iT,iX,iW,iV,aab,gM,dc,cH,fZ,fb,hl,cK,i8,e9,jD,fJ,bm,ct,Int.reduceEq,hs,c0,s1,o1,o2,o3,o4]
     try rfl
def amA (l:List Xp):Prop:=∀ x∈l,G1 87 [.of (.agg (xpC x))] (aG (cW x))
def arc (l:List Qy):Prop:=∀ x∈l,G1 72 [.of (.agg (qyC x))] (aG (d7 x))
def akv:=ai (ai (ai @zq @ath) (ai @apW @cR)) (ai (ai @ey @zT0) (ai @az8 (ba aPu)))
def adc (l:List Xp) (a b:Int) (hw:lsW xpW l≤WL) (h:amA l):G1 133 [.of (slC xpC l),.of (ci a),.of (ci b)] (aG (bu l a b cW)):=by
 have h1:=da xpW l fun x _=>aaw x
 simp only[WL] at hw
 refine ah rfl aPu az8 rfl ?_
 by_cases a1:a≤(l.length:Int)
 rotate_left
 .simp -implicitDefEqProofs(maxSteps:=9^9)only[Tryz.f133,↓zA,sevalprocAttr,akv,a1,show (l.length:Int)<a from by omega,bu]
 have a1':¬(l.length:Int)<a:=by omega
 by_cases a2:(l.length:Int)≤b
 rotate_left
 .simp -implicitDefEqProofs(maxSteps:=9^9)only[Tryz.f133,↓zA,sevalprocAttr,akv,a1',show b<(l.length:Int) from by omega,a2,bu]
 have a2':¬b<(l.length:Int):=by omega
 have e0:bu l a b cW=l.all cW:=by simp only[bu,a1,a2,bG,aX]
 rw[e0]
 simp -implicitDefEqProofs(maxSteps:=9^9)only[Tryz.f133,↓zA,sevalprocAttr,akv,a1',a2']
 refine bX l.length (fun k t=>t.fr 0=.of (slC xpC l)∧t.fr 7=aU k∧t.objs=[]∧l.all cW=(l.drop k).all cW) ?_ ?_
 .simp -implicitDefEqProofs(maxSteps:=9^9)only[Tryz.f133,↓zA,sevalprocAttr,akv]
  try exact rfl
 .rintro k t hk ⟨f0,f7,ho,E⟩
  rcases ap k l.length with d1|d1
  .have hwk:=cF k (by omega)
   have kx:=fun K=>aN.k (h l[k] (ay d1)) K
   rw[cN d1,adk] at E
   cases d2:cW l[k]
   .rw[d2,aZ] at E
    simp -implicitDefEqProofs(maxSteps:=9^9)only[Tryz.f133,↓zA,sevalprocAttr,akv,f0,f7,ho,aK,d1,bq d1,hwk,kx,d2,E]
   .rw[d2,aX] at E
    simp -implicitDefEqProofs(maxSteps:=9^9)only[Tryz.f133,↓zA,sevalprocAttr,akv,f0,f7,ho,aK,d1,bq d1,hwk,kx,d2,E]
  .have e:k=l.length:=by omega
   subst e
   rw[aw,ff] at E
   simp -implicitDefEqProofs(maxSteps:=9^9)only[Tryz.f133,↓zA,sevalprocAttr,akv,f0,f7,ho,aK,au,E]
def amT:=ai (ai (ai @zq @aNj) (ai @aI9 @eY)) (ai (ai @eI @zT0) (ai @aAa (ba aPw)))
def ags (l:List Qy) (n:Int) (hw:lsW qyW l≤WL) (h:arc l):G1 131 [.of (slC qyC l),.of (ci n)] (aG (decide ((l.length:Int)=n)&&l.all d7)):=by
 have h1:=da qyW l fun x _=>adu x
 simp only[WL] at hw
 refine ah rfl aPw aAa rfl ?_
 by_cases a1:(l.length:Int)=n
 rotate_left
 .simp -implicitDefEqProofs(maxSteps:=9^9)only[Tryz.f131,↓zA,sevalprocAttr,amT,a1]
 simp -implicitDefEqProofs(maxSteps:=9^9)only[Tryz.f131,↓zA,sevalprocAttr,amT,aa a1]
 refine bX l.length (fun k t=>t.fr 0=.of (slC qyC l)∧t.fr 5=aU k∧t.objs=[]∧l.all d7=(l.drop k).all d7) ?_ ?_
 .simp -implicitDefEqProofs(maxSteps:=9^9)only[Tryz.f131,↓zA,sevalprocAttr,amT]
  try exact rfl
 .rintro k t hk ⟨f0,f5,ho,E⟩
  rcases ap k l.length with d1|d1
  .have hwk:=cF k (by omega)
   have kx:=fun K=>aN.k (h l[k] (ay d1)) K
   rw[cN d1,adk] at E
   cases d2:d7 l[k]
   .rw[d2,aZ] at E
    simp -implicitDefEqProofs(maxSteps:=9^9)only[Tryz.f131,↓zA,sevalprocAttr,amT,f0,f5,ho,aK,d1,bq d1,hwk,kx,d2,E]
   .rw[d2,aX] at E
    simp -implicitDefEqProofs(maxSteps:=9^9)only[Tryz.f131,↓zA,sevalprocAttr,amT,f0,f5,ho,aK,d1,bq d1,hwk,kx,d2,E]
  .have e:k=l.length:=by omega
   subst e
   rw[aw,ff] at E
   simp -implicitDefEqProofs(maxSteps:=9^9)only[Tryz.f131,↓zA,sevalprocAttr,amT,f0,f5,ho,aK,au,E]
def aiD (n:Nat):((n:Int)≤64)=(n≤64):=propext (by omega)
def ahZ:=ai (ai (ai @zq @ahx) (ai @agf (ai @acL @abV))) (ai (ai @Q9 @Q3) (ai @zT0 (ai @azM (ba aO8))))
def axc (l:List Od) (hl:l.length≤4611686018427387903):G1 155 [.of (slC odC l)] (aG (l.all iy&&decide (l.length≤64))):=by
 refine ah rfl aO8 azM rfl ?_
 simp -implicitDefEqProofs(maxSteps:=9^9)only[Tryz.f155,↓zA,sevalprocAttr,ahZ]
 refine bX l.length (fun k t=>t.fr 0=.of (slC odC l)∧t.fr 3=aU k∧t.objs=[]∧l.all iy=(l.drop k).all iy) ?_ ?_
 .simp -implicitDefEqProofs(maxSteps:=9^9)only[Tryz.f155,↓zA,sevalprocAttr,ahZ]
  try exact rfl
 .rintro k t hk ⟨f0,f3,ho,E⟩
  rcases ap k l.length with d1|d1
  .have hwk:=cF k (by omega)
   have gx:=bq d1
   rw[cN d1,adk] at E
   generalize l[k]=o at *
   by_cases c0:o.nm=[]
   .have n0:bk o.nm=false:=by rw[c0];rfl
    by_cases c1:1≤o.pl
    .by_cases c2:o.pl≤1000000000000000
     .have F:l.all iy=(l.drop (k+1)).all iy:=by rw[E];simp[iy,aap,c0,c1,c2]
      simp -implicitDefEqProofs(maxSteps:=9^9)only[Tryz.f155,↓zA,sevalprocAttr,ahZ,f0,f3,ho,aK,d1,gx,hwk,dc,n0,aa c0,c1,c2,F]
     .have F:l.all iy=false:=by rw[E];simp[iy,aap,c0,c1,c2]
      simp -implicitDefEqProofs(maxSteps:=9^9)only[Tryz.f155,↓zA,sevalprocAttr,ahZ,f0,f3,ho,aK,d1,gx,hwk,dc,n0,aa c0,c1,c2,F]
    .have F:l.all iy=false:=by rw[E];simp[iy,aap,c0,c1]
     simp -implicitDefEqProofs(maxSteps:=9^9)only[Tryz.f155,↓zA,sevalprocAttr,ahZ,f0,f3,ho,aK,d1,gx,hwk,dc,n0,aa c0,c1,F]
   .cases c1:bk o.nm
    .have F:l.all iy=false:=by rw[E];simp[iy,c0,c1]
     simp -implicitDefEqProofs(maxSteps:=9^9)only[Tryz.f155,↓zA,sevalprocAttr,ahZ,f0,f3,ho,aK,d1,gx,hwk,dc,c0,c1,F]
    .by_cases c2:o.pl=0
     .have F:l.all iy=(l.drop (k+1)).all iy:=by rw[E];simp[iy,c0,c1,c2]
      simp -implicitDefEqProofs(maxSteps:=9^9)only[Tryz.f155,↓zA,sevalprocAttr,ahZ,f0,f3,ho,aK,d1,gx,hwk,dc,c0,c1,aa c2,F]
     .have F:l.all iy=false:=by rw[E];simp[iy,c0,c1,c2]
      simp -implicitDefEqProofs(maxSteps:=9^9)only[Tryz.f155,↓zA,sevalprocAttr,ahZ,f0,f3,ho,aK,d1,gx,hwk,dc,c0,c1,c2,F]
  .have e:k=l.length:=by omega
   subst e
   rw[aw,ff] at E
   simp -implicitDefEqProofs(maxSteps:=9^9)only[Tryz.f155,↓zA,sevalprocAttr,ahZ,f0,f3,ho,aK,au,E,aiD]
def aFv {op:Int} {a b n:Nat} (h:fw op=some (a,b,n)):n=ahR op:=by
 unfold fw at h
 unfold ahR
 split at h
 .simp at h;rw[aj (by omega)];exact h.2.2.symm
 split at h
 .simp at h;rw[aE (by omega)];exact h.2.2.symm
 split at h
 .simp at h;rw[aj (by omega)];exact h.2.2.symm
 split at h
 .simp at h;rw[aE (by omega)];exact h.2.2.symm
 split at h
 .simp at h;rw[aj (by omega)];exact h.2.2.symm
 split at h
 .simp at h;rw[aj (by omega)];exact h.2.2.symm
 split at h
 .simp at h;rw[aj (by omega)];exact h.2.2.symm
 split at h
 .simp at h;rw[aj (by omega)];exact h.2.2.symm
 split at h
 .simp at h;rw[aj (by omega)];exact h.2.2.symm
 split at h
 .simp at h;rw[aj (by omega)];exact h.2.2.symm
 .cases h
def aBM:=ai (ai (ai (ai @zq @a6t) (ai @aVQ @aSS)) (ai (ai @aVP @aSR) (ai @ajQ @aik))) (ai (ai (ai @apk @ano) (ai @eY @cR)) (ai (ai @eI @Q3) (ai @zT0 (ai @aHw (ba aXS)))))
def awZ (e:Xp) (hw:xpW e≤WL) (i1:amA e.ks) (i2:arc e.sb):G1 87 [.of (.agg (xpC e))] (aG (cW e)):=by
 have hw':=aaU e
 simp only[WL] at hw
 have kx:=fun a b K=>aN.k (adc e.ks a b (by simp only[WL];omega) i1) K
 have kq:=fun n K=>aN.k (ags e.sb n (by simp only[WL];omega) i2) K
 have ko:=fun K=>aN.k (aKZ e (by simp only[alF] at hw';omega)) K
 have kk:=fun K=>aN.k (aHi e.op) K
 refine ah rfl aXS aHw rfl ?_
 cases hs:fw e.op with
 | none =>
  rw[arC hs]
  have k0:ah7 e.op=(-1,-1):=by rw[ah7,hs]
  simp -implicitDefEqProofs(maxSteps:=9^9)only[Tryz.f87,↓zA,sevalprocAttr,aBM,kk,k0]
 | some p =>
  obtain⟨lo,hi,n⟩:=p
  have k0:ah7 e.op=((lo:Int),(hi:Int)):=by rw[ah7,hs]
  have hn:=aFv hs
  have e1:cW e=(jD e&&bu e.ks lo hi cW&&e.sb.all d7):=by
   rw[arB hs,jD,hn]
   have:bu e.sb (ahR e.op) (ahR e.op) d7=(decide (e.sb.length=ahR e.op)&&e.sb.all d7):=by
    rw[fY]
    congr 1
    rw[ca];simp only[dD,ab,ar];omega
   rw[this]
   generalize bu e.ks lo hi cW=q1
   generalize decide (e.sb.length=ahR e.op)=q2
   generalize e.sb.all d7=q3
   generalize fJ _ _ _ _ _ _=q4
   cases q1 <;> cases q2 <;> cases q3 <;> cases q4 <;> rfl
  have z0:(0:Int)≤(lo:Int):=by omega
  rw[e1]
  cases c1:jD e
  .simp -implicitDefEqProofs(maxSteps:=9^9)only[Tryz.f87,↓zA,sevalprocAttr,aBM,kk,k0,z0,ko,c1]
  .cases c2:bu e.ks lo hi cW
   .simp -implicitDefEqProofs(maxSteps:=9^9)only[Tryz.f87,↓zA,sevalprocAttr,aBM,kk,k0,z0,ko,c1,kx,c2]
   .simp -implicitDefEqProofs(maxSteps:=9^9)only[Tryz.f87,↓zA,sevalprocAttr,aBM,kk,k0,z0,ko,c1,kx,c2,kq]
def ak3 (f:Fm):gU f=(if f.kd=1∨f.kd=2 then 1 else 0)+(f.ks.map gU).sum:=by
 have h:∀ l:List Fm,ak2 l=(l.map gU).sum:=fun l=>by
  induction l with
  | nil=>rfl
  | cons x r ih=>rw[ak2,ih];simp
 cases f;rw[gU,h];rfl
def aHg (n:Nat):∀ f:Fm,fmW f≤n→gU f≤fmW f:=by
 induction n with
 | zero=>intro f h;have:=abk f;omega
 | succ n ih =>
  intro f h
  rw[ak3]
  rw[jg] at h ⊢
  have:∀ l:List Fm,lsW fmW l≤n+1→(l.map gU).sum+1≤lsW fmW l:=fun l=>by
   induction l with
   | nil=>simp[lsW]
   | cons x r ih2 =>
    intro hl
    have hx:=bQ (w:=fmW) (l:=x::r) (x:=x) (by simp)
    have h1:=ih x (by omega)
    simp only[lsW,aV,bU] at hl ih2 ⊢
    have h2:=ih2 (by omega)
    omega
  have:=this f.ks (by omega)
  split <;> omega
def aUb (l:List Fm):(l.map gU).sum+1≤lsW fmW l:=by
 induction l with
 | nil=>simp[lsW]
 | cons x r ih =>
  have:=aHg (fmW x) x (aM _)
  simp only[lsW,aV,bU] at ih ⊢
  omega
def axm (n:Nat):∀ f:Fm,fmW f≤n→gL f=true→gU f=gV f:=by
 induction n with
 | zero=>intro f h;have:=abk f;omega
 | succ n ih =>
  intro f h ok
  rw[jg] at h
  rw[ak3,ak5]
  rw[agX] at ok
  by_cases k1:f.kd=1
  .simp only[k1,aA,ab,ar] at ok
   have:f.ks=[]:=List.length_eq_zero_iff.1 (by omega)
   simp[k1,this]
  .by_cases k2:f.kd=2
   .rw[aj k1,aE k2] at ok
    simp only[ab,ar] at ok
    have:f.ks=[]:=List.length_eq_zero_iff.1 (by omega)
    simp[k2,this]
   .rw[aj k1,aj k2] at ok
    have hk:¬(f.kd=1∨f.kd=2):=by simp[k1,k2]
    rw[aj hk,aj hk,bd]
    split at ok
    .simp only[ab,bu] at ok
     have hall:=ok.1.2.2
     rw[bR] at hall
     have:f.ks.map gU=f.ks.map gV:=gw fun x hx=>ih x (by have:=bQ (w:=fmW) hx;omega) (hall x hx)
     rw[this]
    .cases ok
def aMv (l:List Fm):Prop:=∀ x∈l,G1 159 [.of (.agg (fmC x))] (aU (gU x))
def aMp (l:List Fm):Prop:=∀ x∈l,G1 158 [.of (.agg (fmC x))] (aG (gL x))
def afG:=ai (ai (ai @zq @a6r) (ai @aGA (ai @aBk @jq))) (ai (ai @iU @Q3) (ai @zT0 (ai @azI (ba aO4))))
def axR (f:Fm) (hw:fmW f≤WL) (h:aMv f.ks):G1 159 [.of (.agg (fmC f))] (aU (gU f)):=by
 have hw2:=hw
 rw[jg] at hw2
 simp only[WL] at hw2
 have hsum:=aUb f.ks
 have hlen:=da fmW f.ks fun x _=>abk x
 rw[ak3]
 generalize hA:(if f.kd=1∨f.kd=2 then 1 else 0)=A
 have hA1:A≤1:=by rw[← hA];split <;> omega
 refine ah rfl aO4 azI rfl ?_
 have key:∀ s:S,s.fr 1=.of (.ref [ci f.kd,aH (aD f.nm),aH (aD f.az),slC qyC f.sb,slC fmC f.ks,slC xpC f.on])→True:=fun _ _=>trivial
 by_cases k1:f.kd=1
 .simp only[k1,bo,aA] at hA
  subst hA
  simp -implicitDefEqProofs(maxSteps:=9^9)only[Tryz.f159,↓zA,sevalprocAttr,afG,aa k1]
  refine bX f.ks.length (fun k s=>∃ a:Nat,s.fr 3=aU a∧s.fr 1=.of (.ref [ci f.kd,aH (aD f.nm),aH (aD f.az),slC qyC f.sb,slC fmC f.ks,slC xpC f.on])∧s.fr 4=aU k∧s.objs=[]∧a+((f.ks.drop k).map gU).sum=1+(f.ks.map gU).sum) ?_ ?_
  .refine⟨1,?_⟩
   simp -implicitDefEqProofs(maxSteps:=9^9)only[Tryz.f159,↓zA,sevalprocAttr,afG]
   try exact rfl
  .rintro k s hk ⟨a,f3,f1,f4,ho,E⟩
   rcases ap k f.ks.length with c1|c1
   .have hwk:=cF k (by omega)
    have hx:=fun K=>aN.k (h f.ks[k] (ay c1)) K
    rw[cN c1,aV,bU] at E
    have hw3:IntKind.i64.wrap ((a:Int)+(gU f.ks[k]:Int))=((a+gU f.ks[k]:Nat):Int):=by rw[eX _ (by omega) (by omega)];rfl
    simp -implicitDefEqProofs(maxSteps:=9^9)only[Tryz.f159,↓zA,sevalprocAttr,afG,f3,f1,f4,ho,aK,c1,bq c1,hwk,hx,hw3]
    exact⟨_,rfl,by omega⟩
   .have e:k=f.ks.length:=by omega
    subst e
    rw[aw,bC,cU,aaT] at E
    simp -implicitDefEqProofs(maxSteps:=9^9)only[Tryz.f159,↓zA,sevalprocAttr,afG,f3,f1,f4,ho,aK,au,E]
 .by_cases k2:f.kd=2
  .simp only[k2,br,aA] at hA
   subst hA
   simp -implicitDefEqProofs(maxSteps:=9^9)only[Tryz.f159,↓zA,sevalprocAttr,afG,k1,aa k2]
   refine bX f.ks.length (fun k s=>∃ a:Nat,s.fr 3=aU a∧s.fr 1=.of (.ref [ci f.kd,aH (aD f.nm),aH (aD f.az),slC qyC f.sb,slC fmC f.ks,slC xpC f.on])∧s.fr 4=aU k∧s.objs=[]∧a+((f.ks.drop k).map gU).sum=1+(f.ks.map gU).sum) ?_ ?_
   .refine⟨1,?_⟩
    simp -implicitDefEqProofs(maxSteps:=9^9)only[Tryz.f159,↓zA,sevalprocAttr,afG]
    try exact rfl
   .rintro k s hk ⟨a,f3,f1,f4,ho,E⟩
    rcases ap k f.ks.length with c1|c1
    .have hwk:=cF k (by omega)
     have hx:=fun K=>aN.k (h f.ks[k] (ay c1)) K
     rw[cN c1,aV,bU] at E
     have hw3:IntKind.i64.wrap ((a:Int)+(gU f.ks[k]:Int))=((a+gU f.ks[k]:Nat):Int):=by rw[eX _ (by omega) (by omega)];rfl
     simp -implicitDefEqProofs(maxSteps:=9^9)only[Tryz.f159,↓zA,sevalprocAttr,afG,f3,f1,f4,ho,aK,c1,bq c1,hwk,hx,hw3]
     exact⟨_,rfl,by omega⟩
    .have e:k=f.ks.length:=by omega
     subst e
     rw[aw,bC,cU,aaT] at E
     simp -implicitDefEqProofs(maxSteps:=9^9)only[Tryz.f159,↓zA,sevalprocAttr,afG,f3,f1,f4,ho,aK,au,E]
  .simp only[k1,k2,bm,aQ] at hA
   subst hA
   simp -implicitDefEqProofs(maxSteps:=9^9)only[Tryz.f159,↓zA,sevalprocAttr,afG,k1,k2]
   refine bX f.ks.length (fun k s=>∃ a:Nat,s.fr 3=aU a∧s.fr 1=.of (.ref [ci f.kd,aH (aD f.nm),aH (aD f.az),slC qyC f.sb,slC fmC f.ks,slC xpC f.on])∧s.fr 4=aU k∧s.objs=[]∧a+((f.ks.drop k).map gU).sum=0+(f.ks.map gU).sum) ?_ ?_
   .refine⟨0,?_⟩
    simp -implicitDefEqProofs(maxSteps:=9^9)only[Tryz.f159,↓zA,sevalprocAttr,afG]
    try exact rfl
   .rintro k s hk ⟨a,f3,f1,f4,ho,E⟩
    rcases ap k f.ks.length with c1|c1
    .have hwk:=cF k (by omega)
     have hx:=fun K=>aN.k (h f.ks[k] (ay c1)) K
     rw[cN c1,aV,bU] at E
     have hw3:IntKind.i64.wrap ((a:Int)+(gU f.ks[k]:Int))=((a+gU f.ks[k]:Nat):Int):=by rw[eX _ (by omega) (by omega)];rfl
     simp -implicitDefEqProofs(maxSteps:=9^9)only[Tryz.f159,↓zA,sevalprocAttr,afG,f3,f1,f4,ho,aK,c1,bq c1,hwk,hx,hw3]
     exact⟨_,rfl,by omega⟩
    .have e:k=f.ks.length:=by omega
     subst e
     rw[aw,bC,cU,aaT] at E
     simp -implicitDefEqProofs(maxSteps:=9^9)only[Tryz.f159,↓zA,sevalprocAttr,afG,f3,f1,f4,ho,aK,au,E]
def acR (n:Nat):((n:Int)=2)=(n=2):=propext (by omega)
def acK:=ai (ai (ai (ai @zq @a6q) (ai @ahx (ai @agf @auI))) (ai (ai @aqW (ai @apk @ano)) (ai @ajQ (ai @aik @aGB)))) (ai (ai (ai @aBl (ai @eY @cR)) (ai @jq (ai @ey @eI))) (ai (ai @iU (ai @Q3 @Q9)) (ai @zT0 (ai @azJ (ba aO5)))))
def asl (f:Fm) (hw:fmW f≤WL) (h1:arc f.sb) (h2:aMp f.ks) (h3:amA f.on):G1 158 [.of (.agg (fmC f))] (aG (gL f)):=by
 have hw2:=hw
 rw[jg] at hw2
 simp only[WL] at hw2
 have kq:=fun n K=>aN.k (ags f.sb n (by simp only[WL];omega) h1) K
 have kx:=fun a b K=>aN.k (adc f.on a b (by simp only[WL];omega) h3) K
 have len3:∀ a b c:Nat,decide (a+b+c=0)=(decide (a=0)&&decide (b=0)&&decide (c=0)):=fun a b c=>by
  rw[ca];simp only[ab,ar];omega
 have len2:∀ b c:Nat,decide (b+c=0)=(decide (b=0)&&decide (c=0)):=fun b c=>by
  rw[ca];simp only[ab,ar];omega
 have sq:bu f.sb 1 1 d7=(decide ((f.sb.length:Int)=1)&&f.sb.all d7):=by
  simp only[bu]
  congr 1
  rw[ca];simp only[ab,ar];omega
 rw[agX,len3,len2]
 refine ah rfl aO5 azJ rfl ?_
 by_cases k1:f.kd=1
 .cases c1:bk f.nm
  .simp -implicitDefEqProofs(maxSteps:=9^9)only[Tryz.f158,↓zA,sevalprocAttr,acK,dc,cH,kq,kx,cK,acR,Int.reduceEq,br,bo,aa k1,c1]
  .cases c2:gg f.az
   .simp -implicitDefEqProofs(maxSteps:=9^9)only[Tryz.f158,↓zA,sevalprocAttr,acK,dc,cH,kq,kx,cK,acR,Int.reduceEq,br,bo,aa k1,c1,c2]
   .by_cases c3:f.sb.length=0
    .by_cases c4:f.ks.length=0
     .simp -implicitDefEqProofs(maxSteps:=9^9)only[Tryz.f158,↓zA,sevalprocAttr,acK,dc,cH,kq,kx,cK,acR,Int.reduceEq,br,bo,aa k1,c1,c2,aa c3,aa c4]
     .simp -implicitDefEqProofs(maxSteps:=9^9)only[Tryz.f158,↓zA,sevalprocAttr,acK,dc,cH,kq,kx,cK,acR,Int.reduceEq,br,bo,aa k1,c1,c2,aa c3,c4]
    .simp -implicitDefEqProofs(maxSteps:=9^9)only[Tryz.f158,↓zA,sevalprocAttr,acK,dc,cH,kq,kx,cK,acR,Int.reduceEq,br,bo,aa k1,c1,c2,c3]
 .by_cases k2:f.kd=2
  .by_cases c1:f.nm=[]
   .cases c2:bk f.az
    .simp -implicitDefEqProofs(maxSteps:=9^9)only[Tryz.f158,↓zA,sevalprocAttr,acK,dc,cH,kq,kx,cK,acR,Int.reduceEq,br,bo,k1,aa k2,aa c1,c2]
    .cases c3:(decide ((f.sb.length:Int)=1)&&f.sb.all d7)
     .simp -implicitDefEqProofs(maxSteps:=9^9)only[Tryz.f158,↓zA,sevalprocAttr,acK,dc,cH,kq,kx,cK,acR,Int.reduceEq,br,bo,k1,aa k2,aa c1,c2,sq,c3]
     .by_cases c4:f.ks.length=0
      .simp -implicitDefEqProofs(maxSteps:=9^9)only[Tryz.f158,↓zA,sevalprocAttr,acK,dc,cH,kq,kx,cK,acR,Int.reduceEq,br,bo,k1,aa k2,aa c1,c2,sq,c3,aa c4]
      .simp -implicitDefEqProofs(maxSteps:=9^9)only[Tryz.f158,↓zA,sevalprocAttr,acK,dc,cH,kq,kx,cK,acR,Int.reduceEq,br,bo,k1,aa k2,aa c1,c2,sq,c3,c4]
   .simp -implicitDefEqProofs(maxSteps:=9^9)only[Tryz.f158,↓zA,sevalprocAttr,acK,dc,cH,kq,kx,cK,acR,Int.reduceEq,br,bo,k1,aa k2,c1]
  .by_cases k3:f.kd=3∨f.kd=4∨f.kd=5
   rotate_left
   .simp only[acn] at k3
    simp -implicitDefEqProofs(maxSteps:=9^9)only[Tryz.f158,↓zA,sevalprocAttr,acK,dc,cH,kq,kx,cK,acR,Int.reduceEq,br,bo,k1,k2,k3,bm]
   generalize hon:(if f.kd=3 then (0:Int) else 1)=on
   have fin:∀ b:Bool,(decide (f.nm=[])&&decide (f.az=[])&&decide (f.sb.length=0)&&bu f.ks 2 2 gL&&bu f.on on on cW)=b→(if f.kd=1 then bk f.nm&&gg f.az&&(decide (f.sb.length=0)&&decide (f.ks.length=0)&&decide (f.on.length=0))
     else if f.kd=2 then decide (f.nm=[])&&bk f.az&&bu f.sb 1 1 d7&&(decide (f.ks.length=0)&&decide (f.on.length=0))
     else if f.kd=3∨f.kd=4∨f.kd=5 then decide (f.nm=[])&&decide (f.az=[])&&decide (f.sb.length=0)&&bu f.ks 2 2 gL&&bu f.on on on cW else false)=b:=fun b hb=>by
    rw[aj k1,aj k2,aE k3,hb]
   by_cases c1:f.nm=[]
   rotate_left
   .rw[fin false (by simp[c1])]
    rcases k3 with k3|k3|k3 <;> simp -implicitDefEqProofs(maxSteps:=9^9)only[Tryz.f158,↓zA,sevalprocAttr,acK,dc,cH,kq,kx,cK,acR,Int.reduceEq,br,bo,k3,c1]
   by_cases c2:f.az=[]
   rotate_left
   .rw[fin false (by simp[c2])]
    rcases k3 with k3|k3|k3 <;> simp -implicitDefEqProofs(maxSteps:=9^9)only[Tryz.f158,↓zA,sevalprocAttr,acK,dc,cH,kq,kx,cK,acR,Int.reduceEq,br,bo,k3,aa c1,c2]
   by_cases c3:f.sb.length=0
   rotate_left
   .rw[fin false (by simp[c3])]
    rcases k3 with k3|k3|k3 <;> simp -implicitDefEqProofs(maxSteps:=9^9)only[Tryz.f158,↓zA,sevalprocAttr,acK,dc,cH,kq,kx,cK,acR,Int.reduceEq,br,bo,k3,aa c1,aa c2,c3]
   by_cases c4:f.ks.length=2
   rotate_left
   .rw[fin false (by
     have:bu f.ks 2 2 gL=false:=by
      rw[aa2]
      intro e
      simp only[bu,ab,ar] at e
      omega
     rw[this];simp)]
    rcases k3 with k3|k3|k3 <;> simp -implicitDefEqProofs(maxSteps:=9^9)only[Tryz.f158,↓zA,sevalprocAttr,acK,dc,cH,kq,kx,cK,acR,Int.reduceEq,br,bo,k3,aa c1,aa c2,aa c3,c4]
   have d0:0<f.ks.length:=by omega
   have d1:1<f.ks.length:=by omega
   have g0:dH f.ks 0=some f.ks[0]:=bq d0
   have g1:dH f.ks 1=some f.ks[1]:=bq d1
   have s0:=fun K=>aN.k (h2 f.ks[0] (ay d0)) K
   have s1:=fun K=>aN.k (h2 f.ks[1] (ay d1)) K
   have sk:bu f.ks 2 2 gL=(gL f.ks[0]&&gL f.ks[1]):=by
    have hl:f.ks=[f.ks[0],f.ks[1]]:=by
     apply List.ext_getElem
     .simp[c4]
     .intro i hi1 hi2
      rcases i with _|_|i
      .rfl
      .rfl
      .omega
    have hall:f.ks.all gL=(gL f.ks[0]&&gL f.ks[1]):=by
     conv=>lhs;rw[hl]
     simp
    simp only[bu,hall,c4]
    simp
   have c5':bu f.on on on cW=false∨bu f.on on on cW=true:=by cases bu f.on on on cW <;> simp
   rcases c5' with c5|c5
   .rw[fin false (by rw[c5,cP])]
    rcases k3 with k3|k3|k3 <;> (simp only[k3,aA,Int.reduceEq,aQ] at hon;subst hon;simp -implicitDefEqProofs(maxSteps:=9^9)only[Tryz.f158,↓zA,sevalprocAttr,acK,dc,cH,kq,kx,cK,acR,Int.reduceEq,br,bo,k3,aa c1,aa c2,aa c3,aa c4,c5])
   rw[fin (gL f.ks[0]&&gL f.ks[1]) (by rw[c5,sk];simp[c1,c2,c3])]
   cases c6:gL f.ks[0]
   .rcases k3 with k3|k3|k3 <;> (simp only[k3,aA,Int.reduceEq,aQ] at hon;subst hon;simp -implicitDefEqProofs(maxSteps:=9^9)only[Tryz.f158,↓zA,sevalprocAttr,acK,dc,cH,kq,kx,cK,acR,Int.reduceEq,br,bo,k3,aa c1,aa c2,aa c3,aa c4,c5,g0,g1,s0,s1,c6])
   .rcases k3 with k3|k3|k3 <;> (simp only[k3,aA,Int.reduceEq,aQ] at hon;subst hon;simp -implicitDefEqProofs(maxSteps:=9^9)only[Tryz.f158,↓zA,sevalprocAttr,acK,dc,cH,kq,kx,cK,acR,Int.reduceEq,br,bo,k3,aa c1,aa c2,aa c3,aa c4,c5,g0,g1,s0,s1,c6])
def a0z (l:List Im):Prop:=∀ x∈l,G1 157 [.of (.agg (imC x))] (aG (aaR x))
def amR:=ai (ai (ai @zq (ai @a6o @eY)) (ai (ai @cR @abb) (ai @jq @ey))) (ai (ai @ab7 (ai @iU @P4)) (ai (ai @Q4 @zT0) (ai @azL (ba aO7))))
def aCJ (q:Qy):G1 156 [.of (.agg (qyC q))] (aG (!q.di&&decide (q.its.length=0)&&decide (q.fr.length=0)&&decide (q.wh.length=0)&&decide (q.gr.length=0)&&decide (q.hv.length=0))):=by
 refine ah rfl aO7 azL rfl ?_
 cases c0:q.di
 rotate_left
 .simp -implicitDefEqProofs(maxSteps:=9^9)only[Tryz.f156,↓zA,sevalprocAttr,amR,c0]
 by_cases c1:q.its.length=0
 rotate_left
 .simp -implicitDefEqProofs(maxSteps:=9^9)only[Tryz.f156,↓zA,sevalprocAttr,amR,cK,c0,c1]
 by_cases c2:q.fr.length=0
 rotate_left
 .simp -implicitDefEqProofs(maxSteps:=9^9)only[Tryz.f156,↓zA,sevalprocAttr,amR,cK,c0,aa c1,c2]
 by_cases c3:q.wh.length=0
 rotate_left
 .simp -implicitDefEqProofs(maxSteps:=9^9)only[Tryz.f156,↓zA,sevalprocAttr,amR,cK,c0,aa c1,aa c2,c3]
 by_cases c4:q.gr.length=0
 .simp -implicitDefEqProofs(maxSteps:=9^9)only[Tryz.f156,↓zA,sevalprocAttr,amR,cK,c0,aa c1,aa c2,aa c3,aa c4]
 .simp -implicitDefEqProofs(maxSteps:=9^9)only[Tryz.f156,↓zA,sevalprocAttr,amR,cK,c0,aa c1,aa c2,aa c3,c4]
def aQ1 (q:Qy) (K:An→Prop):bp Tryz.prog pr 156 [.of (.agg (qyC q))] [] K↔K ⟨false,[aG (!q.di&&decide (q.its.length=0)&&decide (q.fr.length=0)&&decide (q.wh.length=0)&&decide (q.gr.length=0)&&decide (q.hv.length=0))],[]⟩:=aN.k (aCJ q) K
def acS (n:Nat):((64:Int)<(n:Int))=(64<n):=propext (by omega)
def aem (n:Nat):((1:Int)<(n:Int))=(1<n):=propext (by omega)
def aWI (n:Nat):((8:Int)<(n:Int))=(8<n):=propext (by omega)
abbrev qyL (q:Qy):List C:=[ci q.op,cb q.al,slC qyC q.ks,cb q.di,slC imC q.its,slC fmC q.fr,slC xpC q.wh,slC xpC q.gr,slC xpC q.hv,slC odC q.od,ci q.li,ci q.sk]
def aa8:=ai (ai (ai (ai @zq (ai @a6m @aVZ)) (ai (ai @aS1 @aVY) (ai @aS0 @apk))) (ai (ai (ai @ano @aVX) (ai @aSZ @aGB)) (ai (ai @aBl @aGA) (ai @aBk @ajQ)))) (ai (ai (ai @aik (ai @eY @abb)) (ai (ai @jq @acL) (ai @cR @eI))) (ai (ai (ai @ab7 @iU) (ai @Q3 @P4)) (ai (ai @Q4 @zT0) (ai @aHI (ba aX4)))))
def auh (q:Qy) (hw:qyW q≤WL) (h1:arc q.ks) (h2:a0z q.its) (h3:aMp q.fr) (h3':aMv q.fr) (h4:amA q.wh) (h5:amA q.gr) (h6:amA q.hv):G1 72 [.of (.agg (qyC q))] (aG (d7 q)):=by
 have hw2:=hw
 rw[iK] at hw2
 simp only[WL] at hw2
 have n0:=da odW q.od fun x _=>by simp[odW]
 have n2:=da imW q.its fun x _=>adw x
 have n3:=da fmW q.fr fun x _=>abk x
 have kO:=fun K=>aN.k (axc q.od (by omega)) K
 have kp:=aQ1 q
 have kq:=fun n K=>aN.k (ags q.ks n (by simp only[WL];omega) h1) K
 have kw:=fun a b K=>aN.k (adc q.wh a b (by simp only[WL];omega) h4) K
 have kg:=fun a b K=>aN.k (adc q.gr a b (by simp only[WL];omega) h5) K
 have kh:=fun a b K=>aN.k (adc q.hv a b (by simp only[WL];omega) h6) K
 have eo:bu q.od 0 64 iy=(q.od.all iy&&decide (q.od.length≤64)):=by
  simp only[bu]
  rw[ca];simp only[ab,ar]
  constructor
  .rintro⟨⟨_,h⟩,g⟩;exact⟨g,by omega⟩
  .rintro⟨g,h⟩;exact⟨⟨by omega,by omega⟩,g⟩
 have e5:decide (q.its.length+q.fr.length+q.wh.length+q.gr.length+q.hv.length=0)=(decide (q.its.length=0)&&decide (q.fr.length=0)&&decide (q.wh.length=0)&&decide (q.gr.length=0)&&decide (q.hv.length=0)):=by
  rw[ca];simp only[ab,ar];omega
 rw[af9,eo]
 simp only[aap]
 refine ah rfl aX4 aHI rfl ?_
 by_cases a1:-1≤q.li
 rotate_left
 .simp -implicitDefEqProofs(maxSteps:=9^9)only[Tryz.f72,↓zA,sevalprocAttr,aa8,kO,kp,kq,kw,kg,kh,cK,ado,acS,aem,bm,a1,show q.li < -1 from by omega]
 have a1':¬q.li < -1:=by omega
 by_cases a2:q.li≤1000000000000000
 rotate_left
 .simp -implicitDefEqProofs(maxSteps:=9^9)only[Tryz.f72,↓zA,sevalprocAttr,aa8,kO,kp,kq,kw,kg,kh,cK,ado,acS,aem,bm,a1',a2,show 1000000000000000<q.li from by omega]
 have a2':¬1000000000000000<q.li:=by omega
 by_cases a3:0≤q.sk
 rotate_left
 .simp -implicitDefEqProofs(maxSteps:=9^9)only[Tryz.f72,↓zA,sevalprocAttr,aa8,kO,kp,kq,kw,kg,kh,cK,ado,acS,aem,bm,a1',a2',a3,show q.sk<0 from by omega]
 have a3':¬q.sk<0:=by omega
 by_cases a4:q.sk≤1000000000000000
 rotate_left
 .simp -implicitDefEqProofs(maxSteps:=9^9)only[Tryz.f72,↓zA,sevalprocAttr,aa8,kO,kp,kq,kw,kg,kh,cK,ado,acS,aem,bm,a1',a2',a3',a4,show 1000000000000000<q.sk from by omega]
 have a4':¬1000000000000000<q.sk:=by omega
 have a5':(q.od.all iy&&decide (q.od.length≤64))=false∨(q.od.all iy&&decide (q.od.length≤64))=true:=by cases (q.od.all iy&&decide (q.od.length≤64)) <;> simp
 rcases a5' with a5|a5
 .simp -implicitDefEqProofs(maxSteps:=9^9)only[Tryz.f72,↓zA,sevalprocAttr,aa8,kO,kp,kq,kw,kg,kh,cK,ado,acS,aem,bm,a1',a2',a3',a4',a5]
 by_cases o2:q.op=2∨q.op=3∨q.op=4
 .have e6:(bu q.ks 2 2 d7&&!q.di&&decide (q.its.length+q.fr.length+q.wh.length+q.gr.length+q.hv.length=0))=((!q.di&&decide (q.its.length=0)&&decide (q.fr.length=0)&&decide (q.wh.length=0)&&decide (q.gr.length=0)&&decide (q.hv.length=0))&&(decide ((q.ks.length:Int)=2)&&q.ks.all d7)):=by
   rw[e5]
   have:bu q.ks 2 2 d7=(decide ((q.ks.length:Int)=2)&&q.ks.all d7):=by
    simp only[bu];congr 1
    rw[ca];simp only[ab,ar];omega
   rw[this]
   generalize (decide ((q.ks.length:Int)=2)&&q.ks.all d7)=z
   cases z <;> cases q.di <;> simp[dq]
  have ne1:¬q.op=1:=by omega
  rw[aj ne1,aE o2,e6]
  cases b1:(!q.di&&decide (q.its.length=0)&&decide (q.fr.length=0)&&decide (q.wh.length=0)&&decide (q.gr.length=0)&&decide (q.hv.length=0))
  .rcases o2 with o2|o2|o2
   .simp -implicitDefEqProofs(maxSteps:=9^9)only[Tryz.f72,↓zA,sevalprocAttr,aa8,kO,kp,kq,kw,kg,kh,cK,ado,acS,aem,bm,a1,a2,a3,a4,a1',a2',a3',a4',a5,b1,aa o2]
   .simp -implicitDefEqProofs(maxSteps:=9^9)only[Tryz.f72,↓zA,sevalprocAttr,aa8,kO,kp,kq,kw,kg,kh,cK,ado,acS,aem,bm,a1,a2,a3,a4,a1',a2',a3',a4',a5,b1,show ¬q.op=2 from by omega,aa o2]
   .simp -implicitDefEqProofs(maxSteps:=9^9)only[Tryz.f72,↓zA,sevalprocAttr,aa8,kO,kp,kq,kw,kg,kh,cK,ado,acS,aem,bm,a1,a2,a3,a4,a1',a2',a3',a4',a5,b1,show ¬q.op=2 from by omega,show ¬q.op=3 from by omega,aa o2]
  .rcases o2 with o2|o2|o2
   .simp -implicitDefEqProofs(maxSteps:=9^9)only[Tryz.f72,↓zA,sevalprocAttr,aa8,kO,kp,kq,kw,kg,kh,cK,ado,acS,aem,bm,a1,a2,a3,a4,a1',a2',a3',a4',a5,b1,aa o2]
   .simp -implicitDefEqProofs(maxSteps:=9^9)only[Tryz.f72,↓zA,sevalprocAttr,aa8,kO,kp,kq,kw,kg,kh,cK,ado,acS,aem,bm,a1,a2,a3,a4,a1',a2',a3',a4',a5,b1,show ¬q.op=2 from by omega,aa o2]
   .simp -implicitDefEqProofs(maxSteps:=9^9)only[Tryz.f72,↓zA,sevalprocAttr,aa8,kO,kp,kq,kw,kg,kh,cK,ado,acS,aem,bm,a1,a2,a3,a4,a1',a2',a3',a4',a5,b1,show ¬q.op=2 from by omega,show ¬q.op=3 from by omega,aa o2]
 simp only[acn] at o2
 have s2:¬(q.op=2∨q.op=3∨q.op=4):=by simp[o2]
 by_cases o1:q.op=1
 rotate_left
 .rw[aj o1,aj s2]
  simp -implicitDefEqProofs(maxSteps:=9^9)only[Tryz.f72,↓zA,sevalprocAttr,aa8,kO,kp,kq,kw,kg,kh,cK,ado,acS,aem,bm,a1,a2,a3,a4,a1',a2',a3',a4',a5,o1,o2]
 rw[aE o1]
 cases b1:q.al
 rotate_left
 .simp -implicitDefEqProofs(maxSteps:=9^9)only[Tryz.f72,↓zA,sevalprocAttr,aa8,kO,kp,kq,kw,kg,kh,cK,ado,acS,aem,bm,a1,a2,a3,a4,a1',a2',a3',a4',a5,aa o1,o2,b1]
 by_cases b2:q.ks.length=0
 rotate_left
 .simp -implicitDefEqProofs(maxSteps:=9^9)only[Tryz.f72,↓zA,sevalprocAttr,aa8,kO,kp,kq,kw,kg,kh,cK,ado,acS,aem,bm,a1,a2,a3,a4,a1',a2',a3',a4',a5,aa o1,o2,b1,b2]
 by_cases b3:q.its.length=0
 .have z:bu q.its 1 64 aaR=false:=by
   rw[aa2];intro e;simp only[bu,ab,ar] at e;omega
  simp -implicitDefEqProofs(maxSteps:=9^9)only[Tryz.f72,↓zA,sevalprocAttr,aa8,kO,kp,kq,kw,kg,kh,cK,ado,acS,aem,bm,a1,a2,a3,a4,a1',a2',a3',a4',a5,aa o1,o2,b1,aa b2,aa b3,z]
 by_cases b4:64<q.its.length
 .have z:bu q.its 1 64 aaR=false:=by
   rw[aa2];intro e;simp only[bu,ab,ar] at e;omega
  simp -implicitDefEqProofs(maxSteps:=9^9)only[Tryz.f72,↓zA,sevalprocAttr,aa8,kO,kp,kq,kw,kg,kh,cK,ado,acS,aem,bm,a1,a2,a3,a4,a1',a2',a3',a4',a5,aa o1,o2,b1,aa b2,b3,b4,z]
 by_cases b5:1<q.fr.length
 .have z:bu q.fr 0 1 aaA=false:=by
   rw[aa2];intro e;simp only[bu,ab,ar] at e;omega
  simp -implicitDefEqProofs(maxSteps:=9^9)only[Tryz.f72,↓zA,sevalprocAttr,aa8,kO,kp,kq,kw,kg,kh,cK,ado,acS,aem,bm,a1,a2,a3,a4,a1',a2',a3',a4',a5,aa o1,o2,b1,aa b2,b3,b4,b5,z]
 have z1:bu q.its 1 64 aaR=q.its.all aaR:=by
  simp only[bu];rw[cy (show (1:Int)≤q.its.length from by omega),cy (show (q.its.length:Int)≤64 from by omega)];rfl
 have z2:bu q.fr 0 1 aaA=q.fr.all aaA:=by
  simp only[bu];rw[cy (show (0:Int)≤q.fr.length from by omega),cy (show (q.fr.length:Int)≤1 from by omega)];rfl
 simp only[a1,a2,a3,a4,a5,b2,z1,z2,bG,aX,eh]
 simp -implicitDefEqProofs(maxSteps:=9^9)only[Tryz.f72,↓zA,sevalprocAttr,aa8,kO,kp,kq,kw,kg,kh,cK,ado,acS,aem,bm,a1',a2',a3',a4',a5,aa o1,o2,b1,aa b2,b3,b4,b5]
 refine bX q.its.length (fun k t=>t.fr 1=.of (.ref (qyL q))∧t.fr 3=aU k∧t.objs=[]∧q.its.all aaR=(q.its.drop k).all aaR) ?_ ?_
 .simp -implicitDefEqProofs(maxSteps:=9^9)only[Tryz.f72,↓zA,sevalprocAttr,aa8]
  simp only[qyL,b1]
 rintro k t hk ⟨f1,f3,ho,E⟩
 rcases ap k q.its.length with d1|d1
 .have hwk:=cF k (by omega)
  have kx:=fun K=>aN.k (h2 q.its[k] (ay d1)) K
  rw[cN d1,adk] at E
  cases d2:aaR q.its[k]
  .rw[d2,aZ] at E
   simp -implicitDefEqProofs(maxSteps:=9^9)only[Tryz.f72,↓zA,sevalprocAttr,aa8,f1,f3,ho,aK,d1,bq d1,hwk,kx,d2,E]
  .rw[d2,aX] at E
   simp -implicitDefEqProofs(maxSteps:=9^9)only[Tryz.f72,↓zA,sevalprocAttr,aa8,f1,f3,ho,aK,d1,bq d1,hwk,kx,d2,E]
 have e:k=q.its.length:=by omega
 subst e
 rw[aw,ff] at E
 simp -implicitDefEqProofs(maxSteps:=9^9)only[Tryz.f72,↓zA,sevalprocAttr,aa8,f1,f3,ho,aK,au,E]
 refine bX q.fr.length (fun k t=>t.fr 1=.of (.ref (qyL q))∧t.fr 4=aU k∧t.objs=[]∧q.fr.all aaA=(q.fr.drop k).all aaA) ?_ ?_
 .simp -implicitDefEqProofs(maxSteps:=9^9)only[Tryz.f72,↓zA,sevalprocAttr,aa8,f1,f3,ho]
  try exact rfl
 rintro j u hj ⟨g1,g4,go,F⟩
 rcases ap j q.fr.length with e1|e1
 .have hwj:=cF j (by omega)
  have hm:q.fr[j]∈q.fr:=ay e1
  have kx:=fun K=>aN.k (h3 q.fr[j] hm) K
  have kl:=fun K=>aN.k (h3' q.fr[j] hm) K
  have same:=axm (fmW q.fr[j]) q.fr[j] (aM _)
  rw[cN e1,adk] at F
  cases d2:gL q.fr[j]
  .have F2:q.fr.all aaA=false:=by rw[F];simp[aaA,d2]
   simp -implicitDefEqProofs(maxSteps:=9^9)only[Tryz.f72,↓zA,sevalprocAttr,aa8,g1,g4,go,aK,e1,bq e1,hwj,kx,d2,F2]
  .have hs:=same d2
   by_cases d3:8<gU q.fr[j]
   .have F2:q.fr.all aaA=false:=by
     rw[F];simp only[aaA,d2,aX,bP (show ¬gV q.fr[j]≤8 from by omega),aZ]
    simp -implicitDefEqProofs(maxSteps:=9^9)only[Tryz.f72,↓zA,sevalprocAttr,aa8,g1,g4,go,aK,e1,bq e1,hwj,kx,kl,d2,aWI,d3,F2]
   .have F2:q.fr.all aaA=(q.fr.drop (j+1)).all aaA:=by
     rw[F];simp only[aaA,d2,aX,cy (show gV q.fr[j]≤8 from by omega)]
    simp -implicitDefEqProofs(maxSteps:=9^9)only[Tryz.f72,↓zA,sevalprocAttr,aa8,g1,g4,go,aK,e1,bq e1,hwj,kx,kl,d2,aWI,d3,F2]
 have e:j=q.fr.length:=by omega
 subst e
 rw[aw,ff] at F
 cases c1:bu q.wh 0 1 cW
 .simp -implicitDefEqProofs(maxSteps:=9^9)only[Tryz.f72,↓zA,sevalprocAttr,aa8,g1,g4,go,aK,au,F,kw,kg,kh,c1]
 cases c2:bu q.gr 0 64 cW
 .simp -implicitDefEqProofs(maxSteps:=9^9)only[Tryz.f72,↓zA,sevalprocAttr,aa8,g1,g4,go,aK,au,F,kw,kg,kh,c1,c2]
 simp -implicitDefEqProofs(maxSteps:=9^9)only[Tryz.f72,↓zA,sevalprocAttr,aa8,g1,g4,go,aK,au,F,kw,kg,kh,c1,c2]
def aeP (a b:Bool):(a != b)=!decide (a=b):=by cases a <;> cases b <;> rfl
def asU:=ai (ai (ai @zq @aGe) (ai @aAY @cR)) (ai (ai @ey @zT0) (ai @ayq (ba aNL)))
def asj (l:List Xp) (hl:l.length≤4611686018427387903):G1 252 [.of (slC xpC l),.of (slC xpC ([]:List Xp))] (aG (decide (l.length=0))):=by
 refine ah rfl aNL ayq rfl ?_
 simp -implicitDefEqProofs(maxSteps:=9^9)only[Tryz.f252,↓zA,sevalprocAttr,asU]
 refine bX 0 (fun k s=>s.fr 0=.of (slC xpC l)∧s.fr 1=.of (slC xpC ([]:List Xp))∧s.fr 5=aU 0∧s.objs=[]) ?_ ?_
 .simp -implicitDefEqProofs(maxSteps:=9^9)only[Tryz.f252,↓zA,sevalprocAttr,asU]
  try exact rfl
 .rintro k ⟨fr,ob,ck⟩ hk ⟨f0,f1,f5,ho⟩
  dsimp only at f0 f1 f5 ho
  have e0:∀ n:Nat,((n:Int)=0)=(n=0):=fun n=>propext (by omega)
  have e1:∀ n:Nat,((0:Int)<(n:Int))=(0<n):=fun n=>propext (by omega)
  by_cases d:0<l.length
  .have d':¬l.length=0:=by omega
   simp -implicitDefEqProofs(maxSteps:=9^9)only[Tryz.f252,↓zA,sevalprocAttr,asU,f0,f1,f5,ho,e0,e1,d,d']
  .have d':l.length=0:=by omega
   simp -implicitDefEqProofs(maxSteps:=9^9)only[Tryz.f252,↓zA,sevalprocAttr,asU,f0,f1,f5,ho,e0,e1,d']
def asS:=ai (ai @zq (ai @eY @eI)) (ai @zT0 (ai @ayp (ba aNK)))
def ao0 (l:List Qy) (hl:l.length≤4611686018427387903):G1 253 [.of (slC qyC l),.of (slC qyC ([]:List Qy))] (aG (decide (l.length=0))):=by
 refine ah rfl aNK ayp rfl ?_
 simp -implicitDefEqProofs(maxSteps:=9^9)only[Tryz.f253,↓zA,sevalprocAttr,asS]
 refine bX 0 (fun k s=>s.fr 0=.of (slC qyC l)∧s.fr 1=.of (slC qyC ([]:List Qy))∧s.fr 5=aU 0∧s.objs=[]) ?_ ?_
 .simp -implicitDefEqProofs(maxSteps:=9^9)only[Tryz.f253,↓zA,sevalprocAttr,asS]
  try exact rfl
 .rintro k ⟨fr,ob,ck⟩ hk ⟨f0,f1,f5,ho⟩
  dsimp only at f0 f1 f5 ho
  have e0:∀ n:Nat,((n:Int)=0)=(n=0):=fun n=>propext (by omega)
  have e1:∀ n:Nat,((0:Int)<(n:Int))=(0<n):=fun n=>propext (by omega)
  by_cases d:0<l.length
  .have d':¬l.length=0:=by omega
   simp -implicitDefEqProofs(maxSteps:=9^9)only[Tryz.f253,↓zA,sevalprocAttr,asS,f0,f1,f5,ho,e0,e1,d,d']
  .have d':l.length=0:=by omega
   simp -implicitDefEqProofs(maxSteps:=9^9)only[Tryz.f253,↓zA,sevalprocAttr,asS,f0,f1,f5,ho,e0,e1,d']
def aiT:=ai (ai (ai (ai @zq @a5M) (ai @a5L @aU6)) (ai (ai @aR8 @aU5) (ai @aR7 @ad3))) (ai (ai (ai @cR @eY) (ai @Q3 @Q9)) (ai (ai @P4 @Q4) (ai @zT0 (ai @ayO (ba aOa)))))
def ao4 (a:Xp) (hw:xpW a≤WL):G1 221 [.of (.agg (xpC a)),.of (.agg (xpC jc))] (aG (decide (a=jc))):=by
 have h':=aaU a
 simp only[WL] at hw
 have n1:=da xpW a.ks fun x _=>aaw x
 have n2:=da qyW a.sb fun x _=>adu x
 have k0:=fun K=>aN.k (asj a.ks (by omega)) K
 have k1:=fun K=>aN.k (ao0 a.sb (by omega)) K
 have z:jc.op=0∧jc.v=jz∧jc.tb=[]∧jc.nm=[]∧jc.di=false∧jc.ks=[]∧jc.sb=[]:=⟨rfl,rfl,rfl,rfl,rfl,rfl,rfl⟩
 obtain⟨z0,z1,z2,z3,z4,z5,z6⟩:=z
 have hz:decide (a=jc)=ads a:=by rw[ca,aly,ar]
 rw[hz]
 have ez:=adz jc
 rw[z0,z1,z2,z3,z4,z5,z6] at ez
 have zv:jz=(⟨0,0,{data:=#[]}⟩ : V):=rfl
 have ev0:jz.k=0∧jz.n=0∧jz.s={data:=#[]}:=⟨rfl,rfl,rfl⟩
 rw[ev0.1,ev0.2.1,ev0.2.2] at ez
 rw[ez]
 refine ah rfl aOa ayO rfl ?_
 by_cases c0:a.op=0
 rotate_left
 .simp -implicitDefEqProofs(maxSteps:=9^9)only[Tryz.f221,↓zA,sevalprocAttr,aiT,c0,k0,k1,cd,zv,bW,ij,cB,aeP,fp,ch,ads,bE,aZ,cP]
 by_cases c1:a.v=(⟨0,0,{data:=#[]}⟩ : V)
 rotate_left
 .simp -implicitDefEqProofs(maxSteps:=9^9)only[Tryz.f221,↓zA,sevalprocAttr,aiT,aa c0,c1,k0,k1,cd,zv,bW,ij,cB,aeP,fp,ch,ads,bE,aZ,cP]
 by_cases c2:a.tb=[]
 rotate_left
 .simp -implicitDefEqProofs(maxSteps:=9^9)only[Tryz.f221,↓zA,sevalprocAttr,aiT,aa c0,aa c1,c2,k0,k1,cd,zv,bW,ij,cB,aeP,fp,ch,ads,bE,aZ,cP]
 by_cases c3:a.nm=[]
 rotate_left
 .simp -implicitDefEqProofs(maxSteps:=9^9)only[Tryz.f221,↓zA,sevalprocAttr,aiT,aa c0,aa c1,aa c2,c3,k0,k1,cd,zv,bW,ij,cB,aeP,fp,ch,ads,bE,aZ,cP]
 by_cases c4:a.di=false
 rotate_left
 .simp -implicitDefEqProofs(maxSteps:=9^9)only[Tryz.f221,↓zA,sevalprocAttr,aiT,aa c0,aa c1,aa c2,aa c3,c4,k0,k1,cd,zv,bW,ij,cB,aeP,fp,ch,ads,bE,aZ,cP]
 by_cases c5:a.ks.length=0
 rotate_left
 .simp -implicitDefEqProofs(maxSteps:=9^9)only[Tryz.f221,↓zA,sevalprocAttr,aiT,aa c0,aa c1,aa c2,aa c3,c4,c5,k0,k1,cd,zv,bW,ij,cB,aeP,fp,ch,ads,bE,aZ,cP]
 by_cases c6:a.sb.length=0
 rotate_left
 .simp -implicitDefEqProofs(maxSteps:=9^9)only[Tryz.f221,↓zA,sevalprocAttr,aiT,aa c0,aa c1,aa c2,aa c3,c4,aa c5,c6,k0,k1,cd,zv,bW,ij,cB,aeP,fp,ch,ads,bE,aZ,cP]
 simp -implicitDefEqProofs(maxSteps:=9^9)only[Tryz.f221,↓zA,sevalprocAttr,aiT,aa c0,aa c1,aa c2,aa c3,c4,aa c5,aa c6,k0,k1,cd,zv,bW,ij,cB,aeP,fp,ch,ads,bE,aZ,cP]
def amQ:=ai (ai (ai (ai @zq @a6s) (ai @auI @aqW)) (ai (ai @aGe @aAY) (ai @ath @apW))) (ai (ai (ai @cR @abb) (ai @P4 @Q4)) (ai (ai @Q9 @zT0) (ai @azK (ba aO6))))
def awY (i:Im) (hw:xpW i.e≤WL) (h:G1 87 [.of (.agg (xpC i.e))] (aG (cW i.e))):G1 157 [.of (.agg (imC i))] (aG (aaR i)):=by
 have kx:=fun K=>aN.k h K
 have kS:=fun K=>aN.k (ao4 i.e hw) K
 have hz:decide (i.e=jc)=ads i.e:=by rw[ca,aly,ar]
 rw[hz] at kS
 have ez:[ci 0,ci 0,ci 0,aH {data:=#[]},aH {data:=#[]},aH {data:=#[]},cb false,C.sl [] 0,C.sl [] 0]=xpC jc:=by rw[adz];rfl
 rw[aij]
 refine ah rfl aO6 azK rfl ?_
 cases s1:i.st
 .by_cases s2:i.tb=[]
  .cases s3:gg i.az
   .simp -implicitDefEqProofs(maxSteps:=9^9)only[Tryz.f157,↓zA,sevalprocAttr,amQ,s1,aa s2,s3,cH]
   .simp -implicitDefEqProofs(maxSteps:=9^9)only[Tryz.f157,↓zA,sevalprocAttr,amQ,s1,aa s2,s3,cH,kx]
  .simp -implicitDefEqProofs(maxSteps:=9^9)only[Tryz.f157,↓zA,sevalprocAttr,amQ,s1,s2]
 .cases s2:gg i.tb
  .simp -implicitDefEqProofs(maxSteps:=9^9)only[Tryz.f157,↓zA,sevalprocAttr,amQ,s1,s2,cH]
  .cases s3:ads i.e
   .simp -implicitDefEqProofs(maxSteps:=9^9)only[Tryz.f157,↓zA,sevalprocAttr,amQ,s1,s2,s3,cH,ez,kS]
   .simp -implicitDefEqProofs(maxSteps:=9^9)only[Tryz.f157,↓zA,sevalprocAttr,amQ,s1,s2,s3,cH,ez,kS]
theorem agU:∀ n,n≤WL→(∀ e,xpW e≤n→G1 87 [.of (.agg (xpC e))] (aG (cW e)))∧(∀ e,qyW e≤n→G1 72 [.of (.agg (qyC e))] (aG (d7 e)))
  ∧ (∀ e,imW e≤n→G1 157 [.of (.agg (imC e))] (aG (aaR e)))∧(∀ e,fmW e≤n→G1 158 [.of (.agg (fmC e))] (aG (gL e))∧G1 159 [.of (.agg (fmC e))] (aU (gU e)))
 | 0,_=>⟨fun e h=>by have:=aaw e;omega,fun e h=>by have:=adu e;omega,fun e h=>by have:=adw e;omega,fun e h=>by have:=abk e;omega⟩
 | n+1,hn=>by
  obtain⟨i1,i2,i3,i4⟩:=agU n (by omega)
  have sX:∀ l:List Xp,lsW xpW l≤n+1→amA l:=fun l h x hx=>i1 x (by have:=bQ (w:=xpW) hx;omega)
  have sQ:∀ l:List Qy,lsW qyW l≤n+1→arc l:=fun l h x hx=>i2 x (by have:=bQ (w:=qyW) hx;omega)
  have sI:∀ l:List Im,lsW imW l≤n+1→a0z l:=fun l h x hx=>i3 x (by have:=bQ (w:=imW) hx;omega)
  have sS:∀ l:List Fm,lsW fmW l≤n+1→aMp l:=fun l h x hx=>(i4 x (by have:=bQ (w:=fmW) hx;omega)).1
  have sT:∀ l:List Fm,lsW fmW l≤n+1→aMv l:=fun l h x hx=>(i4 x (by have:=bQ (w:=fmW) hx;omega)).2
  refine⟨fun e h=>?_,fun e h=>?_,fun e h=>?_,fun e h=>?_⟩
  .have h':=aaU e
   exact awZ e (by omega) (sX _ (by omega)) (sQ _ (by omega))
  .have h':=iK e
   exact auh e (by omega) (sQ _ (by omega)) (sI _ (by omega)) (sS _ (by omega)) (sT _ (by omega)) (sX _ (by omega)) (sX _ (by omega)) (sX _ (by omega))
  .have h':=aci e
   exact awY e (by omega) (i1 _ (by omega))
  .have h':=jg e
   exact⟨asl e (by omega) (sQ _ (by omega)) (sS _ (by omega)) (sX _ (by omega)),axR e (by omega) (sT _ (by omega))⟩
def awp (l:List Xp) (h:lsW xpW l≤WL):amA l:=fun x hx=>(agU WL (aM _)).1 x (by have:=bQ (w:=xpW) hx;omega)
def a0y (l:List Qy) (h:lsW qyW l≤WL):arc l:=fun x hx=>(agU WL (aM _)).2.1 x (by have:=bQ (w:=qyW) hx;omega)
def aTL:=ai (ai (ai @zq (ai @a5P @ath)) (ai @apW (ai @ape @amr))) (ai (ai @aC0 (ai @av1 @cR)) (ai (ai @ey @zT0) (ai @aIf (ba aYB))))
def aw1 (e:Xp) (hw:xpW e≤1152921504606846000):G1 29 [.of (.agg (xpC e))] (aG (ab2 e)):=by
 have k1:=fun K=>aN.k ((agU WL (aM _)).1 e (by simp only[WL];omega)) K
 have w1:lsW xpW [e]≤WL:=by simp only[lsW,aV,bC,bU,cU,WL];omega
 have e1:bl cG [e]=cG e:=by rw[bl,bl,iP]
 have er:ab2 e=(cW e&&adb (cG e)):=by rw[ab2,afl]
 rw[er]
 refine ah rfl aYB aIf rfl ?_
 cases c:cW e
 .simp -implicitDefEqProofs(maxSteps:=9^9)only[Tryz.f29,↓zA,sevalprocAttr,aTL,k1,c]
 .simp -implicitDefEqProofs(maxSteps:=9^9)only[Tryz.f29,↓zA,sevalprocAttr,aTL,k1,c,auC,aER,w1,e1,auk]
def aoC:=ai (ai (ai @zq @ajQ) (ai @aik @cR)) (ai (ai @ie @zT0) (ai @aAb (ba aPx)))
def aFM (l:List (List Xp)) (hw:lsW (lsW xpW) l≤WL):G1 130 [.of (slC (lsC xpC) l)] (aG ((l.all fun r=>bu r 1 16 cW)&&decide (l.length≤64))):=by
 have h1:=da (lsW xpW) l fun x _=>by simp[lsW]
 have hw2:=hw
 simp only[WL] at hw2
 refine ah rfl aPx aAb rfl ?_
 simp -implicitDefEqProofs(maxSteps:=9^9)only[Tryz.f130,↓zA,sevalprocAttr,aoC]
 refine bX l.length (fun k t=>t.fr 0=.of (slC (lsC xpC) l)∧t.fr 3=aU k∧t.objs=[]∧(l.all fun r=>bu r 1 16 cW)=((l.drop k).all fun r=>bu r 1 16 cW)) ?_ ?_
 .simp -implicitDefEqProofs(maxSteps:=9^9)only[Tryz.f130,↓zA,sevalprocAttr,aoC]
  try exact rfl
 .rintro k t hk ⟨f0,f3,ho,E⟩
  rcases ap k l.length with d1|d1
  .have hwk:=cF k (by omega)
   have hr:lsW xpW l[k]≤WL:=by have:=bQ (w:=lsW xpW) (ay d1);simp only[WL];omega
   have kx:=fun a b K=>aN.k (adc l[k] a b hr (awp l[k] hr)) K
   rw[cN d1,adk] at E
   cases d2:bu l[k] 1 16 cW
   .rw[d2,aZ] at E
    simp -implicitDefEqProofs(maxSteps:=9^9)only[Tryz.f130,↓zA,sevalprocAttr,aoC,f0,f3,ho,aK,d1,bq d1,hwk,kx,d2,E]
   .rw[d2,aX] at E
    simp -implicitDefEqProofs(maxSteps:=9^9)only[Tryz.f130,↓zA,sevalprocAttr,aoC,f0,f3,ho,aK,d1,bq d1,hwk,kx,d2,E]
  .have e:k=l.length:=by omega
   subst e
   rw[aw,ff] at E
   simp -implicitDefEqProofs(maxSteps:=9^9)only[Tryz.f130,↓zA,sevalprocAttr,aoC,f0,f3,ho,aK,au,E,aiD]
def aiE (n:Nat):((n:Int)≤16)=(n≤16):=propext (by omega)
def aoc (n:Nat):((1:Int)≤(n:Int))=(1≤n):=propext (by omega)
def akw:=ai (ai (ai @zq (ai @ahx @agf)) (ai @ath (ai @apW @cR))) (ai (ai @abO (ai @abP @Q9)) (ai @zT0 (ai @az9 (ba aPv))))
def aFJ (l:List As) (hw:lsW asW l≤WL):G1 132 [.of (slC asC l)] (aG (l.all aca&&(decide (1≤l.length)&&decide (l.length≤16)))):=by
 have h1:=da asW l fun x _=>by simp[asW]
 have hw2:=hw
 simp only[WL] at hw2
 refine ah rfl aPv az9 rfl ?_
 simp -implicitDefEqProofs(maxSteps:=9^9)only[Tryz.f132,↓zA,sevalprocAttr,akw]
 refine bX l.length (fun k t=>t.fr 0=.of (slC asC l)∧t.fr 3=aU k∧t.objs=[]∧l.all aca=(l.drop k).all aca) ?_ ?_
 .simp -implicitDefEqProofs(maxSteps:=9^9)only[Tryz.f132,↓zA,sevalprocAttr,akw]
  try exact rfl
 .rintro k t hk ⟨f0,f3,ho,E⟩
  rcases ap k l.length with d1|d1
  .have hwk:=cF k (by omega)
   have hr:xpW l[k].e≤WL:=by have:=bQ (w:=asW) (ay d1);simp only[asW,WL] at *;omega
   have kx:=fun K=>aN.k ((agU WL (aM _)).1 l[k].e hr) K
   rw[cN d1,adk] at E
   cases d2:bk l[k].nm
   .have F:l.all aca=false:=by rw[E];simp[aca,d2]
    simp -implicitDefEqProofs(maxSteps:=9^9)only[Tryz.f132,↓zA,sevalprocAttr,akw,f0,f3,ho,aK,d1,bq d1,hwk,dc,d2,F]
   .cases d3:cW l[k].e
    .have F:l.all aca=false:=by rw[E];simp[aca,d2,d3]
     simp -implicitDefEqProofs(maxSteps:=9^9)only[Tryz.f132,↓zA,sevalprocAttr,akw,f0,f3,ho,aK,d1,bq d1,hwk,dc,kx,d2,d3,F]
    .have F:l.all aca=(l.drop (k+1)).all aca:=by rw[E];simp[aca,d2,d3]
     simp -implicitDefEqProofs(maxSteps:=9^9)only[Tryz.f132,↓zA,sevalprocAttr,akw,f0,f3,ho,aK,d1,bq d1,hwk,dc,kx,d2,d3,F]
  .have e:k=l.length:=by omega
   subst e
   rw[aw,ff] at E
   by_cases d2:1≤l.length
   .simp -implicitDefEqProofs(maxSteps:=9^9)only[Tryz.f132,↓zA,sevalprocAttr,akw,f0,f3,ho,aK,au,E,aiE,aoc,d2]
   .simp -implicitDefEqProofs(maxSteps:=9^9)only[Tryz.f132,↓zA,sevalprocAttr,akw,f0,f3,ho,aK,au,E,aiE,aoc,d2]
def atn (n:Int):(n<1)=¬(1≤n):=propext (by omega)
def ats (n:Int):(3<n)=¬(n≤3):=propext (by omega)
def age (s:Sm):Bool:=s.cs.all abu&&(s.kys.all afX&&(s.rfs.all acm&&(decide (1≤s.cs.length)&&decide (s.cs.length≤16)&&decide (s.kys.length≤64)&&decide (s.rfs.length≤64)&&bu s.chs 0 64 cW)))
abbrev smL (s:Sm):List C:=[ci s.kd,aH (aD s.tb),aH (aD s.nm),slC cdC s.cs,slC bA s.ns,cb s.un,slC kdC s.kys,slC rdC s.rfs,slC xpC s.chs,slC (lsC xpC) s.rws,slC asC s.sts,slC xpC s.wh,slC qyC s.q]
def abN:=ai (ai (ai (ai @zq @a6l) (ai @ahx (ai @agf @aGM))) (ai (ai @aBw (ai @a6k @ajQ)) (ai @aik (ai @aba @aep)))) (ai (ai (ai @adN (ai @aeo @cR)) (ai @acl (ai @ack @ac3))) (ai (ai @bO (ai @Q9 @Q3)) (ai @zT0 (ai @aAd (ba aPz)))))
def axy (s:Sm) (hw:smW s≤WL):G1 128 [.of (.agg (smC s))] (aG (age s)):=by
 have hw2:=hw
 simp only[WL,smW] at hw2
 have n1:=da cdW s.cs fun x _=>by simp[cdW]
 have n2:=da kdW s.kys fun x _=>by simp[kdW]
 have n3:=da rdW s.rfs fun x _=>by simp[rdW]
 have wc:lsW xpW s.chs≤WL:=by simp only[WL];omega
 have kc:=fun a b K=>aN.k (adc s.chs a b wc (awp s.chs wc)) K
 refine ah rfl aPz aAd rfl ?_
 simp -implicitDefEqProofs(maxSteps:=9^9)only[Tryz.f128,↓zA,sevalprocAttr,abN]
 refine bX s.cs.length (fun k t=>t.fr 1=.of (.ref (smL s))∧t.fr 3=aU k∧t.objs=[]∧s.cs.all abu=(s.cs.drop k).all abu) ?_ ?_
 .simp -implicitDefEqProofs(maxSteps:=9^9)only[Tryz.f128,↓zA,sevalprocAttr,abN]
  try exact rfl
 rintro k t hk ⟨f1,f3,ho,E⟩
 rcases ap k s.cs.length with d1|d1
 .have hwk:=cF k (by omega)
  have gx:=bq d1
  rw[cN d1,adk] at E
  generalize s.cs[k]=x at *
  cases b1:bk x.nm
  .have F:s.cs.all abu=false:=by rw[E];simp[abu,b1]
   simp -implicitDefEqProofs(maxSteps:=9^9)only[Tryz.f128,↓zA,sevalprocAttr,abN,f1,f3,ho,aK,d1,gx,hwk,dc,atn,ats,b1,age,F]
  by_cases b2:1≤x.ty
  rotate_left
  .have F:s.cs.all abu=false:=by rw[E];simp[abu,b1,b2]
   simp -implicitDefEqProofs(maxSteps:=9^9)only[Tryz.f128,↓zA,sevalprocAttr,abN,f1,f3,ho,aK,d1,gx,hwk,dc,atn,ats,b1,b2,age,F]
  by_cases b3:x.ty≤3
  .have F:s.cs.all abu=(s.cs.drop (k+1)).all abu:=by rw[E];simp[abu,b1,b2,b3]
   simp -implicitDefEqProofs(maxSteps:=9^9)only[Tryz.f128,↓zA,sevalprocAttr,abN,f1,f3,ho,aK,d1,gx,hwk,dc,atn,ats,b1,b2,b3,F]
  .have F:s.cs.all abu=false:=by rw[E];simp[abu,b1,b2,b3]
   simp -implicitDefEqProofs(maxSteps:=9^9)only[Tryz.f128,↓zA,sevalprocAttr,abN,f1,f3,ho,aK,d1,gx,hwk,dc,atn,ats,b1,b2,b3,age,F]
 have e:k=s.cs.length:=by omega
 subst e
 rw[aw,ff] at E
 simp -implicitDefEqProofs(maxSteps:=9^9)only[Tryz.f128,↓zA,sevalprocAttr,abN,f1,f3,ho,aK,au,age,E]
 refine bX s.kys.length (fun k t=>t.fr 1=.of (.ref (smL s))∧t.fr 4=aU k∧t.objs=[]∧s.kys.all afX=(s.kys.drop k).all afX) ?_ ?_
 .simp -implicitDefEqProofs(maxSteps:=9^9)only[Tryz.f128,↓zA,sevalprocAttr,abN,f1,f3,ho]
  try exact rfl
 rintro j u hj ⟨g1,g4,go,F⟩
 rcases ap j s.kys.length with d1|d1
 .have hwj:=cF j (by omega)
  have hn:s.kys[j].ns.length≤4611686018427387903:=by
   have h1:=bQ (w:=kdW) (ay d1)
   have h2:=da cV s.kys[j].ns fun x _=>by simp[cV]
   simp only[kdW] at h1
   omega
  rw[cN d1,adk] at F
  have eK:afX s.kys[j]=bu s.kys[j].ns 1 16 bk:=by rw[afX,df,afS]
  cases b1:bu s.kys[j].ns 1 16 bk
  .rw[eK,b1,aZ] at F
   simp -implicitDefEqProofs(maxSteps:=9^9)only[Tryz.f128,↓zA,sevalprocAttr,abN,g1,g4,go,aK,d1,bq d1,hwj,aeB,hn,b1,F]
  .rw[eK,b1,aX] at F
   simp -implicitDefEqProofs(maxSteps:=9^9)only[Tryz.f128,↓zA,sevalprocAttr,abN,g1,g4,go,aK,d1,bq d1,hwj,aeB,hn,b1,F]
 have e:j=s.kys.length:=by omega
 subst e
 rw[aw,ff] at F
 simp -implicitDefEqProofs(maxSteps:=9^9)only[Tryz.f128,↓zA,sevalprocAttr,abN,g1,g4,go,aK,au,F]
 refine bX s.rfs.length (fun k t=>t.fr 1=.of (.ref (smL s))∧t.fr 5=aU k∧t.objs=[]∧s.rfs.all acm=(s.rfs.drop k).all acm) ?_ ?_
 .simp -implicitDefEqProofs(maxSteps:=9^9)only[Tryz.f128,↓zA,sevalprocAttr,abN,g1,g4,go]
  try exact rfl
 rintro i v hi ⟨p1,p5,po,G⟩
 rcases ap i s.rfs.length with d1|d1
 .have hwi:=cF i (by omega)
  have h1:=bQ (w:=rdW) (ay d1)
  have gx:=bq d1
  rw[cN d1,adk] at G
  generalize s.rfs[i]=r at *
  have h2:=da cV r.ns fun x _=>by simp[cV]
  have h3:=da cV r.to fun x _=>by simp[cV]
  simp only[rdW] at h1
  have hn:r.ns.length≤4611686018427387903:=by omega
  have ht:r.to.length≤4611686018427387903:=by omega
  have eR:acm r=(bu r.ns 1 16 bk&&bk r.tb&&bu r.to 1 16 bk):=by rw[acm,df,df,afS,afS]
  cases b1:bu r.ns 1 16 bk
  .have F2:s.rfs.all acm=false:=by rw[G,eR,b1];simp
   simp -implicitDefEqProofs(maxSteps:=9^9)only[Tryz.f128,↓zA,sevalprocAttr,abN,p1,p5,po,aK,d1,gx,hwi,aeB,dc,hn,ht,b1,F2]
  cases b2:bk r.tb
  .have F2:s.rfs.all acm=false:=by rw[G,eR,b1,b2];simp
   simp -implicitDefEqProofs(maxSteps:=9^9)only[Tryz.f128,↓zA,sevalprocAttr,abN,p1,p5,po,aK,d1,gx,hwi,aeB,dc,hn,ht,b1,b2,F2]
  cases b3:bu r.to 1 16 bk
  .have F2:s.rfs.all acm=false:=by rw[G,eR,b1,b2,b3];simp
   simp -implicitDefEqProofs(maxSteps:=9^9)only[Tryz.f128,↓zA,sevalprocAttr,abN,p1,p5,po,aK,d1,gx,hwi,aeB,dc,hn,ht,b1,b2,b3,F2]
  .have F2:s.rfs.all acm=(s.rfs.drop (i+1)).all acm:=by rw[G,eR,b1,b2,b3];simp
   simp -implicitDefEqProofs(maxSteps:=9^9)only[Tryz.f128,↓zA,sevalprocAttr,abN,p1,p5,po,aK,d1,gx,hwi,aeB,dc,hn,ht,b1,b2,b3,F2]
 have e:i=s.rfs.length:=by omega
 subst e
 rw[aw,ff] at G
 by_cases c1:1≤s.cs.length
 rotate_left
 .simp -implicitDefEqProofs(maxSteps:=9^9)only[Tryz.f128,↓zA,sevalprocAttr,abN,p1,p5,po,aK,au,G,aoc,aiE,aiD,c1]
 by_cases c2:s.cs.length≤16
 rotate_left
 .simp -implicitDefEqProofs(maxSteps:=9^9)only[Tryz.f128,↓zA,sevalprocAttr,abN,p1,p5,po,aK,au,G,aoc,aiE,aiD,c1,c2]
 by_cases c3:s.kys.length≤64
 rotate_left
 .simp -implicitDefEqProofs(maxSteps:=9^9)only[Tryz.f128,↓zA,sevalprocAttr,abN,p1,p5,po,aK,au,G,aoc,aiE,aiD,c1,c2,c3]
 by_cases c4:s.rfs.length≤64
 .simp -implicitDefEqProofs(maxSteps:=9^9)only[Tryz.f128,↓zA,sevalprocAttr,abN,p1,p5,po,aK,au,G,aoc,aiE,aiD,c1,c2,c3,c4,kc]
 .simp -implicitDefEqProofs(maxSteps:=9^9)only[Tryz.f128,↓zA,sevalprocAttr,abN,p1,p5,po,aK,au,G,aoc,aiE,aiD,c1,c2,c3,c4]
end Go.Proofs.YtemdljoideegeaaGreatDoor
namespace Go.Tab
open Go Go.Pe
def aDr:Int:=1099511627776
def atC (l:List Int) (most:Nat):Bool:=decide (l≠[])&&decide l.Nodup&&l.all fun x=>decide (0≤x)&&decide (x<(most:Int))
def aCz (prev:Int) (next:Int):List Int→Bool
 | []=>true
 | x::r=>decide (prev<x)&&decide (x<next)&&aCz x next r
def avQ (tb:List UInt8) (n:Nat):List UInt8:=tb++[95]++Lib.itoa (n:Int)
def a7n (c:Ct) (id:Int):Option Ix:=c.ixs.find? fun x=>decide (x.id=id)
def ak8 (c:Ct) (nm:List UInt8):Option Tb:=c.tbs.find? fun t=>decide (t.nm=nm)
def aWv (c:Ct) (t:Tb) (k:Ky) (n:Nat):Bool:=match a7n c k.ix with
 | none=>false
 | some x=>atC k.cs t.cs.length&&decide (x.tb=t.nm)&&x.un&&decide (x.cs=k.cs)&&decide (x.nm=avQ t.nm n)
def aTY (l:List Cd) (i:Int):Option Int:=(l[i.toNat]?).map Cd.ty
def atI (a:List Cd) (b:List Cd):List Int→List Int→Bool
 | x::r,y::q=>decide (0≤y)&&decide (y<(b.length:Int))&&decide (aTY a x=aTY b y)&&atI a b r q
 | _,_=>true
def aIA (l:List Ky) (to:List Int):Bool:=l.any fun k=>decide (k.cs=to)
def aqx (c:Ct) (t:Tb) (f:Rf):Bool:=match ak8 c f.tb with
 | none=>false
 | some o=>atC f.cs t.cs.length&&decide (f.to.length=f.cs.length)&&aIA o.kys f.to&&atI t.cs o.cs f.cs f.to
def aL0 (t:Tb):Bool:=t.cs.all abu&&bk t.nm&&dD t.cs.length 1 16&&decide (t.cs.map Cd.nm).Nodup
def aNv (c:Ct) (t:Tb):Nat→List Ky→Bool
 | _,[]=>true
 | n,k::r=>aWv c t k (n+1)&&aNv c t (n+1) r
def aFZ (l:List Ky):Nat:=(l.filter Ky.pr).length
def aFo (c:Ct) (t:Tb):Bool:=aL0 t&&decide (aFZ t.kys≤1)&&aNv c t 0 t.kys&&t.rfs.all (aqx c t)&&t.chs.all ab2
def aQN (c:Ct) (id:Int):Bool:=c.tbs.any fun t=>t.kys.any fun k=>decide (k.ix=id)
def aWF (c:Ct) (x:Ix):Bool:=match ak8 c x.tb with
 | none=>false
 | some t=>atC x.cs t.cs.length&&(bk x.nm||aQN c x.id)
def a4C (l:List Cd) (s:List UInt8):Option Nat:=l.findIdx? fun c=>decide (c.nm=s)
def ad5 (l:List Cd):List (List UInt8)→Option (List Int)
 | []=>some []
 | s::r=>match a4C l s,ad5 l r with
  | some k,some q=>some ((k:Int)::q)
  | _,_=>none
def aGX (c:Ct) (s:List UInt8):Bool:=c.ixs.any fun x=>decide (x.nm=s)
def arn (c:Ct) (tb:List UInt8):Nat→List Kd→Bool
 | _,[]=>false
 | n,k::r=>!decide k.ns.Nodup||aGX c (avQ tb (n+1))||arn c tb (n+1) r
def aT0 (c:Ct) (s:Sm):Bool:=(ak8 c s.tb).isSome||!decide (s.cs.map Cd.nm).Nodup||decide (1<(s.kys.filter Kd.pr).length)||arn c s.tb 0 s.kys||s.rfs.any fun f=>!decide f.ns.Nodup
def aG2 (tb:List UInt8) (cs:List Cd):Nat→Int→List Kd→Option (List Ky×List Ix)
 | _,_,[]=>some ([],[])
 | n,id,k::r=>match ad5 cs k.ns,aG2 tb cs (n+1) (id+1) r with
  | some l,some (a,b)=>some (⟨k.pr,l,id⟩::a,⟨avQ tb (n+1),id,tb,l,true⟩::b)
  | _,_=>none
def a33 (c:Ct) (tb:List UInt8) (cs:List Cd) (kys:List Ky) (f:Rd):Rf ⊕ Int :=
 match ad5 cs f.ns with
 | none=>.inr 6
 | some from'=>match (if f.tb=tb then some (cs,kys) else (ak8 c f.tb).map fun o=>(o.cs,o.kys)) with
  | none=>.inr 6
  | some (ocs,okys)=>match ad5 ocs f.to with
   | none=>.inr 6
   | some to=>if from'.length≠to.length then .inr 11 else if !aIA okys to then .inr 21 else if !atI cs ocs from' to then .inr 9 else .inl ⟨from',f.tb,to⟩
def aG1 (c:Ct) (tb:List UInt8) (cs:List Cd) (kys:List Ky):List Rd→List Rf ⊕ Int
 | []=>.inl []
 | f::r=>match a33 c tb cs kys f with
  | .inr e=>.inr e
  | .inl x=>match aG1 c tb cs kys r with
   | .inr e=>.inr e
   | .inl l=>.inl (x::l)
structure Right (c:Ct):Prop where
 nt:c.tbs.length≤32
 ni:c.ixs.length≤64
 lo:1≤c.nx
 hi:c.nx≤aDr
 un:(c.tbs.map Tb.nm).Nodup
 ui:(c.ixs.map Ix.nm).Nodup
 uid:(c.tbs.map Tb.id++c.ixs.map Ix.id).Nodup
 rt:aCz 0 c.nx (c.tbs.map Tb.id)=true
 ri:aCz 0 c.nx (c.ixs.map Ix.id)=true
 tb:∀ t∈c.tbs,aFo c t=true
 ix:∀ x∈c.ixs,aWF c x=true
def auf {c:Ct} {t:Tb} {f:Rf} (hf:aqx c t f=true):∃ o,ak8 c f.tb=some o:=by
 unfold aqx at hf
 split at hf
 .cases hf
 .exact⟨_,by assumption⟩
structure Creates (c:Ct) (s:Sm) (kys:List Ky) (ixs:List Ix) (rfs:List Rf):Prop where
 kd:s.kd=1
 sm:abH s=true
 tw:aT0 c s=false
 b1:s.cs.length≤16
 b2:c.tbs.length<32
 b3:c.ixs.length+s.kys.length≤64
 b4:c.nx+1+(s.kys.length:Int)≤aDr
 kk:aG2 s.tb s.cs 0 (c.nx+1) s.kys=some (kys,ixs)
 mr:aG1 c s.tb s.cs kys s.rfs=.inl rfs
section
variable {c:Ct} {s:Sm} {kys:List Ky} {ixs:List Ix} {rfs:List Rf} (h:Right c) (m:Creates c s kys ixs rfs)
include h m
end
structure Indexes (c:Ct) (s:Sm) (t:Tb) (l:List Int):Prop where
 kd:s.kd=2
 sm:abH s=true
 nn:aGX c s.nm=false
 nd:s.ns.Nodup
 b1:c.ixs.length<64
 b2:c.nx<aDr
 ft:ak8 c s.tb=some t
 pl:ad5 t.cs s.ns=some l
section
variable {c:Ct} {s:Sm} {t:Tb} {l:List Int} (h:Right c) (m:Indexes c s t l)
include h m
end
theorem Right.refs {c:Ct} (h:Right c) {t:Tb} (ht:t∈c.tbs) {f:Rf} (hf:f∈t.rfs):∃ o,ak8 c f.tb=some o:=by
 have:=h.tb t ht
 unfold aFo at this
 simp only[ab,bR] at this
 exact auf (this.1.2 f hf)
def akU {s:List UInt8} (h:bk s=true):s≠[]:=by
 rintro rfl
 cases h
section
variable {c:Ct} {s:Sm} (h:Right c)
include h
end
def LB:Nat:=1073741824
structure TbB (t:Tb):Prop where
 n:t.nm.length≤LB
 c:t.cs.length≤LB
 k:t.kys.length≤LB
 f:t.rfs.length≤LB
 h:lsW xpW t.chs≤LB
 kc:∀ k∈t.kys,k.cs.length≤LB
 fc:∀ f∈t.rfs,f.cs.length≤LB
 ft:∀ f∈t.rfs,f.to.length≤LB
 cn:∀ d∈t.cs,d.nm.length≤LB
 o:∀ e∈t.chs,fh e
structure CtB (c:Ct):Prop where
 t:c.tbs.length≤LB
 x:c.ixs.length≤LB
 tb:∀ t∈c.tbs,TbB t
 ix:∀ x∈c.ixs,x.cs.length≤LB
 xn:∀ x∈c.ixs,x.nm.length≤4611686018427387903
def apD (k:Nat) (h:k<10):Lib.itoa (k:Int)=[UInt8.ofNat (48+k)]:=by
 unfold Lib.itoa
 rw[aj (by omega),dm,Lib.decDigits_one h]
def arM (n:Nat) (h:10≤n):Lib.itoa (n:Int)=Lib.itoa ((n / 10:Nat):Int)++[UInt8.ofNat (48+n % 10)]:=by
 have hd:Lib.decDigits n=Lib.decDigits (n / 10)++[UInt8.ofNat (48+n % 10)]:=by rw[Lib.decDigits,ajs (by omega)]
 unfold Lib.itoa
 rw[aj (by omega),aj (by omega),dm,dm,hd]
end Go.Tab
namespace Go.Proofs.YtemdljoideegeaaGreatDoor
open Go Go.Pe Go.Tab
def aNF (n:Nat):((0:Int)<(n:Int))=(0<n):=propext (by omega)
end Go.Proofs.YtemdljoideegeaaGreatDoor
namespace Go.Tab
open Go Go.Pe
def gv:List UInt8:=[116,110,99,109,117,107,102,104,114,115,119,113]
def pick:List Bool→List UInt8→List UInt8
 | b::r,c::l=>if b then c::pick r l else pick r l
 | _,_=>[]
def hC (s:Sm):List Bool:=[!decide (s.tb=[]),!decide (s.nm=[]),decide (0<s.cs.length),decide (0<s.ns.length),s.un,decide (0<s.kys.length),decide (0<s.rfs.length),decide (0<s.chs.length),decide (0<s.rws.length),decide (0<s.sts.length),decide (0<s.wh.length),decide (0<s.q.length)]
def cD (s:Sm):List UInt8:=pick (hC s) gv
def dt (of:List UInt8) (c:UInt8):Bool:=of.any fun d=>decide (d=c)
def hZ (s of:List UInt8):Bool:=s.all (dt of)
def afK (of:List UInt8):List Bool→List UInt8→Bool
 | b::r,c::l=>(!b||dt of c)&&afK of r l
 | _,_=>true
theorem arL (of:List UInt8):∀ (bs:List Bool) (ls:List UInt8),hZ (pick bs ls) of=afK of bs ls
 | [],_=>by simp[pick,hZ,afK]
 | _::_,[]=>by simp[pick,hZ,afK]
 | b::r,c::l=>by
  have ih:=arL of r l
  cases b with
  | true=>simp only[pick,afK,hZ,aA,acf,fx,dl];rw[← ih];rfl
  | false=>simp only[pick,afK,aW,aQ,eh,dw,aX];exact ih
def agy:List Bool→Bool
 | []=>true
 | b::r=>!b&&agy r
theorem an6 {c:UInt8}:∀ {bs:List Bool} {ls:List UInt8},c∈pick bs ls→c∈ls
 | [],_,h=>by simp[pick] at h
 | _::_,[],h=>by simp[pick] at h
 | true::r,d::l,h=>by
  simp only[pick,aA,cY] at h ⊢
  exact h.imp id an6
 | false::r,d::l,h=>iC _ (an6 (bs:=r) (by simpa [pick] using h))
theorem an5:∀ (bs:List Bool) (ls:List UInt8),bs.length=ls.length→(pick bs ls=[]↔agy bs=true)
 | [],[],_=>by simp[pick,agy]
 | true::r,d::l,h=>by simp[pick,agy]
 | false::r,d::l,h=>by
  simp only[pick,agy,aW,aQ,eh,aX]
  exact an5 r l (by simpa using h)
def ai1 (c:UInt8):List Bool→List UInt8→Bool
 | b::r,d::l=>if d=c then b&&agy r else !b&&ai1 c r l
 | _,_=>false
theorem auB (c:UInt8):∀ (bs:List Bool) (ls:List UInt8),bs.length=ls.length→ls.Nodup→(pick bs ls=[c]↔ai1 c bs ls=true)
 | [],[],_,_=>by simp[pick,ai1]
 | b::r,d::l,h,hn=>by
  rw[acQ] at hn
  have hl:r.length=l.length:=by simpa using h
  unfold ai1
  by_cases e:d=c
  .subst e
   rw[aE rfl]
   cases b with
   | true =>
    simp only[pick,aA,aX,abF,cX]
    exact an5 r l hl
   | false =>
    simp only[pick,aW,aQ,aZ,abt]
    intro hp
    exact hn.1 (an6 (bs:=r) (by rw[hp];simp))
  .rw[aj e]
   cases b with
   | true=>simp[pick,e]
   | false =>
    simp only[pick,aW,aQ,eh,aX]
    exact auB c r l hl hn.2
def aDO (s:Sm):decide (cD s=[])=agy (hC s):=by
 rw[ca,ar]
 exact an5 _ _ rfl
def ala (s:Sm) (c:UInt8):decide (cD s=[c])=ai1 c (hC s) gv:=by
 rw[ca,ar]
 exact auB c _ _ rfl (by decide)
def afy (s:Sm) (of:List UInt8):hZ (cD s) of=afK of (hC s) gv:=arL of _ _
def agx (n:Nat):decide (0<n)=!decide (n=0):=by cases n <;> rfl
def agA (l:List UInt8):decide (l≠[])=!decide (l=[]):=by cases l <;> rfl
def aCQ (s:Sm):Bool:=(decide (0<s.rws.length)&&decide (s.q.length=0))||(decide (s.rws.length=0)&&decide (s.q.length=1))
def aCr (s:Sm) (cr:Bool):Bool :=
 if s.kd=1 then hZ (cD s) [116,99,107,102,104]&&(bk s.tb&&cr)
 else if s.kd=2 then hZ (cD s) [116,110,109,117]&&(bk s.tb&&(bk s.nm&&df s.ns 1 16))
 else if s.kd=3 then (decide (cD s=[116])&&bk s.tb)||(decide (cD s=[110])&&bk s.nm)
 else if s.kd=4 then hZ (cD s) [116,109,114,113]&&(aCQ s&&(bk s.tb&&(df s.ns 0 16&&((s.rws.all (fun l=>dV l 1 16)&&decide (s.rws.length≤64))&&s.q.all d7))))
 else if s.kd=5 then hZ (cD s) [116,115,119]&&(bk s.tb&&((s.sts.all aca&&(decide (1≤s.sts.length)&&decide (s.sts.length≤16)))&&dV s.wh 0 1))
 else if s.kd=6 then hZ (cD s) [116,119]&&(bk s.tb&&dV s.wh 0 1)
 else if s.kd=7∨s.kd=11 then decide (cD s=[113])&&(decide (s.q.length=1)&&s.q.all d7)
 else if s.kd=8∨s.kd=9∨s.kd=10∨s.kd=12∨s.kd=13∨s.kd=14 then decide (cD s=[])
 else false
def anh (s:Sm):Bool:=s.cs.all abu&&(s.kys.all afX&&(s.rfs.all acm&&(decide (1≤s.cs.length)&&decide (s.cs.length≤16)&&decide (s.kys.length≤64)&&decide (s.rfs.length≤64)&&dV s.chs 0 64)))
def aWA (s:Sm):hZ (cD s) [116,99,107,102,104]=(decide (s.nm=[])&&decide (s.ns.length=0)&&!s.un&&decide (s.rws.length=0)&&decide (s.sts.length=0)&&decide (s.wh.length=0)&&decide (s.q.length=0)):=by
 rw[afy]
 simp only[hC,gv,afK,show dt [116,99,107,102,104] 116=true from by decide,show dt [116,99,107,102,104] 110=false from by decide,show dt [116,99,107,102,104] 99=true from by decide,show dt [116,99,107,102,104] 109=false from by decide,show dt [116,99,107,102,104] 117=false from by decide,show dt [116,99,107,102,104] 107=true from by decide,show dt [116,99,107,102,104] 102=true from by decide,show dt [116,99,107,102,104] 104=true from by decide,show dt [116,99,107,102,104] 114=false from by decide,show dt [116,99,107,102,104] 115=false from by decide,show dt [116,99,107,102,104] 119=false from by decide,show dt [116,99,107,102,104] 113=false from by decide,agx,agA,dU,fg,e7,aX,dQ,dq]
def aWy (s:Sm):hZ (cD s) [116,110,109,117]=(decide (s.cs.length=0)&&decide (s.kys.length=0)&&decide (s.rfs.length=0)&&decide (s.chs.length=0)&&decide (s.rws.length=0)&&decide (s.sts.length=0)&&decide (s.wh.length=0)&&decide (s.q.length=0)):=by
 rw[afy]
 simp only[hC,gv,afK,show dt [116,110,109,117] 116=true from by decide,show dt [116,110,109,117] 110=true from by decide,show dt [116,110,109,117] 99=false from by decide,show dt [116,110,109,117] 109=true from by decide,show dt [116,110,109,117] 117=true from by decide,show dt [116,110,109,117] 107=false from by decide,show dt [116,110,109,117] 102=false from by decide,show dt [116,110,109,117] 104=false from by decide,show dt [116,110,109,117] 114=false from by decide,show dt [116,110,109,117] 115=false from by decide,show dt [116,110,109,117] 119=false from by decide,show dt [116,110,109,117] 113=false from by decide,agx,agA,dU,fg,e7,aX,dQ,dq]
def aWx (s:Sm):hZ (cD s) [116,109,114,113]=(decide (s.nm=[])&&decide (s.cs.length=0)&&!s.un&&decide (s.kys.length=0)&&decide (s.rfs.length=0)&&decide (s.chs.length=0)&&decide (s.sts.length=0)&&decide (s.wh.length=0)):=by
 rw[afy]
 simp only[hC,gv,afK,show dt [116,109,114,113] 116=true from by decide,show dt [116,109,114,113] 110=false from by decide,show dt [116,109,114,113] 99=false from by decide,show dt [116,109,114,113] 109=true from by decide,show dt [116,109,114,113] 117=false from by decide,show dt [116,109,114,113] 107=false from by decide,show dt [116,109,114,113] 102=false from by decide,show dt [116,109,114,113] 104=false from by decide,show dt [116,109,114,113] 114=true from by decide,show dt [116,109,114,113] 115=false from by decide,show dt [116,109,114,113] 119=false from by decide,show dt [116,109,114,113] 113=true from by decide,agx,agA,dU,fg,e7,aX,dQ,dq]
def aWw (s:Sm):hZ (cD s) [116,115,119]=(decide (s.nm=[])&&decide (s.cs.length=0)&&decide (s.ns.length=0)&&!s.un&&decide (s.kys.length=0)&&decide (s.rfs.length=0)&&decide (s.chs.length=0)&&decide (s.rws.length=0)&&decide (s.q.length=0)):=by
 rw[afy]
 simp only[hC,gv,afK,show dt [116,115,119] 116=true from by decide,show dt [116,115,119] 110=false from by decide,show dt [116,115,119] 99=false from by decide,show dt [116,115,119] 109=false from by decide,show dt [116,115,119] 117=false from by decide,show dt [116,115,119] 107=false from by decide,show dt [116,115,119] 102=false from by decide,show dt [116,115,119] 104=false from by decide,show dt [116,115,119] 114=false from by decide,show dt [116,115,119] 115=true from by decide,show dt [116,115,119] 119=true from by decide,show dt [116,115,119] 113=false from by decide,agx,agA,dU,fg,e7,aX,dQ,dq]
def aWz (s:Sm):hZ (cD s) [116,119]=(decide (s.nm=[])&&decide (s.cs.length=0)&&decide (s.ns.length=0)&&!s.un&&decide (s.kys.length=0)&&decide (s.rfs.length=0)&&decide (s.chs.length=0)&&decide (s.rws.length=0)&&decide (s.sts.length=0)&&decide (s.q.length=0)):=by
 rw[afy]
 simp only[hC,gv,afK,show dt [116,119] 116=true from by decide,show dt [116,119] 110=false from by decide,show dt [116,119] 99=false from by decide,show dt [116,119] 109=false from by decide,show dt [116,119] 117=false from by decide,show dt [116,119] 107=false from by decide,show dt [116,119] 102=false from by decide,show dt [116,119] 104=false from by decide,show dt [116,119] 114=false from by decide,show dt [116,119] 115=false from by decide,show dt [116,119] 119=true from by decide,show dt [116,119] 113=false from by decide,agx,agA,dU,fg,e7,aX,dQ,dq]
def aUS (s:Sm):decide (cD s=[116])=(!decide (s.tb=[])&&decide (s.nm=[])&&decide (s.cs.length=0)&&decide (s.ns.length=0)&&!s.un&&decide (s.kys.length=0)&&decide (s.rfs.length=0)&&decide (s.chs.length=0)&&decide (s.rws.length=0)&&decide (s.sts.length=0)&&decide (s.wh.length=0)&&decide (s.q.length=0)):=by
 rw[ala]
 simp only[hC,gv,ai1,agy,show (116:UInt8)=116↔True from by decide,aA,aQ,agx,agA,dU,dQ,dq]
def aUU (s:Sm):decide (cD s=[110])=(decide (s.tb=[])&&!decide (s.nm=[])&&decide (s.cs.length=0)&&decide (s.ns.length=0)&&!s.un&&decide (s.kys.length=0)&&decide (s.rfs.length=0)&&decide (s.chs.length=0)&&decide (s.rws.length=0)&&decide (s.sts.length=0)&&decide (s.wh.length=0)&&decide (s.q.length=0)):=by
 rw[ala]
 simp only[hC,gv,ai1,agy,show (116:UInt8)=110↔False from by decide,show (110:UInt8)=110↔True from by decide,aA,aQ,agx,agA,dU,dQ,dq]
def aUT (s:Sm):decide (cD s=[113])=(decide (s.tb=[])&&decide (s.nm=[])&&decide (s.cs.length=0)&&decide (s.ns.length=0)&&!s.un&&decide (s.kys.length=0)&&decide (s.rfs.length=0)&&decide (s.chs.length=0)&&decide (s.rws.length=0)&&decide (s.sts.length=0)&&decide (s.wh.length=0)&&!decide (s.q.length=0)):=by
 rw[ala]
 simp only[hC,gv,ai1,agy,show (116:UInt8)=113↔False from by decide,show (110:UInt8)=113↔False from by decide,show (99:UInt8)=113↔False from by decide,show (109:UInt8)=113↔False from by decide,show (117:UInt8)=113↔False from by decide,show (107:UInt8)=113↔False from by decide,show (102:UInt8)=113↔False from by decide,show (104:UInt8)=113↔False from by decide,show (114:UInt8)=113↔False from by decide,show (115:UInt8)=113↔False from by decide,show (119:UInt8)=113↔False from by decide,show (113:UInt8)=113↔True from by decide,aA,aQ,agx,agA,dU,dQ,dq]
def aF4 (s:Sm):decide (cD s=[])=(decide (s.tb=[])&&decide (s.nm=[])&&decide (s.cs.length=0)&&decide (s.ns.length=0)&&!s.un&&decide (s.kys.length=0)&&decide (s.rfs.length=0)&&decide (s.chs.length=0)&&decide (s.rws.length=0)&&decide (s.sts.length=0)&&decide (s.wh.length=0)&&decide (s.q.length=0)):=by
 rw[aDO]
 simp only[hC,agy,agx,agA,dU,dQ,dq]
def aKr (s:Sm):aCr s (anh s)=d6 s:=by
 have hn:∀ l,bk l=true→decide (l=[])=false:=fun l h=>bP fun e=>by rw[e] at h;cases h
 unfold aCr d6
 rw[aWA,aWy,aWx,aWw,aWz,aUS,aUU,aUT,aF4]
 by_cases k1:s.kd=1
 .rw[aE k1,aE k1]
  have e:decide (s.ns=[])=decide (s.ns.length=0):=fO.2 List.length_eq_zero_iff.symm
  rw[e]
  unfold anh
  simp only[dD,fj,bG,aX,dq]
  ac_rfl
 rw[aj k1,aj k1]
 by_cases k2:s.kd=2
 .rw[aE k2,aE k2]
  simp only[dq]
  ac_rfl
 rw[aj k2,aj k2]
 by_cases k3:s.kd=3
 .rw[aE k3,aE k3]
  generalize decide (s.cs.length=0)=a2
  generalize decide (s.ns.length=0)=a3
  generalize decide (s.kys.length=0)=a5
  generalize decide (s.rfs.length=0)=a6
  generalize decide (s.chs.length=0)=a7
  generalize decide (s.rws.length=0)=a8
  generalize decide (s.sts.length=0)=a9
  generalize decide (s.wh.length=0)=a10
  generalize decide (s.q.length=0)=a11
  have h1:=hn s.tb
  have h2:=hn s.nm
  generalize decide (s.tb=[])=b1 at *
  generalize decide (s.nm=[])=b2 at *
  generalize bk s.tb=c1 at *
  generalize bk s.nm=c2 at *
  cases c1 <;> cases c2 <;> cases b1 <;> cases b2 <;> simp at h1 h2 <;> simp[dq]
 rw[aj k3,aj k3]
 by_cases k4:s.kd=4
 .rw[aE k4,aE k4]
  unfold aCQ
  have hs:dD s.q.length 1 1=decide (s.q.length=1):=by
   rw[ca];simp only[dD,ab,ar];omega
  rw[hs]
  by_cases r0:s.rws=[]
  .rw[r0]
   simp only[ce,au,bE,bG,aZ,aX,dl,ff,dD,Nat.not_succ_le_zero,cP,e7,fj,Nat.reduceLeDiff,dq]
   ac_rfl
  .have r1:0<s.rws.length:=List.length_pos_iff.2 r0
   have r2:¬s.rws.length=0:=by omega
   have r3:1≤s.rws.length:=r1
   by_cases q0:s.q=[]
   .rw[q0]
    simp only[ce,cy r1,bP r2,bG,aZ,cP,aX,dQ,dl,e7,ff,dD,cy r3,dq]
    ac_rfl
   .have q1:¬s.q.length=0:=fun h=>q0 (aJ h)
    simp only[bP q1,bP r2,aZ,cP,e7,adU]
 rw[aj k4,aj k4]
 by_cases k5:s.kd=5
 .rw[aE k5,aE k5]
  unfold dD
  simp only[dq]
  ac_rfl
 rw[aj k5,aj k5]
 by_cases k6:s.kd=6
 .rw[aE k6,aE k6]
  simp only[dq]
  ac_rfl
 rw[aj k6,aj k6]
 by_cases k7:s.kd=7∨s.kd=11
 .rw[aE k7,aE k7]
  have hs:dD s.q.length 1 1=decide (s.q.length=1):=by
   rw[ca];simp only[dD,ab,ar];omega
  rw[hs]
  by_cases q1:s.q.length=1
  .have q0:¬s.q.length=0:=by omega
   simp only[cy q1,bP q0,eh,aX,dQ,dq]
   ac_rfl
  .simp only[bP q1,aZ,cP]
 rw[aj k7,aj k7]
end Go.Tab
namespace Go.Proofs.YtemdljoideegeaaGreatDoor
open Go Go.Pe Go.Tab
def aEq (tk:Tk) (a b c d e f g h i j k l:Bool):ef tk 12 (Pe.elemOf (TT.of Tryz.prog) 224) (some [(0,[aG a]),(1,[aG b]),(2,[aG c]),(3,[aG d]),(4,[aG e]),(5,[aG f]),(6,[aG g]),(7,[aG h]),(8,[aG i]),(9,[aG j]),(10,[aG k]),(11,[aG l])])=out (.own tk 4 1 [cb a,cb b,cb c,cb d,cb e,cb f,cb g,cb h,cb i,cb j,cb k,cb l] 12):=by rw[aE7];kernel_rfl
def aoa (tk:Tk) (e z n:Nat) (cs:List C):abw (some (.slice 4)) (.own tk e z cs n)=out (aU n):=rfl
def ame (tk:Tk) (e z:Nat) (s:Sm) (i:Int):dL (TT.of Tryz.prog) 224 (.own tk e z (fl aan (hC s)) 12) (.of (.lit (.int .i64 i)))=ab9 (dH (hC s) i) fun x=>.of (.ref (aan x++fl aan ((hC s).drop (i.toNat+1)))):=by
 rw[← ada aE7 (fun _=>rfl) (by decide) (hC s) i,abj aE7 (fl aan (hC s)) 12 i _ rfl,abj aE7 _ _ i _ rfl]
 rfl
def aRr:∀ (k:Nat) (h:k<12),aao (TT.of Tryz.prog) 9 (dy {data:=#[116,110,99,109,117,107,102,104,114,115,119,113]}) (some (aU k)) (some (aU ((k+1:Nat):Int)))=out (dy (aD [gv[k]'(by exact h)]))
 | 0,_=>by kernel_rfl
 | 1,_=>by kernel_rfl
 | 2,_=>by kernel_rfl
 | 3,_=>by kernel_rfl
 | 4,_=>by kernel_rfl
 | 5,_=>by kernel_rfl
 | 6,_=>by kernel_rfl
 | 7,_=>by kernel_rfl
 | 8,_=>by kernel_rfl
 | 9,_=>by kernel_rfl
 | 10,_=>by kernel_rfl
 | 11,_=>by kernel_rfl
 | k+12,h=>absurd h (by omega)
def Z6q {bs:List Bool} {ls:List UInt8} {k:Nat} (h1:k<bs.length) (h2:k<ls.length):pick (bs.drop k) (ls.drop k)=(if bs[k] then [ls[k]] else [])++pick (bs.drop (k+1)) (ls.drop (k+1)):=by
 rw[cN h1,cN h2,pick]
 cases bs[k] <;> rfl
def aoD:=ai (ai (ai (ai @zq @a6h) (ai @aba (ai @eY @cR))) (ai (ai @abO (ai @aep @adN)) (ai @aeo (ai @acl @bO)))) (ai (ai (ai @ack (ai @ac3 @ey)) (ai @ie (ai @abP @eI))) (ai (ai @Q9 (ai @P4 @Q4)) (ai @zT0 (ai @aAg (ba aPC)))))
def axt (s:Sm):G1 125 [.of (.agg (smC s))] (dy (aD (cD s))):=by
 refine ah rfl aPC aAg rfl ?_
 simp -implicitDefEqProofs(maxSteps:=9^9)only[Tryz.f125,↓zA,sevalprocAttr,aoD,aNF,aEq]
 refine bX 12 (fun k t=>t.fr 4=.own (.nm 3 44 0) 4 1 (fl aan (hC s)) 12∧t.fr 5=dy {data:=#[116,110,99,109,117,107,102,104,114,115,119,113]}∧t.fr 6=aU k∧t.objs=[]∧∃ a:List UInt8,t.fr 3=dy (aD a)∧a.length≤k∧cD s=a++pick ((hC s).drop k) (gv.drop k)) ?_ ?_
 .simp -implicitDefEqProofs(maxSteps:=9^9)only[Tryz.f125,↓zA,sevalprocAttr,aoD]
  exact⟨rfl,[],rfl,aM _,rfl⟩
 rintro k ⟨fr,ob,ck⟩ hk ⟨f4,f5,f6,ho,a,f3,ha,E⟩
 dsimp only at f4 f5 f6 ho f3
 have e12:((k:Int)<12)=(k<12):=propext (by omega)
 rcases ap k 12 with d1|d1
 .have hw:=cF k (by omega)
  have gx:dH (hC s) (k:Int)=some ((hC s)[k]'d1):=bq d1
  have hp:=Z6q (bs:=hC s) (ls:=gv) d1 d1
  have hl:=aRr k d1
  have hs:a.length+1≤gN:=by unfold gN;omega
  cases b1:(hC s)[k]'d1
  .rw[b1] at gx hp
   simp only[aW,aQ,bw] at hp
   simp -implicitDefEqProofs(maxSteps:=9^9)only[Tryz.f125,↓zA,sevalprocAttr,aoD,f3,f4,f5,f6,ho,e12,d1,gx,hw,aMm,aEJ,aoa,ame,aqz]
   exact⟨a,rfl,by omega,by rw[E,hp]⟩
  .rw[b1] at gx hp
   simp only[aA] at hp
   simp -implicitDefEqProofs(maxSteps:=9^9)only[Tryz.f125,↓zA,sevalprocAttr,aoD,f3,f4,f5,f6,ho,e12,d1,gx,hw,hl,aMm,aEJ,aoa,ame,aqz,afM,hs]
   exact⟨a++[gv[k]'d1],rfl,by rw[av];simp;omega,by rw[E,hp,am]⟩
 .have e:k=12:=by omega
  subst e
  have e:cD s=a:=by rw[E];exact cE a
  simp -implicitDefEqProofs(maxSteps:=9^9)only[Tryz.f125,↓zA,sevalprocAttr,aoD,f3,f4,f5,f6,ho,aMm,aoa,e]
def avz (s:Sm) (K:An→Prop):bp Tryz.prog pr 125 [.of (.agg (smC s))] [] K↔K ⟨false,[dy (aD (cD s))],[]⟩:=aN.k (axt s) K
def aMe (of:List UInt8) (c:UInt8):dt of c=of.any fun d=>decide (d=c):=rfl
def aFk (a b:UInt8):(((a.toNat:Nat):Int)=((b.toNat:Nat):Int))=(a=b):=propext ⟨fun h=>UInt8.toNat_inj.1 (by omega),fun h=>by rw[h]⟩
def ahb:=ai (ai @zq @zT0) (ai @aAf (ba aPB))
def ahD (l of:List UInt8) (h1:l.length≤4611686018427387903) (h2:of.length≤4611686018427387903):G1 126 [.of (aH (aD l)),.of (aH (aD of))] (aG (hZ l of)):=by
 refine ah rfl aPB aAf rfl ?_
 simp -implicitDefEqProofs(maxSteps:=9^9)only[Tryz.f126,↓zA,sevalprocAttr,ahb]
 refine bX l.length (fun k t=>t.fr 0=dy (aD l)∧t.fr 1=dy (aD of)∧t.fr 5=aU k∧t.objs=[]∧hZ l of=(l.drop k).all (dt of)) ?_ ?_
 .simp -implicitDefEqProofs(maxSteps:=9^9)only[Tryz.f126,↓zA,sevalprocAttr,ahb]
  try exact rfl
 rintro k ⟨frk,obk,ckk⟩ hk ⟨f0,f1,f5,fo,Ek⟩
 dsimp only at f0 f1 f5 fo
 rcases ap k l.length with dk|dk
 .have hw:=cF k (by omega)
  have gx:=bq dk
  rw[cN dk,acf] at Ek
  generalize l[k]=x at *
  simp -implicitDefEqProofs(maxSteps:=9^9)only[Tryz.f126,↓zA,sevalprocAttr,ahb,f0,f1,f5,fo,aK,dk]
  refine bX of.length (fun j t=>t.fr 0=dy (aD l)∧t.fr 1=dy (aD of)∧t.fr 5=aU k∧t.fr 7=aU j∧t.objs=[]∧∃ b:Bool,t.fr 6=aG b∧dt of x=(b||(of.drop j).any fun d=>decide (d=x))) ?_ ?_
  .simp -implicitDefEqProofs(maxSteps:=9^9)only[Tryz.f126,↓zA,sevalprocAttr,ahb,f0,f1,f5,fo]
   exact⟨false,rfl,by rw[aMe,dl]⟩
  rintro j ⟨frj,obj,ckj⟩ hj ⟨g0,g1,g5,g7,go,b,g6,Ej⟩
  dsimp only at g0 g1 g5 g6 g7 go
  rcases ap j of.length with dj|dj
  .have hwj:=cF j (by omega)
   have gy:=bq dj
   rw[cN dj,afj] at Ej
   generalize of[j]=y at *
   cases b
   .by_cases c0:y=x
    .rw[cy c0,dw,dl] at Ej
     simp -implicitDefEqProofs(maxSteps:=9^9)only[Tryz.f126,↓zA,sevalprocAttr,ahb,g0,g1,g5,g6,g7,go,aK,dj,gx,gy,hwj,aa c0]
     exact⟨true,by rw[cy (by rw[aFk];exact c0)],by rw[Ej];rfl⟩
    .rw[bP c0,dl] at Ej
     simp -implicitDefEqProofs(maxSteps:=9^9)only[Tryz.f126,↓zA,sevalprocAttr,ahb,g0,g1,g5,g6,g7,go,aK,dj,gx,gy,hwj,c0]
     exact⟨false,by rw[bP (by rw[aFk];exact c0)],Ej⟩
   .simp -implicitDefEqProofs(maxSteps:=9^9)only[Tryz.f126,↓zA,sevalprocAttr,ahb,g0,g1,g5,g6,g7,go,aK,dj,gx,gy,hwj]
    exact⟨true,rfl,by rw[Ej];rfl⟩
  .have e:j=of.length:=by omega
   subst e
   rw[aw,List.any_nil,e7] at Ej
   cases b
   .rw[Ej,aZ] at Ek
    simp -implicitDefEqProofs(maxSteps:=9^9)only[Tryz.f126,↓zA,sevalprocAttr,ahb,g0,g1,g5,g6,g7,go,aK,au,Ek]
   .rw[Ej,aX] at Ek
    simp -implicitDefEqProofs(maxSteps:=9^9)only[Tryz.f126,↓zA,sevalprocAttr,ahb,g0,g1,g5,g6,g7,go,aK,au,hw,Ek]
 .have e:k=l.length:=by omega
  subst e
  rw[aw,ff] at Ek
  simp -implicitDefEqProofs(maxSteps:=9^9)only[Tryz.f126,↓zA,sevalprocAttr,ahb,f0,f1,f5,fo,aK,au,Ek]
end Go.Proofs.YtemdljoideegeaaGreatDoor

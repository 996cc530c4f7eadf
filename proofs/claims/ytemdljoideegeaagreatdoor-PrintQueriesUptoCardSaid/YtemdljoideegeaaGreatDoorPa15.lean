/-
  The document's tokens: sources, queries. Conditions: none.
-/
import Derived.Test.YtemdljoideegeaaGreatDoorPa14
set_option linter.defProp false
set_option linter.unusedSectionVars false
set_option maxRecDepth 100000
set_option maxHeartbeats 64000000
namespace Go.Proofs.YtemdljoideegeaaGreatDoor
open Go Go.Pe Go.Tab
def u8C (c:UInt8):List C:=[.lit (.int .u8 (c.toNat:Nat))]
def aJk (s:List UInt8):C.sl (aea (aD s)) (aD s).size=slC u8C s:=by
 have h1:(aD s).data.toList=s:=by simp[aD]
 rw[acu,slC,aea,h1,fl]
 congr 1
 induction s with
 | nil=>rfl
 | cons x r ih =>
  have h2:(aD r).data.toList=r:=by simp[aD]
  simp[u8C,ih h2]
def avM (s:List UInt8):afL (TT.of Tryz.prog) 9 91 (.of (.lit (.string (aD s))))=out (.of (slC u8C s)):=by
 rw[aR0 (e:=5) (by rw[T9];rfl) (by rw[T91];rfl) (by rw[T5];rfl),aJk]
def aIy (l) (i:Int):dL (TT.of Tryz.prog) 91 (.of (slC u8C l)) (.of (.lit (.int .i64 i)))=ab9 (dH l i) fun x=>.of (.ref (u8C x++fl u8C (l.drop (i.toNat+1)))):=ada E91 (fun _=>rfl) (by decide) l i
def aHb (l):abw (some (.slice 5)) (.of (slC u8C l))=out (aU l.length):=ac0 u8C l rfl
def aNc (x:UInt8) (r:List C):C.ref (u8C x++r)=C.ref (.lit (.int .u8 (x.toNat:Nat))::r):=rfl
def a1u (c:UInt8) (n:Nat) (h:n<256):((c.toNat:Int)=(n:Int))=(c=UInt8.ofNat n):=by
 apply propext
 constructor
 .intro e
  apply UInt8.toNat_inj.1
  rw[UInt8.toNat_ofNat']
  omega
 .intro e
  subst e
  rw[UInt8.toNat_ofNat']
  omega
def u97 (c:UInt8):((97:Int)≤(c.toNat:Int))=(97≤c.toNat):=propext (by omega)
def aiu (c:UInt8):((c.toNat:Int)≤122)=(c.toNat≤122):=propext (by omega)
def u95 (c:UInt8):((c.toNat:Int)=95)=(c=95):=a1u c 95 (by decide)
def u48 (c:UInt8):((c.toNat:Int)<48)=¬(48≤c.toNat):=propext (by omega)
def u57 (c:UInt8):((57:Int)<(c.toNat:Int))=¬(c.toNat≤57):=propext (by omega)
def aBY:=ai (ai @zq @zT0) (ai @azt (ba aOP))
def axe (c:UInt8):G1 178 [.of (.lit (.int .u8 (c.toNat:Nat)))] (aG (fN c)):=by
 refine ah rfl aOP azt rfl ?_
 by_cases c1:97≤c.toNat
 .by_cases c2:c.toNat≤122
  .simp -implicitDefEqProofs(maxSteps:=9^9)only[Tryz.f178,↓zA,sevalprocAttr,aBY,u97,aiu,u95,c1,c2,fN,bG,aX]
  .simp -implicitDefEqProofs(maxSteps:=9^9)only[Tryz.f178,↓zA,sevalprocAttr,aBY,u97,aiu,u95,c1,c2,fN,bG,aX,bE]
 .simp -implicitDefEqProofs(maxSteps:=9^9)only[Tryz.f178,↓zA,sevalprocAttr,aBY,u97,aiu,u95,c1,fN,bE,aZ]
def an8 (c:UInt8) (K:An→Prop):bp Tryz.prog pr 178 [.of (.lit (.int .u8 (c.toNat:Nat)))] [] K↔K ⟨false,[aG (fN c)],[]⟩:=aN.k (axe c) K
def ahe (c:UInt8):Bool:=fN c||jh c
def apz (n:Nat):((20:Int)<(n:Int))=(20<n):=propext (by omega)
def ajA {α:Type} (x:α) (r:List α):(x::r=[])=False:=by simp
def arQ {α:Type} (x:α) (r:List α):dH (x::r) 0=some x:=rfl
def adk {α:Type} (p:α→Bool) (x:α) (r:List α):(x::r).all p=(p x&&r.all p):=rfl
def agk:=ai (ai (ai @zq @U91) (ai @T9 @aVO)) (ai (ai @aSQ @Q5) (ai @zT0 (ai @aAB (ba aPX))))
def apq (s:List UInt8):G1 103 [.of (aH (aD s))] (aG (bk s)):=by
 refine ah rfl aPX aAB rfl ?_
 cases s with
 | nil=>simp -implicitDefEqProofs(maxSteps:=9^9)only[Tryz.f103,↓zA,sevalprocAttr,agk,bk]
 | cons x r =>
  by_cases c0:20<r.length+1
  .have e:bk (x::r)=false:=by
    simp only[bk,bP (show ¬(r.length+1≤20) from by omega),cP]
   simp -implicitDefEqProofs(maxSteps:=9^9)only[Tryz.f103,↓zA,sevalprocAttr,agk,ajA,apz,c0,e]
  .have e:bk (x::r)=(fN x&&(x::r).all ahe):=by
    simp only[bk,cy (show r.length+1≤20 from by omega),dQ,adk,ahe]
    cases fN x <;> rfl
   rw[e]
   cases c1:fN x
   .simp -implicitDefEqProofs(maxSteps:=9^9)only[Tryz.f103,↓zA,sevalprocAttr,agk,ajA,apz,c0,an8,arQ,c1,aZ]
   .simp -implicitDefEqProofs(maxSteps:=9^9)only[Tryz.f103,↓zA,sevalprocAttr,agk,ajA,apz,c0,an8,arQ,c1,aX,avM,aIy,aHb,aNc]
    refine bX (x::r).length (fun k s=>s.fr 3=.of (.fn 178 [])∧s.fr 21=.of (slC u8C (x::r))∧s.fr 22=aU (x::r).length∧s.fr 23=aU k∧s.objs=[]∧(x::r).all ahe=((x::r).drop k).all ahe) ?_ ?_
    .simp -implicitDefEqProofs(maxSteps:=9^9)only[Tryz.f103,↓zA,sevalprocAttr,agk]
     try exact rfl
    .have c0':(x::r).length≤20:=by simp only[aB];omega
     generalize x::r=l at c0'
     rintro k s hk ⟨f3,f21,f22,f23,ho,E⟩
     rcases ap k l.length with d1|d1
     .have hw:=cF k (by omega)
      rw[cN d1,adk] at E
      simp -implicitDefEqProofs(maxSteps:=9^9)only[Tryz.f103,↓zA,sevalprocAttr,agk,f3,f21,f22,f23,ho,aK,d1,bq d1,hw,avM,aIy,aHb,aNc,an8,u48,u57]
      cases d2:fN l[k]
      .by_cases d3:48≤l[k].toNat
       .by_cases d4:l[k].toNat≤57
        .simp only[ahe,jh,d2,d3,d4,bG,afk,fg,aX] at E
         simp -implicitDefEqProofs(maxSteps:=9^9)only[Tryz.f103,↓zA,sevalprocAttr,agk,d2,d3,d4,E]
        .simp only[ahe,jh,d2,d3,d4,bE,cP,adU,aZ] at E
         simp -implicitDefEqProofs(maxSteps:=9^9)only[Tryz.f103,↓zA,sevalprocAttr,agk,d2,d3,d4,E]
       .simp only[ahe,jh,d2,d3,bE,aZ,adU] at E
        simp -implicitDefEqProofs(maxSteps:=9^9)only[Tryz.f103,↓zA,sevalprocAttr,agk,d2,d3,E]
      .simp only[ahe,d2,dw,aX] at E
       simp -implicitDefEqProofs(maxSteps:=9^9)only[Tryz.f103,↓zA,sevalprocAttr,agk,d2,E]
     .have e:k=l.length:=by omega
      subst e
      rw[aw,ff] at E
      simp -implicitDefEqProofs(maxSteps:=9^9)only[Tryz.f103,↓zA,sevalprocAttr,agk,f3,f21,f22,f23,ho,aK,au,E]
def fm (s:List UInt8) (K:An→Prop):bp Tryz.prog pr 103 [.of (aH (aD s))] [] K↔K ⟨false,[aG (bk s)],[]⟩:=aN.k (apq s) K
def aLC (l:List (List UInt8)):FnB (fun x=>aH (aD x)) 103 [] bk l:=⟨afv,aeg,fun x _=>apq x⟩
def fY {α:Type} (l:List α) (a b:Nat) (p:α→Bool):bu l (a:Int) (b:Int) p=(dD l.length a b&&l.all p):=by
 simp only[bu,dD]
 congr 2 <;> simp
def aMP:=ai (ai @zq (ai @afv @aeg)) (ai @zT0 (ai @azB (ba aOX)))
def aDf (s:List UInt8):G1 168 [.of (aH (aD s))] (aG (gg s)):=by
 refine ah rfl aOX azB rfl ?_
 by_cases c:s=[]
 .simp -implicitDefEqProofs(maxSteps:=9^9)only[Tryz.f168,↓zA,sevalprocAttr,aMP,fm,c,gg,dw]
 .simp -implicitDefEqProofs(maxSteps:=9^9)only[Tryz.f168,↓zA,sevalprocAttr,aMP,fm,c,gg,dl]
def iz (s:List UInt8) (K:An→Prop):bp Tryz.prog pr 168 [.of (aH (aD s))] [] K↔K ⟨false,[aG (gg s)],[]⟩:=aN.k (aDf s) K
def a1l:=ai (ai (ai @zq @aVJ) (ai @aSL @afv)) (ai (ai @aeg @zT0) (ai @aAt (ba aPP)))
def aC7 (l:List (List UInt8)) (a b:Int) (h:l.length≤4611686018427387903):G1 111 [.of (slC bA l),.of (ci a),.of (ci b)] (aG (bu l a b bk)):=by
 refine ah rfl aPP aAt rfl ?_
 simp -implicitDefEqProofs(maxSteps:=9^9)only[Tryz.f111,↓zA,sevalprocAttr,a1l,fun K=>awD l a b bk 103 [] ⟨h,aLC l⟩ K]
def ajS (l:List (List UInt8)) (a b:Int) (K:An→Prop):bp Tryz.prog pr 111 [.of (slC bA l),.of (ci a),.of (ci b)] [] K↔ifP (l.length≤4611686018427387903) (K ⟨false,[aG (bu l a b bk)],[]⟩) (abU Tryz.prog pr 111 [.of (slC bA l),.of (ci a),.of (ci b)] K):=adC (aC7 l a b) K
def afS {α:Type} (l:List α) (p:α→Bool):bu l 1 16 p=(dD l.length 1 16&&l.all p):=fY l 1 16 p
def as7:=ai (ai (ai @zq @a3S) (ai @afv (ai @aeg @aep))) (ai (ai @Q9 @Q3) (ai @zT0 (ai @aAz (ba aPV))))
def aL1 (c:Cd):G1 105 [.of (.agg (cdC c))] (aG (abu c)):=by
 refine ah rfl aPV aAz rfl ?_
 cases c0:bk c.nm
 .simp -implicitDefEqProofs(maxSteps:=9^9)only[Tryz.f105,↓zA,sevalprocAttr,as7,fm,c0,abu]
 .by_cases c1:1≤c.ty
  .by_cases c2:c.ty≤3
   .simp -implicitDefEqProofs(maxSteps:=9^9)only[Tryz.f105,↓zA,sevalprocAttr,as7,fm,c0,c1,c2,abu]
   .simp -implicitDefEqProofs(maxSteps:=9^9)only[Tryz.f105,↓zA,sevalprocAttr,as7,fm,c0,c1,c2,abu]
  .simp -implicitDefEqProofs(maxSteps:=9^9)only[Tryz.f105,↓zA,sevalprocAttr,as7,fm,c0,c1,abu]
def a1m:=ai (ai (ai @zq @a3R) (ai @auQ @aq4)) (ai (ai @adN @bO) (ai @zT0 (ai @aAx (ba aPT))))
def aLn (k:Kd) (h:k.ns.length≤4611686018427387903):G1 107 [.of (.agg (kdC k))] (aG (afX k)):=by
 refine ah rfl aPT aAx rfl ?_
 simp -implicitDefEqProofs(maxSteps:=9^9)only[Tryz.f107,↓zA,sevalprocAttr,a1m,ajS,h,afS,afX,df]
def aB8:=ai (ai (ai @zq (ai @a3Q @auQ)) (ai @aq4 (ai @afv @aeg))) (ai (ai @aeo (ai @bO @Q9)) (ai @zT0 (ai @aAv (ba aPR))))
def aCA (r:Rd) (h:r.ns.length≤4611686018427387903∧r.to.length≤4611686018427387903):G1 109 [.of (.agg (rdC r))] (aG (acm r)):=by
 refine ah rfl aPR aAv rfl ?_
 cases c0:bu r.ns 1 16 bk
 .simp -implicitDefEqProofs(maxSteps:=9^9)only[Tryz.f109,↓zA,sevalprocAttr,aB8,ajS,fm,h,c0,acm,df,← afS]
 .cases c1:bk r.tb
  .simp -implicitDefEqProofs(maxSteps:=9^9)only[Tryz.f109,↓zA,sevalprocAttr,aB8,ajS,fm,h,c0,c1,acm,df,← afS]
  .simp -implicitDefEqProofs(maxSteps:=9^9)only[Tryz.f109,↓zA,sevalprocAttr,aB8,ajS,fm,h,c0,c1,acm,df,← afS]
def as2:=ai (ai (ai @zq @a3U) (ai @afv (ai @aeg @acL))) (ai (ai @Q9 @Q3) (ai @zT0 (ai @azX (ba aPj))))
def aTp (o:Od):G1 144 [.of (.agg (odC o))] (aG (iy o)):=by
 refine ah rfl aPj azX rfl ?_
 by_cases c0:o.nm=[]
 .by_cases c1:1≤o.pl
  .simp -implicitDefEqProofs(maxSteps:=9^9)only[Tryz.f144,↓zA,sevalprocAttr,as2,c0,c1,iy,aap,ct]
   try rfl
  .simp -implicitDefEqProofs(maxSteps:=9^9)only[Tryz.f144,↓zA,sevalprocAttr,as2,c0,c1,iy,aap,ct]
 .cases c1:bk o.nm
  .simp -implicitDefEqProofs(maxSteps:=9^9)only[Tryz.f144,↓zA,sevalprocAttr,as2,fm,c0,c1,iy,aap,ct]
  .simp -implicitDefEqProofs(maxSteps:=9^9)only[Tryz.f144,↓zA,sevalprocAttr,as2,fm,c0,c1,iy,aap,ct]
def axF (tk:Tk) (a b c d:ByteArray):ef tk 4 (Pe.elemOf (TT.of Tryz.prog) 23) (some [(0,[.of (.lit (.string a))]),(1,[.of (.lit (.string b))]),(2,[.of (.lit (.string c))]),(3,[.of (.lit (.string d))])])=out (.own tk 9 1 [.lit (.string a),.lit (.string b),.lit (.string c),.lit (.string d)] 4):=by rw[E23];rfl
def aWJ:C.sl [aH {data:=#[99,111,117,110,116]},aH {data:=#[115,117,109]},aH {data:=#[109,105,110]},aH {data:=#[109,97,120]}] 4=slC bA [[99,111,117,110,116],[115,117,109],[109,105,110],[109,97,120]]:=rfl
def aWK (s:List UInt8):decide (s∈[[99,111,117,110,116],[115,117,109],[109,105,110],[109,97,120]])=aa3 s:=by
 simp only[aa3,afB,cY,aai,fd,Bool.decide_or,Bool.or_assoc]
 rfl
def a06:=ai (ai @zq (ai @aNn @aJd)) (ai (ai @bO @zT0) (ai @azA (ba aOW)))
def asw (s:List UInt8):G1 169 [.of (aH (aD s))] (aG (aa3 s)):=by
 refine ah rfl aOW azA rfl ?_
 rw[← aWK]
 simp -implicitDefEqProofs(maxSteps:=9^9)only[Tryz.f169,↓zA,sevalprocAttr,a06,axF,aWJ,alv]
def ir (s:List UInt8) (K:An→Prop):bp Tryz.prog pr 169 [.of (aH (aD s))] [] K↔K ⟨false,[aG (aa3 s)],[]⟩:=aN.k (asw s) K
def aiR (l:List Xp):Prop:=∀ x∈l,G1 78 [.of (.agg (xpC x))] (aG (cW x))
def ard (l:List Qy):Prop:=∀ x∈l,G1 62 [.of (.agg (qyC x))] (aG (d7 x))
def zX {l:List Xp} (h:aiR l) (hw:lsW xpW l≤WL) (a b:Int) (K:An→Prop):bp Tryz.prog pr 110 [.of (slC xpC l),.of (ci a),.of (ci b),.of (.fn 78 [])] [] K↔K ⟨false,[aG (bu l a b cW)],[]⟩:=by
 have h1:=da xpW l fun x _=>aaw x
 simp only[WL] at *
 exact aFq l a b cW _ [] ⟨by omega,ahi,afC,h⟩ K
def zQ {l:List Qy} (h:ard l) (hw:lsW qyW l≤WL) (a b:Int) (K:An→Prop):bp Tryz.prog pr 112 [.of (slC qyC l),.of (ci a),.of (ci b),.of (.fn 62 [])] [] K↔K ⟨false,[aG (bu l a b d7)],[]⟩:=by
 have h1:=da qyW l fun x _=>adu x
 simp only[WL] at *
 exact aCk l a b d7 _ [] ⟨by omega,am2,aj6,h⟩ K
def arC {e:Xp} (h:fw e.op=none):cW e=false:=by cases e;rw[cW];simp only[Xp.op] at h;rw[h]
def arB {e:Xp} {lo hi n:Nat} (h:fw e.op=some (lo,hi,n)):cW e=(bu e.ks lo hi cW&&bu e.sb n n d7&&fJ e.op e.v e.tb e.nm e.di e.ks.length):=by
 cases e
 rw[cW]
 simp only[Xp.op] at h
 rw[h]
 simp only[Xp.op,Xp.v,Xp.tb,Xp.nm,Xp.di,Xp.ks,Xp.sb,fY,aht,ahu]
 have hn:∀ m:Nat,dD m n n=decide (m=n):=fun m=>by
  rw[ca];simp only[dD,ab,ar];omega
 rw[hn]
 generalize fJ _ _ _ _ _ _=q
 generalize dD _ _ _=q2
 generalize List.all _ cW=q3
 generalize List.all _ d7=q4
 generalize (decide (List.length _=n))=q5
 cases q <;> cases q2 <;> cases q3 <;> cases q4 <;> cases q5 <;> rfl
def aCx (k n:Int) (s tb nm:ByteArray) (di:Bool):G1 170 [.of (.agg [ci 0,ci k,ci n,aH s,aH tb,aH nm,cb di,C.sl [] 0,C.sl [] 0]),.of (.agg [ci 0,ci 0,ci 0,aH {data:=#[]},aH {data:=#[]},aH {data:=#[]},cb false,C.sl [] 0,C.sl [] 0])] (aG (decide (k=0∧n=0∧s={data:=#[]})&&decide (tb={data:=#[]})&&decide (nm={data:=#[]})&&!di)):=by
 have h:=anH (.mk 0 ⟨k,n,s⟩ tb.data.toList nm.data.toList di [] []) (.mk 0 ⟨0,0,{data:=#[]}⟩ [] [] false [] []) (by simp[lsW,Xp.ks,Xp.sb,WL]) (fun x hx=>by simp[Xp.ks] at hx) (fun x hx=>by simp[Xp.sb] at hx)
 have e1:aD tb.data.toList=tb:=by cases tb;simp[aD]
 have e2:aD nm.data.toList=nm:=by cases nm;simp[aD]
 have e3:∀ b:ByteArray,(b.data.toList=[])=(b={data:=#[]}):=fun b=>propext ⟨fun h=>by cases b;simp at h;rw[h],fun h=>by rw[h]⟩
 have e4:xpC (.mk 0 ⟨k,n,s⟩ tb.data.toList nm.data.toList di [] [])=[ci 0,ci k,ci n,aH s,aH tb,aH nm,cb di,C.sl [] 0,C.sl [] 0]:=by rw[adz];simp only[Xp.op,Xp.v,Xp.tb,Xp.nm,Xp.di,Xp.ks,Xp.sb,e1,e2];rfl
 have e5:xpC (.mk 0 ⟨0,0,{data:=#[]}⟩ [] [] false [] [])=[ci 0,ci 0,ci 0,aH {data:=#[]},aH {data:=#[]},aH {data:=#[]},cb false,C.sl [] 0,C.sl [] 0]:=by rw[adz];rfl
 rw[e4,e5] at h
 simp only[ah0,Xp.op,Xp.v,Xp.tb,Xp.nm,Xp.di,Xp.ks,Xp.sb,e3,← aCf,cX,gz] at h
 have e6:∀ i:Decidable ((k=0∧n=0∧s={data:=#[]})∧tb={data:=#[]}∧nm={data:=#[]}∧di=false),@decide _ i=(decide (k=0∧n=0∧s={data:=#[]})&&decide (tb={data:=#[]})&&decide (nm={data:=#[]})&&!di):=fun i=>by
  rw[ca]
  simp only[ar,ab,cm,aaf]
 rw[e6] at h
 exact h
def abr (k n:Int) (s tb nm:ByteArray) (di:Bool) (K:An→Prop):bp Tryz.prog pr 170 [.of (.agg [ci 0,ci k,ci n,aH s,aH tb,aH nm,cb di,C.sl [] 0,C.sl [] 0]),.of (.agg [ci 0,ci 0,ci 0,aH {data:=#[]},aH {data:=#[]},aH {data:=#[]},cb false,C.sl [] 0,C.sl [] 0])] [] K↔K ⟨false,[aG (decide (k=0∧n=0∧s={data:=#[]})&&decide (tb={data:=#[]})&&decide (nm={data:=#[]})&&!di)],[]⟩:=aN.k (aCx k n s tb nm di) K
def ah1 (a:List UInt8):(aD a=({data:=#[99,111,117,110,116]}:ByteArray))=(a=afB):=bW a afB
def gB (n:Nat):((n:Int)=0)=(n=0):=propext (by omega)
def abp (v:V):decide (v=jz)=decide (v.k=0∧v.n=0∧v.s={data:=#[]}):=by
 rw[ca]
 simp only[ar,← aCf]
 exact cZ
def adM:=ai (ai (ai (ai (ai @zq @a27) (ai @aaY @jx)) (ai (ai @aox @a26) (ai @ajR (ai @ail @apm)))) (ai (ai (ai @anp @a25) (ai @aVU @aSW)) (ai (ai @afv @aeg) (ai @auL (ai @aqZ @aVT))))) (ai (ai (ai (ai @aSV @agw) (ai @aff @ad3)) (ai (ai @cR @aMV) (ai @eY (ai @ey @ahi)))) (ai (ai (ai @afC @am2) (ai @aj6 (ai @Q3 @Q9))) (ai (ai @P4 @Q4) (ai @zT0 (ai @aHF (ba aX1))))))
def aIN (e:Xp) (hw:xpW e≤WL) (hv:I64 e.v.n) (i1:aiR e.ks) (i2:ard e.sb):G1 78 [.of (.agg (xpC e))] (aG (cW e)):=by
 have hw':=aaU e
 simp only[WL] at hw
 have kx:=zX i1 (by simp only[WL];omega)
 have kq:=zQ i2 (by simp only[WL];omega)
 have ls:=axj [.map (af6 15)] e.op rfl
 refine ah rfl aX1 aHF rfl ?_
 cases hs:fw e.op with
 | none =>
  rw[arC hs]
  simp -implicitDefEqProofs(maxSteps:=9^9)only[Tryz.f78,↓zA,sevalprocAttr,adM,acr gd jx aaY,ls,shX,hs]
 | some p =>
  obtain⟨lo,hi,n⟩:=p
  rw[arB hs]
  cases c1:bu e.ks lo hi cW
  .simp -implicitDefEqProofs(maxSteps:=9^9)only[Tryz.f78,↓zA,sevalprocAttr,adM,acr gd jx aaY,ls,shX,hs,kx,c1]
  .cases c2:bu e.sb n n d7
   .simp -implicitDefEqProofs(maxSteps:=9^9)only[Tryz.f78,↓zA,sevalprocAttr,adM,acr gd jx aaY,ls,shX,hs,kx,kq,c1,c2]
   .by_cases o1:e.op=1
    .cases r1:hU e.v
     .simp -implicitDefEqProofs(maxSteps:=9^9)only[Tryz.f78,↓zA,sevalprocAttr,adM,acr gd jx aaY,ls,shX,hs,kx,kq,c1,c2,jm,hv,fm,iz,ir,abr,fJ,abp,db,ct,Int.reduceEq,aa o1,r1]
     .by_cases r2:e.v.k=2
      .by_cases r3:0≤e.v.n
       .simp -implicitDefEqProofs(maxSteps:=9^9)only[Tryz.f78,↓zA,sevalprocAttr,adM,acr gd jx aaY,ls,shX,hs,kx,kq,c1,c2,jm,hv,fm,iz,ir,abr,fJ,abp,db,ct,Int.reduceEq,aa o1,r1,aa r2,r3,show ¬e.v.n<0 from by omega]
       .simp -implicitDefEqProofs(maxSteps:=9^9)only[Tryz.f78,↓zA,sevalprocAttr,adM,acr gd jx aaY,ls,shX,hs,kx,kq,c1,c2,jm,hv,fm,iz,ir,abr,fJ,abp,db,ct,Int.reduceEq,aa o1,r1,aa r2,r3,show e.v.n<0 from by omega]
      .simp -implicitDefEqProofs(maxSteps:=9^9)only[Tryz.f78,↓zA,sevalprocAttr,adM,acr gd jx aaY,ls,shX,hs,kx,kq,c1,c2,jm,hv,fm,iz,ir,abr,fJ,abp,db,ct,Int.reduceEq,aa o1,r1,r2]
    .by_cases o2:e.op=2
     .cases r1:bk e.nm
      .simp -implicitDefEqProofs(maxSteps:=9^9)only[Tryz.f78,↓zA,sevalprocAttr,adM,acr gd jx aaY,ls,shX,hs,kx,kq,c1,c2,jm,hv,fm,iz,ir,abr,fJ,abp,db,ct,Int.reduceEq,o1,aa o2,r1]
      .cases r2:gg e.tb
       .simp -implicitDefEqProofs(maxSteps:=9^9)only[Tryz.f78,↓zA,sevalprocAttr,adM,acr gd jx aaY,ls,shX,hs,kx,kq,c1,c2,jm,hv,fm,iz,ir,abr,fJ,abp,db,ct,Int.reduceEq,o1,aa o2,r1,r2]
       .simp -implicitDefEqProofs(maxSteps:=9^9)only[Tryz.f78,↓zA,sevalprocAttr,adM,acr gd jx aaY,ls,shX,hs,kx,kq,c1,c2,jm,hv,fm,iz,ir,abr,fJ,abp,db,ct,Int.reduceEq,o1,aa o2,r1,r2]
     .by_cases o3:e.op=24
      .cases r1:bk e.nm
       .simp -implicitDefEqProofs(maxSteps:=9^9)only[Tryz.f78,↓zA,sevalprocAttr,adM,acr gd jx aaY,ls,shX,hs,kx,kq,c1,c2,jm,hv,fm,iz,ir,abr,fJ,abp,db,ct,Int.reduceEq,o1,o2,aa o3,r1]
       .cases r2:aa3 e.nm
        .simp -implicitDefEqProofs(maxSteps:=9^9)only[Tryz.f78,↓zA,sevalprocAttr,adM,acr gd jx aaY,ls,shX,hs,kx,kq,c1,c2,jm,hv,fm,iz,ir,abr,fJ,abp,db,ct,Int.reduceEq,o1,o2,aa o3,r1,r2]
        .simp -implicitDefEqProofs(maxSteps:=9^9)only[Tryz.f78,↓zA,sevalprocAttr,adM,acr gd jx aaY,ls,shX,hs,kx,kq,c1,c2,jm,hv,fm,iz,ir,abr,fJ,abp,db,ct,Int.reduceEq,o1,o2,aa o3,r1,r2]
      .by_cases o4:e.op=25
       .cases r1:aa3 e.nm
        .simp -implicitDefEqProofs(maxSteps:=9^9)only[Tryz.f78,↓zA,sevalprocAttr,adM,acr gd jx aaY,ls,shX,hs,kx,kq,c1,c2,jm,hv,fm,iz,ir,abr,fJ,abp,db,ct,Int.reduceEq,o1,o2,o3,aa o4,r1]
        .by_cases r2:e.ks.length=0
         .by_cases r3:e.nm=afB
          .cases r4:e.di
           .simp -implicitDefEqProofs(maxSteps:=9^9)only[Tryz.f78,↓zA,sevalprocAttr,adM,acr gd jx aaY,ls,shX,hs,kx,kq,c1,c2,jm,hv,fm,iz,ir,abr,fJ,abp,db,ct,Int.reduceEq,o1,o2,o3,aa o4,r1,r2,ah1,gB,aa r3,r4]
           .simp -implicitDefEqProofs(maxSteps:=9^9)only[Tryz.f78,↓zA,sevalprocAttr,adM,acr gd jx aaY,ls,shX,hs,kx,kq,c1,c2,jm,hv,fm,iz,ir,abr,fJ,abp,db,ct,Int.reduceEq,o1,o2,o3,aa o4,r1,r2,ah1,gB,aa r3,r4]
          .simp -implicitDefEqProofs(maxSteps:=9^9)only[Tryz.f78,↓zA,sevalprocAttr,adM,acr gd jx aaY,ls,shX,hs,kx,kq,c1,c2,jm,hv,fm,iz,ir,abr,fJ,abp,db,ct,Int.reduceEq,o1,o2,o3,aa o4,r1,r2,ah1,gB,r3]
         .have r3:e.ks.length=1:=by
           rw[o4] at hs
           simp only[fw] at hs
           simp at hs
           obtain⟨rfl,rfl,rfl⟩:=hs
           simp only[bu,ab,ar] at c1
           omega
          simp -implicitDefEqProofs(maxSteps:=9^9)only[Tryz.f78,↓zA,sevalprocAttr,adM,acr gd jx aaY,ls,shX,hs,kx,kq,c1,c2,jm,hv,fm,iz,ir,abr,fJ,abp,db,ct,Int.reduceEq,o1,o2,o3,aa o4,r1,r3,ah1,gB,Nat.reduceEqDiff,dw]
       .simp -implicitDefEqProofs(maxSteps:=9^9)only[Tryz.f78,↓zA,sevalprocAttr,adM,acr gd jx aaY,ls,shX,hs,kx,kq,c1,c2,jm,hv,fm,iz,ir,abr,fJ,abp,db,ct,Int.reduceEq,o1,o2,o3,o4]
def aij (i:Im):aaR i=if i.st then gg i.tb&&ads i.e&&decide (i.az=[]) else decide (i.tb=[])&&gg i.az&&cW i.e:=by cases i;rw[aaR];rfl
def ak5 (f:Fm):gV f=if f.kd=1∨f.kd=2 then 1 else (f.ks.map gV).sum:=by
 have h:∀ l:List Fm,ak4 l=(l.map gV).sum:=fun l=>by
  induction l with
  | nil=>rfl
  | cons x r ih=>rw[ak4,ih];simp
 cases f;rw[gV,h];rfl
def agX (f:Fm):gL f=if f.kd=1 then bk f.nm&&gg f.az&&decide (f.sb.length+f.ks.length+f.on.length=0)
  else if f.kd=2 then decide (f.nm=[])&&bk f.az&&bu f.sb 1 1 d7&&decide (f.ks.length+f.on.length=0)
  else if f.kd=3∨f.kd=4∨f.kd=5 then decide (f.nm=[])&&decide (f.az=[])&&decide (f.sb.length=0)&&bu f.ks 2 2 gL&&bu f.on (if f.kd=3 then 0 else 1) (if f.kd=3 then 0 else 1) cW
  else false:=by
 have h1:bu f.sb 1 1 d7=(dD f.sb.length 1 1&&f.sb.all d7):=fY _ 1 1 _
 have h2:bu f.ks 2 2 gL=(dD f.ks.length 2 2&&f.ks.all gL):=fY _ 2 2 _
 have h3:bu f.on (if f.kd=3 then 0 else 1) (if f.kd=3 then 0 else 1) cW=(decide (f.on.length=if f.kd=3 then 0 else 1)&&f.on.all cW):=by
  split
  .rw[show bu f.on 0 0 cW=_ from fY _ 0 0 _]
   congr 1
   rw[ca];simp only[dD,ab,ar];omega
  .rw[show bu f.on 1 1 cW=_ from fY _ 1 1 _]
   congr 1
   rw[ca];simp only[dD,ab,ar];omega
 rw[h1,h2,h3]
 cases f
 rw[gL]
 simp only[Fm.kd,Fm.nm,Fm.az,Fm.sb,Fm.ks,Fm.on,aht,ahu,al2,dq]
 rfl
def aaA (f:Fm):Bool:=gL f&&decide (gV f≤8)
def af9 (q:Qy):d7 q=(decide (-1≤q.li)&&decide (q.li≤aap)&&decide (0≤q.sk)&&decide (q.sk≤aap)&&bu q.od 0 64 iy &&
  (if q.op=1 then !q.al&&decide (q.ks.length=0)&&bu q.its 1 64 aaR&&bu q.fr 0 1 aaA&&bu q.wh 0 1 cW&&bu q.gr 0 64 cW&&bu q.hv 0 1 cW
   else if q.op=2∨q.op=3∨q.op=4 then bu q.ks 2 2 d7&&!q.di&&decide (q.its.length+q.fr.length+q.wh.length+q.gr.length+q.hv.length=0)
   else false)):=by
 have h0:bu q.od 0 64 iy=_:=fY q.od 0 64 iy
 have h1:bu q.its 1 64 aaR=_:=fY q.its 1 64 aaR
 have h2:bu q.fr 0 1 aaA=_:=fY q.fr 0 1 aaA
 have h3:bu q.wh 0 1 cW=_:=fY q.wh 0 1 cW
 have h4:bu q.gr 0 64 cW=_:=fY q.gr 0 64 cW
 have h5:bu q.hv 0 1 cW=_:=fY q.hv 0 1 cW
 have h6:bu q.ks 2 2 d7=_:=fY q.ks 2 2 d7
 have h7:decide (q.ks.length=0)=dD q.ks.length 0 0:=by rw[ca];simp only[dD,ab,ar];omega
 have h8:q.fr.all aaA=(q.fr.all gL&&q.fr.all fun f=>decide (gV f≤8)):=by
  induction q.fr with
  | nil=>rfl
  | cons x r ih =>
   simp only[acf,ih,aaA]
   cases gL x <;> cases decide (gV x≤8) <;> simp
 rw[h0,h1,h2,h3,h4,h5,h6,h7,h8]
 cases q
 rw[d7]
 simp only[Qy.op,Qy.al,Qy.ks,Qy.di,Qy.its,Qy.fr,Qy.wh,Qy.gr,Qy.hv,Qy.od,Qy.li,Qy.sk,aht,ahu,al2,arD,dq]
 rfl
def aLm (n:Nat):∀ f:Fm,fmW f≤n→gV f≤fmW f:=by
 induction n with
 | zero=>intro f h;have:=abk f;omega
 | succ n ih =>
  intro f h
  rw[ak5]
  rw[jg] at h ⊢
  split
  .omega
  .have:∀ l:List Fm,lsW fmW l≤n+1→(l.map gV).sum≤lsW fmW l:=fun l=>by
    induction l with
    | nil=>simp
    | cons x r ih2 =>
     intro hl
     have hx:=bQ (w:=fmW) (l:=x::r) (x:=x) (by simp)
     have h1:=ih x (by omega)
     simp only[lsW,aV,bU] at hl ih2 ⊢
     have h2:=ih2 (by omega)
     omega
   have:=this f.ks (by omega)
   omega
def a1C (l:List Fm):(l.map gV).sum≤lsW fmW l:=by
 induction l with
 | nil=>simp
 | cons x r ih =>
  have:=aLm (fmW x) x (aM _)
  simp only[lsW,aV,bU] at ih ⊢
  omega
def aMr (l:List Im):Prop:=∀ x∈l,G1 146 [.of (.agg (imC x))] (aG (aaR x))
def aMq (l:List Fm):Prop:=∀ x∈l,G1 218 [.of (.agg (fmC x))] (aG (gL x))
def aMs (l:List Fm):Prop:=∀ x∈l,G1 148 [.of (.agg (fmC x))] (aG (aaA x))
def a0b (l:List Fm):Prop:=∀ x∈l,G1 219 [.of (.agg (fmC x))] (aU (gV x))
def zI {l:List Im} (h:aMr l) (hw:lsW imW l≤WL) (a b:Int) (K:An→Prop):bp Tryz.prog pr 145 [.of (slC imC l),.of (ci a),.of (ci b),.of (.fn 146 [])] [] K↔K ⟨false,[aG (bu l a b aaR)],[]⟩:=by
 have h1:=da imW l fun x _=>adw x
 simp only[WL] at *
 exact aFp l a b aaR _ [] ⟨by omega,aGI,aBs,h⟩ K
def zS {l:List Fm} (h:aMq l) (hw:lsW fmW l≤WL) (a b:Int) (K:An→Prop):bp Tryz.prog pr 147 [.of (slC fmC l),.of (ci a),.of (ci b),.of (.fn 218 [])] [] K↔K ⟨false,[aG (bu l a b gL)],[]⟩:=by
 have h1:=da fmW l fun x _=>abk x
 simp only[WL] at *
 exact arp l a b gL _ [] ⟨by omega,auJ,aqX,h⟩ K
def zF {l:List Fm} (h:aMs l) (hw:lsW fmW l≤WL) (a b:Int) (K:An→Prop):bp Tryz.prog pr 147 [.of (slC fmC l),.of (ci a),.of (ci b),.of (.fn 148 [])] [] K↔K ⟨false,[aG (bu l a b aaA)],[]⟩:=by
 have h1:=da fmW l fun x _=>abk x
 simp only[WL] at *
 exact arp l a b aaA _ [] ⟨by omega,aGG,aBq,h⟩ K
def zO {l:List Od} (hw:lsW odW l≤WL) (a b:Int) (K:An→Prop):bp Tryz.prog pr 143 [.of (slC odC l),.of (ci a),.of (ci b),.of (.fn 144 [])] [] K↔K ⟨false,[aG (bu l a b iy)],[]⟩:=by
 have h1:=da odW l fun x _=>by simp[odW]
 simp only[WL] at *
 exact aCl l a b iy _ [] ⟨by omega,aGJ,aBt,fun x _=>aTp x⟩ K
def a1j:=ai (ai (ai @zq @ajR) (ai @ail @cR)) (ai (ai @ahi @afC) (ai @zT0 (ai @aAn (ba aPJ))))
def aK0 (l:List Xp) (h:aiR l) (hw:lsW xpW l≤WL):G1 117 [.of (slC xpC l)] (aG (bu l 0 1 cW)):=by
 refine ah rfl aPJ aAn rfl ?_
 simp -implicitDefEqProofs(maxSteps:=9^9)only[Tryz.f117,↓zA,sevalprocAttr,a1j,zX h hw]
def a1k:=ai (ai (ai @zq @ajR) (ai @ail @cR)) (ai (ai @ahi @afC) (ai @zT0 (ai @aAq (ba aPM))))
def aKD (l:List Xp) (h:aiR l) (hw:lsW xpW l≤WL):G1 114 [.of (slC xpC l)] (aG (bu l 1 16 cW)):=by
 refine ah rfl aPM aAq rfl ?_
 simp -implicitDefEqProofs(maxSteps:=9^9)only[Tryz.f114,↓zA,sevalprocAttr,a1k,zX h hw]
def amS:=ai (ai (ai (ai @zq @a24) (ai @auL @aqZ)) (ai (ai @agw @aff) (ai @ahi @afC))) (ai (ai (ai @cR @abb) (ai @P4 @Q4)) (ai (ai @Q9 @zT0) (ai @azV (ba aPh))))
def aIs (i:Im) (hw:xpW i.e≤WL) (h:G1 78 [.of (.agg (xpC i.e))] (aG (cW i.e))):G1 146 [.of (.agg (imC i))] (aG (aaR i)):=by
 have kx:=fun K=>aN.k h K
 have hz:decide (i.e=jc)=ads i.e:=by rw[ca,aly,ar]
 have ez:[ci 0,ci 0,ci 0,aH {data:=#[]},aH {data:=#[]},aH {data:=#[]},cb false,C.sl [] 0,C.sl [] 0]=xpC jc:=by rw[adz];rfl
 rw[aij]
 refine ah rfl aPh azV rfl ?_
 cases s1:i.st
 .by_cases s2:i.tb=[]
  .cases s3:gg i.az
   .simp -implicitDefEqProofs(maxSteps:=9^9)only[Tryz.f146,↓zA,sevalprocAttr,amS,s1,aa s2,s3,iz]
   .simp -implicitDefEqProofs(maxSteps:=9^9)only[Tryz.f146,↓zA,sevalprocAttr,amS,s1,aa s2,s3,iz,kx]
  .simp -implicitDefEqProofs(maxSteps:=9^9)only[Tryz.f146,↓zA,sevalprocAttr,amS,s1,s2]
 .cases s2:gg i.tb
  .simp -implicitDefEqProofs(maxSteps:=9^9)only[Tryz.f146,↓zA,sevalprocAttr,amS,s1,s2,iz]
  .by_cases s3:i.az=[]
   .simp -implicitDefEqProofs(maxSteps:=9^9)only[Tryz.f146,↓zA,sevalprocAttr,amS,s1,s2,aa s3,iz,ez,aif,hw,hz]
   .simp -implicitDefEqProofs(maxSteps:=9^9)only[Tryz.f146,↓zA,sevalprocAttr,amS,s1,s2,s3,iz]
def amP:=ai (ai (ai @zq @a3Y) (ai @a3X (ai @aGf @aAZ))) (ai (ai @jq (ai @iU @Q3)) (ai @zT0 (ai @ayQ (ba aOc))))
def awC (f:Fm) (hw:fmW f≤WL) (h:a0b f.ks):G1 219 [.of (.agg (fmC f))] (aU (gV f)):=by
 have hw2:=hw
 rw[jg] at hw2
 simp only[WL] at hw2
 have hsum:=a1C f.ks
 have hlen:=da fmW f.ks fun x _=>abk x
 rw[ak5]
 refine ah rfl aOc ayQ rfl ?_
 by_cases k1:f.kd=1
 .simp -implicitDefEqProofs(maxSteps:=9^9)only[Tryz.f219,↓zA,sevalprocAttr,amP,k1,bo]
 .by_cases k2:f.kd=2
  .simp -implicitDefEqProofs(maxSteps:=9^9)only[Tryz.f219,↓zA,sevalprocAttr,amP,k1,k2,br,Int.reduceEq]
  .simp -implicitDefEqProofs(maxSteps:=9^9)only[Tryz.f219,↓zA,sevalprocAttr,amP,k1,k2,bm]
   refine bX f.ks.length (fun k s=>∃ a:Nat,s.fr 3=aU a∧s.fr 15=.of (slC fmC f.ks)∧s.fr 16=aU f.ks.length∧s.fr 17=aU k∧s.objs=[]∧a+((f.ks.drop k).map gV).sum=(f.ks.map gV).sum) ?_ ?_
   .refine⟨0,?_⟩
    simp -implicitDefEqProofs(maxSteps:=9^9)only[Tryz.f219,↓zA,sevalprocAttr,amP,bd]
    try exact rfl
   .rintro k s hk ⟨a,f3,f15,f16,f17,ho,E⟩
    rcases ap k f.ks.length with c1|c1
    .have hw:=cF k (by omega)
     have hx:=fun K=>aN.k (h f.ks[k] (ay c1)) K
     rw[cN c1,aV,bU] at E
     have hw3:IntKind.i64.wrap ((a:Int)+(gV f.ks[k]:Int))=((a+gV f.ks[k]:Nat):Int):=by rw[eX _ (by omega) (by omega)];rfl
     simp -implicitDefEqProofs(maxSteps:=9^9)only[Tryz.f219,↓zA,sevalprocAttr,amP,f3,f15,f16,f17,ho,aK,c1,bq c1,hw,hx,hw3]
     exact⟨_,rfl,by omega⟩
    .have e:k=f.ks.length:=by omega
     subst e
     rw[aw,bC,cU,aaT] at E
     simp -implicitDefEqProofs(maxSteps:=9^9)only[Tryz.f219,↓zA,sevalprocAttr,amP,f3,f15,f16,f17,ho,aK,au,E]
def aMR:=ai (ai (ai @zq @a3V) (ai @auJ (ai @aqX @aGf))) (ai (ai @aAZ @jq) (ai @zT0 (ai @azT (ba aPf))))
def aIE (f:Fm) (h1:G1 218 [.of (.agg (fmC f))] (aG (gL f))) (h2:G1 219 [.of (.agg (fmC f))] (aU (gV f))):G1 148 [.of (.agg (fmC f))] (aG (aaA f)):=by
 have k1:=fun K=>aN.k h1 K
 have k2:=fun K=>aN.k h2 K
 have e8:((gV f:Int)≤8)=(gV f≤8):=propext (by omega)
 refine ah rfl aPf azT rfl ?_
 cases c:gL f
 .simp -implicitDefEqProofs(maxSteps:=9^9)only[Tryz.f148,↓zA,sevalprocAttr,aMR,k1,c,aaA]
 .simp -implicitDefEqProofs(maxSteps:=9^9)only[Tryz.f148,↓zA,sevalprocAttr,aMR,k1,k2,c,aaA,e8]
def akz (a b:Nat) (h:a+b≤WL):IntKind.i64.wrap ((a:Int)+(b:Int))=((a+b:Nat):Int):=by simp only[WL] at h;rw[eX _ (by omega) (by omega)];rfl
def aa9:=ai (ai (ai (ai @zq (ai @a3W @afv)) (ai (ai @aeg @auL) (ai @aqZ @apm))) (ai (ai @anp (ai @aGH @aBr)) (ai (ai @ajR @ail) (ai @eY @cR)))) (ai (ai (ai @jq (ai @ey @eI)) (ai (ai @iU @am2) (ai @aj6 @auJ))) (ai (ai (ai @aqX @ahi) (ai @afC @Q3)) (ai (ai @Q9 @zT0) (ai @ayR (ba aOd)))))
def awM (f:Fm) (hw:fmW f≤WL) (h1:ard f.sb) (h2:aMq f.ks) (h3:aiR f.on):G1 218 [.of (.agg (fmC f))] (aG (gL f)):=by
 have hw2:=hw
 rw[jg] at hw2
 simp only[WL] at hw2
 have n1:=da qyW f.sb fun x _=>adu x
 have n2:=da fmW f.ks fun x _=>abk x
 have n3:=da xpW f.on fun x _=>aaw x
 have kq:=zQ h1 (by simp only[WL];omega)
 have ks:=zS h2 (by simp only[WL];omega)
 have kx:=zX h3 (by simp only[WL];omega)
 have w1:=akz f.sb.length f.ks.length (by simp only[WL];omega)
 have w2:=akz (f.sb.length+f.ks.length) f.on.length (by simp only[WL];omega)
 have w3:=akz f.ks.length f.on.length (by simp only[WL];omega)
 rw[agX]
 refine ah rfl aOd ayR rfl ?_
 by_cases k1:f.kd=1
 .cases c1:bk f.nm
  .simp -implicitDefEqProofs(maxSteps:=9^9)only[Tryz.f218,↓zA,sevalprocAttr,aa9,aa k1,fm,c1]
  .cases c2:gg f.az
   .simp -implicitDefEqProofs(maxSteps:=9^9)only[Tryz.f218,↓zA,sevalprocAttr,aa9,aa k1,fm,iz,c1,c2]
   .simp -implicitDefEqProofs(maxSteps:=9^9)only[Tryz.f218,↓zA,sevalprocAttr,aa9,aa k1,fm,iz,c1,c2,w1,w2,gB]
 .by_cases k2:f.kd=2
  .by_cases c1:f.nm=[]
   .cases c2:bk f.az
    .simp -implicitDefEqProofs(maxSteps:=9^9)only[Tryz.f218,↓zA,sevalprocAttr,aa9,k1,aa k2,fm,aa c1,c2]
    .cases c3:bu f.sb 1 1 d7
     .simp -implicitDefEqProofs(maxSteps:=9^9)only[Tryz.f218,↓zA,sevalprocAttr,aa9,k1,aa k2,fm,aa c1,c2,kq,c3]
     .simp -implicitDefEqProofs(maxSteps:=9^9)only[Tryz.f218,↓zA,sevalprocAttr,aa9,k1,aa k2,fm,aa c1,c2,kq,c3,w3,gB]
   .simp -implicitDefEqProofs(maxSteps:=9^9)only[Tryz.f218,↓zA,sevalprocAttr,aa9,k1,aa k2,c1]
  .by_cases k3:f.kd=3∨f.kd=4∨f.kd=5
   .by_cases c1:f.nm=[]
    .by_cases c2:f.az=[]
     .by_cases c3:f.sb.length=0
      .cases c4:bu f.ks 2 2 gL
       .rcases k3 with k3|k3|k3
        .simp -implicitDefEqProofs(maxSteps:=9^9)only[Tryz.f218,↓zA,sevalprocAttr,aa9,k1,k2,aa k3,aa c1,aa c2,aa c3,ks,c4,gB,bo]
        .simp -implicitDefEqProofs(maxSteps:=9^9)only[Tryz.f218,↓zA,sevalprocAttr,aa9,k3,Int.reduceEq,aa c1,aa c2,aa c3,ks,c4,gB,bo,br]
        .simp -implicitDefEqProofs(maxSteps:=9^9)only[Tryz.f218,↓zA,sevalprocAttr,aa9,k3,Int.reduceEq,aa c1,aa c2,aa c3,ks,c4,gB,bo,br]
       .rcases k3 with k3|k3|k3
        .simp -implicitDefEqProofs(maxSteps:=9^9)only[Tryz.f218,↓zA,sevalprocAttr,aa9,k1,k2,aa k3,aa c1,aa c2,aa c3,ks,kx,c4,gB,bo]
        .simp -implicitDefEqProofs(maxSteps:=9^9)only[Tryz.f218,↓zA,sevalprocAttr,aa9,k3,Int.reduceEq,aa c1,aa c2,aa c3,ks,kx,c4,gB,bo,br]
        .simp -implicitDefEqProofs(maxSteps:=9^9)only[Tryz.f218,↓zA,sevalprocAttr,aa9,k3,Int.reduceEq,aa c1,aa c2,aa c3,ks,kx,c4,gB,bo,br]
      .rcases k3 with k3|k3|k3
       .simp -implicitDefEqProofs(maxSteps:=9^9)only[Tryz.f218,↓zA,sevalprocAttr,aa9,k3,Int.reduceEq,aa c1,aa c2,c3,gB,bo,br]
       .simp -implicitDefEqProofs(maxSteps:=9^9)only[Tryz.f218,↓zA,sevalprocAttr,aa9,k3,Int.reduceEq,aa c1,aa c2,c3,gB,bo,br]
       .simp -implicitDefEqProofs(maxSteps:=9^9)only[Tryz.f218,↓zA,sevalprocAttr,aa9,k3,Int.reduceEq,aa c1,aa c2,c3,gB,bo,br]
     .rcases k3 with k3|k3|k3
      .simp -implicitDefEqProofs(maxSteps:=9^9)only[Tryz.f218,↓zA,sevalprocAttr,aa9,k3,Int.reduceEq,aa c1,c2,bo,br]
      .simp -implicitDefEqProofs(maxSteps:=9^9)only[Tryz.f218,↓zA,sevalprocAttr,aa9,k3,Int.reduceEq,aa c1,c2,bo,br]
      .simp -implicitDefEqProofs(maxSteps:=9^9)only[Tryz.f218,↓zA,sevalprocAttr,aa9,k3,Int.reduceEq,aa c1,c2,bo,br]
    .rcases k3 with k3|k3|k3
     .simp -implicitDefEqProofs(maxSteps:=9^9)only[Tryz.f218,↓zA,sevalprocAttr,aa9,k3,Int.reduceEq,c1,bo,br]
     .simp -implicitDefEqProofs(maxSteps:=9^9)only[Tryz.f218,↓zA,sevalprocAttr,aa9,k3,Int.reduceEq,c1,bo,br]
     .simp -implicitDefEqProofs(maxSteps:=9^9)only[Tryz.f218,↓zA,sevalprocAttr,aa9,k3,Int.reduceEq,c1,bo,br]
   .simp only[acn] at k3
    simp -implicitDefEqProofs(maxSteps:=9^9)only[Tryz.f218,↓zA,sevalprocAttr,aa9,k1,k2,k3,bm]
def amY (w:To) (l:List Xp):jA w (l.map xpP)=dC w l:=by unfold jA dC;rw[ii];rfl
def aKA {w:To} {l:List Xp} {k:Nat} (h:k<l.length):dC w (l.drop k)=w::(bv l[k]++dC w (l.drop (k+1))):=by
 rw[bM h];rfl
def agG (i:Im):imT i=ael i.st i.tb i.az (xpP i.e):=by cases i;rw[imT];rfl
def aIG (f:Fm):fmT f=af1 f.kd f.nm f.az (f.sb.map qyP) (f.ks.map fmP) (f.on.map xpP):=by cases f;rw[fmT,afV,aiK,adO];rfl
def aBS:=ai (ai (ai @zq (ai @a6V @ac4)) (ai (ai @ab1 @aez) (ai @agv @aeO))) (ai (ai @aiv (ai @cR @bO)) (ai (ai @ey @zT0) (ai @aH3 (ba aYp))))
def aeA (w:To) (l:List Xp) (hl:l.length≤4611686018427387903) (h:∀ x∈l,WX x):GW 44 [.of (aH (aD w)),.of (slC xpC l)] (dC w l):=by
 intro o hb
 refine ah rfl aYp aH3 rfl ?_
 simp -implicitDefEqProofs(maxSteps:=9^9)only[Tryz.f44,↓zA,sevalprocAttr,aBS]
 refine bX l.length (fun k s=>s.fr 0=.ptr 0 0∧s.fr 1=.of (aH (aD w))∧s.fr 8=.of (slC xpC l)∧s.fr 9=aU l.length∧s.fr 10=aU k∧∃ A,s.objs=[wT cw (iH o A)]∧dC w l=A++dC w (l.drop k)) ?_ ?_
 .simp -implicitDefEqProofs(maxSteps:=9^9)only[Tryz.f44,↓zA,sevalprocAttr,aBS]
  exact⟨[],rfl,rfl⟩
 rintro k ⟨frk,obk,ckk⟩ hk ⟨f0,f1,f8,f9,f10,A,fo,E⟩
 dsimp only at f0 f1 f8 f9 f10 fo
 rcases ap k l.length with dk|dk
 .have hw:=cF k (by omega)
  have gx:=bq dk
  have hx:=h _ (ay dk)
  rw[aKA dk] at E
  generalize l[k]=x at *
  have kx:=fun o K=>(adr x hx).k o K
  have hb2:=hb
  rw[E] at hb2
  simp only[av,aB] at hb2
  have q1:bi o+A.length+1≤LIM:=by omega
  have q2:bi o+(A.length+1)+(bv x).length≤LIM:=by omega
  simp -implicitDefEqProofs(maxSteps:=9^9)only[Tryz.f44,↓zA,sevalprocAttr,aBS,f0,f1,f8,f9,f10,fo,zW,aK,dk,gx,hw,dI,kx,q1,q2,aR,am,ch,bd]
  exact⟨_,rfl,by rw[E];simp⟩
 have e:k=l.length:=by omega
 subst e
 rw[aw,show dC w []=[] from rfl,cE] at E
 simp -implicitDefEqProofs(maxSteps:=9^9)only[Tryz.f44,↓zA,sevalprocAttr,aBS,f0,f1,f8,f9,f10,fo,zW,aK,au,E]
def aJO:=ai (ai (ai (ai @zq @a6Y) (ai @agv (ai @aeO @aiv))) (ai (ai @aGF (ai @aBp @aM6)) (ai @afI (ai @ad9 @ahP)))) (ai (ai (ai @ac4 (ai @ab1 @aez)) (ai @cR (ai @abb @bO))) (ai (ai @P4 (ai @Q4 @Q9)) (ai @zT0 (ai @aHQ (ba aYc)))))
def aIt (i:Im) (ok:aaR i=true) (hx:i.st=false→WX i.e):GW 64 [.of (.agg (imC i))] (imT i):=by
 intro o h
 rw[aij] at ok
 rw[agG] at h ⊢
 have e42:=aL [42]
 have e46:=aL [46]
 refine ah rfl aYc aHQ rfl ?_
 cases hst:i.st with
 | true =>
  rw[hst] at ok h
  simp only[aA,ab] at ok
  have hmb:=ok.1.1
  by_cases htb:i.tb=[]
  .have hT:ael true i.tb i.az (xpP i.e)=[[42]]:=by simp[ael,aF,htb,aaM]
   rw[hT] at h ⊢
   have q1:bi o+1≤LIM:=h
   simp -implicitDefEqProofs(maxSteps:=9^9)only[Tryz.f64,↓zA,sevalprocAttr,aJO,zW,hst,htb,bW,e42,dI,q1]
   try rfl
  .have htn:bk i.tb=true:=by simpa [gg,htb] using hmb
   have hT:ael true i.tb i.az (xpP i.e)=[bF i.tb,[46],[42]]:=by simp[ael,aF,htb,aaM,ab0]
   rw[hT] at h ⊢
   simp only[dN] at h
   have q1:bi o+1≤LIM:=by omega
   have q2:bi o+1+1≤LIM:=by omega
   have q3:bi o+(1+1)+1≤LIM:=by omega
   simp -implicitDefEqProofs(maxSteps:=9^9)only[Tryz.f64,↓zA,sevalprocAttr,aJO,zW,hst,htb,bW,aaF _ htn,e42,e46,dI,q1,q2,q3,dN,ch,bd]
   try rfl
 | false =>
  rw[hst] at ok h
  simp only[aW,aQ,ab] at ok
  have ka:=fun o K=>(adr i.e (hx hst)).k o K
  have ks:=fun o K=>(aq6 i.az ok.1.2).k o K
  have hT:ael false i.tb i.az (xpP i.e)=bv i.e++asT i.az:=rfl
  rw[hT] at h ⊢
  simp only[av] at h
  have q1:bi o+(bv i.e).length≤LIM:=by omega
  have q2:bi o+(bv i.e).length+(asT i.az).length≤LIM:=by omega
  simp -implicitDefEqProofs(maxSteps:=9^9)only[Tryz.f64,↓zA,sevalprocAttr,aJO,zW,hst,ka,ks,q1,q2]
  try rfl
def aTB:=ai (ai (ai (ai @zq @a6S) (ai @afI (ai @ad9 @ahP))) (ai (ai @aNk @aJa) (ai @aT6 (ai @aeq @adh)))) (ai (ai (ai @agl @acL) (ai @bO (ai @Q9 @Q3))) (ai (ai @P4 @Q4) (ai @zT0 (ai @aHK (ba aX6)))))
def aJR (x:Od) (ok:iy x=true) (hn:ji x.pl=true):GW 70 [.of (.agg (odC x))] (odT x):=by
 intro o h
 have kd:=fun o K=>(gD x.dn [.lit (.string (aD [100,101,115,99]))] [[100,101,115,99]] 1 rfl rfl (by simp)).k o K
 have ed:=aL [100,101,115,99]
 refine ah rfl aX6 aHK rfl ?_
 by_cases h0:x.nm=[]
 .have hT:odT x=Lib.itoa x.pl::aF x.dn [[100,101,115,99]]:=by simp[odT,h0]
  rw[hT] at h ⊢
  simp only[aB] at h
  have q1:bi o+1≤LIM:=by omega
  have q2:bi o+1+(aF x.dn [[100,101,115,99]]).length≤LIM:=by omega
  simp -implicitDefEqProofs(maxSteps:=9^9)only[Tryz.f70,↓zA,sevalprocAttr,aTB,zW,h0,bW,apo _ hn,kd,ed,q1,q2,dN,ch,bd]
  try rfl
 .have hnm:bk x.nm=true:=by simp only[iy,h0,ct,jw,aA,ab] at ok;exact ok.1
  have hT:odT x=bF x.nm::aF x.dn [[100,101,115,99]]:=by simp[odT,h0]
  rw[hT] at h ⊢
  simp only[aB] at h
  have q1:bi o+1≤LIM:=by omega
  have q2:bi o+1+(aF x.dn [[100,101,115,99]]).length≤LIM:=by omega
  simp -implicitDefEqProofs(maxSteps:=9^9)only[Tryz.f70,↓zA,sevalprocAttr,aTB,zW,h0,bW,aaF _ hnm,kd,ed,q1,q2,dN,ch,bd]
  try rfl
abbrev fmL (f:Fm):List C:=[ci f.kd,aH (aD f.nm),aH (aD f.az),slC qyC f.sb,slC fmC f.ks,slC xpC f.on]
def a1b:=ai (ai (ai @zq @am5) (ai @aj9 (ai @aqf @eY))) (ai (ai @jq (ai @eI @P65)) (ai @zT0 (ai @azQ (ba aPc))))
def at2 (f:Fm) (q:Qy) (hq:f.sb=[q]) (hx:WQ q):GC 151 (fmL f) (qyT q):=by
 refine⟨aGE,aM5,aBo,fun o h=>?_⟩
 have kx:=fun o K=>hx.k o K
 have g0:dH f.sb 0=some q:=by rw[hq];rfl
 refine ah rfl aPc azQ rfl ?_
 simp -implicitDefEqProofs(maxSteps:=9^9)only[Tryz.f151,↓zA,sevalprocAttr,a1b,zW,du,cO,co,g0,kx,h]
def a1a:=ai (ai (ai @zq @aCX) (ai @avY (ai @aJ6 @jq))) (ai (ai @iU @P65) (ai @zT0 (ai @azP (ba aPb))))
def at1 (f a b:Fm) (hq:f.ks=[a,b]) (hx:WF b):GC 152 (fmL f) (fmT b):=by
 refine⟨aGD,aM4,aBn,fun o h=>?_⟩
 have kx:=fun o K=>hx.k o K
 have g0:dH f.ks 1=some b:=by rw[hq];rfl
 refine ah rfl aPb azP rfl ?_
 simp -implicitDefEqProofs(maxSteps:=9^9)only[Tryz.f152,↓zA,sevalprocAttr,a1a,zW,du,cO,co,g0,kx,h]
def aHa (A:Ob) (B:Ob) (n:Int) (h:n=3∨n=4∨n=5):jk (TT.of Tryz.prog) [A,B,.map [(.int .i64 3,.sl [aH (aD [99,114,111,115,115]),aH (aD [106,111,105,110])] 2),(.int .i64 4,.sl [aH (aD [106,111,105,110])] 1),(.int .i64 5,.sl [aH (aD [108,101,102,116]),aH (aD [106,111,105,110])] 2)]] 179 (.mp 2) (.of (.lit (.int .i64 n))) false=out (.of (slC bA (adV n))):=by
 simp only[jk,aET,gk,acN]
 rcases h with h|h|h <;> (subst h;rfl)
def aLo (n:Int):adV n≠[]:=by unfold adV;split <;> (try split) <;> simp
def aJN:=ai (ai (ai (ai (ai @zq @a6X) (ai @T65 @a6W)) (ai (ai @afI @ad9) (ai @ahP (ai @aGF @aBp)))) (ai (ai (ai @aM6 @api) (ai @ank (ai @atd @aCX))) (ai (ai @avY @aJ6) (ai @aET (ai @ac4 @ab1))))) (ai (ai (ai (ai @aez @aC1) (ai @av2 (ai @aJ9 @jq))) (ai (ai @cR @bO) (ai @iU (ai @aGE @aBo)))) (ai (ai (ai @aM5 @aGD) (ai @aBn (ai @aM4 @P65))) (ai (ai @Q3 @Q9) (ai @zT0 (ai @aHP (ba aYb))))))
def aKy (f:Fm) (ok:gL f=true) (hl:f.on.length≤4611686018427387903) (hk:∀ x∈f.ks,WF x) (hs:∀ q∈f.sb,WQ q) (ho:∀ x∈f.on,WX x):WF f:=by
 intro o h
 rw[agX] at ok
 rw[aIG] at h ⊢
 have aeL:=aL [99,114,111,115,115]
 have abm:=aL [106,111,105,110]
 have agK:=aL [108,101,102,116]
 have adJ:=aL [111,110]
 refine ah rfl aYb aHP rfl ?_
 by_cases h1:f.kd=1
 .have hop:=aa h1
  simp only[h1,aA,ab] at ok
  have hnm:bk f.nm=true:=ok.1.1
  have ks:=fun o K=>(aq6 f.az ok.1.2).k o K
  have hT:af1 f.kd f.nm f.az (f.sb.map qyP) (f.ks.map fmP) (f.on.map xpP)=bF f.nm::asT f.az:=by rw[h1];rfl
  rw[hT] at h ⊢
  simp only[aB] at h
  have q1:bi o+1≤LIM:=by omega
  have q2:bi o+1+(asT f.az).length≤LIM:=by omega
  simp -implicitDefEqProofs(maxSteps:=9^9)only[Tryz.f65,↓zA,sevalprocAttr,aJN,zW,cO,co,hop,aaF _ hnm,ks,q1,q2,dN,ch,bd]
  try rfl
 by_cases h2:f.kd=2
 .have hop:=aa h2
  simp only[h2,Int.reduceEq,aQ,aA,ab] at ok
  have haz:bk f.az=true:=ok.1.1.2
  have hsz:=ok.1.2
  rw[show bu f.sb 1 1 d7=_ from fY f.sb 1 1 d7] at hsz
  simp only[ab,dD,ar] at hsz
  obtain⟨q,hsb⟩:=ks1 (l:=f.sb) (by omega)
  have ks:=fun o K=>(aq6 f.az (by simp[gg,haz])).k o K
  have kh:=fun o K=>aeZ (ahE 151 (fmL f) (qyT q) true (at2 f q hsb (hs q (by rw[hsb];simp))) o) K
  simp only[Nat.reduceMul] at kh
  have hT:af1 f.kd f.nm f.az (f.sb.map qyP) (f.ks.map fmP) (f.on.map xpP)=bI true (qyT q)++asT f.az:=by rw[h2,hsb];rfl
  rw[hT] at h ⊢
  simp only[av] at h
  have q1:bi o+(bI true (qyT q)).length≤LIM:=by omega
  have q2:bi o+(bI true (qyT q)).length+(asT f.az).length≤LIM:=by omega
  simp -implicitDefEqProofs(maxSteps:=9^9)only[Tryz.f65,↓zA,sevalprocAttr,aJN,zW,du,cO,co,h1,hop,kh,ks,q1,q2]
  try rfl
 have hkd:f.kd=3∨f.kd=4∨f.kd=5:=by
  simp only[h1,h2,aQ] at ok
  split at ok
  .assumption
  .cases ok
 simp only[h1,h2,aQ,hkd,aA,ab] at ok
 have hsz:f.ks.length=2:=by
  have:=ok.1.2
  rw[show bu f.ks 2 2 gL=_ from fY f.ks 2 2 gL] at this
  simp only[ab,dD,ar] at this
  omega
 obtain⟨a,b,hks⟩:=ks2 hsz
 have g0:dH f.ks 0=some a:=by rw[hks];rfl
 have g1:dH f.ks 1=some b:=by rw[hks];rfl
 have wa:=hk a (by rw[hks];simp)
 have ka:=fun o K=>wa.k o K
 have kp:=fun o K=>(auv (adV f.kd) (aLo f.kd)).k o K
 have kl:=fun A B=>aHa A B f.kd hkd
 have kh:=fun o K=>aeZ (ahE 152 (fmL f) (fmT b) (decide (3≤b.kd)) (at1 f a b hks (hk b (by rw[hks];simp))) o) K
 simp only[Nat.reduceMul] at kh
 have ko:=fun o K=>(aeA [111,110] f.on hl ho).k o K
 have hT:af1 f.kd f.nm f.az (f.sb.map qyP) (f.ks.map fmP) (f.on.map xpP)=fmT a++(adV f.kd++(bI (decide (3≤b.kd)) (fmT b)++dC [111,110] f.on)):=by
  simp only[af1,h1,h2,aQ];rw[hks,amY];rfl
 rw[hT] at h ⊢
 simp only[av] at h
 have q1:bi o+(fmT a).length≤LIM:=by omega
 have q2:bi o+(fmT a).length+(adV f.kd).length≤LIM:=by omega
 have q3:bi o+((fmT a).length+(adV f.kd).length)+(bI (decide (3≤b.kd)) (fmT b)).length≤LIM:=by omega
 have q4:bi o+((fmT a).length+((adV f.kd).length+(bI (decide (3≤b.kd)) (fmT b)).length))+(dC [111,110] f.on).length≤LIM:=by omega
 simp -implicitDefEqProofs(maxSteps:=9^9)only[Tryz.f65,↓zA,sevalprocAttr,aJN,zW,du,cO,co,h1,h2,g0,g1,ka,bg,acx (ht:=aET),aaL (ht:=aET),ab5,agt,aeb,aer,aeE,aa6,ahf,Int.reduceEq,ch,aeL,abm,agK,adJ,kl,kp,kh,ko,q1,q2,q3,q4,av,am]
 try rfl
def aTC:=ai (ai (ai @zq @ah5) (ai @agN @cR)) (ai (ai @bO @ey) (ai @zT0 (ai @au9 (ba aLH))))
def aCE (w:To):G1 60 [.of (aH (aD w)),.of (slC xpC [])] .nil:=by
 refine ah rfl aLH au9 rfl ?_
 simp -implicitDefEqProofs(maxSteps:=9^9)only[Tryz.f60,↓zA,sevalprocAttr,aTC]
 try rfl
def aCD (w:To) (y:Xp) (hx:RX y):GR 60 [.of (aH (aD w)),.of (slC xpC [y])] (w::bv y):=by
 intro h
 simp only[aB] at h
 have ka:=fun K=>(dP y 1 hx).k (T:=bv y) (by omega) K
 have gx:dH [y] 0=some y:=rfl
 have c:((([y]:List Xp).length:Int)=0)=False:=aO (by simp)
 generalize hl:([y]:List Xp)=l at *
 refine ah rfl aLH au9 rfl ?_
 simp -implicitDefEqProofs(maxSteps:=9^9)only[Tryz.f60,↓zA,sevalprocAttr,aTC,gx,ka,c]
 (and_intros <;> first|(exact cz (by (try simp only[cJ,cI]) <;> rfl) (by (try simp only[aR]) <;> omega))|((try simp only[aR]) <;> omega))
def agj:=ai (ai (ai (ai @zq @ahj) (ai @afD @ah5)) (ai (ai @agN @aGd) (ai @aAX @cR))) (ai (ai (ai @abb @bO) (ai @ab7 @P4)) (ai (ai @Q4 @Q9) (ai @zT0 (ai @azF (ba aO1)))))
def asn (l:List Im) (hl:l.length≤4611686018427387903) (hx:∀ x∈l,aaR x=true∧(x.st=false→RX x.e)):GR 162 [.of (slC imC l)] (bc true (l.map imT)):=by
 intro h
 generalize hT:bc true (l.map imT)=T at *
 have e_2e:=aL [46]
 have e_2a:=aL [42]
 have e44:=aL [44]
 refine ah rfl aO1 azF rfl ?_
 simp -implicitDefEqProofs(maxSteps:=9^9)only[Tryz.f162,↓zA,sevalprocAttr,agj]
 refine bX l.length (fun k s=>s.fr 0=.of (slC imC l)∧s.fr 4=aU k∧s.objs=[]∧∃ A c x i,c<s.clk∧s.fr 3=.own (.nm c x i) 9 1 (fl bA A) A.length∧T=A++bc (decide (k=0)) ((l.drop k).map imT)) ?_ ?_
 .simp -implicitDefEqProofs(maxSteps:=9^9)only[Tryz.f162,↓zA,sevalprocAttr,agj]
  exact⟨[],_,_,_,by omega,rfl,hT.symm⟩
 rintro k ⟨frk,obk,ckk⟩ hk ⟨f0,fi,fo,A,c,x,i,hc,fa,E⟩
 dsimp only at f0 fi fo hc fa
 rcases ap k l.length with dk|dk
 .have hw:=cF k (by omega)
  have gx:=bq dk
  rw[anW imT dk] at E
  obtain⟨ho,hm⟩:=hx l[k] (ay dk)
  generalize l[k]=y at *
  have EL:=congrArg List.length E
  simp only[aR] at EL
  have hcase:(y.st=true∧¬y.tb=[]∧bk y.tb=true)∨(y.st=true∧y.tb=[])∨(y.st=false∧y.az=[])∨(y.st=false∧¬y.az=[]∧bk y.az=true):=by
   rw[aij] at ho
   cases hst:y.st
   .rw[hst] at ho
    simp only[aW,aQ,ab,gg,cA,ar] at ho
    by_cases ha:y.az=[]
    .exact .inr (.inr (.inl ⟨rfl,ha⟩))
    .exact .inr (.inr (.inr ⟨rfl,ha,by rcases ho.1.2 with q|q;exact absurd q ha;exact q⟩))
   .rw[hst] at ho
    simp only[aA,ab,gg,cA,ar] at ho
    by_cases ha:y.tb=[]
    .exact .inr (.inl ⟨rfl,ha⟩)
    .exact .inl ⟨rfl,ha,by rcases ho.1.1 with q|q;exact absurd q ha;exact q⟩
  rcases fM k with hkz|hz
  .subst hkz
   have hw1:aF (decide ((0:Nat)≠0)) [[44]]=[]:=rfl
   have hd1:decide (0+1=0)=false:=rfl
   have dk':((0:Int)<(l.length:Int))=True:=aa (by omega)
   have fi':frk 4=aU 0:=fi
   have gx':dH l 0=some y:=gx
   have hw':IntKind.i64.wrap 1=1:=by decide
   rcases hcase with ⟨b1,b2,b3⟩|⟨b1,b2⟩|⟨b1,b2⟩|⟨b1,b2,b3⟩
   .have eT:imT y=[bF y.tb,[46],[42]]:=by rw[agG];simp[ael,b1,b2,aF,ab0,aaM]
    rw[eT] at EL
    simp only[aR] at EL
    have b4:=aO b2
    have kn:=fun K=>fX y.tb b3 K
    have E2:T=(A++[bF y.tb,[46],[42]])++bc false ((l.drop (0+1)).map imT):=by rw[E,hw1,hd1];simp only[am,bw,bt,eT]
    simp -implicitDefEqProofs(maxSteps:=9^9)only[Tryz.f162,↓zA,sevalprocAttr,agj,f0,fa,fo,fi',dk',gx',hw',b1,b4,kn,ij,iI,e_2e,e_2a]
    and_intros
    all_goals first|exact okN _ _ (by omega) _|omega|rfl|exact abS (A++[bF y.tb,[46],[42]]) (by omega) (by (try simp only[cJ,cI]) <;> rfl) (by (try simp only[aR]) <;> omega) E2|((try simp only[aR]) <;> omega)
   .have eT:imT y=[[42]]:=by rw[agG];simp[ael,b1,b2,aF,ab0,aaM]
    rw[eT] at EL
    simp only[aR] at EL
    have b4:=aa b2
    have E2:T=(A++[[42]])++bc false ((l.drop (0+1)).map imT):=by rw[E,hw1,hd1];simp only[am,bw,bt,eT]
    simp -implicitDefEqProofs(maxSteps:=9^9)only[Tryz.f162,↓zA,sevalprocAttr,agj,f0,fa,fo,fi',dk',gx',hw',b1,b4,ij,e_2a]
    and_intros
    all_goals first|exact okN _ _ (by omega) _|omega|rfl|exact abS (A++[[42]]) (by omega) (by (try simp only[cJ,cI]) <;> rfl) (by (try simp only[aR]) <;> omega) E2|((try simp only[aR]) <;> omega)
   .have eT:imT y=bv y.e:=by rw[agG];simp[ael,b1,b2,asT,aF];rfl
    rw[eT] at EL
    have ka:=fun K=>(dP y.e 1 (hm b1)).k (T:=bv y.e) (by omega) K
    have ks:∀ K,bp Tryz.prog pr 222 [.of (aH (aD y.az))] [] K↔K ⟨false,[.nil],[]⟩:=fun K=>by rw[b2];exact aN.k aqC K
    have E2:T=(A++bv y.e)++bc false ((l.drop (0+1)).map imT):=by rw[E,hw1,hd1];simp only[am,bw,bt,eT]
    simp -implicitDefEqProofs(maxSteps:=9^9)only[Tryz.f162,↓zA,sevalprocAttr,agj,f0,fa,fo,fi',dk',gx',hw',b1,ka,ks,dz]
    and_intros
    all_goals first|exact okN _ _ (by omega) _|omega|rfl|exact abS (A++bv y.e) (by omega) (by (try simp only[cJ,cI]) <;> rfl) (by (try simp only[aR]) <;> omega) E2|((try simp only[aR]) <;> omega)
   .have eT:imT y=bv y.e++[[97,115],bF y.az]:=by rw[agG];simp[ael,b1,b2,asT,aF];rfl
    rw[eT] at EL
    simp only[aR] at EL
    have ka:=fun K=>(dP y.e 1 (hm b1)).k (T:=bv y.e) (by omega) K
    have ks:=fun K=>(aqB y.az b3).k (by simp only[dN];omega) K
    have E2:T=(A++(bv y.e++[[97,115],bF y.az]))++bc false ((l.drop (0+1)).map imT):=by rw[E,hw1,hd1];simp only[am,bw,bt,eT]
    simp -implicitDefEqProofs(maxSteps:=9^9)only[Tryz.f162,↓zA,sevalprocAttr,agj,f0,fa,fo,fi',dk',gx',hw',b1,ka,ks]
    and_intros
    all_goals first|exact okN _ _ (by omega) _|omega|rfl|exact abS (A++(bv y.e++[[97,115],bF y.az])) (by omega) (by (try simp only[cJ,cI]) <;> rfl) (by (try simp only[aR]) <;> omega) E2|((try simp only[aR]) <;> omega)
  .have hkz:k≠0:=by omega
   have hw1:aF (decide (k≠0)) [[44]]=[[44]]:=by simp[aF,hkz]
   have hwt:(aF (decide (k≠0)) [[44]]).length=1:=by rw[hw1];rfl
   have hd1:decide (k+1=0)=false:=bP (abg k)
   have kz:((0:Int)<(k:Int))=True:=aa (by omega)
   rcases hcase with ⟨b1,b2,b3⟩|⟨b1,b2⟩|⟨b1,b2⟩|⟨b1,b2,b3⟩
   .have eT:imT y=[bF y.tb,[46],[42]]:=by rw[agG];simp[ael,b1,b2,aF,ab0,aaM]
    rw[eT] at EL
    simp only[aR] at EL
    have b4:=aO b2
    have kn:=fun K=>fX y.tb b3 K
    have E2:T=(A++([44]::([bF y.tb,[46],[42]])))++bc false ((l.drop (k+1)).map imT):=by rw[E,hw1,hd1];simp only[am,bw,bt,eT]
    simp -implicitDefEqProofs(maxSteps:=9^9)only[Tryz.f162,↓zA,sevalprocAttr,agj,f0,fa,fo,fi,aK,dk,kz,e44,gx,hw,b1,b4,kn,ij,iI,e_2e,e_2a]
    and_intros
    all_goals first|exact okN _ _ (by omega) _|omega|rfl|exact abS (A++([44]::([bF y.tb,[46],[42]]))) (by omega) (by (try simp only[cJ,cI]) <;> rfl) (by (try simp only[aR]) <;> omega) E2|((try simp only[aR]) <;> omega)
   .have eT:imT y=[[42]]:=by rw[agG];simp[ael,b1,b2,aF,ab0,aaM]
    rw[eT] at EL
    simp only[aR] at EL
    have b4:=aa b2
    have E2:T=(A++([44]::([[42]])))++bc false ((l.drop (k+1)).map imT):=by rw[E,hw1,hd1];simp only[am,bw,bt,eT]
    simp -implicitDefEqProofs(maxSteps:=9^9)only[Tryz.f162,↓zA,sevalprocAttr,agj,f0,fa,fo,fi,aK,dk,kz,e44,gx,hw,b1,b4,ij,e_2a]
    and_intros
    all_goals first|exact okN _ _ (by omega) _|omega|rfl|exact abS (A++([44]::([[42]]))) (by omega) (by (try simp only[cJ,cI]) <;> rfl) (by (try simp only[aR]) <;> omega) E2|((try simp only[aR]) <;> omega)
   .have eT:imT y=bv y.e:=by rw[agG];simp[ael,b1,b2,asT,aF];rfl
    rw[eT] at EL
    have ka:=fun K=>(dP y.e 1 (hm b1)).k (T:=bv y.e) (by omega) K
    have ks:∀ K,bp Tryz.prog pr 222 [.of (aH (aD y.az))] [] K↔K ⟨false,[.nil],[]⟩:=fun K=>by rw[b2];exact aN.k aqC K
    have E2:T=(A++([44]::(bv y.e)))++bc false ((l.drop (k+1)).map imT):=by rw[E,hw1,hd1];simp only[am,bw,bt,eT]
    simp -implicitDefEqProofs(maxSteps:=9^9)only[Tryz.f162,↓zA,sevalprocAttr,agj,f0,fa,fo,fi,aK,dk,kz,e44,gx,hw,b1,ka,ks,dz]
    and_intros
    all_goals first|exact okN _ _ (by omega) _|omega|rfl|exact abS (A++([44]::(bv y.e))) (by omega) (by (try simp only[cJ,cI]) <;> rfl) (by (try simp only[aR]) <;> omega) E2|((try simp only[aR]) <;> omega)
   .have eT:imT y=bv y.e++[[97,115],bF y.az]:=by rw[agG];simp[ael,b1,b2,asT,aF];rfl
    rw[eT] at EL
    simp only[aR] at EL
    have ka:=fun K=>(dP y.e 1 (hm b1)).k (T:=bv y.e) (by omega) K
    have ks:=fun K=>(aqB y.az b3).k (by simp only[dN];omega) K
    have E2:T=(A++([44]::((bv y.e++[[97,115],bF y.az]))))++bc false ((l.drop (k+1)).map imT):=by rw[E,hw1,hd1];simp only[am,bw,bt,eT]
    simp -implicitDefEqProofs(maxSteps:=9^9)only[Tryz.f162,↓zA,sevalprocAttr,agj,f0,fa,fo,fi,aK,dk,kz,e44,gx,hw,b1,ka,ks]
    and_intros
    all_goals first|exact okN _ _ (by omega) _|omega|rfl|exact abS (A++([44]::((bv y.e++[[97,115],bF y.az])))) (by omega) (by (try simp only[cJ,cI]) <;> rfl) (by (try simp only[aR]) <;> omega) E2|((try simp only[aR]) <;> omega)
 .have e:k=l.length:=by omega
  subst e
  rw[aw,bC] at E
  have E:T=A:=by rw[E];cases (decide (l.length=0)) <;> simp[bc]
  subst E
  simp -implicitDefEqProofs(maxSteps:=9^9)only[Tryz.f162,↓zA,sevalprocAttr,agj,f0,fa,fi,fo,aK,au]
  try rfl
def abn (op:Int):Int:=if op=1 then 3 else if op=3 then 2 else 0
def aDi (n:Int):jk (TT.of Tryz.prog) [.map [(.int .i64 1,ci 3),(.int .i64 3,ci 2)]] 180 (.mp 0) (.of (.lit (.int .i64 n))) false=out (aU (abn n)):=by
 simp only[jk,aES,gk,acN]
 by_cases h1:n=1
 .subst h1;rfl
 .by_cases h3:n=3
  .subst h3;rfl
  .have e:aa6 (.int .i64) (.int .i64 n) [(.int .i64 1,ci 3),(.int .i64 3,ci 2)] 0=some none:=by
    simp only[arS,h1,h3,aQ,avx]
   have hz:ahY (TT.of Tryz.prog) 3=some (aU 0):=by kernel_rfl
   simp only[dJ,e,hz,abn,h1,h3,aQ]
   rfl
def a5a:=ai (ai @zq @aES) (ai @zT0 (ai @aHM (ba aX8)))
def aEt (n:Int):G1 68 [aU n] (aU (abn n)):=by
 refine ah rfl aX8 aHM rfl ?_
 simp -implicitDefEqProofs(maxSteps:=9^9)only[Tryz.f68,↓zA,sevalprocAttr,a5a,zW,acx (ht:=aES),aaL (ht:=aES),ab5,agt,aeb,aer,aeE,aa6,ahf,Int.reduceEq,ch,aDi]
 try rfl
def agh (n:Int) (K:An→Prop):bp Tryz.prog pr 68 [.of (.lit (.int .i64 n))] [] K↔K ⟨false,[aU (abn n)],[]⟩:=aN.k (aEt n) K
def ar1 {a b:Int} (ha:a=1∨a=2∨a=3∨a=4) (hb:b=2∨b=3∨b=4):decide (abn a<abn b)=decide (cL a<cL b)∧decide (abn a<abn b+1)=decide (cL a<cL b+1):=by
 rcases ha with rfl|rfl|rfl|rfl <;> rcases hb with rfl|rfl|rfl <;> decide
def ayh {q:Qy} (h:d7 q=true):q.op=1∨q.op=2∨q.op=3∨q.op=4:=by
 rw[af9] at h
 rw[ab] at h
 by_cases h1:q.op=1
 .exact .inl h1
 .have h2:=h.2
  rw[aj h1] at h2
  split at h2
  .rename_i h3;exact .inr h3
  .cases h2
abbrev aKO (q:Qy):List C:=[ci q.op,cb q.al,slC qyC q.ks,cb q.di,slC imC q.its,slC fmC q.fr,slC xpC q.wh,slC xpC q.gr,slC xpC q.hv,slC odC q.od,ci q.li,ci q.sk]
def a09:=ai (ai (ai @zq @am5) (ai @aj9 @aqf)) (ai (ai @eY @P65) (ai @zT0 (ai @azO (ba aPa))))
def aHj (q:Qy) (hx:WQ q):GC 153 (aKO q) (qyT q):=by
 refine⟨aGC,aM3,aBm,fun o h=>?_⟩
 have kx:=fun o K=>hx.k o K
 refine ah rfl aPa azO rfl ?_
 simp -implicitDefEqProofs(maxSteps:=9^9)only[Tryz.f153,↓zA,sevalprocAttr,a09,zW,du,cO,co,kx,h]
def aBP:=ai (ai (ai (ai @zq @a6U) (ai @T65 (ai @a6T @aNl))) (ai (ai @aJb @api) (ai @ank (ai @atd @eY)))) (ai (ai (ai @acL @abV) (ai @aGC (ai @aBm @aM3))) (ai (ai @P65 @Q3) (ai @zT0 (ai @aHN (ba aX9)))))
def au7 (q:Qy) (n:Int) (hl:q.od.length≤4611686018427387903) (hx:WQ q):GW 67 [.of (.agg (qyC q)),aU n] (bI (aeF q||decide (abn q.op<n)) (qyT q)):=by
 intro o h
 have kh:=fun b (hb:bi o+(bI b (qyT q)).length≤LIM) K=>aN.k (ahE 153 (aKO q) (qyT q) b (aHj q hx) o hb) K
 simp only[Nat.reduceMul] at kh
 have e0:decide ((0:Int)<(q.od.length:Int))=decide (q.od≠[]):=fO.2 (by cases q.od <;> simp <;> omega)
 refine ah rfl aX9 aHN rfl ?_
 by_cases h1:q.od=[]
 .have z0:((0:Int)<(q.od.length:Int))=False:=by rw[h1];simp
  by_cases h2:0≤q.li
  .have eo:aeF q=true:=by simp[aeF,h2]
   rw[eo,dw] at h ⊢
   have k:=fun K=>kh true h K
   simp -implicitDefEqProofs(maxSteps:=9^9)only[Tryz.f67,↓zA,sevalprocAttr,aBP,zW,du,cO,co,z0,h2,agh,k]
   try rfl
  .by_cases h3:0<q.sk
   .have eo:aeF q=true:=by simp[aeF,h3]
    rw[eo,dw] at h ⊢
    have k:=fun K=>kh true h K
    simp -implicitDefEqProofs(maxSteps:=9^9)only[Tryz.f67,↓zA,sevalprocAttr,aBP,zW,du,cO,co,z0,h2,h3,agh,k]
    try rfl
   .have eo:aeF q=false:=by simp[aeF,h1,h2,h3]
    rw[eo,dl] at h ⊢
    have k:=fun K=>kh _ h K
    simp -implicitDefEqProofs(maxSteps:=9^9)only[Tryz.f67,↓zA,sevalprocAttr,aBP,zW,du,cO,co,z0,h2,h3,agh,k]
    try rfl
 .have eo:aeF q=true:=by simp[aeF,h1]
  rw[eo,dw] at h ⊢
  have k:=fun K=>kh true h K
  have e1:((0:Int)<(q.od.length:Int))=True:=aa (by cases hq:q.od with
   | nil=>exact absurd hq h1
   | cons a r=>simp only[aB];omega)
  simp -implicitDefEqProofs(maxSteps:=9^9)only[Tryz.f67,↓zA,sevalprocAttr,aBP,zW,du,cO,co,e1,agh,k]
  try rfl
def a35 {s:List UInt8} (h:s=[]) (K:An→Prop):bp Tryz.prog pr 222 [.of (aH (aD s))] [] K↔K ⟨false,[.nil],[]⟩:=by rw[h];exact aN.k aqC K
def aNE {s:List UInt8} (h:bk s=true) (K:An→Prop):bp Tryz.prog pr 222 [.of (aH (aD s))] [] K↔K ⟨false,[.own (.nm 0 0 0) 9 1 (fl bA [[97,115],bF s]) [[97,115],bF s].length],[]⟩:=(aqB s h).k (by simp only[dN];unfold LIM;omega) K
def ajH {α:Type} {l:List α} {a b:Nat} {p:α→Bool} (h:bu l a b p=true):a≤l.length∧l.length≤b:=by
 rw[fY,ab] at h
 simp only[dD,ab,ar] at h
 exact h.1
def afF:=ai (ai (ai (ai @zq (ai @a6n @ahj)) (ai @afD (ai @aGd @aAX))) (ai (ai @am4 (ai @aj8 @ai3)) (ai (ai @ahG @aGy) (ai @aBi @ah5)))) (ai (ai (ai @agN (ai @eY @cR)) (ai @jq (ai @bO @ey))) (ai (ai @eI (ai @iU @Q3)) (ai (ai @Q9 @zT0) (ai @acz (ba ae6)))))
def aw5 (f:Fm) (o:gL f=true) (hs:∀ q∈f.sb,RQ q) (hk:∀ x∈f.ks,RF x∧gL x=true) (hn:∀ e∈f.on,RX e):RF f:=by
 intro h
 have aeL:=aL [99,114,111,115,115]
 have agK:=aL [108,101,102,116]
 have abm:=aL [106,111,105,110]
 have adJ:=aL [111,110]
 rw[aIG] at h ⊢
 rw[agX] at o
 by_cases k1:f.kd=1
 .have hop:=aa k1
  rw[aE k1] at o
  have eM:af1 f.kd f.nm f.az (f.sb.map qyP) (f.ks.map fmP) (f.on.map xpP)=bF f.nm::asT f.az:=by unfold af1;rw[aE k1]
  rw[eM] at h ⊢
  simp only[ab,gg,cA,ar] at o
  have kn:=fun K=>fX f.nm o.1.1 K
  by_cases ha:f.az=[]
  .have eT:asT f.az=[]:=by rw[ha];rfl
   rw[eT] at h ⊢
   simp only[dN] at h
   refine ah rfl ae6 acz rfl ?_
   simp -implicitDefEqProofs(maxSteps:=9^9)only[Tryz.f163,↓zA,sevalprocAttr,afF,hop,kn,a35 ha,dz]
   (and_intros <;> first|(exact cz (by (try simp only[cJ,cI]) <;> rfl) (by (try simp only[aR]) <;> omega))|((try simp only[aR]) <;> omega))
  .have hz:bk f.az=true:=by rcases o.1.2 with q|q;exact absurd q ha;exact q
   have eT:asT f.az=[[97,115],bF f.az]:=by simp[asT,aF,ha]
   rw[eT] at h ⊢
   simp only[dN] at h
   refine ah rfl ae6 acz rfl ?_
   simp -implicitDefEqProofs(maxSteps:=9^9)only[Tryz.f163,↓zA,sevalprocAttr,afF,hop,kn,aNE hz]
   (and_intros <;> first|(exact cz (by (try simp only[cJ,cI]) <;> rfl) (by (try simp only[aR]) <;> omega))|((try simp only[aR]) <;> omega))
 rw[aj k1] at o
 by_cases k2:f.kd=2
 .have hop:=aa k2
  rw[aE k2] at o
  have eM:af1 f.kd f.nm f.az (f.sb.map qyP) (f.ks.map fmP) (f.on.map xpP)=ajm (f.sb.map qyP)++asT f.az:=by unfold af1;rw[aj k1,aE k2]
  rw[eM] at h ⊢
  simp only[ab] at o
  have hsl:=ajH (a:=1) (b:=1) o.1.2
  obtain⟨q,hsb⟩:=ks1 (l:=f.sb) (by omega)
  have gq:dH f.sb 0=some q:=by rw[hsb];rfl
  have hz:bk f.az=true:=o.1.1.2
  have hne:=al6 hz
  have eT:asT f.az=[[97,115],bF f.az]:=by simp[asT,aF,hne]
  have eS:ajm (f.sb.map qyP)=bI true (qyT q):=by rw[hsb];rfl
  rw[eT,eS] at h ⊢
  have hl2:(bI true (qyT q)).length=(qyT q).length+2:=by simp[bI]
  simp only[aR] at h
  have kq:=fun K=>(hs q (by rw[hsb];simp)).k (by omega) K
  have kr:=fun K=>aaW (qyT q) (by omega) K
  refine ah rfl ae6 acz rfl ?_
  simp -implicitDefEqProofs(maxSteps:=9^9)only[Tryz.f163,↓zA,sevalprocAttr,afF,hop,k1,gq,kq,kr,aNE hz]
  (and_intros <;> first|(exact cz (by (try simp only[cJ,cI]) <;> rfl) (by (try simp only[aR]) <;> omega))|((try simp only[aR]) <;> omega))
 rw[aj k2] at o
 have hkd:f.kd=3∨f.kd=4∨f.kd=5:=by
  by_cases q:f.kd=3∨f.kd=4∨f.kd=5
  .exact q
  .rw[aj q] at o;cases o
 rw[aE hkd] at o
 have hks:f.ks.length=2∧f.on.length=if f.kd=3 then 0 else 1:=by
  simp only[ab] at o
  have h2:=ajH (a:=2) (b:=2) o.1.2
  refine⟨by omega,?_⟩
  by_cases q:f.kd=3
  .have:=ajH (a:=0) (b:=0) (by have h:=o.2;simp only[q,aA] at h;exact h)
   rw[aE q]
   omega
  .have:=ajH (a:=1) (b:=1) (by have h:=o.2;simp only[q,aQ] at h;exact h)
   rw[aj q]
   omega
 obtain⟨a,b,hab⟩:=ks2 hks.1
 have ga:dH f.ks 0=some a:=by rw[hab];rfl
 have gb:dH f.ks 1=some b:=by rw[hab];rfl
 obtain⟨wa,_⟩:=hk a (by rw[hab];simp)
 obtain⟨wb,ob⟩:=hk b (by rw[hab];simp)
 have eM:af1 f.kd f.nm f.az (f.sb.map qyP) (f.ks.map fmP) (f.on.map xpP)=fmT a++(adV f.kd++(bI (decide (3≤b.kd)) (fmT b)++jA [111,110] (f.on.map xpP))):=by unfold af1;rw[aj k1,aj k2,hab];rfl
 rw[eM] at h ⊢
 have kb:b.kd=1∨b.kd=2∨b.kd=3∨b.kd=4∨b.kd=5:=by
  rw[agX] at ob
  by_cases q1:b.kd=1
  .exact .inl q1
  by_cases q2:b.kd=2
  .exact .inr (.inl q2)
  rw[aj q1,aj q2] at ob
  by_cases q3:b.kd=3∨b.kd=4∨b.kd=5
  .exact .inr (.inr q3)
  .rw[aj q3] at ob;cases ob
 have hl2:(bI true (fmT b)).length=(fmT b).length+2:=by simp[bI]
 by_cases k3:f.kd=3
 .have hop:=aa k3
  have eJ:adV f.kd=[[99,114,111,115,115],[106,111,105,110]]:=by rw[k3];rfl
  have eO:f.on=[]:=aJ (by rw[hks.2,aE k3])
  rw[eJ,eO] at h ⊢
  have eS:jA [111,110] (([]:List Xp).map xpP)=[]:=rfl
  rw[eS] at h ⊢
  have k5':¬f.kd=5:=by omega
  rcases kb with kb|kb|kb
  .have eH:bI (decide (3≤b.kd)) (fmT b)=fmT b:=by rw[bP (by omega)];rfl
   rw[eH] at h ⊢
   simp only[aR] at h
   have ka:=fun K=>wa.k (by omega) K
   have kbb:=fun K=>wb.k (by omega) K
   have b1:=aa kb
   refine ah rfl ae6 acz rfl ?_
   simp -implicitDefEqProofs(maxSteps:=9^9)only[Tryz.f163,↓zA,sevalprocAttr,afF,k1,k2,hop,k5',ga,gb,ka,kbb,b1,aeL,abm]
   (and_intros <;> first|(exact cz (by (try simp only[cJ,cI]) <;> rfl) (by (try simp only[aR]) <;> omega))|((try simp only[aR]) <;> omega))
  .have eH:bI (decide (3≤b.kd)) (fmT b)=fmT b:=by rw[bP (by omega)];rfl
   rw[eH] at h ⊢
   simp only[aR] at h
   have ka:=fun K=>wa.k (by omega) K
   have kbb:=fun K=>wb.k (by omega) K
   have b2:=aa kb
   have b1:¬b.kd=1:=by omega
   refine ah rfl ae6 acz rfl ?_
   simp -implicitDefEqProofs(maxSteps:=9^9)only[Tryz.f163,↓zA,sevalprocAttr,afF,k1,k2,hop,k5',ga,gb,ka,kbb,b1,b2,aeL,abm]
   (and_intros <;> first|(exact cz (by (try simp only[cJ,cI]) <;> rfl) (by (try simp only[aR]) <;> omega))|((try simp only[aR]) <;> omega))
  .have eH:bI (decide (3≤b.kd)) (fmT b)=bI true (fmT b):=by rw[cy (by omega)]
   rw[eH] at h ⊢
   simp only[aR] at h
   have ka:=fun K=>wa.k (by omega) K
   have kbb:=fun K=>wb.k (by omega) K
   have kr:=fun K=>aaW (fmT b) (by omega) K
   have b1:¬b.kd=1:=by omega
   have b2:¬b.kd=2:=by omega
   refine ah rfl ae6 acz rfl ?_
   simp -implicitDefEqProofs(maxSteps:=9^9)only[Tryz.f163,↓zA,sevalprocAttr,afF,k1,k2,hop,k5',ga,gb,ka,kbb,kr,b1,b2,aeL,abm]
   (and_intros <;> first|(exact cz (by (try simp only[cJ,cI]) <;> rfl) (by (try simp only[aR]) <;> omega))|((try simp only[aR]) <;> omega))
 by_cases k4:f.kd=4
 .have hop:=aa k4
  have eJ:adV f.kd=[[106,111,105,110]]:=by rw[k4];rfl
  obtain⟨y,hy⟩:=ks1 (l:=f.on) (by rw[hks.2,aj (by omega)])
  have gy:dH f.on 0=some y:=by rw[hy];rfl
  have wy:=hn y (by rw[hy];simp)
  have eS:jA [111,110] (f.on.map xpP)=[111,110]::bv y:=by rw[hy];simp[jA];rfl
  rw[eJ,eS] at h ⊢
  have k5':¬f.kd=5:=by omega
  rcases kb with kb|kb|kb
  .have eH:bI (decide (3≤b.kd)) (fmT b)=fmT b:=by rw[bP (by omega)];rfl
   rw[eH] at h ⊢
   simp only[aR] at h
   have ka:=fun K=>wa.k (by omega) K
   have kbb:=fun K=>wb.k (by omega) K
   have ky:=fun K=>(dP y 1 wy).k (T:=bv y) (by omega) K
   have b1:=aa kb
   refine ah rfl ae6 acz rfl ?_
   simp -implicitDefEqProofs(maxSteps:=9^9)only[Tryz.f163,↓zA,sevalprocAttr,afF,k1,k2,k3,k5',ga,gb,ka,kbb,gy,ky,b1,abm,adJ]
   (and_intros <;> first|(exact cz (by (try simp only[cJ,cI]) <;> rfl) (by (try simp only[aR]) <;> omega))|((try simp only[aR]) <;> omega))
  .have eH:bI (decide (3≤b.kd)) (fmT b)=fmT b:=by rw[bP (by omega)];rfl
   rw[eH] at h ⊢
   simp only[aR] at h
   have ka:=fun K=>wa.k (by omega) K
   have kbb:=fun K=>wb.k (by omega) K
   have ky:=fun K=>(dP y 1 wy).k (T:=bv y) (by omega) K
   have b2:=aa kb
   have b1:¬b.kd=1:=by omega
   refine ah rfl ae6 acz rfl ?_
   simp -implicitDefEqProofs(maxSteps:=9^9)only[Tryz.f163,↓zA,sevalprocAttr,afF,k1,k2,k3,k5',ga,gb,ka,kbb,gy,ky,b1,b2,abm,adJ]
   (and_intros <;> first|(exact cz (by (try simp only[cJ,cI]) <;> rfl) (by (try simp only[aR]) <;> omega))|((try simp only[aR]) <;> omega))
  .have eH:bI (decide (3≤b.kd)) (fmT b)=bI true (fmT b):=by rw[cy (by omega)]
   rw[eH] at h ⊢
   simp only[aR] at h
   have ka:=fun K=>wa.k (by omega) K
   have kbb:=fun K=>wb.k (by omega) K
   have ky:=fun K=>(dP y 1 wy).k (T:=bv y) (by omega) K
   have kr:=fun K=>aaW (fmT b) (by omega) K
   have b1:¬b.kd=1:=by omega
   have b2:¬b.kd=2:=by omega
   refine ah rfl ae6 acz rfl ?_
   simp -implicitDefEqProofs(maxSteps:=9^9)only[Tryz.f163,↓zA,sevalprocAttr,afF,k1,k2,k3,k5',ga,gb,ka,kbb,gy,ky,kr,b1,b2,abm,adJ]
   (and_intros <;> first|(exact cz (by (try simp only[cJ,cI]) <;> rfl) (by (try simp only[aR]) <;> omega))|((try simp only[aR]) <;> omega))
 have k5:f.kd=5:=by omega
 have hop:=aa k5
 have eJ:adV f.kd=[[108,101,102,116],[106,111,105,110]]:=by rw[k5];rfl
 obtain⟨y,hy⟩:=ks1 (l:=f.on) (by rw[hks.2,aj (by omega)])
 have gy:dH f.on 0=some y:=by rw[hy];rfl
 have wy:=hn y (by rw[hy];simp)
 have eS:jA [111,110] (f.on.map xpP)=[111,110]::bv y:=by rw[hy];simp[jA];rfl
 rw[eJ,eS] at h ⊢
 rcases kb with kb|kb|kb
 .have eH:bI (decide (3≤b.kd)) (fmT b)=fmT b:=by rw[bP (by omega)];rfl
  rw[eH] at h ⊢
  simp only[aR] at h
  have ka:=fun K=>wa.k (by omega) K
  have kbb:=fun K=>wb.k (by omega) K
  have ky:=fun K=>(dP y 1 wy).k (T:=bv y) (by omega) K
  have b1:=aa kb
  refine ah rfl ae6 acz rfl ?_
  simp -implicitDefEqProofs(maxSteps:=9^9)only[Tryz.f163,↓zA,sevalprocAttr,afF,k1,k2,k3,hop,ga,gb,ka,kbb,gy,ky,b1,agK,abm,adJ]
  (and_intros <;> first|(exact cz (by (try simp only[cJ,cI]) <;> rfl) (by (try simp only[aR]) <;> omega))|((try simp only[aR]) <;> omega))
 .have eH:bI (decide (3≤b.kd)) (fmT b)=fmT b:=by rw[bP (by omega)];rfl
  rw[eH] at h ⊢
  simp only[aR] at h
  have ka:=fun K=>wa.k (by omega) K
  have kbb:=fun K=>wb.k (by omega) K
  have ky:=fun K=>(dP y 1 wy).k (T:=bv y) (by omega) K
  have b2:=aa kb
  have b1:¬b.kd=1:=by omega
  refine ah rfl ae6 acz rfl ?_
  simp -implicitDefEqProofs(maxSteps:=9^9)only[Tryz.f163,↓zA,sevalprocAttr,afF,k1,k2,k3,hop,ga,gb,ka,kbb,gy,ky,b1,b2,agK,abm,adJ]
  (and_intros <;> first|(exact cz (by (try simp only[cJ,cI]) <;> rfl) (by (try simp only[aR]) <;> omega))|((try simp only[aR]) <;> omega))
 .have eH:bI (decide (3≤b.kd)) (fmT b)=bI true (fmT b):=by rw[cy (by omega)]
  rw[eH] at h ⊢
  simp only[aR] at h
  have ka:=fun K=>wa.k (by omega) K
  have kbb:=fun K=>wb.k (by omega) K
  have ky:=fun K=>(dP y 1 wy).k (T:=bv y) (by omega) K
  have kr:=fun K=>aaW (fmT b) (by omega) K
  have b1:¬b.kd=1:=by omega
  have b2:¬b.kd=2:=by omega
  refine ah rfl ae6 acz rfl ?_
  simp -implicitDefEqProofs(maxSteps:=9^9)only[Tryz.f163,↓zA,sevalprocAttr,afF,k1,k2,k3,hop,ga,gb,ka,kbb,gy,ky,kr,b1,b2,agK,abm,adJ]
  (and_intros <;> first|(exact cz (by (try simp only[cJ,cI]) <;> rfl) (by (try simp only[aR]) <;> omega))|((try simp only[aR]) <;> omega))
def aoA:=ai (ai (ai @zq (ai @a6j @aGx)) (ai (ai @aBh @am4) (ai @aj8 @ai3))) (ai (ai (ai @ahG @eY) (ai @acL @abV)) (ai (ai @Q3 @zT0) (ai @aqP (ba aDT))))
def al1 (q:Qy) (n:Int) (hop:q.op=1∨q.op=2∨q.op=3∨q.op=4) (hq:RQ q):GR 165 [.of (.agg (qyC q)),aU n] (dZ n (qyP q)):=by
 intro h
 have eP:dZ n (qyP q)=bI (aeF q||decide (cL q.op<n)) (qyT q):=rfl
 rw[eP] at h ⊢
 have kb:=fun K=>ao6 q.op hop K
 have hl2:(bI true (qyT q)).length=(qyT q).length+2:=by simp[bI]
 have lo:((0:Int)<(q.od.length:Int))=¬(q.od=[]):=propext ⟨fun h e=>by rw[e] at h;simp at h,fun h=>by have:=List.length_pos_iff.2 h;omega⟩
 by_cases c:(aeF q||decide (cL q.op<n))=true
 .rw[c] at h ⊢
  have kq:=fun K=>hq.k (by omega) K
  have kr:=fun K=>aaW (qyT q) h K
  simp only[aeF,cA,ar] at c
  refine ah rfl aDT aqP rfl ?_
  by_cases c1:cL q.op<n
  .simp -implicitDefEqProofs(maxSteps:=9^9)only[Tryz.f165,↓zA,sevalprocAttr,aoA,kb,c1,kq,kr]
   try rfl
  by_cases c2:q.od=[]
  .by_cases c3:0≤q.li
   .simp -implicitDefEqProofs(maxSteps:=9^9)only[Tryz.f165,↓zA,sevalprocAttr,aoA,kb,c1,lo,aa c2,c3,kq,kr]
    try rfl
   .have c4:0<q.sk:=by rcases c with ((c|c)|c)|c;exact absurd c2 c;exact absurd c c3;exact c;exact absurd c c1
    simp -implicitDefEqProofs(maxSteps:=9^9)only[Tryz.f165,↓zA,sevalprocAttr,aoA,kb,c1,lo,aa c2,c3,c4,kq,kr]
    try rfl
  .simp -implicitDefEqProofs(maxSteps:=9^9)only[Tryz.f165,↓zA,sevalprocAttr,aoA,kb,c1,lo,aO c2,kq,kr]
   try rfl
 .have c':(aeF q||decide (cL q.op<n))=false:=by simpa using c
  rw[c'] at h ⊢
  have eF:bI false (qyT q)=qyT q:=rfl
  rw[eF] at h ⊢
  have kq:=fun K=>hq.k h K
  simp only[aeF,Bool.or_eq_false_iff,iM,ct,Decidable.not_not] at c'
  obtain⟨⟨⟨c2,c3⟩,c4⟩,c1⟩:=c'
  refine ah rfl aDT aqP rfl ?_
  simp -implicitDefEqProofs(maxSteps:=9^9)only[Tryz.f165,↓zA,sevalprocAttr,aoA,kb,c1,lo,aa c2,c3,c4,kq]
  try rfl
end Go.Proofs.YtemdljoideegeaaGreatDoor

/- A part. Conditions: none. -/
import Derived.Test.YtghkmcffifpkeaaGreatPa23
set_option linter.all false
set_option maxRecDepth 100000
set_option maxHeartbeats 64000000
namespace Go.Proofs.YtghkmcffifpkeaaGreat
open Pe Tab
def auC:=ai (hM @Tryz.f181.eq_1 @zq @aWy @aWx @aYX @an7) (hM @bG @bi @aZ @gH @zT0 (kf aMF))
def avL(l:List Fm)(hw:lsW fmW l<=WL)(i1:∀ x∈l,asK x.sb)(i2:∀ x∈l,ayd x.ks)(i3:∀ x∈l,amE x.on):ayd l:=by
 have h1:=fL fmW l λx _=>adb x
 have h2:=sbF l
 have hw2:=hw
 simp only[WL] at hw2
 unfold ayd
 refine bB aMF ?_
 simp only[↓zA,sevalprocAttr,auC]
 refine ew l.length (λk s=>∃ a,s.fr 0=.of (slC fmC l)/\s.fr 2=.ptr 0 0/\s.fr 3=.ptr 1 0/\s.fr 4=au k/\s.objs=[.var 120 [au 0,au 0],.var 120 [.of (ci ((a:Nat×Nat).1:Int)),.of (ci (a.2:Int))]]/\bm a (bj aay (l.drop k))=bj aay l) ?_ ?_
 .refine⟨(0,0),?_⟩
  simp only[↓zA,sevalprocAttr,auC,akc]
  try exact rfl
 .rintro k s hk ⟨a,f0,f2,f3,f4,ho,E⟩
  have ea:nnC (nnP a)=[ci (a.1:Int),ci (a.2:Int)]:=rfl
  rcases av k l.length with c1|c1
  .have hwk:=aW k aC
   have hm:l[k]∈l:=bt c1
   have k1:=λK=>aF.k (i1 l[k] hm) K
   have k2:=λK=>aF.k (i2 l[k] hm) K
   have k3:=λK=>aF.k (i3 l[k] hm) K
   have b1:=sbQ l[k].sb
   have b2:=sbF l[k].ks
   have b3:=sbX l[k].on
   have b5:=dK (w:=fmW) hm
   have b4:=ace l[k]
   simp only[leW] at b1 b2 b3
   have p0:(bj fM l[k].sb).1+(bj aay l[k].ks).1<=4611686018427387903:=by omega
   have p1:(bm (bj fM l[k].sb) (bj aay l[k].ks)).1+(bj cV l[k].on).1<=4611686018427387903:=by simp only[bm];omega
   have p2:(bm (bm (bj fM l[k].sb) (bj aay l[k].ks)) (bj cV l[k].on)).1<=4611686018427387903/\(bm (bm (bj fM l[k].sb) (bj aay l[k].ks)) (bj cV l[k].on)).2<=4611686018427387903:=by simp only[bm];omega
   rw[aan c1,alb,← ahN] at E
   have es:upN (bm (bm (bj fM l[k].sb) (bj aay l[k].ks)) (bj cV l[k].on))=aay l[k]:=(arM _).symm
   have p3:=awJ aay fmW l h2 hw a (aay l[k]) (.inr ⟨_,E⟩)
   have eb:nnC (nnP (bm a (aay l[k])))=[ci ((bm a (aay l[k])).1:Int),ci ((bm a (aay l[k])).2:Int)]:=rfl
   simp only[↓zA,sevalprocAttr,auC,f0,f2,f3,f4,ho,aK,c1,bu c1,hwk,k1,k2,k3,← ea,ald,asF,p0,p1,p2,es,p3,eb]
   exact⟨_,rfl,E⟩
  .have e:k=l.length:=by omega
   subst e
   rw[bf,bj,ad4] at E
   subst E
   simp only[↓zA,sevalprocAttr,auC,f0,f2,f3,f4,ho,aK,bg,ea]
def aRj(a:Nat×Nat):Nn.mk (a.1:Int) (a.2:Int)=nnP a:=rfl
def aEV(e:Xp):C.sl [ci e.op,ci e.v.k,ci e.v.n,aJ e.v.s,aJ (aM e.tb),aJ (aM e.nm),cb e.di,slC xpC e.ks,slC qyC e.sb] 1=slC xpC [e]:=by rw[← ch];simp[slC,fl]
def aQj(q:Qy):upN (bm (bm (bm (bj fM q.ks) (bj aay q.fr)) (bj abv q.its)) (bm (bj cV q.wh) (bm (bj cV q.gr) (bj cV q.hv))))=fM q:=by
 rw[arK]
 simp only[upN,bm,bh]
 omega
def amM:=hC (hZ @Tryz.f89.eq_1 @zq @aWt @aWs @aWq @aYV @aWp @aYU) (hZ @aYT @aYS @aZ @bi @an7 @gF @bG @cX) (hM @dm @ado @P4 @Q4 @zT0 (kf aSc))
def ax8(l:List Qy)(hw:lsW qyW l<=WL)(i1:∀ x∈l,asK x.ks)(i2:∀ x∈l,ayd x.fr)(i3:∀ x∈l,∀ i∈x.its,amE [i.e])(i4:∀ x∈l,amE x.wh)(i5:∀ x∈l,amE x.gr)(i6:∀ x∈l,amE x.hv):asK l:=by
 have h1:=fL qyW l λx _=>afn x
 have h2:=sbQ l
 have hw2:=hw
 simp only[WL] at hw2
 unfold asK
 refine bB aSc ?_
 simp only[↓zA,sevalprocAttr,amM]
 refine ew l.length (λk s=>∃ a J,s.fr 0=.of (slC qyC l)/\s.fr 2=.ptr 0 0/\s.fr 3=.ptr 1 0/\s.fr 4=au k/\s.objs=.var 120 [au 0,au 0]::.var 120 [.of (ci ((a:Nat×Nat).1:Int)),.of (ci (a.2:Int))]::J/\bm a (bj fM (l.drop k))=bj fM l) ?_ ?_
 .refine⟨(0,0),[],?_⟩
  simp only[↓zA,sevalprocAttr,amM,akc]
  try exact rfl
 .rintro k s hk ⟨a,J,f0,f2,f3,f4,ho,E⟩
  have ea:nnC (nnP a)=[ci (a.1:Int),ci (a.2:Int)]:=rfl
  rcases av k l.length with c1|c1
  rotate_left
  .have e:k=l.length:=by omega
   subst e
   rw[bf,bj,ad4] at E
   subst E
   simp only[↓zA,sevalprocAttr,amM,f0,f2,f3,f4,ho,aK,bg,ea]
  have hwk:=aW k aC
  have hm:l[k]∈l:=bt c1
  have k1:=λK=>aF.k (i1 l[k] hm) K
  have k2:=λK=>aF.k (i2 l[k] hm) K
  have k3:=i3 l[k] hm
  have k4:=λK=>aF.k (i4 l[k] hm) K
  have k5:=λK=>aF.k (i5 l[k] hm) K
  have k6:=λK=>aF.k (i6 l[k] hm) K
  have b0:=dK (w:=qyW) hm
  rw[aan c1,alb,← ahN] at E
  have p9:=awJ fM qyW l h2 hw a (fM l[k]) (.inr ⟨_,E⟩)
  have es:=aQj l[k]
  have b4:=acd l[k]
  have q1:=sbQ l[k].ks
  have q2:=sbF l[k].fr
  have q3:=sbI l[k].its
  have q4:=sbX l[k].wh
  have q5:=sbX l[k].gr
  have q6:=sbX l[k].hv
  have nI:=fL imW l[k].its λx _=>agI x
  simp only[leW] at q1 q2 q3 q4 q5 q6
  have eb:nnC (nnP (bm a (fM l[k])))=[ci ((bm a (fM l[k])).1:Int),ci ((bm a (fM l[k])).2:Int)]:=rfl
  generalize hq:l[k]=q at *
  generalize hB:bm (bj fM q.ks) (bj aay q.fr)=B at *
  have hB1:B.1<=lsW qyW q.ks+lsW fmW q.fr:=by rw[← hB];simp only[bm];omega
  have hB2:B.2<=lsW qyW q.ks+lsW fmW q.fr:=by rw[← hB];simp only[bm];omega
  have p0:(bj fM q.ks).1+(bj aay q.fr).1<=4611686018427387903:=by omega
  have eB:nnC (nnP B)=[ci (B.1:Int),ci (B.2:Int)]:=rfl
  simp only[↓zA,sevalprocAttr,amM,f0,f4,ho,aK,c1,bu c1,hq,k1,k2,ald,p0,hB,eB]
  refine ew q.its.length (λj s=>∃ b J',s.objs=.var 120 [au 0,au 0]::.var 120 [.of (ci (a.1:Int)),.of (ci (a.2:Int))]::(J'++[.var 120 [.of (ci ((b:Nat×Nat).1:Int)),.of (ci (b.2:Int))]])/\s.fr 6=.ptr ((J':List Ob).length+1+1) 0/\s.fr 0=.of (slC qyC l)/\s.fr 2=.ptr 0 0/\s.fr 3=.ptr 1 0/\s.fr 4=au k/\s.fr 5=.of (.ref [ci q.op,cb q.al,slC qyC q.ks,cb q.di,slC imC q.its,slC fmC q.fr,slC xpC q.wh,slC xpC q.gr,slC xpC q.hv,slC odC q.od,ci q.li,ci q.sk])/\s.fr 7=au j/\bm b (bj abv (q.its.drop j))=bm B (bj abv q.its)) ?_ ?_
  .refine⟨B,?_⟩
   simp only[↓zA,sevalprocAttr,amM,f0,f2,f3,f4]
   exact⟨_,rfl,by simp⟩
  .rintro j s' hj ⟨b,J',go,g6,g0,g2,g3,g4,g5,g7,F⟩
   have eb2:nnC (nnP b)=[ci (b.1:Int),ci (b.2:Int)]:=rfl
   rcases av j q.its.length with d1|d1
   .have hwj:=aW j aC
    rw[aan d1,alb,← ahN] at F
    have F1:=congrArg Prod.fst F
    simp only[bm] at F1
    have k3':=λK=>aF.k (k3 q.its[j] (bt d1)) K
    have hs:abv q.its[j]=if q.its[j].st then (0,0) else cV q.its[j].e:=arL _
    cases c3:q.its[j].st
    .rw[c3] at hs
     simp only[ab,ap] at hs
     have k3s:bj cV [q.its[j].e]=abv q.its[j]:=by rw[hs,bj,bj,ad4]
     rw[k3s] at k3'
     have p8:b.1+(abv q.its[j]).1<=4611686018427387903:=by omega
     have eb3:nnC (nnP (bm b (abv q.its[j])))=[ci ((bm b (abv q.its[j])).1:Int),ci ((bm b (abv q.its[j])).2:Int)]:=rfl
     simp only[↓zA,sevalprocAttr,amM,g0,g2,g3,g4,g5,g6,g7,go,aK,d1,bu d1,c3,hwj,← eb2,k3',ald,p8,eb3,aEV]
     exact⟨_,_,rfl,by simp,F⟩
    .rw[c3] at hs
     simp only[ah] at hs
     rw[hs,ad4] at F
     simp only[↓zA,sevalprocAttr,amM,g0,g2,g3,g4,g5,g6,g7,go,aK,d1,bu d1,c3,hwj]
     exact⟨_,_,rfl,by simp,F⟩
   .have e:j=q.its.length:=by omega
    subst e
    rw[bf,bj,ad4] at F
    subst F
    have z1:(bj cV q.gr).1+(bj cV q.hv).1<=4611686018427387903:=by omega
    have z2:(bj cV q.wh).1+(bm (bj cV q.gr) (bj cV q.hv)).1<=4611686018427387903:=by simp only[bm];omega
    have z3:(bm B (bj abv q.its)).1+(bm (bj cV q.wh) (bm (bj cV q.gr) (bj cV q.hv))).1<=4611686018427387903:=by simp only[bm];omega
    have z4:(bm (bm B (bj abv q.its)) (bm (bj cV q.wh) (bm (bj cV q.gr) (bj cV q.hv)))).1<=4611686018427387903/\(bm (bm B (bj abv q.its)) (bm (bj cV q.wh) (bm (bj cV q.gr) (bj cV q.hv)))).2<=4611686018427387903:=by simp only[bm];omega
    have eb4:nnC (nnP (bm (bm B (bj abv q.its)) (bm (bj cV q.wh) (bm (bj cV q.gr) (bj cV q.hv)))))=[ci ((bm (bm B (bj abv q.its)) (bm (bj cV q.wh) (bm (bj cV q.gr) (bj cV q.hv)))).1:Int),ci ((bm (bm B (bj abv q.its)) (bm (bj cV q.wh) (bm (bj cV q.gr) (bj cV q.hv)))).2:Int)]:=rfl
    have ea2:[ci (a.1:Int),ci (a.2:Int)]=nnC (nnP a):=rfl
    simp only[↓zA,sevalprocAttr,amM,g0,g2,g3,g4,g5,g6,g7,go,aK,bg,hwk,k4,k5,k6,ald,asF,z1,z2,z3,z4,es,p9,aRj,anh,ani]
    exact⟨_,_,rfl,E⟩
theorem ang:∀ n,n<=WL->(∀ l,lsW xpW l<=n->amE l)/\(∀ l,lsW qyW l<=n->asK l)/\(∀ l,lsW fmW l<=n->ayd l)
 | 0,_=>⟨λl h=>by simp[lsW] at h,λl h=>by simp[lsW] at h,λl h=>by simp[lsW] at h⟩
 | n+1,hn=>by
  obtain⟨i1,i2,i3⟩:=ang n aC
  refine⟨λl h=>?_,λl h=>?_,λl h=>?_⟩
  .refine aDT l aC (λx hx=>i1 _ ?_) (λx hx=>i2 _ ?_) <;> (have h1:=dK (w:=xpW) hx;have h2:=aen x;omega)
  .have hone:∀ i:Im,lsW xpW [i.e]<=imW i:=λi=>by rw[ahB];simp only[lsW,bd,cI,dw,fx,aci];omega
   refine ax8 l aC (λx hx=>i2 _ ?_) (λx hx=>i3 _ ?_) (λx hx i hi=>i1 _ ?_) (λx hx=>i1 _ ?_) (λx hx=>i1 _ ?_) (λx hx=>i1 _ ?_)
   .have h1:=dK (w:=qyW) hx;have h2:=acd x;omega
   .have h1:=dK (w:=qyW) hx;have h2:=acd x;omega
   .have h1:=dK (w:=qyW) hx;have h2:=acd x;have h3:=dK (w:=imW) hi;have h4:=hone i;omega
   .have h1:=dK (w:=qyW) hx;have h2:=acd x;omega
   .have h1:=dK (w:=qyW) hx;have h2:=acd x;omega
   .have h1:=dK (w:=qyW) hx;have h2:=acd x;omega
  .refine avL l aC (λx hx=>i2 _ ?_) (λx hx=>i3 _ ?_) (λx hx=>i1 _ ?_) <;> (have h1:=dK (w:=fmW) hx;have h2:=ace x;omega)
def aZr(l:List Xp)(K:An->Prop):cKp 72 [.of (slC xpC l)] [] K↔ifP (lsW xpW l<=WL) (K ⟨false,[.of (.agg (nnC (nnP (bj cV l))))],[]⟩) (agK Tryz.prog pr 72 [.of (slC xpC l)] K):=ajJ (λh=>(ang WL (am _)).1 l h) K
def aZs(l:List Qy)(K:An->Prop):cKp 89 [.of (slC qyC l)] [] K↔ifP (lsW qyW l<=WL) (K ⟨false,[.of (.agg (nnC (nnP (bj fM l))))],[]⟩) (agK Tryz.prog pr 89 [.of (slC qyC l)] K):=ajJ (λh=>(ang WL (am _)).2.1 l h) K
def asf(n:Nat):((n:Int)<1)=(n=0):=propext aC
def afL:Nat->List UInt8->Bool
 | _,[]=>true
 | k,c::r=>(cG c||(decide (k≠0)&&bz c))&&afL (k+1) r
def aGz(r:List UInt8):∀ k,afL (k+1) r=r.all aio:=by
 induction r with
 | nil=>intro k;rfl
 | cons x r ih=>intro k;simp[afL,ih,aio]
def aam(n:Nat):((n:Int)=0)=(n=0):=propext aC
def afP:=hH @Tryz.f192.eq_1 @zq @zT0 (kf aME)
def aGD(s:List UInt8):G1 192 [.of (aJ (aM s))] (aN (gP s)):=by
 refine bB aME ?_
 by_cases n0:s.length=0
 .have e:gP s=false:=by rw[List.length_eq_zero_iff.1 n0];rfl
  simp only[↓zA,sevalprocAttr,afP,n0,e]
 by_cases c0:20<s.length
 .have e:gP s=false:=by
   cases s with
   | nil=>rfl
   | cons x r=>simp only[gP,bK (show ¬(r.length+1<=20) from by simp only[aX] at c0;omega),cy]
  simp only[↓zA,sevalprocAttr,afP,asf,n0,aqZ,c0,e]
 have e:gP s=afL 0 s:=by
  cases s with
  | nil=>simp at n0
  | cons x r =>
   simp only[gP,cS (show r.length+1<=20 from by simp only[aX] at c0;omega),ff,afL,aGz]
   simp only[dv,fP,ef,cm,aH]
   rfl
 rw[e]
 simp only[↓zA,sevalprocAttr,afP,asf,n0,aqZ,c0]
 refine ew s.length (λk t=>t.fr 0=.of (aJ (aM s))/\t.fr 3=au k/\t.objs=[]/\afL 0 s=afL k (s.drop k)) ?_ ?_
 .simp only[↓zA,sevalprocAttr,afP]
  try exact rfl
 .rintro k t hk ⟨f0,f3,ho,E⟩
  rcases av k s.length with d1|d1
  .have hw:=aW k aC
   rw[aan d1,afL] at E
   have fin:cG s[k]=true->afL 0 s=afL (k+1) (s.drop (k+1)):=λh=>by rw[E,h];rfl
   by_cases a1:97<=s[k].toNat
   .by_cases a2:s[k].toNat<=122
    .have F:=fin (by simp[cG,a1,a2])
     simp only[↓zA,sevalprocAttr,afP,f0,f3,ho,aK,d1,bu d1,hw,u97,avt,a1,a2,F]
    .by_cases a3:s[k]=95
     .have h3:s[k].toNat=95:=by rw[a3];rfl
      omega
     .have hs:cG s[k]=false:=by simp[cG,a2,a3]
      have a5:¬s[k].toNat<=57:=by omega
      have F:afL 0 s=false:=by rw[E,hs];simp[bz,a5]
      by_cases k0:k=0
      .simp only[↓zA,sevalprocAttr,afP,f0,f3,ho,aK,d1,bu d1,u97,avt,u95,aam,a1,a2,a3,aa k0,F]
      .have a4:48<=s[k].toNat:=by omega
       simp only[↓zA,sevalprocAttr,afP,f0,f3,ho,aK,d1,bu d1,u97,avt,u95,u48,u57,aam,a1,a2,a3,a4,a5,k0,F]
   .by_cases a3:s[k]=95
    .have F:=fin (by simp[cG,a3])
     simp only[↓zA,sevalprocAttr,afP,f0,f3,ho,aK,d1,bu d1,hw,u97,u95,a1,aa a3,F]
    .have hs:cG s[k]=false:=by simp[cG,a1,a3]
     by_cases k0:k=0
     .have F:afL 0 s=false:=by rw[E,hs];simp[k0]
      simp only[↓zA,sevalprocAttr,afP,f0,f3,ho,aK,d1,bu d1,u97,u95,aam,a1,a3,aa k0,F]
     .by_cases a4:48<=s[k].toNat
      .by_cases a5:s[k].toNat<=57
       .have F:afL 0 s=afL (k+1) (s.drop (k+1)):=by rw[E,hs];simp[bz,a4,a5,k0]
        simp only[↓zA,sevalprocAttr,afP,f0,f3,ho,aK,d1,bu d1,hw,u97,u95,u48,u57,aam,a1,a3,a4,a5,k0,F]
       .have F:afL 0 s=false:=by rw[E,hs];simp[bz,a5]
        simp only[↓zA,sevalprocAttr,afP,f0,f3,ho,aK,d1,bu d1,u97,u95,u48,u57,aam,a1,a3,a4,a5,k0,F]
      .have F:afL 0 s=false:=by rw[E,hs];simp[bz,a4]
       simp only[↓zA,sevalprocAttr,afP,f0,f3,ho,aK,d1,bu d1,u97,u95,u48,aam,a1,a3,a4,k0,F]
  .have e:k=s.length:=by omega
   subst e
   rw[bf,afL] at E
   simp only[↓zA,sevalprocAttr,afP,f0,f3,ho,aK,bg,E]
def abb(s:List UInt8)(K:An->Prop):cKp 192 [.of (aJ (aM s))] [] K↔K ⟨false,[aN (gP s)],[]⟩:=aF.k (aGD s) K
def aKy:=hH @Tryz.f254.eq_1 @zq @zT0 (kf aMe)
def avV(s:List UInt8):G1 254 [.of (aJ (aM s))] (aN (aaP s)):=by
 refine bB aMe ?_
 by_cases c:s=[]
 .simp only[↓zA,sevalprocAttr,aKy,aa c,aaP]
 .simp only[↓zA,sevalprocAttr,aKy,abb,c,aaP]
def acB(s:List UInt8)(K:An->Prop):cKp 254 [.of (aJ (aM s))] [] K↔K ⟨false,[aN (aaP s)],[]⟩:=aF.k (avV s) K
def apk(a:List UInt8):(aM a=({data:=#[115,117,109]}:ByteArray))=(a=[115,117,109]):=cQ a [115,117,109]
def avH(a:List UInt8):(aM a=({data:=#[109,105,110]}:ByteArray))=(a=[109,105,110]):=cQ a [109,105,110]
def aG5(a:List UInt8):(aM a=({data:=#[109,97,120]}:ByteArray))=(a=[109,97,120]):=cQ a [109,97,120]
def ahV(a:List UInt8):(aM a=({data:=#[99,111,117,110,116]}:ByteArray))=(a=agA):=cQ a agA
def auB:=hH @Tryz.f255.eq_1 @zq @zT0 (kf aMd)
def aDS(s:List UInt8):G1 255 [.of (aJ (aM s))] (aN (acY s)):=by
 refine bB aMd ?_
 by_cases a1:s=agA
 .simp only[↓zA,sevalprocAttr,auB,ahV,aa a1,acY]
 .by_cases a2:s=[115,117,109]
  .simp only[↓zA,sevalprocAttr,auB,apk,ahV,a1,aa a2,acY]
  .by_cases a3:s=[109,105,110]
   .simp only[↓zA,sevalprocAttr,auB,apk,avH,ahV,a1,a2,aa a3,acY]
   .simp only[↓zA,sevalprocAttr,auB,apk,avH,aG5,ahV,a1,a2,a3,acY]
def ajB(s:List UInt8)(K:An->Prop):cKp 255 [.of (aJ (aM s))] [] K↔K ⟨false,[aN (acY s)],[]⟩:=aF.k (aDS s) K
def aKu:=hH @Tryz.f294.eq_1 @zq @zT0 (kf aLX)
def aEB(n:Int):G1 294 [au n] (aN (inB n)):=by
 refine bB aLX ?_
 by_cases h1:-1000000000000000<=n
 .simp only[↓zA,sevalprocAttr,aKu,h1,inB]
 .simp only[↓zA,sevalprocAttr,aKu,h1,inB]
def aEA(n:Int)(K:An->Prop):cKp 294 [.of (ci n)] [] K↔K ⟨false,[aN (inB n)],[]⟩:=aF.k (aEB n) K
def u32(c:UInt8):((c.toNat:Int)<32)=(c.toNat<32):=propext aC
def aP6(c:UInt8):((126:Int)<(c.toNat:Int))=(126<c.toNat):=propext aC
def aQX(c:UInt8):okB c=(!decide (c.toNat<32)&&!decide (126<c.toNat)):=by
 unfold okB
 rw[cC]
 simp only[ar,df,gz,aR]
 omega
def aOD(n:Nat):((n:Int)<=100)=(n<=100):=propext aC
def anW:=hH @Tryz.f295.eq_1 @zq @zT0 (kf aLW)
def av2(s:List UInt8)(hl:s.length<=4611686018427387903):G1 295 [.of (aJ (aM s))] (aN (agp (aM s))):=by
 have e0:agp (aM s)=(s.all okB&&decide (s.length<=100)):=by
  unfold agp
  rw[aez]
  have:(aM s).data.toList=s:=by simp[aM]
  rw[this]
 rw[e0]
 refine bB aLW ?_
 simp only[↓zA,sevalprocAttr,anW]
 refine ew s.length (λk t=>t.fr 0=.of (aJ (aM s))/\t.fr 3=au k/\t.objs=[]/\s.all okB=(s.drop k).all okB) ?_ ?_
 .simp only[↓zA,sevalprocAttr,anW]
  try exact rfl
 .rintro k t hk ⟨f0,f3,ho,E⟩
  rcases av k s.length with d1|d1
  .have hw:=aW k aC
   rw[aan d1,aiL,aQX] at E
   by_cases a1:s[k].toNat<32
   .simp only[a1,eu,bJ,cm] at E
    simp only[↓zA,sevalprocAttr,anW,f0,f3,ho,aK,d1,bu d1,u32,a1,E]
   .by_cases a2:126<s[k].toNat
    .simp only[a1,a2,eu,ef,ct,bJ,cm,cy] at E
     simp only[↓zA,sevalprocAttr,anW,f0,f3,ho,aK,d1,bu d1,u32,aP6,a1,a2,E]
    .simp only[a1,a2,ef,ct,bR] at E
     simp only[↓zA,sevalprocAttr,anW,f0,f3,ho,aK,d1,bu d1,u32,aP6,a1,a2,hw,E]
  .have e:k=s.length:=by omega
   subst e
   rw[bf,aax] at E
   simp only[↓zA,sevalprocAttr,anW,f0,f3,ho,aK,bg,E,aOD]
def aEz(s:ByteArray)(K:An->Prop):cKp 295 [.of (aJ s)] [] K↔ifP (s.size<=4611686018427387903) (K ⟨false,[aN (agp s)],[]⟩) (agK Tryz.prog pr 295 [.of (aJ s)] K):=ajJ (λh=>by
 have e:aM s.data.toList=s:=by cases s;simp[aM]
 have h2:=av2 s.data.toList (by have h3:s.data.toList.length=s.size:=eL;omega)
 rwa [e] at h2) K
def ail:=ib @Tryz.f253.eq_1 @zq @aWw @adS @P3 @Q3 @Q9 @zT0 (kf aMf)
def av3(v:V)(hl:v.s.size<=4611686018427387903):G1 253 [.of (.agg (aeG v))] (aN (gM v)):=by
 refine bB aMf ?_
 by_cases k0:v.k=0
 .by_cases c1:v.n=0
  .simp only[↓zA,sevalprocAttr,ail,aa k0,aa c1,gM,s0q,aff]
  .simp only[↓zA,sevalprocAttr,ail,aa k0,c1,gM,s0q,aff]
 .by_cases k1:v.k=1
  .by_cases c1:v.n=0
   .simp only[↓zA,sevalprocAttr,ail,k1,Int.reduceEq,aa c1,gM,s0q,aff]
   .by_cases c2:v.n=1
    .simp only[↓zA,sevalprocAttr,ail,k1,Int.reduceEq,c1,aa c2,gM,s0q,aff]
    .simp only[↓zA,sevalprocAttr,ail,k1,Int.reduceEq,c1,c2,gM,s0q,aff]
  .by_cases k2:v.k=2
   .cases c1:inB v.n
    .simp only[↓zA,sevalprocAttr,ail,k2,Int.reduceEq,aEA,c1,gM,s0q,aff]
    .simp only[↓zA,sevalprocAttr,ail,k2,Int.reduceEq,aEA,c1,gM,s0q,aff]
   .by_cases k3:v.k=3
    .by_cases c1:v.n=0
     .simp only[↓zA,sevalprocAttr,ail,k3,Int.reduceEq,aa c1,aEz,hl,gM,aff]
     .simp only[↓zA,sevalprocAttr,ail,k3,Int.reduceEq,c1,gM,aff]
    .simp only[↓zA,sevalprocAttr,ail,k0,k1,k2,k3,gM,aff]
def aeA(v:V)(K:An->Prop):cKp 253 [.of (.agg (aeG v))] [] K↔ifP (v.s.size<=4611686018427387903) (K ⟨false,[aN (gM v)],[]⟩) (agK Tryz.prog pr 253 [.of (.agg (aeG v))] K):=ajJ (av3 v) K
def aeU(u:Option TypeDesc)(v:V):gJ Tryz.prog tP 24 u .eql (.of (.agg (aeG v))) (.agg [.of (ci 0),.of (ci 0),.of (aJ {data:=#[]})])=out (aN (decide (v=aco))):=by
 have h:=atC v aco
 have e:aeG aco=[ci 0,ci 0,aJ {data:=#[]}]:=rfl
 rw[e] at h
 have hr:(X.agg [.of (ci 0),.of (ci 0),.of (aJ {data:=#[]})]).rd=some (.agg [ci 0,ci 0,aJ {data:=#[]}]):=rfl
 simp only[gJ,gG,hr]
 simp only[X.rd,ae7,h]
 rfl
def ajh(op:Int):Int×Int:=match adr op with
 | some (a,b,_)=>(a,b)
 | none=>(-1,-1)
def aAY:=hH @Tryz.f166.eq_1 @zq @zT0 (kf aCL)
def aFr(op:Int):GN 166 [au op] [au (ajh op).1,au (ajh op).2]:=by
 by_cases h:op=1\/op=2\/op=3\/op=4\/op=5\/op=6\/op=7\/op=8\/op=9\/op=10\/op=11\/op=12\/op=13\/op=14\/op=15\/op=16\/op=17\/op=18\/op=19\/op=20\/op=21\/op=22\/op=23\/op=24\/op=25\/op=26\/op=27\/op=28
 .rcases h with h|h|h|h|h|h|h|h|h|h|h|h|h|h|h|h|h|h|h|h|h|h|h|h|h|h|h|h <;>
  .subst h
   refine bB aCL ?_
   simp only[↓zA,sevalprocAttr,aAY,ajh,adr,fF,abm,Int.reduceEq]
   try rfl
 .simp only[ac2] at h
  have hs:ajh op=(-1,-1):=by
   have:adr op=none:=by
    unfold adr
    simp only[h,abm,ap]
    rw[aA aC]
   rw[ajh,this]
  refine bB aCL ?_
  by_cases a1:5<=op
  .have a2:¬op<=20:=by omega
   simp only[↓zA,sevalprocAttr,aAY,hs,h,a1,a2]
   try rfl
  .simp only[↓zA,sevalprocAttr,aAY,hs,h,a1]
   try rfl
def auA:=ai (hJ @Tryz.f256.eq_1 @zq @aWa @adS @aZ) (hJ @Q9 @P4 @Q4 @zT0 (kf aMc))
def aGq(e:Xp):G1 256 [.of (.agg (xpC e))] (aN (decide (e.v=aco)&&decide (e.tb=[])&&decide (e.nm=[])&&!e.di)):=by
 refine bB aMc ?_
 by_cases c1:e.v=aco
 .by_cases c2:e.tb=[]
  .by_cases c3:e.nm=[]
   .simp only[↓zA,sevalprocAttr,auA,aeU,aa c1,aa c2,aa c3]
   .simp only[↓zA,sevalprocAttr,auA,aeU,aa c1,aa c2,c3]
  .simp only[↓zA,sevalprocAttr,auA,aeU,aa c1,c2]
 .simp only[↓zA,sevalprocAttr,auA,aeU,c1]
def arv(e:Xp)(K:An->Prop):cKp 256 [.of (.agg (xpC e))] [] K↔K ⟨false,[aN (decide (e.v=aco)&&decide (e.tb=[])&&decide (e.nm=[])&&!e.di)],[]⟩:=aF.k (aGq e) K
def aow(n:Nat):((n:Int)=1)=(n=1):=propext aC
def aiQ(op:Int):Nat:=if op=26\/op=27\/op=28 then 1 else 0
def aaX(e:Xp):Bool:=decide (e.sb.length=aiQ e.op)&&fN e.op e.v e.tb e.nm e.di e.ks.length
def aK3:aiQ 26=1:=rfl
def aK2:aiQ 27=1:=rfl
def aK1:aiQ 28=1:=rfl
def aat:=ai (hZ @Tryz.f167.eq_1 @zq @aVq @adS @aZ @bi @cX @dm) (hU @P3 @Q3 @Q9 @P4 @Q4 @zT0 (kf aMR))
def aHU(e:Xp)(hl:e.v.s.size<=4611686018427387903):G1 167 [.of (.agg (xpC e))] (aN (aaX e)):=by
 refine bB aMR ?_
 by_cases s1:e.op=26\/e.op=27\/e.op=28
 .have hs:aiQ e.op=1:=aE s1
  by_cases c0:e.sb.length=1
  .rcases s1 with s1|s1|s1
   .simp only[↓zA,sevalprocAttr,aat,aK3,arv,aaX,fN,Int.reduceEq,c0,s1]
    try rfl
   .simp only[↓zA,sevalprocAttr,aat,aK2,arv,aaX,fN,Int.reduceEq,c0,s1]
    try rfl
   .simp only[↓zA,sevalprocAttr,aat,aK1,arv,aaX,fN,Int.reduceEq,c0,s1]
    try rfl
  .rcases s1 with s1|s1|s1
   .simp only[↓zA,sevalprocAttr,aat,aK3,aow,aaX,fN,Int.reduceEq,c0,s1]
   .simp only[↓zA,sevalprocAttr,aat,aK2,aow,aaX,fN,Int.reduceEq,c0,s1]
   .simp only[↓zA,sevalprocAttr,aat,aK1,aow,aaX,fN,Int.reduceEq,c0,s1]
 have hs:aiQ e.op=0:=aA s1
 simp only[ac2] at s1
 by_cases c0:e.sb.length=0
 rotate_left
 .simp only[↓zA,sevalprocAttr,aat,aam,aaX,fN,dv,hs,c0,s1]
 by_cases o1:e.op=1
 .cases r1:gM e.v
  .simp only[↓zA,sevalprocAttr,aat,aeA,hl,aaX,fN,dv,hs,c0,s1,aa o1,r1]
  .by_cases r2:e.v.k=2
   .by_cases r3:0<=e.v.n
    .by_cases r4:e.tb=[]
     .by_cases r5:e.nm=[]
      .simp only[↓zA,sevalprocAttr,aat,aeA,hl,aaX,fN,dv,hs,c0,s1,aa o1,r1,aa r2,r3,aa r4,aa r5]
      .simp only[↓zA,sevalprocAttr,aat,aeA,hl,aaX,fN,dv,hs,c0,s1,aa o1,r1,aa r2,r3,aa r4,r5]
     .simp only[↓zA,sevalprocAttr,aat,aeA,hl,aaX,fN,dv,hs,c0,s1,aa o1,r1,aa r2,r3,r4]
    .simp only[↓zA,sevalprocAttr,aat,aeA,hl,aaX,fN,dv,hs,c0,s1,aa o1,r1,aa r2,r3]
   .by_cases r4:e.tb=[]
    .by_cases r5:e.nm=[]
     .simp only[↓zA,sevalprocAttr,aat,aeA,hl,aaX,fN,dv,hs,c0,s1,aa o1,r1,r2,aa r4,aa r5]
     .simp only[↓zA,sevalprocAttr,aat,aeA,hl,aaX,fN,dv,hs,c0,s1,aa o1,r1,r2,aa r4,r5]
    .simp only[↓zA,sevalprocAttr,aat,aeA,hl,aaX,fN,dv,hs,c0,s1,aa o1,r1,r2,r4]
 .by_cases o2:e.op=2
  .by_cases r1:e.v=aco
   .cases r2:gP e.nm
    .simp only[↓zA,sevalprocAttr,aat,aeU,abb,aaX,fN,hs,c0,s1,o1,aa o2,aa r1,r2]
    .cases r3:aaP e.tb
     .simp only[↓zA,sevalprocAttr,aat,aeU,abb,acB,aaX,fN,hs,c0,s1,o1,aa o2,aa r1,r2,r3]
     .simp only[↓zA,sevalprocAttr,aat,aeU,abb,acB,aaX,fN,hs,c0,s1,o1,aa o2,aa r1,r2,r3]
   .simp only[↓zA,sevalprocAttr,aat,aeU,aaX,fN,hs,c0,s1,o1,aa o2,r1]
  .by_cases o3:e.op=24
   .by_cases r1:e.v=aco
    .by_cases r4:e.tb=[]
     .cases r2:gP e.nm
      .simp only[↓zA,sevalprocAttr,aat,aeU,abb,aaX,fN,hs,c0,s1,o1,o2,aa o3,aa r1,r2,aa r4]
      .cases r3:acY e.nm
       .simp only[↓zA,sevalprocAttr,aat,aeU,abb,ajB,aaX,fN,hs,c0,s1,o1,o2,aa o3,aa r1,r2,aa r4,r3]
       .simp only[↓zA,sevalprocAttr,aat,aeU,abb,ajB,aaX,fN,hs,c0,s1,o1,o2,aa o3,aa r1,r2,aa r4,r3]
     .simp only[↓zA,sevalprocAttr,aat,aeU,aaX,fN,hs,c0,s1,o1,o2,aa o3,aa r1,r4]
    .simp only[↓zA,sevalprocAttr,aat,aeU,aaX,fN,hs,c0,s1,o1,o2,aa o3,r1]
   .by_cases o4:e.op=25
    .by_cases r1:e.v=aco
     .by_cases r4:e.tb=[]
      .cases r3:acY e.nm
       .simp only[↓zA,sevalprocAttr,aat,aeU,ajB,aaX,fN,hs,c0,s1,o1,o2,o3,aa o4,aa r1,aa r4,r3]
       .by_cases r5:e.ks.length=1
        .simp only[↓zA,sevalprocAttr,aat,aeU,ajB,aow,aaX,fN,hs,c0,s1,o1,o2,o3,aa o4,aa r1,aa r4,r3,aa r5]
        .by_cases r6:e.nm=agA
         .simp only[↓zA,sevalprocAttr,aat,aeU,ajB,aow,ahV,aaX,fN,hs,c0,s1,o1,o2,o3,aa o4,aa r1,aa r4,r3,r5,aa r6]
         .simp only[↓zA,sevalprocAttr,aat,aeU,ajB,aow,ahV,aaX,fN,hs,c0,s1,o1,o2,o3,aa o4,aa r1,aa r4,r3,r5,r6]
      .simp only[↓zA,sevalprocAttr,aat,aeU,aaX,fN,hs,c0,s1,o1,o2,o3,aa o4,aa r1,r4]
     .simp only[↓zA,sevalprocAttr,aat,aeU,aaX,fN,hs,c0,s1,o1,o2,o3,aa o4,r1]
    .simp only[↓zA,sevalprocAttr,aat,arv,aaX,fN,hs,c0,s1,o1,o2,o3,o4]
     try rfl
def aqa(l:List Xp):Prop:=∀ x∈l,G1 70 [.of (.agg (xpC x))] (aN (eY x))
def aya(l:List Qy):Prop:=∀ x∈l,G1 88 [.of (.agg (qyC x))] (aN (gS x))
def alC:=hM @Tryz.f168.eq_1 @zq @aZ @cX @zT0 (kf aMQ)
def ahF(l:List Xp)(a b:Int)(hw:lsW xpW l<=WL)(h:aqa l):G1 168 [.of (slC xpC l),.of (ci a),.of (ci b)] (aN (cH l a b eY)):=by
 have h1:=fL xpW l λx _=>adT x
 simp only[WL] at hw
 refine bB aMQ ?_
 by_cases a1:a<=(l.length:Int)
 rotate_left
 .simp only[↓zA,sevalprocAttr,alC,a1,show (l.length:Int)<a from by omega,cH]
 have a1':¬(l.length:Int)<a:=by omega
 by_cases a2:(l.length:Int)<=b
 rotate_left
 .simp only[↓zA,sevalprocAttr,alC,a1',show b<(l.length:Int) from by omega,a2,cH]
 have a2':¬b<(l.length:Int):=by omega
 have e0:cH l a b eY=l.all eY:=by simp only[cH,a1,a2,eu,bR]
 rw[e0]
 simp only[↓zA,sevalprocAttr,alC,a1',a2']
 refine ew l.length (λk t=>t.fr 0=.of (slC xpC l)/\t.fr 7=au k/\t.objs=[]/\l.all eY=(l.drop k).all eY) ?_ ?_
 .simp only[↓zA,sevalprocAttr,alC]
  try exact rfl
 .rintro k t hk ⟨f0,f7,ho,E⟩
  rcases av k l.length with d1|d1
  .have hwk:=aW k aC
   have kx:=λK=>aF.k (h l[k] (bt d1)) K
   rw[aan d1,aiL] at E
   cases d2:eY l[k]
   .rw[d2,cm] at E
    simp only[↓zA,sevalprocAttr,alC,f0,f7,ho,aK,d1,bu d1,kx,d2,E]
   .rw[d2,bR] at E
    simp only[↓zA,sevalprocAttr,alC,f0,f7,ho,aK,d1,bu d1,hwk,kx,d2,E]
  .have e:k=l.length:=by omega
   subst e
   rw[bf,aax] at E
   simp only[↓zA,sevalprocAttr,alC,f0,f7,ho,aK,bg,E]
def an4:=hM @Tryz.f169.eq_1 @zq @bi @dm @zT0 (kf aMP)
def ajO(l:List Qy)(n:Int)(hw:lsW qyW l<=WL)(h:aya l):G1 169 [.of (slC qyC l),.of (ci n)] (aN (decide ((l.length:Int)=n)&&l.all gS)):=by
 have h1:=fL qyW l λx _=>afn x
 simp only[WL] at hw
 refine bB aMP ?_
 by_cases a1:(l.length:Int)=n
 rotate_left
 .simp only[↓zA,sevalprocAttr,an4,a1]
 simp only[↓zA,sevalprocAttr,an4,aa a1]
 refine ew l.length (λk t=>t.fr 0=.of (slC qyC l)/\t.fr 5=au k/\t.objs=[]/\l.all gS=(l.drop k).all gS) ?_ ?_
 .simp only[↓zA,sevalprocAttr,an4]
  try exact rfl
 .rintro k t hk ⟨f0,f5,ho,E⟩
  rcases av k l.length with d1|d1
  .have hwk:=aW k aC
   have kx:=λK=>aF.k (h l[k] (bt d1)) K
   rw[aan d1,aiL] at E
   cases d2:gS l[k]
   .rw[d2,cm] at E
    simp only[↓zA,sevalprocAttr,an4,f0,f5,ho,aK,d1,bu d1,kx,d2,E]
   .rw[d2,bR] at E
    simp only[↓zA,sevalprocAttr,an4,f0,f5,ho,aK,d1,bu d1,hwk,kx,d2,E]
  .have e:k=l.length:=by omega
   subst e
   rw[bf,aax] at E
   simp only[↓zA,sevalprocAttr,an4,f0,f5,ho,aK,bg,E]
def aRq(n:Nat):((n:Int)<=64)=(n<=64):=propext aC
def ai4:=ib @Tryz.f176.eq_1 @zq @aeg @aex @Q9 @P3 @Q3 @zT0 (kf aMK)
def ayS(l:List Od)(hl:l.length<=4611686018427387903):G1 176 [.of (slC odC l)] (aN (l.all aa4&&decide (l.length<=64))):=by
 refine bB aMK ?_
 simp only[↓zA,sevalprocAttr,ai4]
 refine ew l.length (λk t=>t.fr 0=.of (slC odC l)/\t.fr 3=au k/\t.objs=[]/\l.all aa4=(l.drop k).all aa4) ?_ ?_
 .simp only[↓zA,sevalprocAttr,ai4]
  try exact rfl
 .rintro k t hk ⟨f0,f3,ho,E⟩
  rcases av k l.length with d1|d1
  .have hwk:=aW k aC
   have gx:=bu d1
   rw[aan d1,aiL] at E
   generalize l[k]=o at *
   by_cases c0:o.nm=[]
   .have n0:gP o.nm=false:=by rw[c0];rfl
    by_cases c1:1<=o.pl
    .by_cases c2:o.pl<=1000000000000000
     .have F:l.all aa4=(l.drop (k+1)).all aa4:=by rw[E];simp[aa4,ae1,c0,c1,c2]
      simp only[↓zA,sevalprocAttr,ai4,f0,f3,ho,aK,d1,gx,hwk,abb,n0,aa c0,c1,c2,F]
     .have F:l.all aa4=false:=by rw[E];simp[aa4,ae1,c0,c1,c2]
      simp only[↓zA,sevalprocAttr,ai4,f0,f3,ho,aK,d1,gx,abb,n0,aa c0,c1,c2,F]
    .have F:l.all aa4=false:=by rw[E];simp[aa4,ae1,c0,c1]
     simp only[↓zA,sevalprocAttr,ai4,f0,f3,ho,aK,d1,gx,abb,n0,aa c0,c1,F]
   .cases c1:gP o.nm
    .have F:l.all aa4=false:=by rw[E];simp[aa4,c0,c1]
     simp only[↓zA,sevalprocAttr,ai4,f0,f3,ho,aK,d1,gx,abb,c0,c1,F]
    .by_cases c2:o.pl=0
     .have F:l.all aa4=(l.drop (k+1)).all aa4:=by rw[E];simp[aa4,c0,c1,c2]
      simp only[↓zA,sevalprocAttr,ai4,f0,f3,ho,aK,d1,gx,hwk,abb,c0,c1,aa c2,F]
     .have F:l.all aa4=false:=by rw[E];simp[aa4,c0,c1,c2]
      simp only[↓zA,sevalprocAttr,ai4,f0,f3,ho,aK,d1,gx,abb,c0,c1,c2,F]
  .have e:k=l.length:=by omega
   subst e
   rw[bf,aax] at E
   simp only[↓zA,sevalprocAttr,ai4,f0,f3,ho,aK,bg,E,aRq]
def aEh{op:Int}{a b n:Nat}(h:adr op=some (a,b,n)):n=aiQ op:=by
 unfold adr at h
 unfold aiQ
 split at h
 .simp at h;rw[aA aC];exact h.2.2.symm
 split at h
 .simp at h;rw[aE aC];exact h.2.2.symm
 split at h
 .simp at h;rw[aA aC];exact h.2.2.symm
 split at h
 .simp at h;rw[aE aC];exact h.2.2.symm
 split at h
 .simp at h;rw[aA aC];exact h.2.2.symm
 split at h
 .simp at h;rw[aA aC];exact h.2.2.symm
 split at h
 .simp at h;rw[aA aC];exact h.2.2.symm
 split at h
 .simp at h;rw[aA aC];exact h.2.2.symm
 split at h
 .simp at h;rw[aA aC];exact h.2.2.symm
 split at h
 .simp at h;rw[aA aC];exact h.2.2.symm
 .cases h
def aAO:=ai (hJ @Tryz.f70.eq_1 @zq @aXm @aZ @bi) (hJ @dm @P3 @Q3 @zT0 (kf aSl))
def ayF(e:Xp)(hw:xpW e<=WL)(i1:aqa e.ks)(i2:aya e.sb):G1 70 [.of (.agg (xpC e))] (aN (eY e)):=by
 have hw':=aen e
 simp only[WL] at hw
 have kx:=λa b K=>aF.k (ahF e.ks a b (by simp only[WL];omega) i1) K
 have kq:=λn K=>aF.k (ajO e.sb n (by simp only[WL];omega) i2) K
 have ko:=λK=>aF.k (aHU e (by simp only[avo] at hw';omega)) K
 have kk:=λK=>aF.k (aFr e.op) K
 refine bB aSl ?_
 cases hs:adr e.op with
 | none =>
  rw[atf hs]
  have k0:ajh e.op=(-1,-1):=by rw[ajh,hs]
  simp only[↓zA,sevalprocAttr,aAO,kk,k0]
 | some p =>
  obtain⟨lo,hi,n⟩:=p
  have k0:ajh e.op=((lo:Int),(hi:Int)):=by rw[ajh,hs]
  have hn:=aEh hs
  have e1:eY e=(aaX e&&cH e.ks lo hi eY&&e.sb.all gS):=by
   rw[ate hs,aaX,hn]
   have:cH e.sb (aiQ e.op) (aiQ e.op) gS=(decide (e.sb.length=aiQ e.op)&&e.sb.all gS):=by
    rw[adh]
    congr 1
    rw[cC];simp only[abT,ar,aR];omega
   rw[this]
   generalize cH e.ks lo hi eY=q1
   generalize decide (e.sb.length=aiQ e.op)=q2
   generalize e.sb.all gS=q3
   generalize fN _ _ _ _ _ _=q4
   cases q1 <;> cases q2 <;> cases q3 <;> cases q4 <;> rfl
  have z0:(0:Int)<=(lo:Int):=by omega
  rw[e1]
  cases c1:aaX e
  .simp only[↓zA,sevalprocAttr,aAO,kk,k0,z0,ko,c1]
  .cases c2:cH e.ks lo hi eY
   .simp only[↓zA,sevalprocAttr,aAO,kk,k0,z0,ko,c1,kx,c2]
   .simp only[↓zA,sevalprocAttr,aAO,kk,k0,z0,ko,c1,kx,c2,kq]
def amb(f:Fm):gB f=(if f.kd=1\/f.kd=2 then 1 else 0)+(f.ks.map gB).sum:=by
 have h:∀ l:List Fm,ama l=(l.map gB).sum:=λl=>by
  induction l with
  | nil=>rfl
  | cons x r ih=>rw[ama,ih];simp
 cases f;rw[gB,h];rfl
def aFp(n:Nat):∀ f:Fm,fmW f<=n->gB f<=fmW f:=by
 induction n with
 | zero=>intro f h;have:=adb f;omega
 | succ n ih =>
  intro f h
  rw[amb]
  rw[ace] at h ⊢
  have:∀ l:List Fm,lsW fmW l<=n+1->(l.map gB).sum+1<=lsW fmW l:=λl=>by
   induction l with
   | nil=>simp[lsW]
   | cons x r ih2 =>
    intro hl
    have hx:=dK (w:=fmW) (l:=x::r) (x:=x) aT
    have h1:=ih x aC
    simp only[lsW,bd,dw] at hl ih2 ⊢
    have h2:=ih2 aC
    omega
  have:=this f.ks aC
  split <;> omega
def aQk(l:List Fm):(l.map gB).sum+1<=lsW fmW l:=by
 induction l with
 | nil=>simp[lsW]
 | cons x r ih =>
  have:=aFp (fmW x) x (am _)
  simp only[lsW,bd,dw] at ih ⊢
  omega
def azd(n:Nat):∀ f:Fm,fmW f<=n->aaY f=true->gB f=gC f:=by
 induction n with
 | zero=>intro f h;have:=adb f;omega
 | succ n ih =>
  intro f h ok
  rw[ace] at h
  rw[amb,amd]
  rw[ar8] at ok
  by_cases k1:f.kd=1
  .simp only[k1,ah,ar,aR] at ok
   have:f.ks=[]:=List.length_eq_zero_iff.1 aC
   simp[k1,this]
  .by_cases k2:f.kd=2
   .rw[aA k1,aE k2] at ok
    simp only[ar,aR] at ok
    have:f.ks=[]:=List.length_eq_zero_iff.1 aC
    simp[k2,this]
   .rw[aA k1,aA k2] at ok
    have hk:¬(f.kd=1\/f.kd=2):=by simp[k1,k2]
    rw[aA hk,aA hk,cB]
    split at ok
    .simp only[ar,cH] at ok
     have hall:=ok.1.2.2
     rw[bo] at hall
     have:f.ks.map gB=f.ks.map gC:=fm λx hx=>ih x (by have:=dK (w:=fmW) hx;omega) (hall x hx)
     rw[this]
    .cases ok
def aKd(l:List Fm):Prop:=∀ x∈l,G1 180 [.of (.agg (fmC x))] (au (gB x))
def aJ8(l:List Fm):Prop:=∀ x∈l,G1 179 [.of (.agg (fmC x))] (aN (aaY x))
def agD:=ib @Tryz.f180.eq_1 @zq @aXe @bG @gH @P3 @Q3 @zT0 (kf aMG)
def azH(f:Fm)(hw:fmW f<=WL)(h:aKd f.ks):G1 180 [.of (.agg (fmC f))] (au (gB f)):=by
 have hw2:=hw
 rw[ace] at hw2
 simp only[WL] at hw2
 have hsum:=aQk f.ks
 have hlen:=fL fmW f.ks λx _=>adb x
 rw[amb]
 generalize hA:(if f.kd=1\/f.kd=2 then 1 else 0)=A
 have hA1:A<=1:=by rw[← hA];split <;> omega
 refine bB aMG ?_
 have key:∀ s:S,s.fr 1=.of (.ref [ci f.kd,aJ (aM f.nm),aJ (aM f.az),slC qyC f.sb,slC fmC f.ks,slC xpC f.on])->True:=λ_ _=>trivial
 by_cases k1:f.kd=1
 .simp only[k1,akZ,ah] at hA
  subst hA
  simp only[↓zA,sevalprocAttr,agD,aa k1]
  refine ew f.ks.length (λk s=>∃ a:Nat,s.fr 3=au a/\s.fr 1=.of (.ref [ci f.kd,aJ (aM f.nm),aJ (aM f.az),slC qyC f.sb,slC fmC f.ks,slC xpC f.on])/\s.fr 4=au k/\s.objs=[]/\a+((f.ks.drop k).map gB).sum=1+(f.ks.map gB).sum) ?_ ?_
  .refine⟨1,?_⟩
   simp only[↓zA,sevalprocAttr,agD]
   try exact rfl
  .rintro k s hk ⟨a,f3,f1,f4,ho,E⟩
   rcases av k f.ks.length with c1|c1
   .have hwk:=aW k aC
    have hx:=λK=>aF.k (h f.ks[k] (bt c1)) K
    rw[aan c1,bd,dw] at E
    have hw3:IntKind.i64.wrap ((a:Int)+(gB f.ks[k]:Int))=((a+gB f.ks[k]:Nat):Int):=by rw[cj _ aC aC];rfl
    simp only[↓zA,sevalprocAttr,agD,f3,f1,f4,ho,aK,c1,bu c1,hwk,hx,hw3]
    exact⟨_,rfl,by omega⟩
   .have e:k=f.ks.length:=by omega
    subst e
    rw[bf,cI,fx,gV] at E
    simp only[↓zA,sevalprocAttr,agD,f3,f1,f4,ho,aK,bg,E]
 .by_cases k2:f.kd=2
  .simp only[k2,fF,ah] at hA
   subst hA
   simp only[↓zA,sevalprocAttr,agD,k1,aa k2]
   refine ew f.ks.length (λk s=>∃ a:Nat,s.fr 3=au a/\s.fr 1=.of (.ref [ci f.kd,aJ (aM f.nm),aJ (aM f.az),slC qyC f.sb,slC fmC f.ks,slC xpC f.on])/\s.fr 4=au k/\s.objs=[]/\a+((f.ks.drop k).map gB).sum=1+(f.ks.map gB).sum) ?_ ?_
   .refine⟨1,?_⟩
    simp only[↓zA,sevalprocAttr,agD]
    try exact rfl
   .rintro k s hk ⟨a,f3,f1,f4,ho,E⟩
    rcases av k f.ks.length with c1|c1
    .have hwk:=aW k aC
     have hx:=λK=>aF.k (h f.ks[k] (bt c1)) K
     rw[aan c1,bd,dw] at E
     have hw3:IntKind.i64.wrap ((a:Int)+(gB f.ks[k]:Int))=((a+gB f.ks[k]:Nat):Int):=by rw[cj _ aC aC];rfl
     simp only[↓zA,sevalprocAttr,agD,f3,f1,f4,ho,aK,c1,bu c1,hwk,hx,hw3]
     exact⟨_,rfl,by omega⟩
    .have e:k=f.ks.length:=by omega
     subst e
     rw[bf,cI,fx,gV] at E
     simp only[↓zA,sevalprocAttr,agD,f3,f1,f4,ho,aK,bg,E]
  .simp only[k1,k2,abm,ap] at hA
   subst hA
   simp only[↓zA,sevalprocAttr,agD,k1,k2]
   refine ew f.ks.length (λk s=>∃ a:Nat,s.fr 3=au a/\s.fr 1=.of (.ref [ci f.kd,aJ (aM f.nm),aJ (aM f.az),slC qyC f.sb,slC fmC f.ks,slC xpC f.on])/\s.fr 4=au k/\s.objs=[]/\a+((f.ks.drop k).map gB).sum=0+(f.ks.map gB).sum) ?_ ?_
   .refine⟨0,?_⟩
    simp only[↓zA,sevalprocAttr,agD]
    try exact rfl
   .rintro k s hk ⟨a,f3,f1,f4,ho,E⟩
    rcases av k f.ks.length with c1|c1
    .have hwk:=aW k aC
     have hx:=λK=>aF.k (h f.ks[k] (bt c1)) K
     rw[aan c1,bd,dw] at E
     have hw3:IntKind.i64.wrap ((a:Int)+(gB f.ks[k]:Int))=((a+gB f.ks[k]:Nat):Int):=by rw[cj _ aC aC];rfl
     simp only[↓zA,sevalprocAttr,agD,f3,f1,f4,ho,aK,c1,bu c1,hwk,hx,hw3]
     exact⟨_,rfl,by omega⟩
    .have e:k=f.ks.length:=by omega
     subst e
     rw[bf,cI,fx,gV] at E
     simp only[↓zA,sevalprocAttr,agD,f3,f1,f4,ho,aK,bg,E]
def auU(n:Nat):((n:Int)=2)=(n=2):=propext aC
def adB:=ai (hU @Tryz.f179.eq_1 @zq @aXb @aZ @bi @bG @cX) (hU @dm @gH @P3 @Q3 @Q9 @zT0 (kf aMH))
def at3(f:Fm)(hw:fmW f<=WL)(h1:aya f.sb)(h2:aJ8 f.ks)(h3:aqa f.on):G1 179 [.of (.agg (fmC f))] (aN (aaY f)):=by
 have hw2:=hw
 rw[ace] at hw2
 simp only[WL] at hw2
 have kq:=λn K=>aF.k (ajO f.sb n (by simp only[WL];omega) h1) K
 have kx:=λa b K=>aF.k (ahF f.on a b (by simp only[WL];omega) h3) K
 have len3:∀ a b c:Nat,decide (a+b+c=0)=(decide (a=0)&&decide (b=0)&&decide (c=0)):=λa b c=>by
  rw[cC];simp only[ar,aR];omega
 have len2:∀ b c:Nat,decide (b+c=0)=(decide (b=0)&&decide (c=0)):=λb c=>by
  rw[cC];simp only[ar,aR];omega
 have sq:cH f.sb 1 1 gS=(decide ((f.sb.length:Int)=1)&&f.sb.all gS):=by
  simp only[cH]
  congr 1
  rw[cC];simp only[ar,aR];omega
 rw[ar8,len3,len2]
 refine bB aMH ?_
 by_cases k1:f.kd=1
 .cases c1:gP f.nm
  .simp only[↓zA,sevalprocAttr,adB,abb,aa k1,c1]
  .cases c2:aaP f.az
   .simp only[↓zA,sevalprocAttr,adB,abb,acB,aa k1,c1,c2]
   .by_cases c3:f.sb.length=0
    .by_cases c4:f.ks.length=0
     .simp only[↓zA,sevalprocAttr,adB,abb,acB,aam,aa k1,c1,c2,aa c3,aa c4]
     .simp only[↓zA,sevalprocAttr,adB,abb,acB,aam,aa k1,c1,c2,aa c3,c4]
    .simp only[↓zA,sevalprocAttr,adB,abb,acB,aam,aa k1,c1,c2,c3]
 .by_cases k2:f.kd=2
  .by_cases c1:f.nm=[]
   .cases c2:gP f.az
    .simp only[↓zA,sevalprocAttr,adB,abb,k1,aa k2,aa c1,c2]
    .cases c3:(decide ((f.sb.length:Int)=1)&&f.sb.all gS)
     .simp only[↓zA,sevalprocAttr,adB,abb,kq,k1,aa k2,aa c1,c2,sq,c3]
     .by_cases c4:f.ks.length=0
      .simp only[↓zA,sevalprocAttr,adB,abb,kq,aam,k1,aa k2,aa c1,c2,sq,c3,aa c4]
      .simp only[↓zA,sevalprocAttr,adB,abb,kq,aam,k1,aa k2,aa c1,c2,sq,c3,c4]
   .simp only[↓zA,sevalprocAttr,adB,k1,aa k2,c1]
  .by_cases k3:f.kd=3\/f.kd=4\/f.kd=5
   rotate_left
   .simp only[ac2] at k3
    simp only[↓zA,sevalprocAttr,adB,k1,k2,k3,abm]
   generalize hon:(if f.kd=3 then (0:Int) else 1)=on
   have fin:∀ b:Bool,(decide (f.nm=[])&&decide (f.az=[])&&decide (f.sb.length=0)&&cH f.ks 2 2 aaY&&cH f.on on on eY)=b->(if f.kd=1 then gP f.nm&&aaP f.az&&(decide (f.sb.length=0)&&decide (f.ks.length=0)&&decide (f.on.length=0))
     else if f.kd=2 then decide (f.nm=[])&&gP f.az&&cH f.sb 1 1 gS&&(decide (f.ks.length=0)&&decide (f.on.length=0))
     else if f.kd=3\/f.kd=4\/f.kd=5 then decide (f.nm=[])&&decide (f.az=[])&&decide (f.sb.length=0)&&cH f.ks 2 2 aaY&&cH f.on on on eY else false)=b:=λb hb=>by
    rw[aA k1,aA k2,aE k3,hb]
   by_cases c1:f.nm=[]
   rotate_left
   .rw[fin false (by simp[c1])]
    rcases k3 with k3|k3|k3 <;> simp only[↓zA,sevalprocAttr,adB,Int.reduceEq,k3,c1]
   by_cases c2:f.az=[]
   rotate_left
   .rw[fin false (by simp[c2])]
    rcases k3 with k3|k3|k3 <;> simp only[↓zA,sevalprocAttr,adB,Int.reduceEq,k3,aa c1,c2]
   by_cases c3:f.sb.length=0
   rotate_left
   .rw[fin false (by simp[c3])]
    rcases k3 with k3|k3|k3 <;> simp only[↓zA,sevalprocAttr,adB,aam,Int.reduceEq,k3,aa c1,aa c2,c3]
   by_cases c4:f.ks.length=2
   rotate_left
   .rw[fin false (by
     have:cH f.ks 2 2 aaY=false:=by
      rw[abF]
      intro e
      simp only[cH,ar,aR] at e
      omega
     rw[this];simp)]
    rcases k3 with k3|k3|k3 <;> simp only[↓zA,sevalprocAttr,adB,aam,auU,Int.reduceEq,k3,aa c1,aa c2,aa c3,c4]
   have d0:0<f.ks.length:=by omega
   have d1:1<f.ks.length:=by omega
   have g0:aaJ f.ks 0=some f.ks[0]:=bu d0
   have g1:aaJ f.ks 1=some f.ks[1]:=bu d1
   have s0q:=λK=>aF.k (h2 f.ks[0] (bt d0)) K
   have s1:=λK=>aF.k (h2 f.ks[1] (bt d1)) K
   have sk:cH f.ks 2 2 aaY=(aaY f.ks[0]&&aaY f.ks[1]):=by
    have hl:f.ks=[f.ks[0],f.ks[1]]:=by
     apply List.ext_getElem
     .simp[c4]
     .intro i hi1 hi2
      rcases i with _|_|i
      .rfl
      .rfl
      .omega
    have hall:f.ks.all aaY=(aaY f.ks[0]&&aaY f.ks[1]):=by
     conv=>lhs;rw[hl]
     simp
    simp only[cH,hall,c4]
    simp
   have c5':cH f.on on on eY=false\/cH f.on on on eY=true:=by cases cH f.on on on eY <;> simp
   rcases c5' with c5|c5
   .rw[fin false (by rw[c5,cy])]
    rcases k3 with k3|k3|k3 <;> (simp only[k3,ah,Int.reduceEq,ap] at hon;subst hon;simp only[↓zA,sevalprocAttr,adB,kx,aam,auU,Int.reduceEq,k3,aa c1,aa c2,aa c3,aa c4,c5])
   rw[fin (aaY f.ks[0]&&aaY f.ks[1]) (by rw[c5,sk];simp[c1,c2,c3])]
   cases c6:aaY f.ks[0]
   .rcases k3 with k3|k3|k3 <;> (simp only[k3,ah,Int.reduceEq,ap] at hon;subst hon;simp only[↓zA,sevalprocAttr,adB,kx,aam,auU,Int.reduceEq,k3,aa c1,aa c2,aa c3,aa c4,c5,g0,s0q,c6])
   .rcases k3 with k3|k3|k3 <;> (simp only[k3,ah,Int.reduceEq,ap] at hon;subst hon;simp only[↓zA,sevalprocAttr,adB,kx,aam,auU,Int.reduceEq,k3,aa c1,aa c2,aa c3,aa c4,c5,g0,g1,s0q,s1,c6])
def aTB(l:List Im):Prop:=∀ x∈l,G1 178 [.of (.agg (imC x))] (aN (adu x))
def an3:=ai (hU @Tryz.f177.eq_1 @zq @aW3 @aZ @bi @gF @bG) (hU @cX @ado @gH @P4 @Q4 @zT0 (kf aMJ))
def aBD(q:Qy):G1 177 [.of (.agg (qyC q))] (aN (!q.di&&decide (q.its.length=0)&&decide (q.fr.length=0)&&decide (q.wh.length=0)&&decide (q.gr.length=0)&&decide (q.hv.length=0))):=by
 refine bB aMJ ?_
 cases c0:q.di
 rotate_left
 .simp only[↓zA,sevalprocAttr,an3,c0]
 by_cases c1:q.its.length=0
 rotate_left
 .simp only[↓zA,sevalprocAttr,an3,aam,c0,c1]
 by_cases c2:q.fr.length=0
 rotate_left
 .simp only[↓zA,sevalprocAttr,an3,aam,c0,aa c1,c2]
 by_cases c3:q.wh.length=0
 rotate_left
 .simp only[↓zA,sevalprocAttr,an3,aam,c0,aa c1,aa c2,c3]
 by_cases c4:q.gr.length=0
 .simp only[↓zA,sevalprocAttr,an3,aam,c0,aa c1,aa c2,aa c3,aa c4]
 .simp only[↓zA,sevalprocAttr,an3,aam,c0,aa c1,aa c2,aa c3,c4]
def aN8(q:Qy)(K:An->Prop):cKp 177 [.of (.agg (qyC q))] [] K↔K ⟨false,[aN (!q.di&&decide (q.its.length=0)&&decide (q.fr.length=0)&&decide (q.wh.length=0)&&decide (q.gr.length=0)&&decide (q.hv.length=0))],[]⟩:=aF.k (aBD q) K
def aCh(n:Nat):((64:Int)<(n:Int))=(64<n):=propext aC
def aRI(n:Nat):((1:Int)<(n:Int))=(1<n):=propext aC
def aRH(n:Nat):((8:Int)<(n:Int))=(8<n):=propext aC
abbrev aHg(q:Qy):List C:=[ci q.op,cb q.al,slC qyC q.ks,cb q.di,slC imC q.its,slC fmC q.fr,slC xpC q.wh,slC xpC q.gr,slC xpC q.hv,slC odC q.od,ci q.li,ci q.sk]
def abR:=ai (ib @Tryz.f88.eq_1 @zq @aW0 @bi @gF @bG @aeg @aZ @dm) (hZ @ado @gH @P3 @Q3 @P4 @Q4 @zT0 (kf aSd))
def avU(q:Qy)(hw:qyW q<=WL)(h1:aya q.ks)(h2:aTB q.its)(h3:aJ8 q.fr)(h3':aKd q.fr)(h4:aqa q.wh)(h5:aqa q.gr)(h6:aqa q.hv):G1 88 [.of (.agg (qyC q))] (aN (gS q)):=by
 have hw2:=hw
 rw[acd] at hw2
 simp only[WL] at hw2
 have n0:=fL odW q.od λx _=>by simp[odW]
 have n2:=fL imW q.its λx _=>agI x
 have n3:=fL fmW q.fr λx _=>adb x
 have kO:=λK=>aF.k (ayS q.od aC) K
 have kp:=aN8 q
 have kq:=λn K=>aF.k (ajO q.ks n (by simp only[WL];omega) h1) K
 have kw:=λa b K=>aF.k (ahF q.wh a b (by simp only[WL];omega) h4) K
 have kg:=λa b K=>aF.k (ahF q.gr a b (by simp only[WL];omega) h5) K
 have kh:=λa b K=>aF.k (ahF q.hv a b (by simp only[WL];omega) h6) K
 have eo:cH q.od 0 64 aa4=(q.od.all aa4&&decide (q.od.length<=64)):=by
  simp only[cH]
  rw[cC];simp only[ar,aR]
  constructor
  .rintro⟨⟨_,h⟩,g⟩;exact⟨g,by omega⟩
  .rintro⟨g,h⟩;exact⟨⟨by omega,by omega⟩,g⟩
 have e5:decide (q.its.length+q.fr.length+q.wh.length+q.gr.length+q.hv.length=0)=(decide (q.its.length=0)&&decide (q.fr.length=0)&&decide (q.wh.length=0)&&decide (q.gr.length=0)&&decide (q.hv.length=0)):=by
  rw[cC];simp only[ar,aR];omega
 rw[aAe,eo]
 simp only[ae1]
 refine bB aSd ?_
 by_cases a1:-1<=q.li
 rotate_left
 .simp only[↓zA,sevalprocAttr,abR,a1,show q.li < -1 from by omega]
 have a1':¬q.li < -1:=by omega
 by_cases a2:q.li<=1000000000000000
 rotate_left
 .simp only[↓zA,sevalprocAttr,abR,a1',a2,show 1000000000000000<q.li from by omega]
 have a2':¬1000000000000000<q.li:=by omega
 by_cases a3:0<=q.sk
 rotate_left
 .simp only[↓zA,sevalprocAttr,abR,a1',a2',a3,show q.sk<0 from by omega]
 have a3':¬q.sk<0:=by omega
 by_cases a4:q.sk<=1000000000000000
 rotate_left
 .simp only[↓zA,sevalprocAttr,abR,a1',a2',a3',a4,show 1000000000000000<q.sk from by omega]
 have a4':¬1000000000000000<q.sk:=by omega
 have a5':(q.od.all aa4&&decide (q.od.length<=64))=false\/(q.od.all aa4&&decide (q.od.length<=64))=true:=by cases (q.od.all aa4&&decide (q.od.length<=64)) <;> simp
 rcases a5' with a5|a5
 .simp only[↓zA,sevalprocAttr,abR,kO,a1',a2',a3',a4',a5]
 by_cases o2:q.op=2\/q.op=3\/q.op=4
 .have e6:(cH q.ks 2 2 gS&&!q.di&&decide (q.its.length+q.fr.length+q.wh.length+q.gr.length+q.hv.length=0))=((!q.di&&decide (q.its.length=0)&&decide (q.fr.length=0)&&decide (q.wh.length=0)&&decide (q.gr.length=0)&&decide (q.hv.length=0))&&(decide ((q.ks.length:Int)=2)&&q.ks.all gS)):=by
   rw[e5]
   have:cH q.ks 2 2 gS=(decide ((q.ks.length:Int)=2)&&q.ks.all gS):=by
    simp only[cH];congr 1
    rw[cC];simp only[ar,aR];omega
   rw[this]
   generalize (decide ((q.ks.length:Int)=2)&&q.ks.all gS)=z
   cases z <;> cases q.di <;> simp[afD]
  have ne1:¬q.op=1:=by omega
  rw[aA ne1,aE o2,e6]
  cases b1:(!q.di&&decide (q.its.length=0)&&decide (q.fr.length=0)&&decide (q.wh.length=0)&&decide (q.gr.length=0)&&decide (q.hv.length=0))
  .rcases o2 with o2|o2|o2
   .simp only[↓zA,sevalprocAttr,abR,kO,kp,a1,a2,a3,a4,a1',a2',a3',a4',a5,b1,aa o2]
   .simp only[↓zA,sevalprocAttr,abR,kO,kp,a1,a2,a3,a4,a1',a2',a3',a4',a5,b1,show ¬q.op=2 from by omega,aa o2]
   .simp only[↓zA,sevalprocAttr,abR,kO,kp,a1,a2,a3,a4,a1',a2',a3',a4',a5,b1,show ¬q.op=2 from by omega,show ¬q.op=3 from by omega,aa o2]
  .rcases o2 with o2|o2|o2
   .simp only[↓zA,sevalprocAttr,abR,kO,kp,kq,a1,a2,a3,a4,a1',a2',a3',a4',a5,b1,aa o2]
   .simp only[↓zA,sevalprocAttr,abR,kO,kp,kq,a1,a2,a3,a4,a1',a2',a3',a4',a5,b1,show ¬q.op=2 from by omega,aa o2]
   .simp only[↓zA,sevalprocAttr,abR,kO,kp,kq,a1,a2,a3,a4,a1',a2',a3',a4',a5,b1,show ¬q.op=2 from by omega,show ¬q.op=3 from by omega,aa o2]
 simp only[ac2] at o2
 have s2:¬(q.op=2\/q.op=3\/q.op=4):=by simp[o2]
 by_cases o1:q.op=1
 rotate_left
 .rw[aA o1,aA s2]
  simp only[↓zA,sevalprocAttr,abR,kO,a1,a2,a3,a4,a1',a2',a3',a4',a5,o1,o2]
 rw[aE o1]
 cases b1:q.al
 rotate_left
 .simp only[↓zA,sevalprocAttr,abR,kO,a1,a2,a3,a4,a1',a2',a3',a4',a5,aa o1,o2,b1]
 by_cases b2:q.ks.length=0
 rotate_left
 .simp only[↓zA,sevalprocAttr,abR,kO,aam,a1,a2,a3,a4,a1',a2',a3',a4',a5,aa o1,o2,b1,b2]
 by_cases b3:q.its.length=0
 .have z:cH q.its 1 64 adu=false:=by
   rw[abF];intro e;simp only[cH,ar,aR] at e;omega
  simp only[↓zA,sevalprocAttr,abR,kO,aam,asf,a1,a2,a3,a4,a1',a2',a3',a4',a5,aa o1,o2,b1,aa b2,aa b3,z]
 by_cases b4:64<q.its.length
 .have z:cH q.its 1 64 adu=false:=by
   rw[abF];intro e;simp only[cH,ar,aR] at e;omega
  simp only[↓zA,sevalprocAttr,abR,kO,aam,asf,aCh,a1,a2,a3,a4,a1',a2',a3',a4',a5,aa o1,o2,b1,aa b2,b3,b4,z]
 by_cases b5:1<q.fr.length
 .have z:cH q.fr 0 1 abL=false:=by
   rw[abF];intro e;simp only[cH,ar,aR] at e;omega
  simp only[↓zA,sevalprocAttr,abR,kO,aam,asf,aCh,aRI,a1,a2,a3,a4,a1',a2',a3',a4',a5,aa o1,o2,b1,aa b2,b3,b4,b5,z]
 have z1:cH q.its 1 64 adu=q.its.all adu:=by
  simp only[cH];rw[cS (show (1:Int)<=q.its.length from by omega),cS (show (q.its.length:Int)<=64 from by omega)];rfl
 have z2:cH q.fr 0 1 abL=q.fr.all abL:=by
  simp only[cH];rw[cS (show (0:Int)<=q.fr.length from by omega),cS (show (q.fr.length:Int)<=1 from by omega)];rfl
 simp only[a1,a2,a3,a4,a5,b2,z1,z2,eu,bR,ct]
 simp only[↓zA,sevalprocAttr,abR,kO,aam,asf,aCh,aRI,a1',a2',a3',a4',a5,aa o1,o2,b1,aa b2,b3,b4,b5]
 refine ew q.its.length (λk t=>t.fr 1=.of (.ref (aHg q))/\t.fr 3=au k/\t.objs=[]/\q.its.all adu=(q.its.drop k).all adu) ?_ ?_
 .simp only[↓zA,sevalprocAttr,abR]
  simp only[aHg,b1]
 rintro k t hk ⟨f1,f3,ho,E⟩
 rcases av k q.its.length with d1|d1
 .have hwk:=aW k aC
  have kx:=λK=>aF.k (h2 q.its[k] (bt d1)) K
  rw[aan d1,aiL] at E
  cases d2:adu q.its[k]
  .rw[d2,cm] at E
   simp only[↓zA,sevalprocAttr,abR,f1,f3,ho,aK,d1,bu d1,kx,d2,E]
  .rw[d2,bR] at E
   simp only[↓zA,sevalprocAttr,abR,f1,f3,ho,aK,d1,bu d1,hwk,kx,d2,E]
 have e:k=q.its.length:=by omega
 subst e
 rw[bf,aax] at E
 simp only[↓zA,sevalprocAttr,abR,f1,f3,ho,aK,bg,E]
 refine ew q.fr.length (λk t=>t.fr 1=.of (.ref (aHg q))/\t.fr 4=au k/\t.objs=[]/\q.fr.all abL=(q.fr.drop k).all abL) ?_ ?_
 .simp only[↓zA,sevalprocAttr,abR,f1,ho]
  try exact rfl
 rintro j u hj ⟨g1,g4,go,F⟩
 rcases av j q.fr.length with e1|e1
 .have hwj:=aW j aC
  have hm:q.fr[j]∈q.fr:=bt e1
  have kx:=λK=>aF.k (h3 q.fr[j] hm) K
  have kl:=λK=>aF.k (h3' q.fr[j] hm) K
  have same:=azd (fmW q.fr[j]) q.fr[j] (am _)
  rw[aan e1,aiL] at F
  cases d2:aaY q.fr[j]
  .have F2:q.fr.all abL=false:=by rw[F];simp[abL,d2]
   simp only[↓zA,sevalprocAttr,abR,g1,g4,go,aK,e1,bu e1,kx,d2,F2]
  .have hs:=same d2
   by_cases d3:8<gB q.fr[j]
   .have F2:q.fr.all abL=false:=by
     rw[F];simp only[abL,d2,bR,bK (show ¬gC q.fr[j]<=8 from by omega),cm]
    simp only[↓zA,sevalprocAttr,abR,g1,g4,go,aK,e1,bu e1,kx,kl,d2,aRH,d3,F2]
   .have F2:q.fr.all abL=(q.fr.drop (j+1)).all abL:=by
     rw[F];simp only[abL,d2,bR,cS (show gC q.fr[j]<=8 from by omega)]
    simp only[↓zA,sevalprocAttr,abR,g1,g4,go,aK,e1,bu e1,hwj,kx,kl,d2,aRH,d3,F2]
 have e:j=q.fr.length:=by omega
 subst e
 rw[bf,aax] at F
 cases c1:cH q.wh 0 1 eY
 .simp only[↓zA,sevalprocAttr,abR,g1,g4,go,aK,bg,F,kw,c1]
 cases c2:cH q.gr 0 64 eY
 .simp only[↓zA,sevalprocAttr,abR,g1,g4,go,aK,bg,F,kw,kg,c1,c2]
 simp only[↓zA,sevalprocAttr,abR,g1,g4,go,aK,bg,F,kw,kg,kh,c1,c2]
def asG(l:List Xp):Prop:=G1 36 [.of (slC xpC l),.of (slC xpC l)] (aN true)
def aDP(l:List Qy):Prop:=G1 37 [.of (slC qyC l),.of (slC qyC l)] (aN true)
def aTy(l:List Im):Prop:=G1 42 [.of (slC imC l),.of (slC imC l)] (aN true)
def aJ7(l:List Fm):Prop:=G1 43 [.of (slC fmC l),.of (slC fmC l)] (aN true)
def amO:=hU @Tryz.f36.eq_1 @zq @aYQ @aZ @cX @zT0 (kf aJq)
def at2(l:List Xp)(hl:l.length<=4611686018427387903):G1 36 [.of (slC xpC l),.of (slC xpC ([]:List Xp))] (aN (decide (l.length=0))):=by
 refine bB aJq ?_
 simp only[↓zA,sevalprocAttr,amO]
 refine ew 0 (λk s=>s.fr 0=.of (slC xpC l)/\s.fr 1=.of (slC xpC ([]:List Xp))/\s.fr 5=au 0/\s.objs=[]) ?_ ?_
 .simp only[↓zA,sevalprocAttr,amO]
  try exact rfl
 .rintro k ⟨fr,ob,ck⟩ hk ⟨f0,f1,f5,ho⟩
  dsimp only at f0 f1 f5 ho
  have e0:∀ n:Nat,((n:Int)=0)=(n=0):=λn=>propext aC
  have e1:∀ n:Nat,((0:Int)<(n:Int))=(0<n):=λn=>propext aC
  by_cases d:0<l.length
  .have d':¬l.length=0:=by omega
   simp only[↓zA,sevalprocAttr,amO,f0,f1,f5,ho,e0,e1,d,d']
  .have d':l.length=0:=by omega
   simp only[↓zA,sevalprocAttr,amO,f0,f1,f5,ho,d']
def amN:=hU @Tryz.f37.eq_1 @zq @aYO @bi @dm @zT0 (kf aJp)
def aqt(l:List Qy)(hl:l.length<=4611686018427387903):G1 37 [.of (slC qyC l),.of (slC qyC ([]:List Qy))] (aN (decide (l.length=0))):=by
 refine bB aJp ?_
 simp only[↓zA,sevalprocAttr,amN]
 refine ew 0 (λk s=>s.fr 0=.of (slC qyC l)/\s.fr 1=.of (slC qyC ([]:List Qy))/\s.fr 5=au 0/\s.objs=[]) ?_ ?_
 .simp only[↓zA,sevalprocAttr,amN]
  try exact rfl
 .rintro k ⟨fr,ob,ck⟩ hk ⟨f0,f1,f5,ho⟩
  dsimp only at f0 f1 f5 ho
  have e0:∀ n:Nat,((n:Int)=0)=(n=0):=λn=>propext aC
  have e1:∀ n:Nat,((0:Int)<(n:Int))=(0<n):=λn=>propext aC
  by_cases d:0<l.length
  .have d':¬l.length=0:=by omega
   simp only[↓zA,sevalprocAttr,amN,f0,f1,f5,ho,e0,e1,d,d']
  .have d':l.length=0:=by omega
   simp only[↓zA,sevalprocAttr,amN,f0,f1,f5,ho,d']
def alF:=ai (hU @Tryz.f13.eq_1 @zq @aWc @aWb @adS @aZ @bi) (hU @P3 @Q3 @Q9 @P4 @Q4 @zT0 (kf aJv))
def aqw(a:Xp)(hw:xpW a<=WL):G1 13 [.of (.agg (xpC a)),.of (.agg (xpC acz))] (aN (decide (a=acz))):=by
 have h':=aen a
 simp only[WL] at hw
 have n1:=fL xpW a.ks λx _=>adT x
 have n2:=fL qyW a.sb λx _=>afn x
 have k0:=λK=>aF.k (at2 a.ks aC) K
 have k1:=λK=>aF.k (aqt a.sb aC) K
 have z:acz.op=0/\acz.v=aco/\acz.tb=[]/\acz.nm=[]/\acz.di=false/\acz.ks=[]/\acz.sb=[]:=⟨rfl,rfl,rfl,rfl,rfl,rfl,rfl⟩
 obtain⟨z0,z1,z2,z3,z4,z5,z6⟩:=z
 have hz:decide (a=acz)=aed a:=by rw[cC,amL,aR]
 rw[hz]
 have ez:=ch acz
 rw[z0,z1,z2,z3,z4,z5,z6] at ez
 have zv:aco=(⟨0,0,{data:=#[]}⟩ : V):=rfl
 have ev0:aco.k=0/\aco.n=0/\aco.s={data:=#[]}:=⟨rfl,rfl,rfl⟩
 rw[ev0.1,ev0.2.1,ev0.2.2] at ez
 rw[ez]
 refine bB aJv ?_
 by_cases c0:a.op=0
 rotate_left
 .simp only[↓zA,sevalprocAttr,alF,c0,zv,dC,aed]
 by_cases c1:a.v=(⟨0,0,{data:=#[]}⟩ : V)
 rotate_left
 .simp only[↓zA,sevalprocAttr,alF,aa c0,c1,aa1,zv,dC,aed]
 by_cases c2:a.tb=[]
 rotate_left
 .simp only[↓zA,sevalprocAttr,alF,aa c0,aa c1,c2,aa1,zv,cQ,dC,aed]
 by_cases c3:a.nm=[]
 rotate_left
 .simp only[↓zA,sevalprocAttr,alF,aa c0,aa c1,aa c2,c3,aa1,zv,cQ,dC,aed]
 by_cases c4:a.di=false
 rotate_left
 .simp only[↓zA,sevalprocAttr,alF,aa c0,aa c1,aa c2,aa c3,c4,aa1,zv,cQ,dC,aed]
 by_cases c5:a.ks.length=0
 rotate_left
 .simp only[↓zA,sevalprocAttr,alF,aa c0,aa c1,aa c2,aa c3,c4,c5,k0,aa1,zv,cQ,dC,aed]
 by_cases c6:a.sb.length=0
 rotate_left
 .simp only[↓zA,sevalprocAttr,alF,aa c0,aa c1,aa c2,aa c3,c4,aa c5,c6,k0,k1,aa1,zv,cQ,aed]
 simp only[↓zA,sevalprocAttr,alF,aa c0,aa c1,aa c2,aa c3,c4,aa c5,aa c6,k0,k1,aa1,zv,cQ,aed]
def aqx(a:Xp)(i0:asG a.ks)(i1:aDP a.sb):G1 13 [.of (.agg (xpC a)),.of (.agg (xpC a))] (aN true):=by
 have k0:=λK=>aF.k i0 K
 have k1:=λK=>aF.k i1 K
 refine bB aJv ?_
 simp only[↓zA,sevalprocAttr,alF,k0,k1,aa1]
def arY(l:List Xp)(hl:l.length<=4611686018427387903)(h:∀ x∈l,G1 13 [.of (.agg (xpC x)),.of (.agg (xpC x))] (aN true)):G1 36 [.of (slC xpC l),.of (slC xpC l)] (aN true):=by
 refine bB aJq ?_
 simp only[↓zA,sevalprocAttr,amO]
 refine ew l.length (λk s=>s.fr 0=.of (slC xpC l)/\s.fr 1=.of (slC xpC l)/\s.fr 5=au k/\s.objs=[]) ?_ ?_
 .simp only[↓zA,sevalprocAttr,amO]
  try exact rfl
 .rintro k ⟨fr,ob,ck⟩ hk ⟨f0,f1,f5,ho⟩
  dsimp only at f0 f1 f5 ho
  by_cases d:k<l.length
  .have hw:=aW k aC
   have gx:=bu d
   have kx:=λK=>aF.k (h l[k] (bt d)) K
   generalize l[k]=x at *
   simp only[↓zA,sevalprocAttr,amO,f0,f1,f5,ho,aK,d,gx,hw,kx]
  .simp only[↓zA,sevalprocAttr,amO,f0,f1,f5,ho,aK,d]
def apr(l:List Qy)(hl:l.length<=4611686018427387903)(h:∀ x∈l,G1 16 [.of (.agg (qyC x)),.of (.agg (qyC x))] (aN true)):G1 37 [.of (slC qyC l),.of (slC qyC l)] (aN true):=by
 refine bB aJp ?_
 simp only[↓zA,sevalprocAttr,amN]
 refine ew l.length (λk s=>s.fr 0=.of (slC qyC l)/\s.fr 1=.of (slC qyC l)/\s.fr 5=au k/\s.objs=[]) ?_ ?_
 .simp only[↓zA,sevalprocAttr,amN]
  try exact rfl
 .rintro k ⟨fr,ob,ck⟩ hk ⟨f0,f1,f5,ho⟩
  dsimp only at f0 f1 f5 ho
  by_cases d:k<l.length
  .have hw:=aW k aC
   have gx:=bu d
   have kx:=λK=>aF.k (h l[k] (bt d)) K
   generalize l[k]=x at *
   simp only[↓zA,sevalprocAttr,amN,f0,f1,f5,ho,aK,d,gx,hw,kx]
  .simp only[↓zA,sevalprocAttr,amN,f0,f1,f5,ho,aK,d]
def aAQ:=hU @Tryz.f44.eq_1 @zq @aYL @aeg @aex @zT0 (kf aSr)
def aqu(l:List Od)(hl:l.length<=4611686018427387903)  : G1 44 [.of (slC odC l),.of (slC odC l)] (aN true):=by
 refine bB aSr ?_
 simp only[↓zA,sevalprocAttr,aAQ]
 refine ew l.length (λk s=>s.fr 0=.of (slC odC l)/\s.fr 1=.of (slC odC l)/\s.fr 5=au k/\s.objs=[]) ?_ ?_
 .simp only[↓zA,sevalprocAttr,aAQ]
  try exact rfl
 .rintro k ⟨fr,ob,ck⟩ hk ⟨f0,f1,f5,ho⟩
  dsimp only at f0 f1 f5 ho
  by_cases d:k<l.length
  .have hw:=aW k aC
   have gx:=bu d
   generalize l[k]=x at *
   simp only[↓zA,sevalprocAttr,aAQ,f0,f1,f5,ho,aK,d,gx,hw,atB]
  .simp only[↓zA,sevalprocAttr,aAQ,f0,f1,f5,ho,aK,d]
def aAS:=ai (hM @Tryz.f42.eq_1 @zq @aYM @aZ @gF @ado) (hJ @P4 @Q4 @Q9 @zT0 (kf aSt))
def arW(l:List Im)(hl:l.length<=4611686018427387903)(h:∀ x∈l,G1 13 [.of (.agg (xpC x.e)),.of (.agg (xpC x.e))] (aN true)):G1 42 [.of (slC imC l),.of (slC imC l)] (aN true):=by
 refine bB aSt ?_
 simp only[↓zA,sevalprocAttr,aAS]
 refine ew l.length (λk s=>s.fr 0=.of (slC imC l)/\s.fr 1=.of (slC imC l)/\s.fr 5=au k/\s.objs=[]) ?_ ?_
 .simp only[↓zA,sevalprocAttr,aAS]
  try exact rfl
 .rintro k ⟨fr,ob,ck⟩ hk ⟨f0,f1,f5,ho⟩
  dsimp only at f0 f1 f5 ho
  by_cases d:k<l.length
  .have hw:=aW k aC
   have gx:=bu d
   have kx:=λK=>aF.k (h l[k] (bt d)) K
   generalize l[k]=x at *
   simp only[↓zA,sevalprocAttr,aAS,f0,f1,f5,ho,aK,d,gx,hw,kx,dy]
  .simp only[↓zA,sevalprocAttr,aAS,f0,f1,f5,ho,aK,d]
def aAR:=ai (hU @Tryz.f43.eq_1 @zq @aYN @aV9 @aV8 @bG @bi) (hU @aZ @gH @P3 @Q3 @Q9 @zT0 (kf aSs))
def arX(l:List Fm)(hl:l.length<=4611686018427387903)(h1:∀ x∈l,aDP x.sb)(h2:∀ x∈l,aJ7 x.ks)(h3:∀ x∈l,asG x.on):G1 43 [.of (slC fmC l),.of (slC fmC l)] (aN true):=by
 refine bB aSs ?_
 simp only[↓zA,sevalprocAttr,aAR]
 refine ew l.length (λk s=>s.fr 0=.of (slC fmC l)/\s.fr 1=.of (slC fmC l)/\s.fr 5=au k/\s.objs=[]) ?_ ?_
 .simp only[↓zA,sevalprocAttr,aAR]
  try exact rfl
 .rintro k ⟨fr,ob,ck⟩ hk ⟨f0,f1,f5,ho⟩
  dsimp only at f0 f1 f5 ho
  by_cases d:k<l.length
  .have hw:=aW k aC
   have gx:=bu d
   have k1:=λK=>aF.k (h1 l[k] (bt d)) K
   have k2:=λK=>aF.k (h2 l[k] (bt d)) K
   have k3:=λK=>aF.k (h3 l[k] (bt d)) K
   generalize l[k]=x at *
   simp only[↓zA,sevalprocAttr,aAR,f0,f1,f5,ho,aK,d,gx,hw,k1,k2,k3,dy]
  .simp only[↓zA,sevalprocAttr,aAR,f0,f1,f5,ho,aK,d]
def aYi:=ai (hU @zq @aV5 @aV4 @bi @gF @bG @aeg) (hU @aZ @P3 @Q3 @P4 @Q4 @zT0 (kf aSz))
def apv(a:Qy)(hl:a.od.length<=4611686018427387903)(i0:aDP a.ks)(i1:aTy a.its)(i2:aJ7 a.fr)(i3:asG a.wh)(i4:asG a.gr)(i5:asG a.hv):G1 16 [.of (.agg (qyC a)),.of (.agg (qyC a))] (aN true):=by
 have k0:=λK=>aF.k i0 K
 have k1:=λK=>aF.k i1 K
 have k2:=λK=>aF.k i2 K
 have k3:=λK=>aF.k i3 K
 have k4:=λK=>aF.k i4 K
 have k5:=λK=>aF.k i5 K
 have k6:=λK=>aF.k (aqu a.od hl) K
 refine bB aSz ?_
 simp only[Tryz.f16,↓zA,sevalprocAttr,aYi,k0,k1,k2,k3,k4,k5,k6,dy]
theorem alZ:∀ n,n<=WL->(∀ a,xpW a<=n->G1 13 [.of (.agg (xpC a)),.of (.agg (xpC a))] (aN true))/\(∀ a,qyW a<=n->G1 16 [.of (.agg (qyC a)),.of (.agg (qyC a))] (aN true))/\(∀ l,lsW fmW l<=n->aJ7 l)
 | 0,_=>⟨λe h=>by have:=adT e;omega,λe h=>by have:=afn e;omega,λl h=>by simp[lsW] at h⟩
 | n+1,hn=>by
  obtain⟨i1,i2,i3⟩:=alZ n aC
  have hn':n+1<=1152921504606846976:=hn
  have sX:∀ l:List Xp,lsW xpW l<=n+1->asG l:=λl h=>arY l (by have:=fL xpW l (λx _=>adT x);omega) (λx hx=>i1 x (by have:=dK (w:=xpW) hx;omega))
  have sQ:∀ l:List Qy,lsW qyW l<=n+1->aDP l:=λl h=>apr l (by have:=fL qyW l (λx _=>afn x);omega) (λx hx=>i2 x (by have:=dK (w:=qyW) hx;omega))
  have sI:∀ l:List Im,lsW imW l<=n+1->aTy l:=λl h=>arW l (by have:=fL imW l (λx _=>agI x);omega) (λx hx=>i1 x.e (by have:=dK (w:=imW) hx;have:=ahB x;omega))
  refine⟨λe h=>?_,λe h=>?_,λl h=>?_⟩
  .have h':=aen e
   exact aqx e (sX _ aC) (sQ _ aC)
  .have h':=acd e
   exact apv e (by have:=fL odW e.od (λx _=>by simp[odW]);omega) (sQ _ aC) (sI _ aC) (i3 _ aC) (sX _ aC) (sX _ aC) (sX _ aC)
  .refine arX l (by have:=fL fmW l (λx _=>adb x);omega) (λx hx=>sQ _ ?_) (λx hx=>i3 _ ?_) (λx hx=>sX _ ?_) <;> (have h1:=dK (w:=fmW) hx;have h2:=ace x;omega)
def an2:=ai (hJ @Tryz.f178.eq_1 @zq @aXi @aZ @gF) (hJ @P4 @Q4 @Q9 @zT0 (kf aMI))
def ayD(i:Im)(hw:xpW i.e<=WL)(h:G1 70 [.of (.agg (xpC i.e))] (aN (eY i.e))):G1 178 [.of (.agg (imC i))] (aN (adu i)):=by
 have kx:=λK=>aF.k h K
 have kS:=λK=>aF.k (aqw i.e hw) K
 have hz:decide (i.e=acz)=aed i.e:=by rw[cC,amL,aR]
 rw[hz] at kS
 have ez:[ci 0,ci 0,ci 0,aJ {data:=#[]},aJ {data:=#[]},aJ {data:=#[]},cb false,C.sl [] 0,C.sl [] 0]=xpC acz:=by rw[ch];rfl
 rw[aAf]
 refine bB aMI ?_
 cases s1:i.st
 .by_cases s2:i.tb=[]
  .cases s3:aaP i.az
   .simp only[↓zA,sevalprocAttr,an2,s1,aa s2,s3,acB]
   .simp only[↓zA,sevalprocAttr,an2,s1,aa s2,s3,acB,kx]
  .simp only[↓zA,sevalprocAttr,an2,s1,s2]
 .cases s2:aaP i.tb
  .simp only[↓zA,sevalprocAttr,an2,s1,s2,acB]
  .cases s3:aed i.e
   .simp only[↓zA,sevalprocAttr,an2,s1,s2,s3,acB,ez,kS]
   .simp only[↓zA,sevalprocAttr,an2,s1,s2,s3,acB,ez,kS]
theorem apu:∀ n,n<=WL->(∀ e,xpW e<=n->G1 70 [.of (.agg (xpC e))] (aN (eY e)))/\(∀ e,qyW e<=n->G1 88 [.of (.agg (qyC e))] (aN (gS e)))
  /\ (∀ e,imW e<=n->G1 178 [.of (.agg (imC e))] (aN (adu e)))/\(∀ e,fmW e<=n->G1 179 [.of (.agg (fmC e))] (aN (aaY e))/\G1 180 [.of (.agg (fmC e))] (au (gB e)))
 | 0,_=>⟨λe h=>by have:=adT e;omega,λe h=>by have:=afn e;omega,λe h=>by have:=agI e;omega,λe h=>by have:=adb e;omega⟩
 | n+1,hn=>by
  obtain⟨i1,i2,i3,i4⟩:=apu n aC
  have sX:∀ l:List Xp,lsW xpW l<=n+1->aqa l:=λl h x hx=>i1 x (by have:=dK (w:=xpW) hx;omega)
  have sQ:∀ l:List Qy,lsW qyW l<=n+1->aya l:=λl h x hx=>i2 x (by have:=dK (w:=qyW) hx;omega)
  have sI:∀ l:List Im,lsW imW l<=n+1->aTB l:=λl h x hx=>i3 x (by have:=dK (w:=imW) hx;omega)
  have sS:∀ l:List Fm,lsW fmW l<=n+1->aJ8 l:=λl h x hx=>(i4 x (by have:=dK (w:=fmW) hx;omega)).1
  have sT:∀ l:List Fm,lsW fmW l<=n+1->aKd l:=λl h x hx=>(i4 x (by have:=dK (w:=fmW) hx;omega)).2
  refine⟨λe h=>?_,λe h=>?_,λe h=>?_,λe h=>?_⟩
  .have h':=aen e
   exact ayF e aC (sX _ aC) (sQ _ aC)
  .have h':=acd e
   exact avU e aC (sQ _ aC) (sI _ aC) (sS _ aC) (sT _ aC) (sX _ aC) (sX _ aC) (sX _ aC)
  .have h':=ahB e
   exact ayD e aC (i1 _ aC)
  .have h':=ace e
   exact⟨at3 e aC (sQ _ aC) (sS _ aC) (sX _ aC),azH e aC (sT _ aC)⟩
def aPW:=hU @Tryz.f35.eq_1 @zq @aWe @aZ @cX @zT0 (kf aSw)
def ayG(e:Xp)(hw:xpW e<=1152921504606846000):G1 35 [.of (.agg (xpC e))] (aN (afU e)):=by
 have k1:=λK=>aF.k ((apu WL (am _)).1 e (by simp only[WL];omega)) K
 have w1:lsW xpW [e]<=WL:=by simp only[lsW,bd,cI,dw,fx,WL];omega
 have e1:bj cV [e]=cV e:=by rw[bj,bj,ad4]
 have er:afU e=(eY e&&afp (cV e)):=by rw[afU,Bool.and_comm]
 rw[er]
 refine bB aSw ?_
 cases c:eY e
 .simp only[↓zA,sevalprocAttr,aPW,k1,c]
 .simp only[↓zA,sevalprocAttr,aPW,k1,c,aEV,aZr,w1,e1,avW]
def aQM(x:Qy):C.sl [ci x.op,cb x.al,slC qyC x.ks,cb x.di,slC imC x.its,slC fmC x.fr,slC xpC x.wh,slC xpC x.gr,slC xpC x.hv,slC odC x.od,ci x.li,ci x.sk] 1=slC qyC [x]:=by rw[← ep];simp[slC,fl]
def aPV:=hU @Tryz.f41.eq_1 @zq @aWd @bi @dm @zT0 (kf aSu)
def avX(q:Qy)(hw:qyW q<=1152921504606846000):G1 41 [.of (.agg (qyC q))] (aN (afV q)):=by
 have k1:=λK=>aF.k ((apu WL (am _)).2.1 q (by simp only[WL];omega)) K
 have w1:lsW qyW [q]<=WL:=by simp only[lsW,bd,cI,dw,fx,WL];omega
 have e1:bj fM [q]=fM q:=by rw[bj,bj,ad4]
 have er:afV q=(gS q&&afp (fM q)):=by rw[afV,Bool.and_comm]
 rw[er]
 refine bB aSu ?_
 cases c:gS q
 .simp only[↓zA,sevalprocAttr,aPV,k1,c]
 .simp only[↓zA,sevalprocAttr,aPV,k1,c,aQM,aZs,w1,e1,avW]
def amS{α:Type}(z:α)(s:List UInt8)(l:List Tn)(ok:Bool)(a:α)(j:Nat)(b:Bool):(∃ i e,gh z s l ok (a,j,b)=(z,i,e)/\e≠0)\/gh z s l ok (a,j,b)=(a,0,0):=by
 cases b
 .simp only[gh]
  split
  .exact .inl ⟨_,_,rfl,by decide⟩
  .split
   .exact .inr rfl
   .exact .inl ⟨_,_,rfl,by decide⟩
 .refine .inl ⟨_,_,rfl,?_⟩
  split <;> decide
def aPT:=hZ @Tryz.f55.eq_1 @zq @cW @fH @P3 @Q3 @zT0 (kf aJn)
def aub(s:List UInt8)(l:List Tn)(i:Nat):G1 55 [.of (aJ (aM s)),tkX l,au i] (au (plT s l i)):=by
 unfold plT
 by_cases h:l.length<=i
 .have h1:((i:Int)<(l.length:Int))=False:=aj aC
  rw[aE h]
  refine bB aJn ?_
  simp only[↓zA,sevalprocAttr,aPT,h1]
  try rfl
 .have h1:((i:Int)<(l.length:Int))=True:=aa aC
  have h2:=gL (Nat.lt_of_not_le h)
  rw[aA h]
  refine bB aJn ?_
  simp only[↓zA,sevalprocAttr,aPT,h1,h2]
  try rfl
def al0(s:List UInt8)(l:List Tn)(i:Nat)(K:An->Prop):cKp 55 [.of (aJ (aM s)),tkX l,au i] [] K↔K ⟨false,[au (plT s l i)],[]⟩:=aF.k (aub s l i) K
def aBq(s:List UInt8)(l:List Tn)(K:An->Prop):cKp 55 [.of (aJ (aM s)),tkX l,.of (ci 0)] [] K↔K ⟨false,[au (plT s l 0)],[]⟩:=al0 s l 0 K
def aAT:=hM @Tryz.f34.eq_1 @zq @cW @fH @zT0 (kf axl)
def amG{α:Type}(z:α)(s:List UInt8)(l:List Tn)(ok:Bool)(a:α)(j:Nat)(b:Bool):GN 34 [.of (aJ (aM s)),tkX l,au j,au (adz l j b),aN ok] [au (gh z s l ok (a,j,b)).2.1,au (gh z s l ok (a,j,b)).2.2]:=by
 cases b with
 | true =>
  have e:adz l j true=adC l j:=rfl
  have n:=cR l j
  have w:gh z s l ok (a,j,true)=(z,plT s l j,adC l j):=rfl
  rw[e,w]
  generalize adC l j=m at n
  refine bB axl ?_
  simp only[↓zA,sevalprocAttr,aAT,n,al0]
  try rfl
 | false =>
  have e:adz l j false=0:=rfl
  rw[e]
  by_cases h:j<l.length
  .have h1:((j:Int)<(l.length:Int))=True:=aa aC
   simp only[gh,aE h]
   refine bB axl ?_
   simp only[↓zA,sevalprocAttr,aAT,h1,al0]
   try rfl
  .have h1:((j:Int)<(l.length:Int))=False:=aj aC
   simp only[gh,aA h]
   cases ok
   .simp only[ab,ap]
    refine bB axl ?_
    simp only[↓zA,sevalprocAttr,aAT,h1,aBq]
    try rfl
   .simp only[ah]
    refine bB axl ?_
    simp only[↓zA,sevalprocAttr,aAT,h1]
    try rfl
def aGK:=hU @Tryz.f12.eq_1 @zq @aXv @aXu @aZ @zT0 (kf aCQ)
def awi(s:List UInt8)(hs:s.length<LB){a}(h:ajl s=some a):GN 12 [.of (aJ (aM s))] [xpE a.1,au a.2.1,au a.2.2]:=by
 unfold ajl aiv at h
 split at h
 .cases h
 .rename_i l p e ht
  have kt:=λK=>aF.k (amF s hs _ ht) K
  split at h
  .rename_i he
   obtain⟨hok,h20,hp⟩:=ajE ht he
   subst he hp
   have hl:l.length<LB:=by have:=hok.len;unfold LB;omega
   obtain⟨⟨x,j,b⟩,hr,q2,q3,q4,q5⟩:=aqH hok h20
   dsimp only at h q2 q3 q4
   rw[hr] at h
   simp only[aP,ae] at h
   subst h
   have ko:∀ K,cKp 33 [tkX l,.of (ci 0),abs] [] K↔_:=λK=>aF.k ((ayb hl (aoh ht hok) _).or 0 _ (bn _) hr).2 K
   have k9:=λK=>aF.k (ayG x aC) K
   have kw:=λK=>aF.k (amG x0 s l (afU x) x j b) K
   rcases amS x0 s l (afU x) x j b with ⟨i,e,w,he⟩|w
   .rw[w] at kw ⊢
    have he:=aj he
    refine bB aCQ ?_
    simp only[↓zA,sevalprocAttr,aGK,kt,ko,k9,kw,ca,he]
    try rfl
   .rw[w] at kw ⊢
    refine bB aCQ ?_
    simp only[↓zA,sevalprocAttr,aGK,kt,ko,k9,kw,ca]
    try rfl
  .rename_i he
   have he:=aj he
   cases h
   refine bB aCQ ?_
   simp only[↓zA,sevalprocAttr,aGK,kt,he]
   try rfl
def aGJ:=hU @Tryz.f15.eq_1 @zq @aXr @aXq @bi @zT0 (kf aCP)
def aui(s:List UInt8)(hs:s.length<LB){a}(h:ahq s=some a):GN 15 [.of (aJ (aM s))] [qyE a.1,au a.2.1,au a.2.2]:=by
 unfold ahq aiv at h
 split at h
 .cases h
 .rename_i l p e ht
  have kt:=λK=>aF.k (amF s hs _ ht) K
  split at h
  .rename_i he
   obtain⟨hok,h20,hp⟩:=ajE ht he
   subst he hp
   have hl:l.length<LB:=by have:=hok.len;unfold LB;omega
   obtain⟨⟨x,j,b⟩,hr,q2,q3,q4,q5⟩:=aqD hok h20
   dsimp only at h q2 q3 q4
   rw[hr] at h
   simp only[aP,ae] at h
   subst h
   have ko:∀ K,cKp 40 [tkX l,.of (ci 0),abs] [] K↔_:=λK=>aF.k ((ayb hl (aoh ht hok) _).qy 0 _ (bn _) hr).2 K
   have k9:=λK=>aF.k (avX x aC) K
   have kw:=λK=>aF.k (amG y0 s l (afV x) x j b) K
   rcases amS y0 s l (afV x) x j b with ⟨i,e,w,he⟩|w
   .rw[w] at kw ⊢
    have he:=aj he
    refine bB aCP ?_
    simp only[↓zA,sevalprocAttr,aGJ,kt,ko,k9,kw,ca,he]
    try rfl
   .rw[w] at kw ⊢
    refine bB aCP ?_
    simp only[↓zA,sevalprocAttr,aGJ,kt,ko,k9,kw,ca]
    try rfl
  .rename_i he
   have he:=aj he
   cases h
   refine bB aCP ?_
   simp only[↓zA,sevalprocAttr,aGJ,kt,he]
   try rfl
def asY(s:List UInt8):(aM s).size=s.length:=by simp[aM,ByteArray.size]
def aYm(s:List UInt8)(hs:s.length<LB){a}(h:ajl s=some a)(K:An->Prop):afu Tryz.prog pr2 30 [.of (aJ (aM s)),.of (.fn 31 []),.of (.fn 22 [])] [] K↔K ⟨false,[xpE a.1,au a.2.1,au a.2.2],[]⟩ :=
 aF.k (aF.of_prim (by
  change agn 30 [.of (aJ (aM s)),.of (.fn 31 []),.of (.fn 22 [])] []=some ⟨false,[xpE a.1,au a.2.1,au a.2.2],[]⟩
  have e:(aM s).data.toList=s:=rfl
  have e2:(aM s).size<LB:=by rw[asY];exact hs
  simp only[agn,ahr,ak8,aJ]
  simp[e,e2,h])) K
def aYk:=hJ @zq @aXy @aZ @zT0 (kf aSB)
def aHS(s:List UInt8)(hs:s.length<LB){a}(h:ajl s=some a):HN 11 [.of (aJ (aM s))] [xpE a.1,au a.2.1,au a.2.2]:=by
 have k:=aYm s hs h
 refine bB2 aSB ?_
 simp only[Tryz.f11,↓zA,sevalprocAttr,aYk,aju,aqE,k]
 try rfl
def aYp(s:List UInt8)(hs:s.length<LB){a}(h:ahq s=some a)(K:An->Prop):afu Tryz.prog pr2 38 [.of (aJ (aM s)),.of (.fn 39 []),.of (.fn 23 [])] [] K↔K ⟨false,[qyE a.1,au a.2.1,au a.2.2],[]⟩ :=
 aF.k (aF.of_prim (by
  change agn 38 [.of (aJ (aM s)),.of (.fn 39 []),.of (.fn 23 [])] []=some ⟨false,[qyE a.1,au a.2.1,au a.2.2],[]⟩
  have e:(aM s).data.toList=s:=rfl
  have e2:(aM s).size<LB:=by rw[asY];exact hs
  simp only[agn,ahr,ak8,aJ]
  simp[e,e2,h])) K
def aYj:=hJ @zq @aXx @bi @zT0 (kf aSA)
def aHT(s:List UInt8)(hs:s.length<LB){a}(h:ahq s=some a):HN 14 [.of (aJ (aM s))] [qyE a.1,au a.2.1,au a.2.2]:=by
 have k:=aYp s hs h
 refine bB2 aSA ?_
 simp only[Tryz.f14,↓zA,sevalprocAttr,aYj,aju,aqE,k]
 try rfl
def aDx:H1 10 [] (aN true):=⟨400,by kernel_rfl⟩
def aoL(K:An->Prop):afu Tryz.prog pr2 10 [] [] K↔K ⟨false,[aN true],[]⟩:=aF.k aDx K
def aAg{α:Type}{z:α}{run:List Tn->Rz α}{ok:α->Bool}{s:List UInt8}{a}{W:α->Nat}(w:∀ l,ToksOk s l->s.length<=2000->∃ r,run l=some r/\W r.1<=WL)(hz:W z<=WL)(h:aiv z run ok s=some a):W a.1<=WL:=by
 unfold aiv at h
 split at h
 .cases h
 .rename_i l p e ht
  split at h
  .rename_i he
   obtain⟨hok,h20,hp⟩:=ajE ht he
   obtain⟨⟨x,j,b⟩,hr,q⟩:=w l hok h20
   rw[hr] at h
   simp only[aP,ae] at h
   subst h
   rcases amS z s l (ok x) x j b with ⟨i,e,w,_⟩|w <;> rw[w]
   .exact hz
   .exact q
  .cases h;exact hz
def aO8{s:List UInt8}{a}(h:ajl s=some a):xpW a.1<=WL:=aAg (λ_ h1 h2=>let ⟨r,h,_,_,w,_⟩:=aqH h1 h2;⟨r,h,by unfold WL;omega⟩) aI h
def aHh{s:List UInt8}{a}(h:ahq s=some a):qyW a.1<=WL:=aAg (λ_ h1 h2=>let ⟨r,h,_,_,w,_⟩:=aqD h1 h2;⟨r,h,by unfold WL;omega⟩) aI h
def zc3:=hU @Tryz.f3.eq_1 @zq @aYJ @aYI @aZ @zT0 (kf fi3)
def arC(s:List UInt8):H1 3 [.of (aJ (aM s))] (aN true):=by
 by_cases hs:s.length<=2100
 .have ds:((2100:Int)<(s.length:Int))=False:=aj aC
  have hl:s.length<LB:=by unfold LB;omega
  obtain⟨a,h⟩:=aCT s
  have k1:=λK=>aF.k (aHS s hl h) K
  have k2:=λK=>aF.k (auT (awi s hl h)) K
  have k3:=λK=>aF.k (auT ((alZ WL (am _)).1 a.1 (aO8 h))) K
  refine bB2 fi3 ?_
  simp only[↓zA,sevalprocAttr,zc3,aju,aqE,ds,k1,k2,k3,aoL]
  try rfl
 .have ds:((2100:Int)<(s.length:Int))=True:=aa aC
  refine bB2 fi3 ?_
  simp only[↓zA,sevalprocAttr,zc3,aju,ds,aoL]
  try rfl
def zc4:=hU @Tryz.f4.eq_1 @zq @aYH @aYG @bi @zT0 (kf fi4)
def aoS(s:List UInt8):H1 4 [.of (aJ (aM s))] (aN true):=by
 by_cases hs:s.length<=2100
 .have ds:((2100:Int)<(s.length:Int))=False:=aj aC
  have hl:s.length<LB:=by unfold LB;omega
  obtain⟨a,h⟩:=ayQ s
  have k1:=λK=>aF.k (aHT s hl h) K
  have k2:=λK=>aF.k (auT (aui s hl h)) K
  have k3:=λK=>aF.k (auT ((alZ WL (am _)).2.1 a.1 (aHh h))) K
  refine bB2 fi4 ?_
  simp only[↓zA,sevalprocAttr,zc4,aju,aqE,ds,k1,k2,k3,aoL]
  try rfl
 .have ds:((2100:Int)<(s.length:Int))=True:=aa aC
  refine bB2 fi4 ?_
  simp only[↓zA,sevalprocAttr,zc4,aju,ds,aoL]
  try rfl

/- A part. Conditions: none. -/
import Derived.Test.YtghkmcffifpkeaaGreatPa11
set_option linter.all false
set_option maxRecDepth 100000
set_option maxHeartbeats 64000000
namespace Go.Proofs.YtghkmcffifpkeaaGreat
open Pe Tab
def ahb(s:List UInt8):(aK s).size=s.length:=by simp[aK,ByteArray.size]
def a8L(s:List UInt8)(hs:s.length<LB){a}(h:adg s=some a)(K:An->Prop):aba Tryz.prog pr2 30 [.of (aG (aK s)),.of (.fn 31 []),.of (.fn 22 [])] [] K↔K ⟨false,[xpE a.1,aQ a.2.1,aQ a.2.2],[]⟩ :=
 aH.k (aH.of_prim (by
  change ac0 30 [.of (aG (aK s)),.of (.fn 31 []),.of (.fn 22 [])] []=some ⟨false,[xpE a.1,aQ a.2.1,aQ a.2.2],[]⟩
  have e:(aK s).data.toList=s:=rfl
  have e2:(aK s).size<LB:=by rw[ahb];exact hs
  simp only[ac0,prims,aiJ,aG]
  simp[e,e2,h])) K
def a8I:=gv @zq @a47 @bbZ @bF @akr @a0s @zT0 (kf aZw)
def agU(s:List UInt8)(hs:s.length<LB){a}(h:adg s=some a):HN 11 [.of (aG (aK s))] [xpE a.1,aQ a.2.1,aQ a.2.2]:=by
 have k:=a8L s hs h
 refine bB2 aZw ?_
 simp only[Tryz.f11,↓zA,sevalprocAttr,a8I,ack,afA,k]
 try rfl
def a8Q(s:List UInt8)(hs:s.length<LB){a}(h:alA s=some a)(K:An->Prop):aba Tryz.prog pr2 38 [.of (aG (aK s)),.of (.fn 39 []),.of (.fn 23 [])] [] K↔K ⟨false,[qyE a.1,aQ a.2.1,aQ a.2.2],[]⟩ :=
 aH.k (aH.of_prim (by
  change ac0 38 [.of (aG (aK s)),.of (.fn 39 []),.of (.fn 23 [])] []=some ⟨false,[qyE a.1,aQ a.2.1,aQ a.2.2],[]⟩
  have e:(aK s).data.toList=s:=rfl
  have e2:(aK s).size<LB:=by rw[ahb];exact hs
  simp only[ac0,prims,aiJ,aG]
  simp[e,e2,h])) K
def a8G:=gu @zq @a45 @bbY @eo @aqc @zT0 (kf aZu)
def aKX(s:List UInt8)(hs:s.length<LB){a}(h:alA s=some a):HN 14 [.of (aG (aK s))] [qyE a.1,aQ a.2.1,aQ a.2.2]:=by
 have k:=a8Q s hs h
 refine bB2 aZu ?_
 simp only[Tryz.f14,↓zA,sevalprocAttr,a8G,ack,afA,k]
 try rfl
def a8N(s:List UInt8)(hs:s.length<LB){a}(h:aow s=some a)(K:An->Prop):aba Tryz.prog pr2 45 [.of (aG (aK s)),.of (.fn 46 []),.of (.fn 24 [])] [] K↔K ⟨false,[smE a.1,aQ a.2.1,aQ a.2.2],[]⟩ :=
 aH.k (aH.of_prim (by
  change ac0 45 [.of (aG (aK s)),.of (.fn 46 []),.of (.fn 24 [])] []=some ⟨false,[smE a.1,aQ a.2.1,aQ a.2.2],[]⟩
  have e:(aK s).data.toList=s:=rfl
  have e2:(aK s).size<LB:=by rw[ahb];exact hs
  simp only[ac0,prims,aiJ,aG]
  simp[e,e2,h])) K
def a8E:=gv @zq @a44 @bbV @aca @a0o @a0r @zT0 (kf aZs)
def aKW(s:List UInt8)(hs:s.length<LB){a}(h:aow s=some a):HN 17 [.of (aG (aK s))] [smE a.1,aQ a.2.1,aQ a.2.2]:=by
 have k:=a8N s hs h
 refine bB2 aZs ?_
 simp only[Tryz.f17,↓zA,sevalprocAttr,a8E,ack,afA,k]
 try rfl
def a8M(s:List UInt8)(hs:s.length<LB){a}(h:aiK s=some a)(K:An->Prop):aba Tryz.prog pr2 51 [.of (aG (aK s)),.of (.fn 52 []),.of (.fn 53 [])] [] K↔K ⟨false,[ahr s a.1,aQ a.2.1,aQ a.2.2],[]⟩ :=
 aH.k (aH.of_prim (by
  change ac0 51 [.of (aG (aK s)),.of (.fn 52 []),.of (.fn 53 [])] []=some ⟨false,[ahr s a.1,aQ a.2.1,aQ a.2.2],[]⟩
  have e:(aK s).data.toList=s:=rfl
  have e2:(aK s).size<LB:=by rw[ahb];exact hs
  simp only[ac0,prims,aiJ,aG]
  simp[e,e2,h])) K
def ajM(l:List Tn):List (Sm×Nat)->List Sm->List Sm×Int×Int
 | [],out=>(out,0,0)
 | x::r,out=>if ajN x.1 then ajM l r (out++[x.1]) else ([],(bN l x.2).pl,4)
def akH(s:List UInt8):List Tn:=((abv s).getD ([],0,0)).1
def aGk{s:List UInt8}{a:List (Sm×Nat)×Int×Int}(h:aiK s=some a):(∀ x∈a.1,aFJ (akH s) x)/\a.1.length<=2000:=by
 unfold aiK afg at h
 split at h
 .cases h
 .rename_i l p e ht
  have hd:akH s=l:=by unfold akH;rw[ht];rfl
  split at h
  .rename_i he
   obtain⟨hok,h20,hp⟩:=ahY ht he
   obtain⟨r,hr,q2,q3,q4⟩:=aGF hok h20
   dsimp only at h
   rw[hr] at h
   simp only[aJ,ab] at h
   subst h
   obtain⟨o,j,b⟩:=r
   have:=hok.len
   rw[hd]
   cases b with
   | true=>exact⟨by simp[cS],by simp[cS]⟩
   | false =>
    simp only[cS]
    split
    .exact⟨by simp,by simp⟩
    .exact⟨q3,by dsimp only at q4 ⊢;simp only[am];omega⟩
  .cases h
   exact⟨by simp,by simp⟩
def ap4(l:List Tn)(o:List (Sm×Nat))(i:Int):bz tP 94 (.of (slC (ami l) o)) (.of (.lit (.int .i64 i)))=ad0 (aaA o i) λx=>.of (.ref (ami l x++fl (ami l) (o.drop (i.toNat+1)))) :=
 ac1 E94 (λx=>by rw[show x=(x.1,x.2) from rfl,ajL];rfl) aI o i
def as4{α:Type}{o:List α}{i:Nat}{x:α}(h:o[i]?=some x):aaA o (i:Int)=some x:=by
 unfold aaA
 rw[au aC]
 simpa using h
def apy:=ai (gz @Tryz.f20.eq_1 @zq @bbU @a42 @a0r @baJ @aca @an8 @a1k) (gz @a1i @aBI @aBL @aBH @awb @P3 @Q3 @zT0 (kf aMM))
def auR(s:List UInt8)(hs:s.length<LB){a}(h:aiK s=some a)(r:List Sm×Int×Int)(hr:(if a.2.2=0 then ajM (akH s) a.1 [] else ([],a.2.1,a.2.2))=r):HN 20 [.of (aG (aK s))] [.of (slC smC r.1),aQ r.2.1,aQ r.2.2]:=by
 have k:=a8M s hs h
 obtain⟨hok,hlen⟩:=aGk h
 have hE:ahr s a.1=.of (slC (ami (akH s)) a.1):=rfl
 obtain⟨o,p,e⟩:=a
 dsimp only at *
 by_cases he:e=0
 .subst he
  rw[au rfl] at hr
  refine bB2 aMM ?_
  simp only[↓zA,sevalprocAttr,apy,ack,k,hE]
  refine fX _ _ (λm s'=>∃ k out,((s'.fr 8=.nil/\out=[])\/∃ c x i,c<s'.clk/\s'.fr 8=.own (.nm c x i) 49 13 (fl smC out) out.length)/\s'.fr 21=.of (slC (ami (akH s)) o)/\s'.fr 22=aQ o.length/\s'.fr 23=.of (ci (k:Nat))/\s'.objs=[]/\k+m=o.length+1/\out.length<=k/\k<=o.length/\ajM (akH s) (o.drop k) out=r) ?_ (o.length+1) _ ?_
  .rintro m ⟨frn,obn,ckn⟩ ⟨kk,ol,hK,f21,f22,f23,fo,hm,hol,hkl,E⟩
   dsimp only at hK f21 f22 f23 fo
   have hos:(ol.length+1<=LIM)=True:=aa (by unfold LIM;omega)
   have hw:IntKind.i64.wrap ((kk:Int)+1)=((kk+1:Nat):Int):=fq kk aC
   rcases aA kk o.length with hlt|hge
   .have dl:((kk:Int)<(o.length:Int))=True:=aa aC
    have gx:=as4 (aL hlt)
    have hx:=hok _ (dK hlt)
    rw[co hlt] at E
    generalize o[kk]=x at gx hx E
    obtain⟨x1,x2⟩:=x
    have kS:=λK=>aH.k (ahF (auA x1 ⟨hx.1,by have:=hx.2.1;dsimp only at this;unfold WL;omega⟩)) K
    have kS1:=kS
    simp only[aeT] at kS1
    have kS2:=kS1
    simp only[slC] at kS2
    unfold ajM at E
    cases hb:ajN x1 with
    | false =>
     rw[hb] at kS kS1 kS2
     simp only[hb,ah,av] at E
     subst E
     rcases hK with ⟨f8,hK'⟩|⟨c,x,i',hc,f8⟩
     all_goals (try subst hK')
     all_goals (simp only[↓zA,sevalprocAttr,apy,ack,afA,afz,f21,f22,f23,fo,dl,gx,ap4,ajL,kS])
     all_goals first|rfl|(simp only[zVW] <;> rfl)
    | true =>
     rw[hb] at kS kS1 kS2
     simp only[hb,am] at E
     rcases hK with ⟨f8,hK'⟩|⟨c,x,i',hc,f8⟩
     all_goals (try subst hK')
     .simp only[↓zA,sevalprocAttr,apy,ack,afA,afz,f8,f21,f22,f23,fo,dl,gx,ap4,ajL,kS,aaG,hw]
      and_intros
      all_goals first|exact⟨m-1,by omega,kk+1,[x1],asI (by rw[akl,aeT]) rfl aC,rfl,by omega,by simp,by omega,by simpa using E⟩|rfl|omega
     .have hne:(c=ckn+1)=False:=aF aC
      simp only[↓zA,sevalprocAttr,apy,ack,afA,afz,f8,f21,f22,f23,fo,dl,gx,ap4,ajL,kS,hos,hne,hw]
      and_intros
      all_goals first|exact okN _ _ aC _|exact⟨m-1,by omega,kk+1,ol++[x1],asH (by rw[aeT]) rfl aC,rfl,by omega,by simp only[aey];omega,by omega,E⟩|rfl|omega
   .have dl:((kk:Int)<(o.length:Int))=False:=aF aC
    rw[aby hge] at E
    unfold ajM at E
    subst E
    rcases hK with ⟨f8,hK'⟩|⟨c,x,i',hc,f8⟩
    all_goals (try subst hK')
    all_goals (simp only[↓zA,sevalprocAttr,apy,f8,f22,f23,fo,dl])
    all_goals first|rfl|(simp only[zVW] <;> rfl)
  .simp only[↓zA,sevalprocAttr,apy]
   exact⟨0,[],.inl rfl,rfl,by omega,ae _,aU _,hr⟩
 .rw[ar he] at hr
  subst hr
  have he':(e=0)=False:=aF he
  refine bB2 aMM ?_
  simp only[↓zA,sevalprocAttr,apy,ack,k,hE,he']
  try rfl
def atj(l:List Xp):Prop:=G1 36 [.of (slC xpC l),.of (slC xpC l)] (aM true)
def aFM(l:List Qy):Prop:=G1 37 [.of (slC qyC l),.of (slC qyC l)] (aM true)
def a08(l:List Im):Prop:=G1 42 [.of (slC imC l),.of (slC imC l)] (aM true)
def aNL(l:List Fm):Prop:=G1 43 [.of (slC fmC l),.of (slC fmC l)] (aM true)
def aCp:=gv @Tryz.f36.eq_1 @zq @baG @aE3 @bF @eZ @zT0 (kf aZl)
def aCo:=gv @Tryz.f37.eq_1 @zq @baF @bb4 @eo @fC @zT0 (kf aZk)
def a8H:=ai (gv @zq @a41 @a40 @aNb @aNa @aiG @bF @eo) (gv @P3 @Q3 @P9 @Q9 @P4 @Q4 @zT0 (kf aZv))
def aqN(a:Xp)(i0:atj a.ks)(i1:aFM a.sb):G1 13 [.of (.agg (xpC a)),.of (.agg (xpC a))] (aM true):=by
 have k0:=λK=>aH.k i0 K
 have k1:=λK=>aH.k i1 K
 refine bB aZv ?_
 simp only[Tryz.f13,↓zA,sevalprocAttr,a8H,k0,k1,aev]
def asA(l:List Xp)(hl:l.length<=4611686018427387903)(h:∀ x∈l,G1 13 [.of (.agg (xpC x)),.of (.agg (xpC x))] (aM true)):G1 36 [.of (slC xpC l),.of (slC xpC l)] (aM true):=by
 refine bB aZl ?_
 simp only[↓zA,sevalprocAttr,aCp]
 refine abJ l.length (λk s=>s.fr 0=.of (slC xpC l)/\s.fr 1=.of (slC xpC l)/\s.fr 5=aQ k/\s.objs=[]) ?_ ?_
 .simp only[↓zA,sevalprocAttr,aCp]
  try exact rfl
 .rintro k ⟨fr,ob,ck⟩ hk ⟨f0,f1,f5,ho⟩
  dsimp only at f0 f1 f5 ho
  by_cases d:k<l.length
  .have hw:=fq k aC
   have gx:=eX d
   have kx:=λK=>aH.k (h l[k] (dK d)) K
   generalize l[k]=x at *
   simp only[↓zA,sevalprocAttr,aCp,f0,f1,f5,ho,ba,d,gx,hw,kx]
  .simp only[↓zA,sevalprocAttr,aCp,f0,f1,f5,ho,ba,d]
def apG(l:List Qy)(hl:l.length<=4611686018427387903)(h:∀ x∈l,G1 16 [.of (.agg (qyC x)),.of (.agg (qyC x))] (aM true)):G1 37 [.of (slC qyC l),.of (slC qyC l)] (aM true):=by
 refine bB aZk ?_
 simp only[↓zA,sevalprocAttr,aCo]
 refine abJ l.length (λk s=>s.fr 0=.of (slC qyC l)/\s.fr 1=.of (slC qyC l)/\s.fr 5=aQ k/\s.objs=[]) ?_ ?_
 .simp only[↓zA,sevalprocAttr,aCo]
  try exact rfl
 .rintro k ⟨fr,ob,ck⟩ hk ⟨f0,f1,f5,ho⟩
  dsimp only at f0 f1 f5 ho
  by_cases d:k<l.length
  .have hw:=fq k aC
   have gx:=eX d
   have kx:=λK=>aH.k (h l[k] (dK d)) K
   generalize l[k]=x at *
   simp only[↓zA,sevalprocAttr,aCo,f0,f1,f5,ho,ba,d,gx,hw,kx]
  .simp only[↓zA,sevalprocAttr,aCo,f0,f1,f5,ho,ba,d]
def aCl:=gu @Tryz.f44.eq_1 @zq @baC @agB @aiH @zT0 (kf aZh)
def aqM(l:List Od)(hl:l.length<=4611686018427387903)  : G1 44 [.of (slC odC l),.of (slC odC l)] (aM true):=by
 refine bB aZh ?_
 simp only[↓zA,sevalprocAttr,aCl]
 refine abJ l.length (λk s=>s.fr 0=.of (slC odC l)/\s.fr 1=.of (slC odC l)/\s.fr 5=aQ k/\s.objs=[]) ?_ ?_
 .simp only[↓zA,sevalprocAttr,aCl]
  try exact rfl
 .rintro k ⟨fr,ob,ck⟩ hk ⟨f0,f1,f5,ho⟩
  dsimp only at f0 f1 f5 ho
  by_cases d:k<l.length
  .have hw:=fq k aC
   have gx:=eX d
   generalize l[k]=x at *
   simp only[↓zA,sevalprocAttr,aCl,f0,f1,f5,ho,ba,d,gx,hw,aui]
  .simp only[↓zA,sevalprocAttr,aCl,f0,f1,f5,ho,ba,d]
def aCn:=ai (gu @Tryz.f42.eq_1 @zq @baD @aE3 @bF @acb @agP) (gq @P4 @Q4 @P9 @Q9 @zT0 (kf aZj))
def asw(l:List Im)(hl:l.length<=4611686018427387903)(h:∀ x∈l,G1 13 [.of (.agg (xpC x.e)),.of (.agg (xpC x.e))] (aM true)):G1 42 [.of (slC imC l),.of (slC imC l)] (aM true):=by
 refine bB aZj ?_
 simp only[↓zA,sevalprocAttr,aCn]
 refine abJ l.length (λk s=>s.fr 0=.of (slC imC l)/\s.fr 1=.of (slC imC l)/\s.fr 5=aQ k/\s.objs=[]) ?_ ?_
 .simp only[↓zA,sevalprocAttr,aCn]
  try exact rfl
 .rintro k ⟨fr,ob,ck⟩ hk ⟨f0,f1,f5,ho⟩
  dsimp only at f0 f1 f5 ho
  by_cases d:k<l.length
  .have hw:=fq k aC
   have gx:=eX d
   have kx:=λK=>aH.k (h l[k] (dK d)) K
   generalize l[k]=x at *
   simp only[↓zA,sevalprocAttr,aCn,f0,f1,f5,ho,ba,d,gx,hw,kx,bn]
  .simp only[↓zA,sevalprocAttr,aCn,f0,f1,f5,ho,ba,d]
def aCm:=ai (gz @Tryz.f43.eq_1 @zq @baE @a4Z @a4Y @aNa @a0p @aNb @er) (gz @eo @bF @aci @P3 @Q3 @P9 @Q9 @zT0 (kf aZi))
def asy(l:List Fm)(hl:l.length<=4611686018427387903)(h1:∀ x∈l,aFM x.sb)(h2:∀ x∈l,aNL x.ks)(h3:∀ x∈l,atj x.on):G1 43 [.of (slC fmC l),.of (slC fmC l)] (aM true):=by
 refine bB aZi ?_
 simp only[↓zA,sevalprocAttr,aCm]
 refine abJ l.length (λk s=>s.fr 0=.of (slC fmC l)/\s.fr 1=.of (slC fmC l)/\s.fr 5=aQ k/\s.objs=[]) ?_ ?_
 .simp only[↓zA,sevalprocAttr,aCm]
  try exact rfl
 .rintro k ⟨fr,ob,ck⟩ hk ⟨f0,f1,f5,ho⟩
  dsimp only at f0 f1 f5 ho
  by_cases d:k<l.length
  .have hw:=fq k aC
   have gx:=eX d
   have k1:=λK=>aH.k (h1 l[k] (dK d)) K
   have k2:=λK=>aH.k (h2 l[k] (dK d)) K
   have k3:=λK=>aH.k (h3 l[k] (dK d)) K
   generalize l[k]=x at *
   simp only[↓zA,sevalprocAttr,aCm,f0,f1,f5,ho,ba,d,gx,hw,k1,k2,k3,bn]
  .simp only[↓zA,sevalprocAttr,aCm,f0,f1,f5,ho,ba,d]
def a8F:=gj (gu @zq @a4X @a4W @aNa @bbX @a0p @bbW) (gu @aNb @eo @acb @er @agB @bF @P3) (gp @Q3 @P4 @Q4 @zT0 (kf aZt))
def apJ(a:Qy)(hl:a.od.length<=4611686018427387903)(i0:aFM a.ks)(i1:a08 a.its)(i2:aNL a.fr)(i3:atj a.wh)(i4:atj a.gr)(i5:atj a.hv):G1 16 [.of (.agg (qyC a)),.of (.agg (qyC a))] (aM true):=by
 have k0:=λK=>aH.k i0 K
 have k1:=λK=>aH.k i1 K
 have k2:=λK=>aH.k i2 K
 have k3:=λK=>aH.k i3 K
 have k4:=λK=>aH.k i4 K
 have k5:=λK=>aH.k i5 K
 have k6:=λK=>aH.k (aqM a.od hl) K
 refine bB aZt ?_
 simp only[Tryz.f16,↓zA,sevalprocAttr,a8F,k0,k1,k2,k3,k4,k5,k6,bn]
theorem ajq:∀ n,n<=WL->(∀ a,xpW a<=n->G1 13 [.of (.agg (xpC a)),.of (.agg (xpC a))] (aM true))/\(∀ a,qyW a<=n->G1 16 [.of (.agg (qyC a)),.of (.agg (qyC a))] (aM true))/\(∀ l,lsW fmW l<=n->aNL l)
 | 0,_=>⟨λe h=>by have:=af0 e;omega,λe h=>by have:=aiv e;omega,λl h=>by simp[lsW] at h⟩
 | n+1,hn=>by
  obtain⟨i1,i2,i3⟩:=ajq n aC
  have hn':n+1<=1152921504606846976:=hn
  have sX:∀ l:List Xp,lsW xpW l<=n+1->atj l:=λl h=>asA l (by have:=dL xpW l (λx _=>af0 x);omega) (λx hx=>i1 x (by have:=dC (w:=xpW) hx;omega))
  have sQ:∀ l:List Qy,lsW qyW l<=n+1->aFM l:=λl h=>apG l (by have:=dL qyW l (λx _=>aiv x);omega) (λx hx=>i2 x (by have:=dC (w:=qyW) hx;omega))
  have sI:∀ l:List Im,lsW imW l<=n+1->a08 l:=λl h=>asw l (by have:=dL imW l (λx _=>ajA x);omega) (λx hx=>i1 x.e (by have:=dC (w:=imW) hx;have:=akj x;omega))
  refine⟨λe h=>?_,λe h=>?_,λl h=>?_⟩
  .have h':=aiI e
   exact aqN e (sX _ aC) (sQ _ aC)
  .have h':=ahz e
   exact apJ e (by have:=dL odW e.od (λx _=>by simp[odW]);omega) (sQ _ aC) (sI _ aC) (i3 _ aC) (sX _ aC) (sX _ aC) (sX _ aC)
  .refine asy l (by have:=dL fmW l (λx _=>agb x);omega) (λx hx=>sQ _ ?_) (λx hx=>i3 _ ?_) (λx hx=>sX _ ?_) <;> (have h1:=dC (w:=fmW) hx;have h2:=afN x;omega)
def aJF:Xp:=.mk 1 ⟨2,2,ByteArray.empty⟩ [] [] false [] []
def exA:Xp:=cR 5 [aij [] [97],cR 7 [aJF,aij [] [98]]]
def exD:Sm:=smK 3 [116] [] [] false
def bbm:adg [97,32,43,32,50,32,42,32,98]=some (exA,0,0):=by kernel_rfl
def bbl:adg [97,32,61,32,98,32,61,32,99]=some (x0,6,2):=by kernel_rfl
def bbk:alA [115,101,108,101,99,116]=some (y0,6,3):=by kernel_rfl
def bbj:aow [100,114,111,112,32,116,97,98,108,101,32,116]=some (exD,0,0):=by kernel_rfl
def bbi:aiK [98,101,103,105,110,59,32,99,111,109,109,105,116,59]=some ([(smK 8 [] [] [] false,0),(smK 9 [] [] [] false,2)],0,0):=by kernel_rfl
def bbh:ajM (akH [98,101,103,105,110,59,32,99,111,109,109,105,116,59]) [(smK 8 [] [] [] false,0),(smK 9 [] [] [] false,2)] []=([smK 8 [] [] [] false,smK 9 [] [] [] false],0,0):=by kernel_rfl
def a8C:=gp @zq @a3W @aiG @zT0 (kf aZn)
def aCB(n:Int):G1 28 [aQ n] (.of (.agg (ahV ⟨2,n,ByteArray.empty⟩))):=by
 refine bB aZn ?_
 simp only[Tryz.f28,↓zA,sevalprocAttr,a8C]
 try rfl
def a8B:=gp @zq @mt7 @bF @zT0 (kf aZm)
def api(s:List UInt8):G1 29 [.of (aG (aK s))] (xpE (aij [] s)):=by
 refine bB aZm ?_
 simp only[Tryz.f29,↓zA,sevalprocAttr,a8B]
 try rfl
def a83(a b:Xp):slC xpC [a,b]=.sl (xpC a++xpC b) 2:=by simp[slC,fl]
def a8D:=gv @zq @bav @bau @bat @bF @eZ @zT0 (kf aZo)
def apC(o:Int)(a b:Xp):G1 27 [aQ o,xpE a,xpE b] (xpE (cR o [a,b])):=by
 unfold xpE
 rw[eU a,eU b]
 refine bB aZo ?_
 simp only[Tryz.f27,↓zA,sevalprocAttr,a8D,aur]
 rw[eU (cR o [a,b])]
 simp only[cR,Xp.ks,Xp.op,Xp.v,Xp.tb,Xp.nm,Xp.di,Xp.sb,a83,eU,av7]
 rfl
def xCa:Xp:=aij [] [97]
def xCb:Xp:=aij [] [98]
def exB:Xp:=cR 7 [aJF,xCb]
def a8J:=gj (gz @zq @a0t @bas @bar @bb5 @baq @bb1 @bap @bb3) (gz @bao @bb2 @mp4 @bb0 @a0q @aE3 @bF @eo @aca) (gu @awb @P3 @Q3 @P9 @Q9 @zT0 (kf aZx))
def aFq:H1 10 [] (aM true):=by
 have k1:∀ K,aba Tryz.prog pr2 11 [.of (aG {data:=#[97,32,43,32,50,32,42,32,98]})] [] K↔K ⟨false,[xpE exA,aQ 0,aQ 0],[]⟩:=λK=>aH.k (agU [97,32,43,32,50,32,42,32,98] aI bbm) K
 have k2:∀ K,aba Tryz.prog pr2 11 [.of (aG {data:=#[97,32,61,32,98,32,61,32,99]})] [] K↔K ⟨false,[xpE x0,aQ 6,aQ 2],[]⟩:=λK=>aH.k (agU [97,32,61,32,98,32,61,32,99] aI bbl) K
 have k3:∀ K,aba Tryz.prog pr2 14 [.of (aG {data:=#[115,101,108,101,99,116]})] [] K↔K ⟨false,[qyE y0,aQ 6,aQ 3],[]⟩:=λK=>aH.k (aKX [115,101,108,101,99,116] aI bbk) K
 have k4:∀ K,aba Tryz.prog pr2 17 [.of (aG {data:=#[100,114,111,112,32,116,97,98,108,101,32,116]})] [] K↔K ⟨false,[smE exD,aQ 0,aQ 0],[]⟩:=λK=>aH.k (aKW [100,114,111,112,32,116,97,98,108,101,32,116] aI bbj) K
 have k5:∀ K,aba Tryz.prog pr2 20 [.of (aG {data:=#[98,101,103,105,110,59,32,99,111,109,109,105,116,59]})] [] K↔K ⟨false,[.of (slC smC [smK 8 [] [] [] false,smK 9 [] [] [] false]),aQ 0,aQ 0],[]⟩:=λK=>aH.k (auR [98,101,103,105,110,59,32,99,111,109,109,105,116,59] aI bbi ([smK 8 [] [] [] false,smK 9 [] [] [] false],0,0) (Eq.trans (au rfl) bbh)) K
 have k6:∀ K,aba Tryz.prog pr2 29 [.of (aG {data:=#[97]})] [] K↔K ⟨false,[xpE xCa],[]⟩:=λK=>aH.k (ahF (api [97])) K
 have k7:∀ K,aba Tryz.prog pr2 29 [.of (aG {data:=#[98]})] [] K↔K ⟨false,[xpE xCb],[]⟩:=λK=>aH.k (ahF (api [98])) K
 have k8:∀ K,aba Tryz.prog pr2 27 [.of (.lit (.int .i64 7)),.of (.agg [.lit (.int .i64 1),ci 2,ci 2,aG {data:=#[]},.lit (.string {data:=#[]}),.lit (.string {data:=#[]}),.lit (.bool false),.sl [] 0,.sl [] 0]),xpE xCb] [] K↔K ⟨false,[xpE exB],[]⟩:=λK=>aH.k (ahF (apC 7 aJF xCb)) K
 have k9:∀ K,aba Tryz.prog pr2 27 [aQ 5,xpE xCa,xpE exB] [] K↔K ⟨false,[xpE exA],[]⟩:=λK=>aH.k (ahF (apC 5 xCa exB)) K
 have kS:=λK=>aH.k (ahF ((ajq WL (ae _)).1 exA aI)) K
 have kN:∀ K,aba Tryz.prog pr2 28 [.of (ci 2)] [] K↔K ⟨false,[.of (.agg [ci 2,ci 2,aG {data:=#[]}])],[]⟩:=λK=>aH.k (ahF (aCB 2)) K
 have d1:exD.kd=3:=rfl
 have d2:aK exD.tb={data:=#[116]}:=rfl
 have d3:(smK 9 [] [] [] false).kd=9:=rfl
 refine bB2 aZx ?_
 simp only[Tryz.f10,↓zA,sevalprocAttr,a8J,ack,afA,afz,k1,k2,k3,k4,k5,k6,k7,k8,k9,kS,kN,aiG,d1,d2]
 rfl
def ajU(K:An->Prop):aba Tryz.prog pr2 10 [] [] K↔K ⟨false,[aM true],[]⟩:=aH.k aFq K
end Go.Proofs.YtghkmcffifpkeaaGreat
namespace Go.Tab
open Pe
inductive Lx (s:List UInt8):Nat->List Tn->Prop
 | nil {i:Nat} (h:(fm s i).2=0) (hk:(fm s i).1.k=0):Lx s i []
 | cons {i:Nat} {t:Tn} {L:List Tn} (h:fm s i=(t,0)) (hk:t.k≠0) (hr:Lx s (t.pl+t.sz).toNat L):Lx s i (t::L)
theorem at3{s:List UInt8}:∀ (n:Nat) (o:List Tn) (i:Nat) (r:List Tn) (p:Int),agR s n o i=some (r,p,0)->p=0/\∃ L,r=o++L/\Lx s i L
 | 0,_,_,_,_,h=>by cases h
 | n+1,o,i,r,p,h=>by
  unfold agR at h
  split at h
  .rename_i e
   simp only[bD] at h
   exact absurd h.2.2 e
  .rename_i e
   have e:(fm s i).2=0:=by simpa using e
   split at h
   .rename_i k
    cases h
    exact⟨rfl,[],by simp,.nil e k⟩
   .rename_i k
    obtain⟨hp,L,hL,q⟩:=at3 n _ _ _ _ h
    exact⟨hp,(fm s i).1::L,by rw[hL];simp,.cons (ake rfl e) k q⟩
def aF9{s:List UInt8}{i:Nat}{L:List Tn}(h:Lx s i L):∀ (n:Nat) (o:List Tn),L.length<n->agR s n o i=some (o++L,0,0):=by
 induction h with
 | nil h hk =>
  intro n o hn
  cases n with
  | zero=>cases hn
  | succ n=>unfold agR;rw[ar (by simpa using h),au hk];simp
 | cons h hk hr ih =>
  intro n o hn
  cases n with
  | zero=>cases hn
  | succ n =>
   unfold agR
   rw[h]
   rw[ar aT,ar hk,ih n _ (by simpa using hn)]
   simp
def aXS{s:List UInt8}{i:Nat}{L:List Tn}(h:Lx s i L):i<=s.length->L.length+i<=s.length:=by
 induction h with
 | nil h hk=>intro hi;simpa using hi
 | cons h hk hr ih =>
  intro hi
  rcases alH hi h with q|⟨j,hj,q⟩
  .exact absurd q hk
  .have h1:=q.pl;have h2:=q.sz
   have:=ih aC
   simp only[aN]
   omega
def ar5{s:List UInt8}{l:List Tn}{p:Int}(h:abv s=some (l,p,0)):s.length<=2000/\p=0/\Lx s 0 l:=by
 unfold abv at h
 split at h
 .cases h
 .obtain⟨hp,L,hL,q⟩:=at3 _ _ _ _ _ h
  rw[ch] at hL
  subst hL
  exact⟨by omega,hp,q⟩
def aBj{s:List UInt8}{l:List Tn}(hs:s.length<=2000)(h:Lx s 0 l):abv s=some (l,0,0):=by
 unfold abv
 rw[ar aC,aF9 h _ _ (by have:=aXS h (aU _);omega)]
 rfl
theorem awu{α:Type}{p:α->Bool}{c:α}(hc:p c=false)(t:List α):∀ a:List α,(a++c::t).takeWhile p=a.takeWhile p
 | []=>by rw[ch,cE,hc];rfl
 | x::r=>by
  rw[cQ,cE,cE]
  split
  .rw[awu hc t r]
  .rfl
theorem aOi{α:Type}{p:α->Bool}(t:List α):∀ a:List α,(∃ x∈a,p x=false)->(a++t).takeWhile p=a.takeWhile p
 | [],h=>by obtain⟨x,hx,_⟩:=h;cases hx
 | x::r,h=>by
  rw[cQ,cE,cE]
  split
  .rename_i hx
   rw[aOi t r]
   obtain⟨y,hy,hq⟩:=h
   rcases bj.1 hy with e|hy
   .rw[e,hx] at hq;cases hq
   .exact⟨y,hy,hq⟩
  .rfl
theorem anf{c:UInt8}(hc:c≠39)(t:List UInt8):∀ (r:List UInt8) (q:List UInt8×Nat),acc r=some q->acc (r++c::t)=some q
 | [],_,h=>by cases h
 | [a],q,h=>by
  simp only[acc] at h
  split at h
  .rename_i e
   show acc (a::c::t)=_
   simp only[acc,au e,ar hc]
   exact h
  .cases h
 | a::b::r,q,h=>by
  simp only[acc] at h
  show acc (a::b::(r++c::t))=_
  simp only[acc]
  split at h
  .rename_i e
   rw[au e]
   split at h
   .rename_i e2
    rw[au e2]
    obtain⟨q',h1,h2⟩:=ap.1 h
    rw[anf hc t r q' h1]
    exact congrArg some h2
   .rename_i e2
    rw[ar e2]
    exact h
  .rename_i e
   rw[ar e]
   obtain⟨q',h1,h2⟩:=ap.1 h
   have:=anf hc t (b::r) q' h1
   rw[cQ] at this
   rw[this]
   exact congrArg some h2
def ao3{c:UInt8}(h:aeq c=true):c=32\/c=9\/c=10\/c=13:=by
 unfold aeq at h
 simpa using h
def aSX{c:UInt8}(hc:aeq c=true)(i:Nat)(a:UInt8)(r t:List UInt8):lxG i a (r++c::t).head?=lxG i a r.head?:=by
 cases r with
 | cons b r=>rfl
 | nil =>
  show lxG i a (some c)=lxG i a none
  unfold lxG
  rcases ao3 hc with rfl|rfl|rfl|rfl <;> simp
def aJH{i:Nat}{l:List UInt8}{k:Tn}(h:acH i l=(k,0))(hk:k.k≠0){c:UInt8}(hc:aeq c=true)(t:List UInt8):acH i (l++c::t)=(k,0):=by
 have hl:acX c=false:=by rcases ao3 hc with rfl|rfl|rfl|rfl <;> decide
 have hd:cJ c=false:=by rcases ao3 hc with rfl|rfl|rfl|rfl <;> decide
 have h39:c≠39:=by rcases ao3 hc with rfl|rfl|rfl|rfl <;> decide
 cases l with
 | nil=>simp only[acH,aY] at h;rw[← h.1] at hk;exact absurd rfl hk
 | cons a r =>
  rw[← h]
  show acH i (a::(r++c::t))=_
  simp only[acH] at h ⊢
  split
  .rw[show a::(r++c::t)=(a::r)++c::t from rfl,awu (by simp[hl,hd])]
  split
  .rw[show a::(r++c::t)=(a::r)++c::t from rfl,awu hd]
  split
  .rename_i e1 e2 e3
   rw[ar e1,ar e2,au e3] at h
   unfold aj4 at h ⊢
   split at h
   .rename_i hq
    have hm:(34:UInt8)∈r:=by simpa using hq
    rw[au (by simp[hm]),au hq,aOi _ _ ⟨34,hm,by simp⟩]
   .simp at h
  split
  .rename_i e1 e2 e3 e4
   rw[ar e1,ar e2,ar e3,au e4] at h
   unfold ak8 at h ⊢
   split at h
   .simp at h
   .rename_i w n e
    rw[anf h39 t _ _ e]
  .exact aSX hc i a r t
theorem ah0(t:List UInt8):∀ (l:List UInt8) (b:Bool),(cU b l<l.length->cU b (l++10::t)=cU b l)/\(cU b l=l.length->cU b (l++10::t)=l.length+1+cU false t)
 | [],b=>by
  refine⟨λh=>by cases b <;> simp[cU] at h,λ_=>?_⟩
  cases b
  .show cU false (10::t)=_
   simp only[cU]
   rw[au aI]
   simp only[aR];omega
  .show cU true (10::t)=_
   simp only[cU]
   simp only[am,aR];omega
 | c::r,true=>by
  have h1:=ah0 t r true
  have h2:=ah0 t r false
  show (cU true (c::r)<_->cU true (c::(r++10::t))=_)/\(_->cU true (c::(r++10::t))=_)
  simp only[cU,aN]
  split
  .refine⟨λh=>?_,λh=>?_⟩
   .rw[h2.1 aC]
   .rw[h2.2 aC];omega
  .refine⟨λh=>?_,λh=>?_⟩
   .rw[h1.1 aC]
   .rw[h1.2 aC];omega
 | c::r,false=>by
  have h1:=ah0 t r true
  have h2:=ah0 t r false
  show (cU false (c::r)<_->cU false (c::(r++10::t))=_)/\(_->cU false (c::(r++10::t))=_)
  have hh:((r++10::t).head?=some 45)=(r.head?=some 45):=by
   cases r with
   | nil=>simp
   | cons b r=>rfl
  simp only[cU,aN,hh]
  split
  .refine⟨λh=>?_,λh=>?_⟩
   .rw[h2.1 aC]
   .rw[h2.2 aC];omega
  split
  .refine⟨λh=>?_,λh=>?_⟩
   .rw[h1.1 aC]
   .rw[h1.2 aC];omega
  .exact⟨λ_=>rfl,λh=>by omega⟩
def aVM{i:Nat}{l:List UInt8}(h:(acH i l).2=0)(hk:(acH i l).1.k=0):l=[]:=by
 rcases aF8 (i:=i) (l:=l) (t:=(acH i l).1) (ake rfl h) with q|q
 .exact q.2
 .rcases q.k with e|e|e|e|e <;> rw[hk] at e <;> cases e
def aLi{s:List UInt8}{i:Nat}(hi:i<=s.length)(t:List UInt8){k:Tn}(h:fm s i=(k,0))(hk:k.k≠0):fm (s++10::t) i=(k,0):=by
 unfold fm at h ⊢
 rw[aap hi]
 have hlt:cU false (s.drop i)<(s.drop i).length:=by
  rcases aA (cU false (s.drop i)) (s.drop i).length with q|q
  .exact q
  .rw[cP] at q
   have hd:s.drop (i+cU false (s.drop i))=[]:=aby aC
   rw[hd] at h
   simp only[acH,aY] at h
   rw[← h.1] at hk
   exact absurd rfl hk
 rw[(ah0 t _ false).1 hlt]
 rw[cP] at hlt
 rw[aap aC]
 exact aJH h hk aI t
def aLh{s:List UInt8}{i:Nat}(hi:i<=s.length)(t:List UInt8)(h:(fm s i).2=0)(hk:(fm s i).1.k=0):fm (s++10::t) i=fm (s++10::t) (s.length+1):=by
 have hn:=aVM h hk
 have h1:=ahZ false (s.drop i)
 have h2:=List.drop_eq_nil_iff.1 hn
 have hd:(s++10::t).drop (s.length+1)=t:=by rw[List.drop_append];simp
 unfold fm
 rw[hd,aap hi,(ah0 t _ false).2 (by rw[cP] at h1 ⊢;omega),cP]
 rw[show i+(s.length-i+1+cU false t)=s.length+1+cU false t by omega]
def aSW{s:List UInt8}{i j:Nat}{L:List Tn}(h:Lx s j L)(e:fm s i=fm s j):Lx s i L:=by
 cases h with
 | nil h hk=>exact .nil (by rw[e];exact h) (by rw[e];exact hk)
 | cons h hk hr=>exact .cons (by rw[e];exact h) hk hr
def aXT{s t:List UInt8}{i:Nat}{L M:List Tn}(h:Lx s i L)(hM:Lx (s++10::t) (s.length+1) M):i<=s.length->Lx (s++10::t) i (L++M):=by
 induction h with
 | nil h hk=>intro hi;exact aSW hM (aLh hi t h hk)
 | cons h hk hr ih =>
  intro hi
  refine .cons (aLi hi t h hk) hk (ih ?_)
  rcases alH hi h with q|⟨j,hj,q⟩
  .exact absurd q hk
  .have h1:=q.pl;have h2:=q.sz;omega
def shT(d:Nat)(t:Tn):Tn:=⟨t.k,t.pl+d,t.sz,t.n,t.s⟩
def aRw(d i:Nat)(l:List UInt8):acH (d+i) l=(shT d (acH i l).1,(acH i l).2):=by
 have hb:ad4 (d+i)=shT d (ad4 i):=by simp[ad4,shT,Int.add_comm]
 have hm:∀ (k sz n:Int) (s:List UInt8),(⟨k,((d+i:Nat):Int),sz,n,s⟩ : Tn)=shT d ⟨k,i,sz,n,s⟩:=λk sz n s=>by simp[shT,Int.add_comm]
 cases l with
 | nil=>simp only[acH,hb]
 | cons c r =>
  simp only[acH]
  split
  .unfold lxW;split
   .simp only[hm]
   split <;> simp only[hm,hb]
  split
  .unfold ai7;split <;> simp only[hm,hb]
  split
  .unfold aj4;split
   .split
    .simp only[hb]
    split <;> simp only[hm,hb]
   .simp only[hb]
  split
  .unfold ak8;split
   .simp only[hb]
   .split
    .simp only[hb]
    split <;> simp only[hm,hb]
  .unfold lxG;split
   .simp only[hm]
   split <;> simp only[hm,hb]
def asM(pre t:List UInt8)(i:Nat):fm (pre++t) (pre.length+i)=(shT pre.length (fm t i).1,(fm t i).2):=by
 have hd:∀ j,(pre++t).drop (pre.length+j)=t.drop j:=λj=>by rw[List.drop_append];simp
 unfold fm
 rw[hd,bA,hd,aRw]
def aDE(pre:List UInt8){t:List UInt8}{i:Nat}{M:List Tn}(h:Lx t i M):i<=t.length->Lx (pre++t) (pre.length+i) (M.map (shT pre.length)):=by
 induction h with
 | nil h hk=>intro hi;exact .nil (by rw[asM];exact h) (by rw[asM];exact hk)
 | @cons i k L h hk hr ih =>
  intro hi
  rcases alH hi h with q|⟨j,hj,q⟩
  .exact absurd q hk
  .have h1:=q.pl;have h2:=q.sz
   refine .cons (t:=shT pre.length k) (by rw[asM,h]) hk ?_
   have:=ih aC
   rw[show ((shT pre.length k).pl+(shT pre.length k).sz).toNat=pre.length+(k.pl+k.sz).toNat by simp only[shT];omega]
   exact this
structure LocR (d:Nat) (l m:List Tn):Prop where
 le:l.length<=m.length
 is:∀ i w,isT m (d+i) w=isT l i w
 kd:∀ i k,bq m (d+i) k=bq l i k
 tx:∀ i,txT m (d+i)=txT l i
 nu:∀ i,nuT m (d+i)=nuT l i
def ShR{α:Type}(d:Nat)(x y:Rz α):Prop:=∀ a j b,x=some (a,j,b)->y=some (a,d+j,b)
section
variable {α β:Type} {d:Nat} {l m:List Tn} {i j:Nat}
theorem ShR.none{y:Rz α}:ShR d none y:=λ_ _ _ h=>by cases h
theorem ShR.mk{a:α}{j':Nat}{b:Bool}(h:j'=d+j):ShR d (some (a,j,b)) (some (a,j',b)):=λ_ _ _ e=>by cases e;rw[h]
theorem ShR.on{r r':Rz α}{g:α->β}{f f':α->Nat->Rz β}(h:ShR d r r')(hf:∀ a j,ShR d (f a j) (f' a (d+j))):ShR d (r.on g f) (r'.on g f'):=by
 intro a j b e
 unfold Rz.on at e
 split at e
 .cases e
 .cases e;rw[h _ _ _ rfl];rfl
 .rw[h _ _ _ rfl];exact hf _ _ _ _ _ e
theorem ShR.to{r r':Rz α}{g:α->β}(h:ShR d r r'):ShR d (r.to g) (r'.to g):=by
 intro a j b e
 unfold Rz.to at e
 split at e
 .cases e
 .cases e;rw[h _ _ _ rfl];rfl
theorem ShR.ite{c:Prop}[Decidable c]{A B A' B':Rz α}(hA:ShR d A A')(hB:ShR d B B'):ShR d (if c then A else B) (if c then A' else B'):=by
 by_cases h:c
 .rw[au h,au h];exact hA
 .rw[ar h,ar h];exact hB
theorem aAO(E:LocR d l m)(i:Nat)(w:List UInt8):bG m (d+i) w=(d+(bG l i w).1,(bG l i w).2):=by
 unfold bG;rw[E.is];split <;> rfl
theorem ShR.wR(E:LocR d l m){w:List UInt8}{x:β}{f f':Nat->Rz β}(hf:∀ j,ShR d (f j) (f' (d+j))):ShR d (wantR (bG l i w) x f) (wantR (bG m (d+i) w) x f'):=by
 rw[aAO E]
 generalize bG l i w=p
 obtain⟨j,b⟩:=p
 cases b with
 | true=>exact .mk rfl
 | false=>exact hf j
theorem ShR.wE(E:LocR d l m){w:List UInt8}{x:β}:ShR d (wantE (bG l i w) x) (wantE (bG m (d+i) w) x):=by
 rw[aAO E];exact .mk rfl
theorem awk(E:LocR d l m):∀ (ws:List (List UInt8)) (i:Nat),dG m (d+i) ws=(d+(dG l i ws).1,(dG l i ws).2)
 | [],i=>rfl
 | w::r,i=>by
  unfold dG;rw[E.is]
  split
  .exact awk E r (i+1)
  .rfl
theorem ShR.wsR(E:LocR d l m){ws:List (List UInt8)}{x:β}{f f':Nat->Rz β}(hf:∀ j,ShR d (f j) (f' (d+j))):ShR d (wantR (dG l i ws) x f) (wantR (dG m (d+i) ws) x f'):=by
 rw[awk E]
 generalize dG l i ws=p
 obtain⟨j,b⟩:=p
 cases b with
 | true=>exact .mk rfl
 | false=>exact hf j
theorem aoK(E:LocR d l m)(i:Nat):bT m (d+i)=((bT l i).1,d+(bT l i).2.1,(bT l i).2.2):=by
 unfold bT;rw[E.kd,E.tx];split <;> rfl
theorem ShR.nR(E:LocR d l m){g:List UInt8->β}{f f':List UInt8->Nat->Rz β}(hf:∀ s j,ShR d (f s j) (f' s (d+j))):ShR d (nameR (bT l i) g f) (nameR (bT m (d+i)) g f'):=by
 rw[aoK E]
 generalize bT l i=p
 obtain⟨s,j,b⟩:=p
 cases b with
 | true=>exact .mk rfl
 | false=>exact hf s j
theorem arP(E:LocR d l m)(i:Nat):∀ ws:List (List UInt8),ca m (d+i) ws=ca l i ws
 | []=>rfl
 | w::r=>by unfold ca;rw[E.is,arP E i r]
theorem aoD(E:LocR d l m)(i:Nat):∀ so:List (List UInt8×Int),opT m (d+i) so=opT l i so
 | []=>rfl
 | (w,k)::r=>by unfold opT;rw[E.is,aoD E i r]
theorem ayj(E:LocR d l m)(i:Nat):abe m (d+i)=abe l i:=by unfold abe;simp only[E.is,E.kd,E.tx,E.nu]
theorem aTk(E:LocR d l m)(i:Nat):adf m (d+i)=adf l i:=arP E i _
theorem aVI(E:LocR d l m)(i:Nat):awt m (d+i)=awt l i:=aoD E i _
theorem aBt(E:LocR d l m)(i:Nat):acR m (d+i)=acR l i:=by unfold acR;simp only[E.is]
theorem ayR(E:LocR d l m)(i:Nat):eF m (d+i)=((eF l i).1,d+(eF l i).2.1,(eF l i).2.2):=by
 unfold eF
 rw[E.is,E.kd,E.tx]
 split
 .exact aoK E (i+1)
 split <;> rfl
end
structure SF (d:Nat) (F G:Fs):Prop where
 or:∀ {i p},ShR d (F.or i p) (G.or (d+i) p)
 no:∀ {i},ShR d (F.no i) (G.no (d+i))
 un:∀ {i},ShR d (F.un i) (G.un (d+i))
 qy:∀ {i p},ShR d (F.qy i p) (G.qy (d+i) p)
 ins:∀ {i},ShR d (F.ins i) (G.ins (d+i))
 fr:∀ {i p},ShR d (F.fr i p) (G.fr (d+i) p)
 so:∀ {i},ShR d (F.so i) (G.so (d+i))
section
variable {d:Nat} {l m:List Tn} {F G:Fs}
def zS(E:LocR d l m):=ai (gq @bA E.is E.kd E.tx E.nu (arP E)) (gq (aoD E) (ayj E) (aTk E) (aVI E) (aBt E) (ayR E))
theorem aw5(E:LocR d l m)(H:SF d F G){i:Nat}:ShR d (aeh F l i) (aeh G m (d+i)):=by
 unfold aeh
 repeat' (first|exact .none|exact .mk rfl|exact H.ins|refine .ite ?_ ?_|refine .on ?_ λ_ _=>?_|refine .to ?_|exact .wE E|simp only[zS E,Nat.reduceAdd])
theorem aBn(E:LocR d l m)(H:SF d F G):∀ (n n':Nat),n<=n'->∀ (i:Nat) (ks:List Xp),ShR d (acy F l n ks i) (acy G m n' ks (d+i))
 | 0,_,_,_,_=>.none
 | n+1,0,h,_,_=>by omega
 | n+1,n'+1,h,i,ks=>by
  have ih:=aBn E H n n' aC
  unfold acy
  repeat' (first|exact .none|exact .mk rfl|exact H.or|exact ih _ _|refine .ite ?_ ?_|refine .on ?_ λ_ _=>?_|refine .to ?_|simp only[zS E])
theorem aBl(E:LocR d l m)(H:SF d F G){i:Nat}:ShR d (aaE F l i) (aaE G m (d+i)):=by
 unfold aaE
 repeat' (first|exact .none|exact .mk rfl|exact H.or|exact aBn E H _ _ (by have:=E.le;omega) _ _|refine .ite ?_ ?_|refine .on ?_ λ_ _=>?_|refine .to ?_|simp only[zS E,Nat.reduceAdd])
theorem aUs(E:LocR d l m)(H:SF d F G){i:Nat}{ks:List Xp}:ShR d (afn l ks i) (afn m ks (d+i)):=by
 unfold afn
 repeat' (first|exact .none|exact .mk rfl|refine .ite ?_ ?_|refine .on ?_ λ_ _=>?_|refine .to ?_|exact .wE E|simp only[zS E,Nat.reduceAdd])
theorem aUq(E:LocR d l m)(H:SF d F G){i:Nat}{ks:List Xp}:ShR d (agH F l ks i) (agH G m ks (d+i)):=by
 unfold agH
 repeat' (first|exact .none|exact .mk rfl|exact H.or|exact aUs E H|refine .ite ?_ ?_|refine .on ?_ λ_ _=>?_|refine .to ?_|simp only[zS E])
theorem aBS(E:LocR d l m)(H:SF d F G):∀ (n n':Nat),n<=n'->∀ (i:Nat) (ks:List Xp),ShR d (adW F l n ks i) (adW G m n' ks (d+i))
 | 0,_,_,_,_=>.none
 | n+1,0,h,_,_=>by omega
 | n+1,n'+1,h,i,ks=>by
  have ih:=aBS E H n n' aC
  unfold adW
  repeat' (first|exact .none|exact .mk rfl|exact H.or|exact ih _ _|exact aUq E H|refine .ite ?_ ?_|refine .on ?_ λ_ _=>?_|refine .to ?_|refine .wR E λ_=>?_|simp only[zS E])
theorem aUo(E:LocR d l m)(H:SF d F G){i:Nat}:ShR d (afm F l i) (afm G m (d+i)):=by
 unfold afm
 repeat' (first|exact .none|exact .mk rfl|exact aBS E H _ _ (by have:=E.le;omega) _ _|refine .ite ?_ ?_|refine .on ?_ λ_ _=>?_|refine .to ?_|simp only[zS E])
theorem a0K(E:LocR d l m)(H:SF d F G){i:Nat}{f:List UInt8}{di:Bool}:ShR d (akv F l i f di) (akv G m (d+i) f di):=by
 unfold akv
 repeat' (first|exact .none|exact .mk rfl|exact H.or|refine .ite ?_ ?_|refine .on ?_ λ_ _=>?_|refine .to ?_|exact .wE E|simp only[zS E,Nat.reduceAdd])
theorem aUt(E:LocR d l m)(H:SF d F G){i:Nat}{f:List UInt8}:ShR d (callS F l i f) (callS G m (d+i) f):=by
 unfold callS
 repeat' (first|exact .none|exact .mk rfl|exact aBl E H|exact a0K E H|refine .ite ?_ ?_|refine .on ?_ λ_ _=>?_|refine .to ?_|exact .wE E|simp only[zS E])
theorem aMP(E:LocR d l m)(H:SF d F G){i:Nat}:ShR d (afP F l i) (afP G m (d+i)):=by
 unfold afP
 repeat' (first|exact .none|exact .mk rfl|exact H.qy|refine .ite ?_ ?_|refine .on ?_ λ_ _=>?_|refine .to ?_|exact .wE E|refine .wR E λ_=>?_|simp only[zS E,Nat.reduceAdd])
theorem aR9(E:LocR d l m)(H:SF d F G){i:Nat}:ShR d (ac4 F l i) (ac4 G m (d+i)):=by
 unfold ac4
 rw[ayj E];cases abe l i <;> dsimp only
 repeat' (first|exact .none|exact .mk rfl|exact aw5 E H|exact aUo E H|exact aUt E H|exact aMP E H|refine .ite ?_ ?_|refine .on ?_ λ_ _=>?_|refine .to ?_|simp only[zS E]|simp only[aoK E])
theorem aF4(E:LocR d l m)(H:SF d F G){i:Nat}{p:List Xp}:ShR d (abz F l i p) (abz G m (d+i) p):=by
 cases p with
 | cons x r=>exact .mk rfl
 | nil =>
  unfold abz
  repeat' (first|exact .none|exact .mk rfl|exact H.un|exact aR9 E H|refine .ite ?_ ?_|refine .on ?_ λ_ _=>?_|refine .to ?_|simp only[zS E])
theorem aHH(E:LocR d l m){nx nx':Nat->List Xp->Rz Xp}(N:∀ {i p},ShR d (nx i p) (nx' (d+i) p))(so:List (List UInt8×Int)):∀ (n n':Nat) (a:Xp) {i:Nat},n<=n'->ShR d (act nx l so n a i) (act nx' m so n' a (d+i))
 | 0,_,_,_,_=>.none
 | n+1,0,_,_,h=>by omega
 | n+1,n'+1,a,i,h=>by
  unfold act
  rw[aoD E]
  cases opT l i so with
  | none=>exact .mk rfl
  | some k=>exact .on N λ_ _=>aHH E N so n n' _ aC
theorem anK(E:LocR d l m){nx nx':Nat->List Xp->Rz Xp}(N:∀ {i p},ShR d (nx i p) (nx' (d+i) p)){so:List (List UInt8×Int)}{i:Nat}{p:List Xp}:ShR d (acr nx l so i p) (acr nx' m so (d+i) p) :=
 .on N λ_ _=>aHH E N so _ _ _ (by have:=E.le;omega)
theorem aXN(E:LocR d l m)(H:SF d F G){i:Nat}{p:List Xp}:ShR d (agX F l i p) (agX G m (d+i) p):=anK E (aF4 E H)
theorem a0O(E:LocR d l m)(H:SF d F G){i:Nat}{p:List Xp}:ShR d (ag6 F l i p) (ag6 G m (d+i) p):=anK E (aXN E H)
theorem ayt(E:LocR d l m)(H:SF d F G){i:Nat}{p:List Xp}:ShR d (aan F l i p) (aan G m (d+i) p):=anK E (a0O E H)
theorem aO6(E:LocR d l m)(H:SF d F G):∀ (n n':Nat),n<=n'->∀ (i:Nat) (a:Xp) (ks:List Xp),ShR d (inL F l a n ks i) (inL G m a n' ks (d+i))
 | 0,_,_,_,_,_=>.none
 | n+1,0,h,_,_,_=>by omega
 | n+1,n'+1,h,i,a,ks=>by
  have ih:=aO6 E H n n' aC
  unfold inL
  repeat' (first|exact .none|exact .mk rfl|exact H.or|exact ih _ _ _|refine .ite ?_ ?_|refine .on ?_ λ_ _=>?_|refine .to ?_|exact .wE E|simp only[zS E])
theorem a5A(E:LocR d l m)(H:SF d F G){i:Nat}{a:Xp}:ShR d (inS F l i a) (inS G m (d+i) a):=by
 unfold inS
 repeat' (first|exact .none|exact .mk rfl|exact H.ins|exact aO6 E H _ _ (by have:=E.le;omega) _ _ _|refine .ite ?_ ?_|refine .on ?_ λ_ _=>?_|refine .to ?_|exact .wE E|refine .wR E λ_=>?_|simp only[zS E,Nat.reduceAdd])
theorem aSZ(E:LocR d l m)(H:SF d F G){i:Nat}{no:Bool}{a:Xp}:ShR d (abx F l no i a) (abx G m no (d+i) a):=by
 unfold abx
 repeat' (first|exact .none|exact .mk rfl|exact ayt E H|exact a5A E H|refine .ite ?_ ?_|refine .on ?_ λ_ _=>?_|refine .to ?_|refine .wR E λ_=>?_|simp only[zS E])
theorem a5z(E:LocR d l m)(H:SF d F G){i:Nat}{no:Bool}{a:Xp}:ShR d (isS l no i a) (isS m no (d+i) a):=by
 unfold isS
 repeat' (first|exact .none|exact .mk rfl|refine .ite ?_ ?_|refine .on ?_ λ_ _=>?_|refine .to ?_|exact .wE E|simp only[zS E,Nat.reduceAdd])
theorem a0c(E:LocR d l m)(H:SF d F G){i:Nat}{a:Xp}:ShR d (abN F l i a) (abN G m (d+i) a):=by
 unfold abN
 rw[aoD E];cases opT l i agp <;> dsimp only
 repeat' (first|exact .none|exact .mk rfl|exact ayt E H|exact aSZ E H|exact a5z E H|refine .ite ?_ ?_|refine .on ?_ λ_ _=>?_|refine .to ?_|simp only[zS E])
theorem aHk(E:LocR d l m)(H:SF d F G){i:Nat}{p:List Xp}:ShR d (ab6 F l i p) (ab6 G m (d+i) p):=by
 unfold ab6
 repeat' (first|exact .none|exact .mk rfl|exact H.no|exact ayt E H|exact a0c E H|refine .ite ?_ ?_|refine .on ?_ λ_ _=>?_|refine .to ?_|simp only[zS E])
theorem a0H(E:LocR d l m)(H:SF d F G){i:Nat}{p:List Xp}:ShR d (ain F l i p) (ain G m (d+i) p):=anK E (aHk E H)
theorem a3F(E:LocR d l m)(H:SF d F G){i:Nat}{p:List Xp}:ShR d (orS F l i p) (orS G m (d+i) p):=anK E (a0H E H)
theorem aYd(E:LocR d l m)(H:SF d F G){i:Nat}:ShR d (ag2 F l i) (ag2 G m (d+i)):=by
 unfold ag2
 repeat' (first|exact .none|exact .mk rfl|exact H.or|exact H.qy|exact aw5 E H|refine .ite ?_ ?_|refine .on ?_ λ_ _=>?_|refine .to ?_|simp only[zS E])
theorem aTc(E:LocR d l m)(H:SF d F G){i:Nat}:ShR d (adP F l i) (adP G m (d+i)):=by
 unfold adP
 repeat' (first|exact .none|exact .mk rfl|exact H.or|refine .ite ?_ ?_|refine .on ?_ λ_ _=>?_|refine .to ?_|simp only[zS E])
theorem auj(E:LocR d l m)(H:SF d F G){i:Nat}{w:List UInt8}:ShR d (aav F l i w) (aav G m (d+i) w):=by
 unfold aav
 repeat' (first|exact .none|exact .mk rfl|exact H.or|refine .ite ?_ ?_|refine .on ?_ λ_ _=>?_|refine .to ?_|simp only[zS E])
theorem aWn(E:LocR d l m)(H:SF d F G){i:Nat}{di:Bool}{its:List Im}{fr:List Fm}{wh:List Xp}{gr:List Xp}:ShR d (ahw F l di its fr wh gr i) (ahw G m di its fr wh gr (d+i)):=by
 unfold ahw
 repeat' (first|exact .none|exact .mk rfl|exact auj E H|refine .ite ?_ ?_|refine .on ?_ λ_ _=>?_|refine .to ?_|simp only[zS E,Nat.reduceAdd])
theorem aWo(E:LocR d l m)(H:SF d F G){i:Nat}{di:Bool}{its:List Im}{fr:List Fm}{wh:List Xp}:ShR d (ahx F l di its fr wh i) (ahx G m di its fr wh (d+i)):=by
 unfold ahx
 repeat' (first|exact .none|exact .mk rfl|exact aBl E H|exact aWn E H|refine .ite ?_ ?_|refine .on ?_ λ_ _=>?_|refine .to ?_|refine .wR E λ_=>?_|simp only[zS E])
theorem aWk(E:LocR d l m)(H:SF d F G){i:Nat}{di:Bool}{its:List Im}{fr:List Fm}:ShR d (ahu F l di its fr i) (ahu G m di its fr (d+i)):=by
 unfold ahu
 repeat' (first|exact .none|exact .mk rfl|exact auj E H|exact aWo E H|refine .ite ?_ ?_|refine .on ?_ λ_ _=>?_|refine .to ?_|simp only[zS E,Nat.reduceAdd])
theorem aWq(E:LocR d l m)(H:SF d F G){i:Nat}{di:Bool}{its:List Im}:ShR d (agT F l di its i) (agT G m di its (d+i)):=by
 unfold agT
 repeat' (first|exact .none|exact .mk rfl|exact H.fr|exact aWk E H|refine .ite ?_ ?_|refine .on ?_ λ_ _=>?_|refine .to ?_|simp only[zS E])
theorem aGB(E:LocR d l m)(H:SF d F G):∀ (n n':Nat),n<=n'->∀ (i:Nat) (di:Bool) (its:List Im),ShR d (afx F l di n its i) (afx G m di n' its (d+i))
 | 0,_,_,_,_,_=>.none
 | n+1,0,h,_,_,_=>by omega
 | n+1,n'+1,h,i,di,its=>by
  have ih:=aGB E H n n' aC
  unfold afx
  repeat' (first|exact .none|exact .mk rfl|exact ih _ _ _|exact aTc E H|exact aWq E H|refine .ite ?_ ?_|refine .on ?_ λ_ _=>?_|refine .to ?_|simp only[zS E])
theorem aWl(E:LocR d l m)(H:SF d F G){i:Nat}:ShR d (ai3 F l i) (ai3 G m (d+i)):=by
 unfold ai3
 repeat' (first|exact .none|exact .mk rfl|exact aGB E H _ _ (by have:=E.le;omega) _ _ _|refine .ite ?_ ?_|refine .on ?_ λ_ _=>?_|refine .to ?_|simp only[zS E])
theorem aSs(E:LocR d l m)(H:SF d F G){i:Nat}{p:List Qy}:ShR d (acd F l i p) (acd G m (d+i) p):=by
 cases p with
 | cons x r=>exact .mk rfl
 | nil =>
  unfold acd
  repeat' (first|exact .none|exact .mk rfl|exact H.qy|exact aWl E H|refine .ite ?_ ?_|refine .on ?_ λ_ _=>?_|refine .to ?_|exact .wE E|refine .wR E λ_=>?_|simp only[zS E])
theorem aGx(E:LocR d l m){nx nx':Nat->List Qy->Rz Qy}(N:∀ {i p},ShR d (nx i p) (nx' (d+i) p))(so:List (List UInt8×Int)):∀ (n n':Nat) (a:Qy) {i:Nat},n<=n'->ShR d (acU nx l so n a i) (acU nx' m so n' a (d+i))
 | 0,_,_,_,_=>.none
 | n+1,0,_,_,h=>by omega
 | n+1,n'+1,a,i,h=>by
  unfold acU
  rw[aoD E]
  cases opT l i so with
  | none=>exact .mk rfl
  | some k =>
   simp only[bA,E.is]
   refine .on ?_ λ_ _=>aGx E N so n n' _ aC
   split
   .exact N
   .exact N
theorem aGv(E:LocR d l m){nx nx':Nat->List Qy->Rz Qy}(N:∀ {i p},ShR d (nx i p) (nx' (d+i) p)){so:List (List UInt8×Int)}{i:Nat}{p:List Qy}:ShR d (ahs nx l so i p) (ahs nx' m so (d+i) p) :=
 .on N λ_ _=>aGx E N so _ _ _ (by have:=E.le;omega)
theorem aMc(E:LocR d l m)(H:SF d F G){i:Nat}{p:List Qy}:ShR d (aam F l i p) (aam G m (d+i) p):=aGv E (aSs E H)
theorem aJB(E:LocR d l m)(H:SF d F G){i:Nat}{p:List Qy}:ShR d (ahq F l i p) (ahq G m (d+i) p):=aGv E (aMc E H)
theorem aFg(E:LocR d l m):∀ (n n':Nat),n<=n'->∀ (i:Nat) (os:List Od),ShR d (byL l n os i) (byL m n' os (d+i))
 | 0,_,_,_,_=>.none
 | n+1,0,h,_,_=>by omega
 | n+1,n'+1,h,i,os=>by
  unfold byL
  simp only[bA,E.is,E.kd,E.tx,E.nu,arP E]
  refine .ite ?_ (.mk rfl)
  by_cases c:ca l (i+1) [[97,115,99],[100,101,115,99]]=true
  .simp only[au c,bA,Nat.reduceAdd,E.is]
   exact .ite (aFg E n n' aC _ _) (.mk rfl)
  .simp only[ar c,bA,Nat.reduceAdd,E.is]
   exact .ite (aFg E n n' aC _ _) (.mk rfl)
theorem a0C(E:LocR d l m){i:Nat}:ShR d (ajg l i) (ajg m (d+i)):=.wR E λ_=>aFg E _ _ (by have:=E.le;omega) _ _
theorem aW9(E:LocR d l m)(H:SF d F G){i:Nat}{q:Qy}{od:List Od}{li:Int}:ShR d (afB l q od li i) (afB m q od li (d+i)):=by
 unfold afB
 repeat' (first|exact .none|exact .mk rfl|refine .ite ?_ ?_|refine .on ?_ λ_ _=>?_|refine .to ?_|simp only[zS E])
theorem aXW(E:LocR d l m)(H:SF d F G){i:Nat}{q:Qy}{od:List Od}:ShR d (ad2 l q od i) (ad2 m q od (d+i)):=by
 unfold ad2
 repeat' (first|exact .none|exact .mk rfl|exact aW9 E H|refine .ite ?_ ?_|refine .on ?_ λ_ _=>?_|refine .to ?_|simp only[zS E])
theorem aJ8(E:LocR d l m)(H:SF d F G){i:Nat}{p:List Qy}:ShR d (aeg F l i p) (aeg G m (d+i) p):=by
 unfold aeg
 repeat' (first|exact .none|exact .mk rfl|exact aJB E H|exact a0C E|exact aXW E H|refine .ite ?_ ?_|refine .on ?_ λ_ _=>?_|refine .to ?_|simp only[zS E])
theorem auo(E:LocR d l m){i:Nat}{q:Qy}:ShR d (abp l i q) (abp m (d+i) q):=by
 unfold abp
 rw[ayR E]
 generalize eF l i=p
 obtain⟨s,j,b⟩:=p
 exact .ite (.mk rfl) (.mk rfl)
theorem aB1(E:LocR d l m)(H:SF d F G){i:Nat}:ShR d (agf F l i) (agf G m (d+i)):=by
 unfold agf
 repeat' (first|exact .none|exact .mk rfl|exact H.so|refine .ite ?_ ?_|refine .on ?_ λ_ _=>?_|refine .to ?_|exact .wE E|simp only[zS E,Nat.reduceAdd])
theorem aGp(E:LocR d l m)(H:SF d F G){i:Nat}:ShR d (adB F l i) (adB G m (d+i)):=by
 unfold adB
 repeat' (first|exact .none|exact .mk rfl|exact auo E|exact aB1 E H|refine .ite ?_ ?_|refine .on ?_ λ_ _=>?_|refine .to ?_|refine .nR E λ_ _=>?_|simp only[zS E]|simp only[aoK E])
theorem asZ(E:LocR d l m)(H:SF d F G):∀ (n n':Nat),n<=n'->∀ (i:Nat) (a:Fm),ShR d (acf F l n a i) (acf G m n' a (d+i))
 | 0,_,_,_,_=>.none
 | n+1,0,h,_,_=>by omega
 | n+1,n'+1,h,i,a=>by
  have ih:=asZ E H n n' aC
  unfold acf
  rw[aBt E]
  cases acR l i with
  | none=>exact .mk rfl
  | some p =>
   obtain⟨k,ws⟩:=p
   dsimp only
   repeat' (first|exact .none|exact .mk rfl|exact H.or|exact ih _ _|exact aGp E H|refine .ite ?_ ?_|refine .on ?_ λ_ _=>?_|refine .to ?_|refine .wR E λ_=>?_|refine .wsR E λ_=>?_|simp only[zS E])
theorem aBu(E:LocR d l m)(H:SF d F G){i:Nat}{p:List Fm}:ShR d (adx F l i p) (adx G m (d+i) p):=by
 cases p with
 | cons x r=>exact asZ E H _ _ (by have:=E.le;omega) _ _
 | nil =>
  unfold adx
  repeat' (first|exact .none|exact .mk rfl|exact aGp E H|exact asZ E H _ _ (by have:=E.le;omega) _ _|refine .ite ?_ ?_|refine .on ?_ λ_ _=>?_|refine .to ?_|simp only[zS E,Nat.reduceAdd])
theorem aBF(E:LocR d l m)(H:SF d F G):∀ (n n':Nat),n<=n'->∀ (i:Nat) (a:Fm),ShR d (adR F l n a i) (adR G m n' a (d+i))
 | 0,_,_,_,_=>.none
 | n+1,0,h,_,_=>by omega
 | n+1,n'+1,h,i,a=>by
  have ih:=aBF E H n n' aC
  unfold adR
  repeat' (first|exact .none|exact .mk rfl|exact ih _ _|exact aBu E H|refine .ite ?_ ?_|refine .on ?_ λ_ _=>?_|refine .to ?_|simp only[zS E])
theorem aTm(E:LocR d l m)(H:SF d F G){i:Nat}{p:List Fm}:ShR d (agF F l i p) (agF G m (d+i) p):=by
 unfold agF
 repeat' (first|exact .none|exact .mk rfl|exact aBu E H|exact aBF E H _ _ (by have:=E.le;omega) _ _|refine .ite ?_ ?_|refine .on ?_ λ_ _=>?_|refine .to ?_|simp only[zS E,Nat.reduceAdd])
theorem aGr(E:LocR d l m)(H:SF d F G){i:Nat}:ShR d (acO F l i) (acO G m (d+i)):=by
 unfold acO
 repeat' (first|exact .none|exact .mk rfl|exact H.qy|exact H.fr|exact auo E|exact aB1 E H|refine .ite ?_ ?_|refine .on ?_ λ_ _=>?_|refine .to ?_|simp only[zS E])
theorem aVb(E:LocR d l m)(H:SF d F G):SF d (akO l F) (akO m G) where
 or:=a3F E H
 no {i}:=aHk E H (i:=i) (p:=[])
 un {i}:=aF4 E H (i:=i) (p:=[])
 qy:=aJ8 E H
 ins:=aYd E H
 fr:=aTm E H
 so:=aGr E H
theorem aVc{G:Fs}:SF d aoI G:=⟨.none,.none,.none,.none,.none,.none,.none⟩
theorem ayZ(E:LocR d l m):∀ n n',n<=n'->SF d (aac l n) (aac m n')
 | 0,_,_=>aVc
 | n+1,0,h=>by omega
 | n+1,n'+1,h=>aVb E (ayZ E n n' aC)
end
structure Ext (l m:List Tn):Prop where
 len:l.length<=m.length
 is:∀ i w,i<=l.length->w≠[41]->w≠[59]->isT m i w=isT l i w
 is0:∀ i w,i<l.length->isT m i w=isT l i w
 kd:∀ i k,i<=l.length->k≠0->k≠1->k≠5->bq m i k=bq l i k
 tx:∀ i,i<l.length->txT m i=txT l i
 nu:∀ i,i<l.length->nuT m i=nuT l i
def aUh(l r:List Tn)(c:Tn)(h5:c.k=5)(hs:c.s=[41]\/c.s=[59]):Ext l (l++c::r) where
 len:=by simp
 is i w hi h1 h2:=by
  unfold isT
  rcases aA i l.length with g|g
  .rw[aZ g]
  .have:i=l.length:=by omega
   subst this
   rw[bJ (ae _),acp,aX (ae _)]
   show ((decide (c.k=1)||decide (c.k=5))&&decide (c.s=w))=false
   rcases hs with hs|hs
   .rw[hs,bd (bo h1),cj]
   .rw[hs,bd (bo h2),cj]
 is0 i w hi:=by unfold isT;rw[aZ hi]
 kd i k hi h0 h1 h5':=by
  unfold bq
  rcases aA i l.length with g|g
  .rw[aZ g]
  .have:i=l.length:=by omega
   subst this
   rw[bJ (ae _),acp,aX (ae _)]
   show decide (c.k=k)=false
   rw[h5];exact bd (bo h5')
 tx i hi:=by unfold txT;rw[aZ hi]
 nu i hi:=by unfold nuT;rw[aZ hi]
def OkC{α:Type}(x y:Rz α):Prop:=∀ a j,x=some (a,j,false)->y=some (a,j,false)
def amy{α β:Type}{r:Rz α}{g:α->β}{f:α->Nat->Rz β}{a:β}{j:Nat}(h:r.on g f=some (a,j,false)):∃ b i,r=some (b,i,false)/\f b i=some (a,j,false):=by
 unfold Rz.on at h
 split at h
 .cases h
 .cases h
 .exact⟨_,_,rfl,h⟩
def aOj{α β:Type}{r:Rz α}{g:α->β}{a:β}{j:Nat}(h:r.to g=some (a,j,false)):∃ b,r=some (b,j,false)/\a=g b:=by
 unfold Rz.to at h
 split at h
 .cases h
 .cases h;exact⟨_,rfl,rfl⟩
def aom{α:Type}{l:List Tn}{i:Nat}{w:List UInt8}{x a:α}{j:Nat}(h:wantE (bG l i w) x=some (a,j,false)):isT l i w=true/\a=x/\j=i+1:=by
 unfold wantE bG at h
 cases c:isT l i w with
 | true=>rw[c] at h;cases h;exact⟨rfl,rfl,rfl⟩
 | false=>rw[c] at h;cases h
def aqr{α:Type}{l:List Tn}{i:Nat}{w:List UInt8}(x:α)(h:isT l i w=true):wantE (bG l i w) x=some (x,i+1,false):=by unfold wantE bG;rw[h];rfl
def aBw{l:List Tn}{i:Nat}{w:List UInt8}(h:l.length<=i):isT l i w=false:=by unfold isT;rw[aX h]
section
variable {α β:Type} {l m:List Tn} {i j:Nat}
theorem OkC.same(x:Rz α):OkC x x:=λ_ _ h=>h
theorem OkC.none{y:Rz α}:OkC none y:=λ_ _ h=>by cases h
theorem OkC.bad{a:α}{y:Rz α}:OkC (some (a,j,true)) y:=λ_ _ h=>by cases h
theorem OkC.on{r r':Rz α}{g g':α->β}{f f':α->Nat->Rz β}(h:OkC r r')(P:Pl l i r)(hf:∀ a j,i<=j->j<=l.length->OkC (f a j) (f' a j)):OkC (r.on g f) (r'.on g' f'):=by
 intro a j e
 obtain⟨b,q,e1,e2⟩:=amy e
 have:=P _ _ _ e1
 rw[h _ _ e1]
 exact hf b q this.1 this.2 _ _ e2
theorem OkC.to{r r':Rz α}{g:α->β}(h:OkC r r'):OkC (r.to g) (r'.to g):=by
 intro a j e
 obtain⟨b,e1,rfl⟩:=aOj e
 rw[h _ _ e1];rfl
theorem OkC.wR{w:List UInt8}{x x':β}{f f':Nat->Rz β}(E:Ext l m)(hf:i+1<=l.length->OkC (f (i+1)) (f' (i+1))):OkC (wantR (bG l i w) x f) (wantR (bG m i w) x' f'):=by
 intro a j e
 unfold wantR bG at e ⊢
 cases c:isT l i w with
 | true=>rw[c] at e;rw[E.is0 _ _ (dA c),c];exact hf (dA c) _ _ e
 | false=>rw[c] at e;cases e
theorem OkC.wE{w:List UInt8}{x:β}(E:Ext l m):OkC (wantE (bG l i w) x) (wantE (bG m i w) x):=by
 intro a j e
 obtain⟨c,rfl,rfl⟩:=aom e
 exact aqr _ (by rw[E.is0 _ _ (dA c)];exact c)
theorem OkC.wsR(E:Ext l m){x x':β}{f f':Nat->Rz β}:∀ (ws:List (List UInt8)) {i:Nat},i<=l.length->(∀ j,i<=j->j<=l.length->OkC (f j) (f' j))->OkC (wantR (dG l i ws) x f) (wantR (dG m i ws) x' f')
 | [],i,hi,hf=>hf i (ae _) hi
 | w::r,i,hi,hf=>by
  unfold dG
  cases c:isT l i w with
  | true =>
   rw[E.is0 _ _ (dA c),c]
   exact OkC.wsR E r (dA c) λj h1 h2=>hf j aC h2
  | false=>exact .bad
theorem OkC.fT{w:List UInt8}{A B A' B':Rz α}(E:Ext l m)(hi:i<=l.length)(h1:w≠[41])(h2:w≠[59])(hA:i+1<=l.length->OkC A A')(hB:OkC B B'):OkC (if isT l i w=true then A else B) (if isT m i w=true then A' else B'):=by
 rw[E.is i w hi h1 h2]
 split
 .rename_i c;exact hA (dA c)
 .exact hB
theorem OkC.fK{k:Int}{A B A' B':Rz α}(E:Ext l m)(hi:i<=l.length)(h0:k≠0)(h1:k≠1)(h5:k≠5)(hA:i+1<=l.length->OkC A A')(hB:OkC B B'):OkC (if bq l i k=true then A else B) (if bq m i k=true then A' else B'):=by
 rw[E.kd i k hi h0 h1 h5]
 split
 .rename_i c;exact hA (fh c)
 .exact hB
theorem OkC.fB{b:Bool}{A B A' B':Rz α}(hA:OkC A A')(hB:OkC B B'):OkC (if b=true then A else B) (if b=true then A' else B'):=by
 split
 .exact hA
 .exact hB
theorem asN(E:Ext l m)(hi:i<=l.length):bT m i=bT l i:=by
 unfold bT
 rw[E.kd i 2 hi aI aI aI]
 split
 .rename_i c;rw[E.tx i (fh c)]
 .rfl
theorem aqk(E:Ext l m)(hi:i<=l.length):eF m i=eF l i:=by
 unfold eF
 rw[E.is i _ hi aI aI,E.kd i 2 hi aI aI aI]
 split
 .rename_i c;exact asN E (dA c)
 split
 .rename_i c;rw[E.tx i (fh c)]
 .rfl
theorem arQ(E:Ext l m)(hi:i<=l.length):∀ ws:List (List UInt8),(∀ w∈ws,w≠[41]/\w≠[59])->ca m i ws=ca l i ws
 | [],_=>rfl
 | w::r,h=>by
  unfold ca
  rw[E.is i w hi (h w aT).1 (h w aT).2,arQ E hi r λx hx=>h x (by simp[hx])]
theorem avE(E:Ext l m)(hi:i<=l.length):∀ so:List (List UInt8×Int),(∀ p∈so,p.1≠[41]/\p.1≠[59])->opT m i so=opT l i so
 | [],_=>rfl
 | (w,o)::r,h=>by
  unfold opT
  rw[E.is i w hi (h (w,o) aT).1 (h (w,o) aT).2,avE E hi r λx hx=>h x (by simp[hx])]
theorem aBE(E:Ext l m)(hi:i<=l.length):adf m i=adf l i:=arQ E hi _ aI
theorem aM5(E:Ext l m)(hi:i<=l.length):abe m i=abe l i:=by
 unfold abe
 rw[E.kd i 3 hi aI aI aI,E.kd i 4 hi aI aI aI,E.is i _ hi aI aI,E.is i _ hi aI aI,E.is i _ hi aI aI]
 split
 .rename_i c;rw[E.nu i (fh c)]
 split
 .rename_i c;rw[E.tx i (fh c)]
 .rfl
theorem OkC.nR{g g':List UInt8->α}{f f':List UInt8->Nat->Rz α}(E:Ext l m)(hi:i<=l.length)(hf:∀ s,i+1<=l.length->OkC (f s (i+1)) (f' s (i+1))):OkC (nameR (bT l i) g f) (nameR (bT m i) g' f'):=by
 rw[asN E hi]
 unfold nameR bT
 cases c:bq l i 2 with
 | true=>exact hf _ (fh c)
 | false=>exact .bad
end
structure FE (l:List Tn) (F G:Fs):Prop where
 pl:FP l F
 or:∀ {i p},i<=l.length->OkC (F.or i p) (G.or i p)
 no:∀ {i},i<=l.length->OkC (F.no i) (G.no i)
 un:∀ {i},i<=l.length->OkC (F.un i) (G.un i)
 qy:∀ {i p},i<=l.length->OkC (F.qy i p) (G.qy i p)
 ins:∀ {i a j},i<=l.length->j<l.length->F.ins i=some (a,j,false)->G.ins i=some (a,j,false)
 fr:∀ {i p},i<=l.length->OkC (F.fr i p) (G.fr i p)
 so:∀ {i a j},i<=l.length->j<l.length->F.so i=some (a,j,false)->G.so i=some (a,j,false)
section
variable {l m:List Tn} {F G:Fs}
theorem aGY(E:Ext l m)(H:FE l F G){i:Nat}(hi:i+1<=l.length):OkC (aeh F l i) (aeh G m i):=by
 intro a j h
 unfold aeh at h ⊢
 obtain⟨t,q,e1,e2⟩:=amy h
 obtain⟨c,rfl,rfl⟩:=aom e2
 rw[H.ins hi (dA c) e1]
 exact aqr _ (by rw[E.is0 _ _ (dA c)];exact c)
theorem aB5(E:Ext l m)(H:FE l F G){i:Nat}(hi:i+1<=l.length):OkC (agf F l i) (agf G m i):=by
 intro a j h
 unfold agf at h ⊢
 obtain⟨t,q,e1,e2⟩:=amy h
 obtain⟨c,rfl,rfl⟩:=aom e2
 rw[H.so hi (dA c) e1]
 exact aqr _ (by rw[E.is0 _ _ (dA c)];exact c)
theorem aBo(E:Ext l m)(H:FE l F G):∀ (n n':Nat) (ks:List Xp) {i:Nat},n<=n'->i<=l.length->OkC (acy F l n ks i) (acy G m n' ks i)
 | 0,_,_,_,_,_=>.none
 | n+1,0,_,_,h,_=>by omega
 | n+1,n'+1,ks,i,h,hi=>.fT E hi aI aI (λh1=>.on (H.or h1) (H.pl.or h1) λ_ _ _ h2=>aBo E H n n' _ aC h2) (.same _)
theorem aBm(E:Ext l m)(H:FE l F G){i:Nat}(hi:i<=l.length):OkC (aaE F l i) (aaE G m i) :=
 .on (H.or hi) (H.pl.or hi) λ_ _ _ h2=>aBo E H _ _ _ (by have:=E.len;omega) h2
theorem aBU(E:Ext l m){ks:List Xp}{i:Nat}:OkC (afn l ks i) (afn m ks i):=.wE E
theorem aUr(E:Ext l m)(H:FE l F G){ks:List Xp}{i:Nat}(hi:i<=l.length):OkC (agH F l ks i) (agH G m ks i) :=
 .fT E hi aI aI (λh1=>.on (H.or h1) (H.pl.or h1) λ_ _ _ _=>aBU E) (aBU E)
theorem aBT(E:Ext l m)(H:FE l F G):∀ (n n':Nat) (ks:List Xp) {i:Nat},n<=n'->i<=l.length->OkC (adW F l n ks i) (adW G m n' ks i)
 | 0,_,_,_,_,_=>.none
 | n+1,0,_,_,h,_=>by omega
 | n+1,n'+1,ks,i,h,hi=>.fT E hi aI aI (λh1=>.on (H.or h1) (H.pl.or h1) λ_ _ _ _=>.wR E λh3=>.on (H.or h3) (H.pl.or h3) λ_ _ _ h4=>aBT E H n n' _ aC h4) (aUr E H hi)
theorem aUp(E:Ext l m)(H:FE l F G){i:Nat}(hi:i<=l.length):OkC (afm F l i) (afm G m i) :=
 .fT E hi aI aI (λ_=>aBT E H _ _ _ (by have:=E.len;omega) hi) .bad
theorem aJj(E:Ext l m)(H:FE l F G){f:List UInt8}{di:Bool}{i:Nat}(hi:i<=l.length):OkC (akv F l i f di) (akv G m i f di) :=
 .on (H.or hi) (H.pl.or hi) λ_ _ _ _=>.wE E
theorem aUu(E:Ext l m)(H:FE l F G){f:List UInt8}{i:Nat}(hi:i<=l.length):OkC (callS F l i f) (callS G m i f):=by
 unfold callS
 refine .fB ?_ ?_
 .have e:isT m i [42]=isT l i [42]:=E.is i _ hi aI aI
  rw[e]
  exact .fB (.wE E) (.fT E hi aI aI (λh1=>aJj E H h1) (aJj E H hi))
 .rcases aA i l.length with g|g
  .rw[E.is0 i _ g]
   exact .fB (.same _) (.on (aBm E H hi) (afE H.pl hi) λ_ _ _ _=>.wE E)
  .intro a j h
   rw[aBw g] at h
   simp only[ah,av] at h
   obtain⟨ks,q,e1,e2⟩:=amy h
   obtain⟨c,_,_⟩:=aom e2
   have p:=afE H.pl hi _ _ _ e1
   have:=dA c
   omega
theorem aMQ(E:Ext l m)(H:FE l F G){i:Nat}:OkC (afP F l i) (afP G m i) :=
 .wR E λh1=>.on (H.qy h1) (H.pl.qy h1) λ_ _ _ _=>.wE E
theorem aSa(E:Ext l m)(H:FE l F G){i:Nat}(hi:i<=l.length):OkC (ac4 F l i) (ac4 G m i):=by
 unfold ac4
 rw[aM5 E hi]
 split
 .exact .same _
 refine .fT E hi aI aI (λh1=>.to (aGY E H h1)) ?_
 refine .fT E hi aI aI (λh1=>aUp E H h1) ?_
 refine .fT E hi aI aI (λh1=>aMQ E H) ?_
 rw[E.kd i 2 hi aI aI aI]
 split
 .rename_i c
  have c:=fh c
  rw[E.tx i c]
  refine .fT E c aI aI (λh1=>aUu E H h1) ?_
  rw[E.is (i+1) _ c aI aI]
  split
  .rename_i d;rw[asN E (dA d)];exact .same _
  .exact .same _
 .exact .bad
theorem aF5(E:Ext l m)(H:FE l F G){i:Nat}{p:List Xp}(hi:i<=l.length):OkC (abz F l i p) (abz G m i p):=by
 cases p with
 | cons x r=>exact .same _
 | nil=>exact .fT E hi aI aI (λh1=>.to (H.un h1)) (aSa E H hi)
theorem aHI(E:Ext l m){nx nx':Nat->List Xp->Rz Xp}(N:∀ {i p},i<=l.length->OkC (nx i p) (nx' i p))(P:∀ {i p},i<=l.length->Pl l i (nx i p))(so:List (List UInt8×Int))(hs:∀ p∈so,p.1≠[41]/\p.1≠[59]) :
  ∀ (n n':Nat) (a:Xp) {i:Nat},n<=n'->i<=l.length->OkC (act nx l so n a i) (act nx' m so n' a i)
 | 0,_,_,_,_,_=>.none
 | n+1,0,_,_,h,_=>by omega
 | n+1,n'+1,a,i,h,hi=>by
  unfold act
  rw[avE E hi so hs]
  split
  .exact .same _
  .rename_i o c
   have c:=af5 c
   exact .on (N c) (P c) λ_ _ _ h2=>aHI E N P so hs n n' _ aC h2
theorem anL(E:Ext l m){nx nx':Nat->List Xp->Rz Xp}(N:∀ {i p},i<=l.length->OkC (nx i p) (nx' i p))(P:∀ {i p},i<=l.length->Pl l i (nx i p))(so:List (List UInt8×Int))(hs:∀ p∈so,p.1≠[41]/\p.1≠[59])
  {i:Nat} {p:List Xp} (hi:i<=l.length):OkC (acr nx l so i p) (acr nx' m so i p) :=
 .on (N hi) (P hi) λ_ _ _ h2=>aHI E N P so hs _ _ _ (by have:=E.len;omega) h2
theorem aXO(E:Ext l m)(H:FE l F G){i:Nat}{p:List Xp}(hi:i<=l.length):OkC (agX F l i p) (agX G m i p):=anL E (λh=>aF5 E H h) (λh=>aoq H.pl h) _ aI hi
theorem a0P(E:Ext l m)(H:FE l F G){i:Nat}{p:List Xp}(hi:i<=l.length):OkC (ag6 F l i p) (ag6 G m i p):=anL E (λh=>aXO E H h) (λh=>aBi H.pl h) _ aI hi
theorem an3(E:Ext l m)(H:FE l F G){i:Nat}{p:List Xp}(hi:i<=l.length):OkC (aan F l i p) (aan G m i p):=anL E (λh=>a0P E H h) (λh=>aCc H.pl h) _ aI hi
theorem aO7(E:Ext l m)(H:FE l F G)(a:Xp):∀ (n n':Nat) (ks:List Xp) {i:Nat},n<=n'->i<=l.length->OkC (inL F l a n ks i) (inL G m a n' ks i)
 | 0,_,_,_,_,_=>.none
 | n+1,0,_,_,h,_=>by omega
 | n+1,n'+1,ks,i,h,hi=>.fT E hi aI aI (λh1=>.on (H.or h1) (H.pl.or h1) λ_ _ _ h2=>aO7 E H a n n' _ aC h2) (.wE E)
theorem aYf{a:Xp}(H:FP l F):∀ (n:Nat) (ks:List Xp) {i:Nat} {b:Xp} {j:Nat},i<=l.length->inL F l a n ks i=some (b,j,false)->i<l.length
 | 0,_,_,_,_,_,h=>by cases h
 | n+1,ks,i,b,j,hi,h=>by
  unfold inL at h
  split at h
  .rename_i c;exact dA c
  .exact dA (aom h).1
theorem a5B(E:Ext l m)(H:FE l F G){a:Xp}{i:Nat}:OkC (inS F l i a) (inS G m i a):=by
 refine .wR E λh1=>?_
 intro b j h
 obtain⟨t,q,e1,e2⟩:=amy h
 have hq:=(H.pl.ins h1 _ _ _ e1).2
 have lt:q<l.length:=by
  split at e2
  .exact dA (aom e2).1
  .exact aYf H.pl _ _ hq e2
 rw[H.ins h1 lt e1]
 show (if (t.q&&!t.w)=true then wantE (bG m q [41]) (afu 28 [a] t.y) else inL G m a (m.length+1) [a,t.val] q)=_
 split at e2
 .rename_i c
  rw[au c]
  exact OkC.wE E _ _ e2
 .rename_i c
  rw[ar c]
  exact aO7 E H a _ _ _ (by have:=E.len;omega) hq _ _ e2
theorem aBq(E:Ext l m)(H:FE l F G){no:Bool}{a:Xp}{i:Nat}(hi:i<=l.length):OkC (abx F l no i a) (abx G m no i a) :=
 .fT E hi aI aI (λh1=>.to (an3 E H h1)) (.fT E hi aI aI (λh1=>.on (an3 E H h1) (aep H.pl h1) λ_ _ _ _=>.wR E λh3=>.to (an3 E H h3))
  (.fT E hi aI aI (λh1=>.to (a5B E H)) (.same _)))
theorem a0d(E:Ext l m)(H:FE l F G){i:Nat}{a:Xp}(hi:i<=l.length):OkC (abN F l i a) (abN G m i a):=by
 unfold abN
 rw[avE E hi agp aI]
 split
 .rename_i o c;exact .to (an3 E H (af5 c))
 .exact .fT E hi aI aI (λh1=>.fT E h1 aI aI (λ_=>.wE E) (.wE E)) (.fT E hi aI aI (λh1=>aBq E H h1) (aBq E H hi))
theorem aHl(E:Ext l m)(H:FE l F G){i:Nat}{p:List Xp}(hi:i<=l.length):OkC (ab6 F l i p) (ab6 G m i p):=by
 unfold ab6
 rw[E.is i _ hi aI aI]
 split
 .rename_i c
  rw[aj] at c
  exact .to (H.no (dA c.2))
 .exact .on (an3 E H hi) (aep H.pl hi) λ_ _ _ h2=>a0d E H h2
theorem a0I(E:Ext l m)(H:FE l F G){i:Nat}{p:List Xp}(hi:i<=l.length):OkC (ain F l i p) (ain G m i p):=anL E (λh=>aHl E H h) (λh=>aoH H.pl h) _ aI hi
theorem a3G(E:Ext l m)(H:FE l F G){i:Nat}{p:List Xp}(hi:i<=l.length):OkC (orS F l i p) (orS G m i p):=anL E (λh=>a0I E H h) (λh=>aCa H.pl h) _ aI hi
theorem aYe(E:Ext l m)(H:FE l F G){i:Nat}{a:Th}{j:Nat}(hi:i<=l.length)(hj:j<l.length)(h:ag2 F l i=some (a,j,false)):ag2 G m i=some (a,j,false):=by
 unfold ag2 at h ⊢
 rw[E.is i _ hi aI aI,E.is i _ hi aI aI]
 split at h
 .rename_i c;rw[au c];exact OkC.to (H.qy hi) _ _ h
 rename_i c;rw[ar c]
 split at h
 .rename_i c1;rw[au c1]
  obtain⟨t,q,e1,e2⟩:=amy h
  have c1:=dA c1
  have hq:=alD H.pl c1 _ _ _ e1
  rw[aGY E H c1 _ _ e1]
  show (if (t.q&&adf m q)=true then (G.qy q [t.y]).to Th.ofQ else if (t.q&&isT m q [41])=true then some ({t with w:=true},q,false) else (G.or q [t.val]).to Th.ofE)=_
  rw[aBE E hq.2]
  split at e2
  .rename_i d;rw[au d];exact OkC.to (H.qy hq.2) _ _ e2
  rename_i d;rw[ar d]
  split at e2
  .rename_i d2
   rw[aj] at d2
   rw[E.is0 q _ (dA d2.2),au (by rw[d2.1,d2.2];rfl)]
   exact e2
  .rename_i d2
   obtain⟨x,e3,rfl⟩:=aOj e2
   have:=H.pl.or hq.2 _ _ _ e3
   rw[E.is0 q _ aC,ar d2]
   exact OkC.to (H.or hq.2) _ _ e2
 .rename_i c1;rw[ar c1];exact OkC.to (H.or hi) _ _ h
theorem aX7(E:Ext l m){i:Nat}(hi:i<=l.length):(bq m i 2&&(isT m (i+1) [46]&&isT m (i+2) [42]))=(bq l i 2&&(isT l (i+1) [46]&&isT l (i+2) [42])):=by
 rw[E.kd i 2 hi aI aI aI]
 cases c:bq l i 2 with
 | false=>rfl
 | true =>
  have c:=fh c
  rw[E.is (i+1) _ c aI aI]
  cases d:isT l (i+1) [46] with
  | false=>rfl
  | true=>rw[E.is (i+2) _ (dA d) aI aI]
theorem aTd(E:Ext l m)(H:FE l F G){i:Nat}(hi:i<=l.length):OkC (adP F l i) (adP G m i):=by
 refine .fT E hi aI aI (λ_=>.same _) ?_
 rw[aX7 E hi]
 split
 .rename_i c
  rw[aj] at c
  rw[E.tx i (fh c.1)]
  exact .same _
 .exact .on (H.or hi) (H.pl.or hi) λ_ _ _ h2=>by rw[aqk E h2];exact .same _
theorem auk(E:Ext l m)(H:FE l F G){w:List UInt8}{i:Nat}(hi:i<=l.length)(h1:w≠[41])(h2:w≠[59]):OkC (aav F l i w) (aav G m i w) :=
 .fT E hi h1 h2 (λh=>.to (H.or h)) (.same _)
theorem aGC(E:Ext l m)(H:FE l F G){di:Bool}{its:List Im}{fr:List Fm}{wh gr:List Xp}{i:Nat}(hi:i<=l.length):OkC (ahw F l di its fr wh gr i) (ahw G m di its fr wh gr i) :=
 .to (auk E H hi aI aI)
theorem aWp(E:Ext l m)(H:FE l F G){di:Bool}{its:List Im}{fr:List Fm}{wh:List Xp}{i:Nat}(hi:i<=l.length):OkC (ahx F l di its fr wh i) (ahx G m di its fr wh i) :=
 .fT E hi aI aI (λ_=>.wR E λh1=>.on (aBm E H h1) (afE H.pl h1) λ_ _ _ h2=>aGC E H h2) (aGC E H hi)
theorem aGz(E:Ext l m)(H:FE l F G){di:Bool}{its:List Im}{fr:List Fm}{i:Nat}(hi:i<=l.length):OkC (ahu F l di its fr i) (ahu G m di its fr i) :=
 .on (auk E H hi aI aI) (acD H.pl hi) λ_ _ _ h2=>aWp E H h2
theorem aWr(E:Ext l m)(H:FE l F G){di:Bool}{its:List Im}{i:Nat}(hi:i<=l.length):OkC (agT F l di its i) (agT G m di its i) :=
 .fT E hi aI aI (λh1=>.on (H.fr h1) (H.pl.fr h1) λ_ _ _ h2=>aGz E H h2) (aGz E H hi)
theorem awR(E:Ext l m)(H:FE l F G)(di:Bool):∀ (n n':Nat) (its:List Im) {i:Nat},n<=n'->i<=l.length->OkC (afx F l di n its i) (afx G m di n' its i)
 | 0,_,_,_,_,_=>.none
 | n+1,0,_,_,h,_=>by omega
 | n+1,n'+1,its,i,h,hi=>.on (aTd E H hi) (akh H.pl hi) λ_ _ _ h2=>.fT E h2 aI aI (λh3=>awR E H di n n' _ aC h3) (aWr E H h2)
theorem aWm(E:Ext l m)(H:FE l F G){i:Nat}(hi:i<=l.length):OkC (ai3 F l i) (ai3 G m i) :=
 .fT E hi aI aI (λh1=>awR E H _ _ _ _ (by have:=E.len;omega) h1) (awR E H _ _ _ _ (by have:=E.len;omega) hi)
theorem aSt(E:Ext l m)(H:FE l F G){i:Nat}{p:List Qy}(hi:i<=l.length):OkC (acd F l i p) (acd G m i p):=by
 cases p with
 | cons x r=>exact .same _
 | nil=>exact .fT E hi aI aI (λh1=>.on (H.qy h1) (H.pl.qy h1) λ_ _ _ _=>.wE E) (.wR E λh1=>aWm E H h1)
theorem aGy(E:Ext l m){nx nx':Nat->List Qy->Rz Qy}(N:∀ {i p},i<=l.length->OkC (nx i p) (nx' i p))(P:∀ {i p},i<=l.length->Pl l i (nx i p))(so:List (List UInt8×Int))(hs:∀ p∈so,p.1≠[41]/\p.1≠[59]) :
  ∀ (n n':Nat) (a:Qy) {i:Nat},n<=n'->i<=l.length->OkC (acU nx l so n a i) (acU nx' m so n' a i)
 | 0,_,_,_,_,_=>.none
 | n+1,0,_,_,h,_=>by omega
 | n+1,n'+1,a,i,h,hi=>by
  unfold acU
  rw[avE E hi so hs]
  split
  .exact .same _
  .rename_i o c
   have c:=af5 c
   rw[E.is (i+1) _ c aI aI]
   have h3:(if isT l (i+1) [97,108,108]=true then i+2 else i+1)<=l.length:=by
    split
    .rename_i d;exact dA d
    .exact c
   exact .on (N h3) (P h3) λ_ _ _ h2=>aGy E N P so hs n n' _ aC h2
theorem aGw(E:Ext l m){nx nx':Nat->List Qy->Rz Qy}(N:∀ {i p},i<=l.length->OkC (nx i p) (nx' i p))(P:∀ {i p},i<=l.length->Pl l i (nx i p))(so:List (List UInt8×Int))(hs:∀ p∈so,p.1≠[41]/\p.1≠[59])
  {i:Nat} {p:List Qy} (hi:i<=l.length):OkC (ahs nx l so i p) (ahs nx' m so i p) :=
 .on (N hi) (P hi) λ_ _ _ h2=>aGy E N P so hs _ _ _ (by have:=E.len;omega) h2
theorem aMd(E:Ext l m)(H:FE l F G){i:Nat}{p:List Qy}(hi:i<=l.length):OkC (aam F l i p) (aam G m i p):=aGw E (λh=>aSt E H h) (λh=>apO H.pl h) _ aI hi
theorem aJC(E:Ext l m)(H:FE l F G){i:Nat}{p:List Qy}(hi:i<=l.length):OkC (ahq F l i p) (ahq G m i p):=aGw E (λh=>aMd E H h) (λh=>akZ H.pl h) _ aI hi
theorem aRn(E:Ext l m):∀ (n n':Nat) (os:List Od) {i:Nat},n<=n'->i<=l.length->OkC (byL l n os i) (byL m n' os i)
 | 0,_,_,_,_,_=>.none
 | n+1,0,_,_,h,_=>by omega
 | n+1,n'+1,os,i,h,hi=>by
  unfold byL
  rcases aA i l.length with g|g
  .rw[E.kd i 2 hi aI aI aI,E.kd i 3 hi aI aI aI,E.tx i g,E.nu i g,E.is (i+1) _ g aI aI,arQ E g _ aI]
   have h3:(if ca l (i+1) [[97,115,99],[100,101,115,99]]=true then i+2 else i+1)<=l.length:=by
    split
    .rename_i d;exact aqg d
    .exact g
   split
   .exact .fT E h3 aI aI (λh4=>aRn E n n' _ aC h4) (.same _)
   .exact .bad
  .intro a j e
   have k2:bq l i 2=false:=by unfold bq;rw[aX g]
   have k3:bq l i 3=false:=by unfold bq;rw[aX g]
   rw[k2,k3] at e
   cases e
theorem a0D(E:Ext l m){i:Nat}:OkC (ajg l i) (ajg m i):=.wR E λh=>aRn E _ _ _ (by have:=E.len;omega) h
theorem aG7(E:Ext l m){q:Qy}{od:List Od}{li:Int}{i:Nat}(hi:i<=l.length):OkC (afB l q od li i) (afB m q od li i):=by
 refine .fT E hi aI aI (λh1=>?_) (.same _)
 rw[E.kd (i+1) 3 h1 aI aI aI]
 split
 .rename_i c;rw[E.nu _ (fh c)];exact .same _
 .exact .bad
theorem aHG(E:Ext l m){q:Qy}{od:List Od}{i:Nat}(hi:i<=l.length):OkC (ad2 l q od i) (ad2 m q od i):=by
 refine .fT E hi aI aI (λh1=>?_) (aG7 E hi)
 rw[E.kd (i+1) 3 h1 aI aI aI]
 split
 .rename_i c;rw[E.nu _ (fh c)];exact aG7 E (fh c)
 .exact .bad
theorem aJ9(E:Ext l m)(H:FE l F G){i:Nat}{p:List Qy}(hi:i<=l.length):OkC (aeg F l i p) (aeg G m i p):=by
 refine .on (aJC E H hi) (atx H.pl hi) λq j _ h2=>?_
 rw[arQ E h2 _ aI]
 split
 .exact .bad
 .exact .fT E h2 aI aI (λh3=>.on (a0D E) (aB0 h3) λ_ _ _ h4=>aHG E h4) (aHG E h2)
theorem aup(E:Ext l m){i:Nat}{q:Qy}(hi:i<=l.length):abp m i q=abp l i q:=by unfold abp;rw[aqk E hi]
theorem aGq(E:Ext l m)(H:FE l F G){i:Nat}(hi:i<=l.length):OkC (adB F l i) (adB G m i):=by
 refine .fT E hi aI aI (λh1=>.on (aB5 E H h1) (amZ H.pl h1) λ_ _ _ h2=>?_) (.nR E hi λ_ h1=>by rw[aqk E h1];exact .same _)
 rw[aup E h2]
 exact .same _
theorem aTa(E:Ext l m){i:Nat}(hi:i<=l.length):acR m i=acR l i:=by
 unfold acR
 rw[E.is i _ hi aI aI,E.is i _ hi aI aI,E.is i _ hi aI aI,E.is i _ hi aI aI]
theorem aoP(E:Ext l m)(H:FE l F G):∀ (n n':Nat) (a:Fm) {i:Nat},n<=n'->i<=l.length->OkC (acf F l n a i) (acf G m n' a i)
 | 0,_,_,_,_,_=>.none
 | n+1,0,_,_,h,_=>by omega
 | n+1,n'+1,a,i,h,hi=>by
  unfold acf
  rw[aTa E hi]
  split
  .exact .same _
  .refine .wsR E _ hi λj _ h2=>.on (aGq E H h2) (alv H.pl h2) λb q _ h3=>?_
   split
   .exact aoP E H n n' _ aC h3
   .exact .fT E h3 aI aI (λh4=>.on (H.or h4) (H.pl.or h4) λ_ _ _ h5=>aoP E H n n' _ aC h5) .bad
theorem aBv(E:Ext l m)(H:FE l F G){i:Nat}{p:List Fm}(hi:i<=l.length):OkC (adx F l i p) (adx G m i p):=by
 cases p with
 | cons x r=>exact aoP E H _ _ _ (by have:=E.len;omega) hi
 | nil=>exact .on (aGq E H hi) (alv H.pl hi) λ_ _ _ h2=>aoP E H _ _ _ (by have:=E.len;omega) h2
theorem aBG(E:Ext l m)(H:FE l F G):∀ (n n':Nat) (a:Fm) {i:Nat},n<=n'->i<=l.length->OkC (adR F l n a i) (adR G m n' a i)
 | 0,_,_,_,_,_=>.none
 | n+1,0,_,_,h,_=>by omega
 | n+1,n'+1,a,i,h,hi=>.fT E hi aI aI (λh1=>.on (aBv E H h1) (aie H.pl h1) λ_ _ _ h2=>aBG E H n n' _ aC h2) (.same _)
theorem aTn(E:Ext l m)(H:FE l F G){i:Nat}{p:List Fm}(hi:i<=l.length):OkC (agF F l i p) (agF G m i p) :=
 .on (aBv E H hi) (aie H.pl hi) λ_ _ _ h2=>aBG E H _ _ _ (by have:=E.len;omega) h2
theorem aGs(E:Ext l m)(H:FE l F G){i:Nat}{a:Th}{j:Nat}(hi:i<=l.length)(hj:j<l.length)(h:acO F l i=some (a,j,false)):acO G m i=some (a,j,false):=by
 unfold acO at h ⊢
 rw[E.is i _ hi aI aI,E.is i _ hi aI aI]
 split at h
 .rename_i c;rw[au c];exact OkC.to (H.qy hi) _ _ h
 rename_i c;rw[ar c]
 split at h
 .rename_i c1;rw[au c1]
  obtain⟨t,q,e1,e2⟩:=amy h
  have c1:=dA c1
  have hq:=amZ H.pl c1 _ _ _ e1
  have hs:=amj H.pl hi
  rw[aB5 E H c1 _ _ e1]
  have lt:q<l.length:=by
   rcases aA q l.length with g|g
   .exact g
   .exfalso
    have hp:∀ {r:Rz Th} {p},Pl l p r->r=some (a,j,false)->l.length<=p->False:=λh e hp=>by have:=h _ _ _ e;omega
    have:Pl l q (if (t.q&&isT l q [41])=true then some (t,q,false) else if (t.q&&adf l q)=true then (F.qy q [t.y]).to Th.ofQ else if t.q=true then (abp l q t.y).on (λ_=>t) λf m=>(F.fr m [f]).to Th.ofF else (F.fr q [t.f]).to Th.ofF) :=
     .fI (.so (ae _) hq.2) (.fI (.to (H.pl.qy hq.2) (ae _)) (.fI (.on (ajG hq.2) (ae _) λ_ _ h1 h2=>.to (H.pl.fr h2) h1) (.to (H.pl.fr hq.2) (ae _))))
    exact hp this e2 g
  show (if (t.q&&isT m q [41])=true then some (t,q,false) else if (t.q&&adf m q)=true then (G.qy q [t.y]).to Th.ofQ else if t.q=true then (abp m q t.y).on (λ_=>t) λf m=>(G.fr m [f]).to Th.ofF else (G.fr q [t.f]).to Th.ofF)=_
  rw[E.is0 q _ lt,aBE E hq.2,aup E hq.2]
  split at e2
  .rename_i d;rw[au d];exact e2
  rename_i d;rw[ar d]
  split at e2
  .rename_i d;rw[au d];exact OkC.to (H.qy hq.2) _ _ e2
  rename_i d;rw[ar d]
  split at e2
  .rename_i d;rw[au d]
   exact OkC.on (.same _) (ajG hq.2) (λ_ _ _ h2=>.to (H.fr h2)) _ _ e2
  .rename_i d;rw[ar d];exact OkC.to (H.fr hq.2) _ _ e2
 .rename_i c1;rw[ar c1];exact OkC.to (H.fr hi) _ _ h
theorem aVm(E:Ext l m)(H:FE l F G):FE l (akO l F) (akO m G) where
 pl:=aCe H.pl
 or h:=a3G E H h
 no h:=aHl E H h
 un h:=aF5 (p:=[]) E H h
 qy h:=aJ9 E H h
 ins h1 h2 h:=aYe E H h1 h2 h
 fr h:=aTn E H h
 so h1 h2 h:=aGs E H h1 h2 h
theorem aVn(G:Fs):FE l aoI G where
 pl:=aCf l
 or _:=.none
 no _:=.none
 un _:=.none
 qy _:=.none
 ins _ _ h:=by cases h
 fr _:=.none
 so _ _ h:=by cases h
theorem aJp(E:Ext l m):∀ n n',n<=n'->FE l (aac l n) (aac m n')
 | 0,_,_=>aVn _
 | n+1,0,h=>by omega
 | n+1,n'+1,h=>aVm E (aJp E n n' aC)
end
def aBk(P X:List Tn)(k:Nat):LocR P.length X (P++X.map (shT k)) where
 le:=by simp
 is i w:=by unfold isT;rw[bJ aC,abm,bp];cases X[i]? <;> rfl
 kd i w:=by unfold bq;rw[bJ aC,abm,bp];cases X[i]? <;> rfl
 tx i:=by unfold txT;rw[bJ aC,abm,bp];cases X[i]? <;> rfl
 nu i:=by unfold nuT;rw[bJ aC,abm,bp];cases X[i]? <;> rfl
def axw(X:List Tn):LocR 0 X X:=⟨ae _,λi w=>by rw[bK],λi w=>by rw[bK],λi=>by rw[bK],λi=>by rw[bK]⟩
def aif{M:List Tn}{p:Nat}{t:Tn}(h:M[p]?=some t)(hk:t.k=1\/t.k=5)(w:List UInt8):isT M p w=decide (t.s=w):=by
 unfold isT;rw[h];rcases hk with hk|hk <;> simp[hk]
def afJ{M:List Tn}{p:Nat}{t:Tn}(h:M[p]?=some t)(k:Int):bq M p k=decide (t.k=k):=by unfold bq;rw[h]
section
variable {M:List Tn} {F:Fs} {i j q e:Nat} {nx:Nat->List Xp->Rz Xp} {so:List (List UInt8×Int)} {pre:List Xp} {a b:Xp}
theorem aa2:∀ {so:List (List UInt8×Int)},(∀ p∈so,isT M j p.1=false)->opT M j so=none
 | [],_=>rfl
 | (w,o)::r,h=>by
  unfold opT
  rw[h (w,o) aT]
  simp only[ah,av]
  exact aa2 λp hp=>h p (by simp[hp])
theorem fJ(h:nx i pre=some (a,j,false))(ho:opT M j so=none):acr nx M so i pre=some (a,j,false):=by
 unfold acr
 rw[h]
 show act nx M so (M.length+1) a j=_
 unfold act
 rw[ho]
theorem afI{o:Int}(h1:nx i pre=some (a,q,false))(ho:opT M q so=some o)(h2:nx (q+1) []=some (b,e,false))(he:opT M e so=none)(hM:1<=M.length):acr nx M so i pre=some (cR o [a,b],e,false):=by
 unfold acr
 rw[h1]
 show act nx M so (M.length+1) a q=_
 unfold act
 rw[ho]
 dsimp only
 rw[h2]
 show act nx M so M.length (cR o [a,b]) e=_
 obtain⟨m,hm⟩ : ∃ m,M.length=m+1:=⟨M.length-1,by omega⟩
 rw[hm]
 unfold act
 rw[he]
structure Stop (M:List Tn) (j:Nat):Prop where
 mul:opT M j [([42],7),([47],8),([37],9)]=none
 add:opT M j [([43],5),([45],6)]=none
 cat:opT M j [([124,124],10)]=none
 cmp:opT M j agp=none
 is:isT M j [105,115]=false
 no:isT M j [110,111,116]=false
 like:isT M j [108,105,107,101]=false
 bet:isT M j [98,101,116,119,101,101,110]=false
 ins:isT M j [105,110]=false
 and:opT M j [([97,110,100],17)]=none
 or:opT M j [([111,114],18)]=none
theorem Stop.out(h:M.length<=j):Stop M j:=by
 have z:∀ w,isT M j w=false:=λw=>aBw h
 exact⟨aa2 λp _=>z _,aa2 λp _=>z _,aa2 λp _=>z _,aa2 λp _=>z _,z _,z _,z _,z _,z _,aa2 λp _=>z _,aa2 λp _=>z _⟩
def opW:List (List UInt8):=[[42],[47],[37],[43],[45],[124,124],[61],[60,62],[60],[60,61],[62],[62,61],[105,115],[110,111,116],[108,105,107,101],[98,101,116,119,101,101,110],[105,110],[97,110,100],[111,114]]
theorem Stop.of(h:∀ w∈opW,isT M j w=false):Stop M j:=by
 exact⟨aa2 λp hp=>h _ ((by decide:∀ p∈([([42],7),([47],8),([37],9)]:List (List UInt8×Int)),p.1∈opW) p hp),aa2 λp hp=>h _ ((by decide:∀ p∈([([43],5),([45],6)]:List (List UInt8×Int)),p.1∈opW) p hp),aa2 λp hp=>h _ ((by decide:∀ p∈([([124,124],10)]:List (List UInt8×Int)),p.1∈opW) p hp),aa2 λp hp=>h _ ((by decide:∀ p∈(agp:List (List UInt8×Int)),p.1∈opW) p hp),h _ aI,h _ aI,h _ aI,h _ aI,h _ aI,aa2 λp hp=>h _ ((by decide:∀ p∈([([97,110,100],17)]:List (List UInt8×Int)),p.1∈opW) p hp),aa2 λp hp=>h _ ((by decide:∀ p∈([([111,114],18)]:List (List UInt8×Int)),p.1∈opW) p hp)⟩
theorem Stop.tok{t:Tn}(h:M[j]?=some t)(hk:t.k=1\/t.k=5)(hs:t.s∉opW):Stop M j:=Stop.of λw hw=>by
 rw[aif h hk]
 exact bd λe=>hs (e▸hw)
theorem atf(h:Stop M j):abN F M j a=some (a,j,false):=by
 unfold abN abx
 rw[h.cmp]
 dsimp only
 rw[h.is,h.no,h.like,h.bet,h.ins]
 rfl
theorem ajQ(hn:pre≠[]\/isT M i [110,111,116]=false)(h:aan F M i pre=some (a,j,false))(hs:abN F M j a=some (b,e,false)):ab6 F M i pre=some (b,e,false):=by
 unfold ab6
 have:(decide (pre=[])&&isT M i [110,111,116])=false:=by
  rcases hn with hn|hn
  .rw[bd hn];rfl
  .rw[hn,cj]
 rw[this,h]
 exact hs
theorem aw7(h:abz F M i pre=some (a,j,false))(hn:pre≠[]\/isT M i [110,111,116]=false)(s:Stop M j):orS F M i pre=some (a,j,false) :=
 fJ (fJ (ajQ hn (fJ (fJ (fJ h s.mul) s.add) s.cat) (atf s)) s.and) s.or
theorem aSz(hu:abz F M i []=some (a,j,false))(hn:isT M i [110,111,116]=false):orS F M i []=orS F M j [a]:=by
 have hc:aan F M i []=aan F M j [a]:=by
  unfold aan ag6 agX acr
  rw[hu]
  rfl
 have hno:ab6 F M i []=ab6 F M j [a]:=by
  unfold ab6
  rw[hn,hc]
  simp
 unfold orS ain acr
 rw[hno]
theorem aws{t:Th}(h:isT M i [40]=true)(hp:aeh F M i=some (t,j,false)):abz F M i []=some (t.val,j,false):=by
 obtain⟨k,hk,h5,hs⟩ : ∃ k,M[i]?=some k/\(k.k=1\/k.k=5)/\k.s=[40]:=by
  unfold isT at h
  split at h
  .rename_i k e
   simp only[aj,bk,aV] at h
   exact⟨k,e,h.1,h.2⟩
  .cases h
 have z:∀ w,isT M i w=decide ([40]=w):=λw=>by rw[aif hk h5,hs]
 have hc:abe M i=none:=by
  unfold abe
  rw[afJ hk,afJ hk,z,z,z]
  rcases h5 with e|e <;> rw[e] <;> rfl
 unfold abz
 rw[z,bd aI]
 simp only[ah,av]
 unfold ac4
 rw[hc]
 dsimp only
 rw[h]
 simp only[am]
 rw[hp]
 rfl
theorem aJD(h:isT M i [115,101,108,101,99,116]=true):abz F M i []=some (x0,i,true):=by
 obtain⟨k,hk,h5,hs⟩ : ∃ k,M[i]?=some k/\(k.k=1\/k.k=5)/\k.s=[115,101,108,101,99,116]:=by
  unfold isT at h
  split at h
  .rename_i k e
   simp only[aj,bk,aV] at h
   exact⟨k,e,h.1,h.2⟩
  .cases h
 have z:∀ w,isT M i w=decide ([115,101,108,101,99,116]=w):=λw=>by rw[aif hk h5,hs]
 have y:∀ x:Int,x≠1->x≠5->bq M i x=false:=λx h1 h2=>by rw[afJ hk];rcases h5 with e|e <;> rw[e] <;> exact bd (bo (by assumption))
 have hc:abe M i=none:=by
  unfold abe
  rw[y 3 aI aI,y 4 aI aI,z,z,z]
  rfl
 unfold abz ac4
 rw[hc,z,z,z,z,y 2 aI aI]
 rfl
end
def aBe(n:Nat)(l:List Tn)(i:Nat)(p:List Xp):(aac l (n+1)).or i p=orS (aac l n) l i p:=rfl
def aMe(n:Nat)(l:List Tn)(i:Nat):(aac l (n+1)).ins i=ag2 (aac l n) l i:=rfl
def asP{l:List Tn}{n n':Nat}(h:n<=n'):SF 0 (aac l n) (aac l n'):=ayZ (axw l) n n' h
def sh0{α:Type}{x y:Rz α}(h:ShR 0 x y){a:α}{j:Nat}{b:Bool}(e:x=some (a,j,b)):y=some (a,j,b):=by
 have:=h _ _ _ e;rwa [bK] at this
def aH7{l:List Tn}{j:Nat}(h:adf l j=true):∃ t,l[j]?=some t/\(t.k=1\/t.k=5)/\t.s∈[[117,110,105,111,110],[101,120,99,101,112,116],[105,110,116,101,114,115,101,99,116],[111,114,100,101,114],[108,105,109,105,116],[111,102,102,115,101,116]]:=by
 unfold adf at h
 generalize ([[117,110,105,111,110],[101,120,99,101,112,116],[105,110,116,101,114,115,101,99,116],[111,114,100,101,114],[108,105,109,105,116],[111,102,102,115,101,116]]:List (List UInt8))=W at h ⊢
 induction W with
 | nil=>cases h
 | cons w r ih =>
  unfold ca at h
  rcases bk _ _▸h with h|h
  .unfold isT at h
   split at h
   .rename_i t e
    simp only[aj,bk,aV] at h
    exact⟨t,e,h.1,by rw[h.2];exact abt⟩
   .cases h
  .obtain⟨t,h1,h2,h3⟩:=ih h
   exact⟨t,h1,h2,dY _ h3⟩
def akg{M:List Tn}{nx:Nat->List Xp->Rz Xp}{so:List (List UInt8×Int)}{i j:Nat}{p:List Xp}{a:Xp}(h:nx i p=some (a,j,true)):acr nx M so i p=some (a,j,true):=by
 unfold acr;rw[h];rfl
def aBf{M:List Tn}{F:Fs}{i j:Nat}{a:Xp}(hn:isT M i [110,111,116]=false)(h:abz F M i []=some (a,j,true)):orS F M i []=some (a,j,true):=by
 refine akg (akg ?_)
 unfold ab6
 rw[hn,cj,show aan F M i []=some (a,j,true) from akg (akg (akg h))]
 rfl
def aHV{X:List Tn}{n k e:Nat}{a:Xp}(h:(aac X n).or 0 []=some (a,e,false))(hk:n+1<=k)(hc:∃ t,X[e]?=some t/\t.k=5/\t.s=[41]):∃ t,(aac X k).ins 0=some (t,e,false)/\t.val=a:=by
 obtain⟨c,hc1,hc2,hc3⟩:=hc
 obtain⟨k,rfl⟩ : ∃ k',k=k'+1:=⟨k-1,by omega⟩
 cases n with
 | zero=>cases h
 | succ n =>
 have hG:=sh0 ((asP (l:=X) (show n+1<=k by omega)).or (i:=0) (p:=[])) h
 rw[aMe]
 unfold ag2
 cases hs:isT X 0 [115,101,108,101,99,116] with
 | true =>
  have hn:isT X 0 [110,111,116]=false:=by
   unfold isT at hs ⊢
   split at hs
   .rename_i t e1
    simp only[aj,aV] at hs
    rw[hs.2];simp
   .cases hs
  rw[aBe,aBf hn (aJD hs)] at h
  cases h
 | false =>
  simp only[ah,av]
  cases hb:isT X 0 [40] with
  | false =>
   simp only[ah,av]
   rw[hG]
   exact⟨_,rfl,rfl⟩
  | true =>
   simp only[am]
   have hn:isT X 0 [110,111,116]=false:=by
    unfold isT at hb ⊢
    split at hb
    .rename_i t e1
     simp only[aj,aV] at hb
     rw[hb.2];simp
    .cases hb
   have hu:∃ t j,aeh (aac X n) X 0=some (t,j,false):=by
    rw[aBe] at h
    cases hp:aeh (aac X n) X 0 with
    | none =>
     exfalso
     have:abz (aac X n) X 0 []=none:=by
      obtain⟨t,ht,h5,h6⟩ : ∃ t,X[0]?=some t/\(t.k=1\/t.k=5)/\t.s=[40]:=by
       unfold isT at hb
       split at hb
       .rename_i t e1
        simp only[aj,bk,aV] at hb
        exact⟨t,e1,hb.1,hb.2⟩
       .cases hb
      have z:∀ w,isT X 0 w=decide ([40]=w):=λw=>by rw[aif ht h5,h6]
      have y:abe X 0=none:=by
       unfold abe
       rw[afJ ht,afJ ht,z,z,z]
       rcases h5 with e|e <;> rw[e] <;> rfl
      unfold abz ac4
      rw[y,z,z,hp]
      rfl
     have hcat:aan (aac X n) X 0 []=none:=by unfold aan ag6 agX acr;rw[this];rfl
     have:orS (aac X n) X 0 []=none:=by
      unfold orS ain acr ab6
      rw[hn,hcat,cj];rfl
     rw[this] at h;cases h
    | some r =>
     obtain⟨t,j,b⟩:=r
     cases b with
     | false=>exact⟨t,j,rfl⟩
     | true =>
      exfalso
      obtain⟨u,hu,h5,h6⟩ : ∃ t,X[0]?=some t/\(t.k=1\/t.k=5)/\t.s=[40]:=by
       unfold isT at hb
       split at hb
       .rename_i t e1
        simp only[aj,bk,aV] at hb
        exact⟨t,e1,hb.1,hb.2⟩
       .cases hb
      have z:∀ w,isT X 0 w=decide ([40]=w):=λw=>by rw[aif hu h5,h6]
      have y:abe X 0=none:=by
       unfold abe
       rw[afJ hu,afJ hu,z,z,z]
       rcases h5 with e|e <;> rw[e] <;> rfl
      have:abz (aac X n) X 0 []=some (t.val,j,true):=by
       unfold abz ac4
       rw[y,z,z,hp]
       rfl
      rw[aBf hn this] at h
      cases h
   obtain⟨t,j,hp⟩:=hu
   have hpG:aeh (aac X k) X 0=some (t,j,false):=sh0 (aw5 (axw X) (asP (show n<=k by omega)) (i:=0)) hp
   rw[hpG]
   simp only[Rz.on]
   have h2:orS (aac X n) X j [t.val]=some (a,e,false):=by rw[← aSz (aws hb hp) hn];exact h
   have h3:(aac X k).or j [t.val]=some (a,e,false):=by
    have:(aac X (n+1)).or j [t.val]=some (a,e,false):=h2
    have q:=sh0 ((asP (l:=X) (show n+1<=k by omega)).or (i:=j) (p:=[t.val])) this
    rwa [bK] at q
   have stop:Stop X j->a=t.val/\e=j:=λs=>by
    rw[aw7 (rfl:abz (aac X n) X j [t.val]=some (t.val,j,false)) (.inl aT) s] at h2
    cases h2;exact⟨rfl,rfl⟩
   cases hq:t.q with
   | false =>
    simp only[cY,ah,av]
    rw[h3]
    exact⟨_,rfl,rfl⟩
   | true =>
    simp only[cO]
    cases hg:adf X j with
    | true =>
     exfalso
     obtain⟨u,g1,g2,g3⟩:=aH7 hg
     obtain⟨_,rfl⟩:=stop (Stop.tok g1 g2 (by
      simp only[bj,bH,dJ] at g3
      rcases g3 with g|g|g|g|g|g <;> rw[g] <;> decide))
     rw[hc1] at g1
     cases g1
     rw[hc3] at g3
     revert g3;decide
    | false =>
     simp only[ah,av]
     cases h41:isT X j [41] with
     | true =>
      obtain⟨u,g1,g2,g3⟩ : ∃ t,X[j]?=some t/\(t.k=1\/t.k=5)/\t.s=[41]:=by
       unfold isT at h41
       split at h41
       .rename_i t e1
        simp only[aj,bk,aV] at h41
        exact⟨t,e1,h41.1,h41.2⟩
       .cases h41
      obtain⟨rfl,rfl⟩:=stop (Stop.tok g1 g2 (by rw[g3];decide))
      exact⟨_,rfl,by unfold Th.val;simp[hq]⟩
     | false =>
      simp only[ah,av]
      rw[h3]
      exact⟨_,rfl,rfl⟩
theorem LocR.trans{d e:Nat}{l m M:List Tn}(h:LocR d l m)(g:LocR e m M):LocR (e+d) l M where
 le:=fx h.le g.le
 is i w:=by rw[bA,g.is,h.is]
 kd i w:=by rw[bA,g.kd,h.kd]
 tx i:=by rw[bA,g.tx,h.tx]
 nu i:=by rw[bA,g.nu,h.nu]
def ar3{l r:List Tn}{c:Tn}{a:Xp}{n k p:Nat}{M:List Tn}(h:(aac l n).or 0 []=some (a,l.length,false))(h5:c.k=5)(hs:c.s=[41])(L:LocR (p+1) (l++c::r) M)(hb:isT M p [40]=true)(hk:n+1<=k) :
  abz (aac M k) M p []=some (a,p+1+l.length+1,false):=by
 have hc:(l++c::r)[l.length]?=some c:=by rw[bJ (ae _),acp];rfl
 have h1:=(aJp (aUh l r c h5 (.inl hs)) n n (ae _)).or (i:=0) (p:=[]) (aU _) _ _ h
 obtain⟨t,h2,h3⟩:=aHV (k:=k) h1 hk ⟨c,hc,h5,hs⟩
 have h4:=(ayZ L k k (ae _)).ins (i:=0) _ _ _ h2
 have h6:isT M (p+1+l.length) [41]=true:=by rw[L.is,aif hc (.inr h5),hs];rfl
 have hp:aeh (aac M k) M p=some (t,p+1+l.length+1,false):=by
  unfold aeh
  rw[show (aac M k).ins (p+1)=some (t,p+1+l.length,false) from h4]
  exact aqr _ h6
 rw[aws hb hp,h3]
def afh(w0:List UInt8):List (List UInt8×Int)->Option Int
 | []=>none
 | (w,o)::r=>if w0=w then some o else afh w0 r
section
variable {M:List Tn} {F:Fs} {q e:Nat} {a b:Xp} {w0:List UInt8}
theorem aw8(z:∀ w,isT M q w=decide (w0=w)):∀ so:List (List UInt8×Int),opT M q so=afh w0 so
 | []=>rfl
 | (w,o)::r=>by
  unfold opT afh
  rw[z,aw8 z r]
  by_cases h:w0=w
  .rw[au h,dM h];rfl
  .rw[ar h,bd h];rfl
def sgL:List (List UInt8×Int):=[([111,114],18),([97,110,100],17),([124,124],10),([43],5),([45],6),([42],7),([47],8),([37],9),([61],11),([60,62],12),([60],13),([60,61],14),([62],15),([62,61],16)]
theorem aVJ(h1:abz F M 0 []=some (a,q,false))(h2:abz F M (q+1) []=some (b,e,false))(hM:1<=M.length)(he:M.length<=e)(n0:isT M 0 [110,111,116]=false)(n1:isT M (q+1) [110,111,116]=false)
  (z:∀ w,isT M q w=decide (w0=w)) {o:Int} (ho:(w0,o)∈sgL):orS F M 0 []=some (cR o [a,b],e,false):=by
 have s:Stop M e:=Stop.out he
 have K:=λso=>aw8 z so
 have m1:afh w0 [([42],7),([47],8),([37],9)]=none->agX F M 0 []=some (a,q,false):=λh=>fJ h1 ((K _).trans h)
 have m2:agX F M (q+1) []=some (b,e,false):=fJ h2 s.mul
 have a1:afh w0 [([42],7),([47],8),([37],9)]=none->afh w0 [([43],5),([45],6)]=none->ag6 F M 0 []=some (a,q,false):=λh g=>fJ (m1 h) ((K _).trans g)
 have a2:ag6 F M (q+1) []=some (b,e,false):=fJ m2 s.add
 have c1:afh w0 [([42],7),([47],8),([37],9)]=none->afh w0 [([43],5),([45],6)]=none->afh w0 [([124,124],10)]=none->aan F M 0 []=some (a,q,false):=λh g f=>fJ (a1 h g) ((K _).trans f)
 have c2:aan F M (q+1) []=some (b,e,false):=fJ a2 s.cat
 have endN:∀ {x:Xp},aan F M 0 []=some (x,e,false)->orS F M 0 []=some (x,e,false):=λh=>fJ (fJ (ajQ (.inr n0) h (atf s)) s.and) s.or
 have b2:ab6 F M (q+1) []=some (b,e,false):=ajQ (.inr n1) c2 (atf s)
 have cm:afh w0 agp=none->w0∉([[105,115],[110,111,116],[108,105,107,101],[98,101,116,119,101,101,110],[105,110]]:List (List UInt8))->abN F M q a=some (a,q,false):=λh g=>by
  simp only[bj,bH,dJ,af9] at g
  unfold abN abx
  rw[K,h]
  dsimp only
  rw[z,z,z,z,z,bd g.1,bd g.2.1,bd g.2.2.1,bd g.2.2.2.1,bd g.2.2.2.2]
  rfl
 have cmH:∀ {o:Int},afh w0 [([42],7),([47],8),([37],9)]=none->afh w0 [([43],5),([45],6)]=none->afh w0 [([124,124],10)]=none->afh w0 agp=some o->orS F M 0 []=some (cR o [a,b],e,false):=λh g f k=>by
  refine fJ (fJ (ajQ (.inr n0) (c1 h g f) ?_) s.and) s.or
  unfold abN
  rw[K,k]
  dsimp only
  rw[c2]
  rfl
 simp only[sgL,bj,bH,dJ,aY] at ho
 rcases ho with ⟨rfl,rfl⟩|⟨rfl,rfl⟩|⟨rfl,rfl⟩|⟨rfl,rfl⟩|⟨rfl,rfl⟩|⟨rfl,rfl⟩|⟨rfl,rfl⟩|⟨rfl,rfl⟩|⟨rfl,rfl⟩|⟨rfl,rfl⟩|⟨rfl,rfl⟩|⟨rfl,rfl⟩|⟨rfl,rfl⟩|⟨rfl,rfl⟩
 .exact afI (fJ (ajQ (.inr n0) (c1 rfl rfl rfl) (cm rfl aI)) ((K _).trans rfl)) ((K _).trans rfl) (fJ b2 s.and) s.or hM
 .exact fJ (afI (ajQ (.inr n0) (c1 rfl rfl rfl) (cm rfl aI)) ((K _).trans rfl) b2 s.and hM) s.or
 .exact endN (afI (a1 rfl rfl) ((K _).trans rfl) a2 s.cat hM)
 .exact endN (fJ (afI (m1 rfl) ((K _).trans rfl) m2 s.add hM) s.cat)
 .exact endN (fJ (afI (m1 rfl) ((K _).trans rfl) m2 s.add hM) s.cat)
 .exact endN (fJ (fJ (afI h1 ((K _).trans rfl) h2 s.mul hM) s.add) s.cat)
 .exact endN (fJ (fJ (afI h1 ((K _).trans rfl) h2 s.mul hM) s.add) s.cat)
 .exact endN (fJ (fJ (afI h1 ((K _).trans rfl) h2 s.mul hM) s.add) s.cat)
 all_goals exact cmH rfl rfl rfl rfl
end
end Go.Tab
namespace Go.Proofs.YtghkmcffifpkeaaGreat
open Pe Tab
def ap9{s:List UInt8}{a:Xp}{p:Int}(h:adg s=some (a,p,0)):∃ l,abv s=some (l,0,0)/\(pF l).or 0 []=some (a,l.length,false)/\ahe a=true/\p=0:=by
 unfold adg afg at h
 split at h
 .cases h
 .rename_i l p' e' ht
  split at h
  .rename_i he
   subst he
   obtain⟨l',q1,q2,⟨h1,h2,h3,h4⟩|h1⟩:=ar4 s
   .rw[ht] at h1;cases h1
    obtain⟨r,hr,g1,g2,g3,g4⟩:=aqT h2 h4
    dsimp only at h
    rw[hr] at h
    obtain⟨a',j,b⟩:=r
    simp only[aJ,ab] at h
    cases b with
    | true=>simp only[cS,aY] at h;obtain⟨_,_,h⟩:=h;split at h <;> cases h
    | false =>
     simp only[cS] at h
     split at h
     .cases h
     .split at h
      .rename_i c1 c2
       cases h
       have:j=l.length:=by dsimp only at g1;omega
       subst this
       exact⟨l,by rw[ht,h3 rfl],hr,c2,rfl⟩
      .cases h
   .rw[ht] at h1;cases h1
  .rename_i he
   simp only[bD] at h
   exact absurd h.2.2 he
def ax2{s:List UInt8}{m:List Tn}{a:Xp}(h:abv s=some (m,0,0))(hr:(pF m).or 0 []=some (a,m.length,false)):adg s=some (if ahe a then (a,0,0) else (x0,plT s m 0,4)):=by
 unfold adg afg
 rw[h]
 dsimp only
 rw[au rfl,hr]
 simp only[aJ,cS,dE,av]
abbrev tk1(c:UInt8):Tn:=⟨5,0,1,0,[c]⟩
def aSS(c:UInt8)(hc:c=40\/c=41)(R:List UInt8):fm (c::R) 0=(tk1 c,0):=by
 rcases hc with rfl|rfl <;> (unfold fm;simp[cU,aeq,acH,acX,eE,afM,cJ,lxG])
def avP(c:UInt8)(hc:c=40\/c=41){R:List UInt8}{N:List Tn}(h:Lx R 0 N):Lx (c::R) 0 (tk1 c::N.map (shT 1)) :=
  .cons (aSS c hc R) (show (5:Int)≠0 by decide) (aDE [c] h (aU _))
def apU{s R:List UInt8}{l N:List Tn}(h:Lx s 0 l)(hR:Lx R 0 N):Lx (s++10::41::R) 0 (l++(tk1 41::N.map (shT 1)).map (shT (s.length+1))):=by
 refine aXT h ?_ (aU _)
 have:=aDE (s++[10]) (avP 41 (.inr rfl) hR) (aU _)
 simpa using this
def aHz:Lx [] 0 []:=.nil rfl rfl
def sgT(w:List UInt8):Tn:=⟨if acX (w.headD 0) then 1 else 5,0,w.length,0,w⟩
def aSR{w:List UInt8}{o:Int}(h:(w,o)∈sgL)(Z:List UInt8):fm (w++40::Z) 0=(sgT w,0):=by
 simp only[sgL,bj,bH,dJ,aY] at h
 have r1:amt [111,114]=true:=by decide +kernel
 have r2:amt [97,110,100]=true:=by decide +kernel
 rcases h with ⟨rfl,rfl⟩|⟨rfl,rfl⟩|⟨rfl,rfl⟩|⟨rfl,rfl⟩|⟨rfl,rfl⟩|⟨rfl,rfl⟩|⟨rfl,rfl⟩|⟨rfl,rfl⟩|⟨rfl,rfl⟩|⟨rfl,rfl⟩|⟨rfl,rfl⟩|⟨rfl,rfl⟩|⟨rfl,rfl⟩|⟨rfl,rfl⟩
 all_goals (unfold fm;simp[cU,aeq,acH,acX,eE,afM,cJ,lxG,lxW,sgT,abr,r1,r2])
def a5o{w:List UInt8}{o:Int}(h:(w,o)∈sgL){Z:List UInt8}{N:List Tn}(hN:Lx (40::Z) 0 N):Lx (w++40::Z) 0 (sgT w::N.map (shT w.length)):=by
 refine .cons (aSR h Z) (by unfold sgT;dsimp only;split <;> decide) ?_
 have:=aDE w hN (aU _)
 simpa [sgT] using this
def aka(t:Tn)(X:List Tn)(k:Nat):LocR 1 X (t::X.map (shT k)):=aBk [t] X k
def pl0(S:List UInt8)(N:List Tn)(k:Nat):plT S (tk1 40::N.map (shT k)) 0=0:=by unfold plT;rw[ar aT];rfl
def aAr{s:List UInt8}{a:Xp}{p:Int}(h:adg s=some (a,p,0))(hs:s.length<=900):adg (40::(s++[10,41]))=some (a,0,0):=by
 obtain⟨l,h1,h2,h3,-⟩:=ap9 h
 obtain⟨-,-,hl⟩:=ar5 h1
 have hL:=avP 40 (.inl rfl) (apU hl aHz)
 have ht:=aBj (by simp;omega) hL
 have L:=aka (tk1 40) (l++(tk1 41::([]:List Tn).map (shT 1)).map (shT (s.length+1))) 1
 generalize hM:(tk1 40::(l++(tk1 41::([]:List Tn).map (shT 1)).map (shT (s.length+1))).map (shT 1))=M at ht L
 have hlen:M.length=l.length+2:=by rw[← hM];simp
 have hb:isT M 0 [40]=true:=by rw[← hM];rfl
 have hn:isT M 0 [110,111,116]=false:=by rw[← hM];rfl
 have hu:=ar3 (n:=2*l.length+2) (k:=2*M.length+1) (p:=0) (r:=[]) (c:=shT (s.length+1) (tk1 41)) h2 rfl rfl L hb aC
 have ho:(pF M).or 0 []=some (a,M.length,false):=by
  show orS (aac M (2*M.length+1)) M 0 []=_
  rw[aw7 hu (.inr hn) (Stop.out aC)]
  rw[hlen,show 0+1+l.length+1=l.length+2 by omega]
 rw[ax2 ht ho,au h3]
def aAq{s t w:List UInt8}{a b:Xp}{p q o:Int}(h:adg s=some (a,p,0))(g:adg t=some (b,q,0))(hs:s.length<=900)(ht:t.length<=900)(ho:(w,o)∈sgL) :
  adg (40::(s++10::41::(w++40::(t++[10,41]))))=some (if ahe (cR o [a,b]) then (cR o [a,b],0,0) else (x0,0,4)):=by
 obtain⟨l,h1,h2,-,-⟩:=ap9 h
 obtain⟨-,-,hl⟩:=ar5 h1
 obtain⟨l',g1,g2,-,-⟩:=ap9 g
 obtain⟨-,-,gl⟩:=ar5 g1
 have hw:w.length<=3:=by
  simp only[sgL,bj,bH,dJ,aY] at ho
  rcases ho with ⟨rfl,_⟩|⟨rfl,_⟩|⟨rfl,_⟩|⟨rfl,_⟩|⟨rfl,_⟩|⟨rfl,_⟩|⟨rfl,_⟩|⟨rfl,_⟩|⟨rfl,_⟩|⟨rfl,_⟩|⟨rfl,_⟩|⟨rfl,_⟩|⟨rfl,_⟩|⟨rfl,_⟩ <;> decide
 have x2:=avP 40 (.inl rfl) (apU gl aHz)
 have L2:=aka (tk1 40) (l'++(tk1 41::([]:List Tn).map (shT 1)).map (shT (t.length+1))) 1
 generalize hX:(tk1 40::(l'++(tk1 41::([]:List Tn).map (shT 1)).map (shT (t.length+1))).map (shT 1))=X at x2 L2
 have hXl:X.length=l'.length+2:=by rw[← hX];simp
 have xb:isT X 0 [40]=true:=by rw[← hX];rfl
 have xn:isT X 0 [110,111,116]=false:=by rw[← hX];rfl
 have x3:=a5o ho x2
 have L3:=aka (sgT w) X w.length
 generalize hY:sgT w::X.map (shT w.length)=Y at x3 L3
 have hYl:Y.length=l'.length+3:=by rw[← hY];simp[hXl]
 have yz:∀ v,isT Y 0 v=decide (w=v):=λv=>by
  rw[← hY,aif (t:=sgT w) rfl (by unfold sgT;dsimp only;split <;> simp)];rfl
 have hL:=avP 40 (.inl rfl) (apU hl x3)
 have hT:=aBj (by simp;omega) hL
 have L4:=aka (tk1 41) Y 1
 have L5:LocR l.length ((tk1 41)::Y.map (shT 1)) (l++((tk1 41)::Y.map (shT 1)).map (shT (s.length+1))):=aBk l _ _
 have L6:=aka (tk1 40) (l++(tk1 41::Y.map (shT 1)).map (shT (s.length+1))) 1
 have pl:=pl0 (40::(s++10::41::(w++40::(t++[10,41])))) (l++(tk1 41::Y.map (shT 1)).map (shT (s.length+1))) 1
 generalize hM:(tk1 40::(l++(tk1 41::Y.map (shT 1)).map (shT (s.length+1))).map (shT 1))=M at hT L6 pl
 have hlen:M.length=l.length+l'.length+5:=by rw[← hM];simp[hYl];omega
 have hb:isT M 0 [40]=true:=by rw[← hM];rfl
 have hn:isT M 0 [110,111,116]=false:=by rw[← hM];rfl
 have LY:=(L4.trans L5).trans L6
 have LX:=L3.trans LY
 have LZ:=L2.trans LX
 have e1:1+(l.length+1)+0=l.length+2:=by omega
 have e2:1+(l.length+1)+1+0=l.length+3:=by omega
 have e3:1+(l.length+1)+1+1=l.length+3+1:=by omega
 have z:∀ v,isT M (l.length+2) v=decide (w=v):=λv=>by rw[← e1,LY.is,yz]
 have mb:isT M (l.length+3) [40]=true:=by rw[← e2,LX.is,xb]
 have mn:isT M (l.length+3) [110,111,116]=false:=by rw[← e2,LX.is,xn]
 rw[e3] at LZ
 have u1:=ar3 (n:=2*l.length+2) (k:=2*M.length+1) (p:=0) (c:=shT (s.length+1) (tk1 41)) h2 rfl rfl L6 hb aC
 have u2:=ar3 (n:=2*l'.length+2) (k:=2*M.length+1) (p:=l.length+3) (r:=[]) (c:=shT (t.length+1) (tk1 41)) g2 rfl rfl LZ mb aC
 rw[show 0+1+l.length+1=l.length+2 by omega] at u1
 rw[show l.length+3+1+l'.length+1=M.length by omega] at u2
 have hor:(pF M).or 0 []=some (cR o [a,b],M.length,false):=aVJ u1 u2 aC (ae _) hn mn z ho
 rw[ax2 hT hor,pl]
def aJV(a b:List UInt8):aK a++aK b=aK (a++b):=by
 apply ByteArray.ext
 simp[aK]
def aJ2(P:Program)(T:TT)(t:Nat)(u:Option TypeDesc)(a b:List UInt8)(h:a.length+b.length<=4000):eT P T t u .add (.of (.lit (.string (aK a)))) (.of (.lit (.string (aK b))))=out (agi (aK (a++b))):=by
 rw[Z1u,ahb,ahb,au (by unfold akw;omega),aJV]
def avx(P:Program)(T:TT)(t:Nat)(u:Option TypeDesc){a b c:List UInt8}(hc:a++b=c)(h:a.length+b.length<=4000):eT P T t u .add (.of (.lit (.string (aK a)))) (.of (.lit (.string (aK b))))=out (agi (aK c)):=by rw[← hc];exact aJ2 P T t u a b h
def aIW(tk:Tk):bW tk 14 (Pe.elemOf tP 43) (some [(0,[.of (.lit (.string {data:=#[111,114]}))]),(1,[.of (.lit (.string {data:=#[97,110,100]}))]),(2,[.of (.lit (.string {data:=#[124,124]}))]),(3,[.of (.lit (.string {data:=#[43]}))]),(4,[.of (.lit (.string {data:=#[45]}))]),(5,[.of (.lit (.string {data:=#[42]}))]),(6,[.of (.lit (.string {data:=#[47]}))]),(7,[.of (.lit (.string {data:=#[37]}))]),(8,[.of (.lit (.string {data:=#[61]}))]),(9,[.of (.lit (.string {data:=#[60,62]}))]),(10,[.of (.lit (.string {data:=#[60]}))]),(11,[.of (.lit (.string {data:=#[60,61]}))]),(12,[.of (.lit (.string {data:=#[62]}))]),(13,[.of (.lit (.string {data:=#[62,61]}))])])=out (.own tk 9 1 [.lit (.string {data:=#[111,114]}),.lit (.string {data:=#[97,110,100]}),.lit (.string {data:=#[124,124]}),.lit (.string {data:=#[43]}),.lit (.string {data:=#[45]}),.lit (.string {data:=#[42]}),.lit (.string {data:=#[47]}),.lit (.string {data:=#[37]}),.lit (.string {data:=#[61]}),.lit (.string {data:=#[60,62]}),.lit (.string {data:=#[60]}),.lit (.string {data:=#[60,61]}),.lit (.string {data:=#[62]}),.lit (.string {data:=#[62,61]})] 14):=by rw[E43];kernel_rfl
def aIX(tk:Tk):bW tk 14 (Pe.elemOf tP 66) (some [(0,[.of (.lit (.int .i64 18))]),(1,[.of (.lit (.int .i64 17))]),(2,[.of (.lit (.int .i64 10))]),(3,[.of (.lit (.int .i64 5))]),(4,[.of (.lit (.int .i64 6))]),(5,[.of (.lit (.int .i64 7))]),(6,[.of (.lit (.int .i64 8))]),(7,[.of (.lit (.int .i64 9))]),(8,[.of (.lit (.int .i64 11))]),(9,[.of (.lit (.int .i64 12))]),(10,[.of (.lit (.int .i64 13))]),(11,[.of (.lit (.int .i64 14))]),(12,[.of (.lit (.int .i64 15))]),(13,[.of (.lit (.int .i64 16))])])=out (.own tk 3 1 [.lit (.int .i64 18),.lit (.int .i64 17),.lit (.int .i64 10),.lit (.int .i64 5),.lit (.int .i64 6),.lit (.int .i64 7),.lit (.int .i64 8),.lit (.int .i64 9),.lit (.int .i64 11),.lit (.int .i64 12),.lit (.int .i64 13),.lit (.int .i64 14),.lit (.int .i64 15),.lit (.int .i64 16)] 14):=by rw[E66];kernel_rfl
def sgW:List (List UInt8):=sgL.map Prod.fst
def sgO:List Int:=sgL.map Prod.snd
def aH0(tk:Tk)(e z:Nat)(i:Int):bz tP 43 (.own tk e z [.lit (.string {data:=#[111,114]}),.lit (.string {data:=#[97,110,100]}),.lit (.string {data:=#[124,124]}),.lit (.string {data:=#[43]}),.lit (.string {data:=#[45]}),.lit (.string {data:=#[42]}),.lit (.string {data:=#[47]}),.lit (.string {data:=#[37]}),.lit (.string {data:=#[61]}),.lit (.string {data:=#[60,62]}),.lit (.string {data:=#[60]}),.lit (.string {data:=#[60,61]}),.lit (.string {data:=#[62]}),.lit (.string {data:=#[62,61]})] 14) (.of (.lit (.int .i64 i)))=bz tP 43 (.of (slC bU sgW)) (.of (.lit (.int .i64 i))):=axO tk e z sgW 14 rfl i
def aH1(tk:Tk)(e z:Nat)(i:Int):bz tP 66 (.own tk e z [.lit (.int .i64 18),.lit (.int .i64 17),.lit (.int .i64 10),.lit (.int .i64 5),.lit (.int .i64 6),.lit (.int .i64 7),.lit (.int .i64 8),.lit (.int .i64 9),.lit (.int .i64 11),.lit (.int .i64 12),.lit (.int .i64 13),.lit (.int .i64 14),.lit (.int .i64 15),.lit (.int .i64 16)] 14) (.of (.lit (.int .i64 i)))=bz tP 66 (.of (slC aa6 sgO)) (.of (.lit (.int .i64 i))):=by
 rw[abY E66 _ _ i _ rfl,abY E66 _ _ i _ rfl]
 rfl
def auu(P:Program)(T:TT)(t:Nat)(u:Option TypeDesc)(n:Int):eT P T t u .rem (.of (.lit (.int .i64 n))) (.of (.lit (.int .i64 14)))=out (aQ (n.tmod 14)):=by simp[eT,fu,abI,aer,bE,out]
def as8{s:List UInt8}{r:Xp×Int×Int}(h:adg s=some r):eN r.1/\xpW r.1<=6000400:=by
 have z:eN x0/\xpW x0<=6000400:=⟨akF,by rw[ar1];omega⟩
 unfold adg afg at h
 split at h
 .cases h
 .rename_i l p e ht
  split at h
  .rename_i he
   obtain⟨hok,h20,hp⟩:=ahY ht he
   obtain⟨q,hr,g1,g2,g3,g4⟩:=aqT hok h20
   dsimp only at h
   rw[hr] at h
   obtain⟨a,j,b⟩:=q
   simp only[aJ,ab] at h
   subst h
   cases b with
   | true=>exact z
   | false =>
    simp only[cS]
    split
    .exact z
    split
    .exact⟨g2,g3⟩
    .exact z
  .cases h;exact z
def zc8:=gj (gv @Tryz.f8.eq_1 @zq @bb6 @a0t @mt4 @mt5 @mt6 @aE3) (gv @U3 @T5 @mt8 @mp3 @a0q @mt9 @a0s @bF) (gv @bQ @afZ @P9 @Q9 @P3 @Q3 @zT0 (kf fi8))
def aoa(s t:List UInt8)(way:Nat)(hw:way<256):H1 8 [.of (aG (aK s)),.of (aG (aK t)),.of (.lit (.int .u8 way))] (aM true):=by
 by_cases hs:s.length<=900
 .have ds:((900:Int)<(s.length:Int))=False:=aF aC
  by_cases ht:t.length<=900
  .have dt:((900:Int)<(t.length:Int))=False:=aF aC
   obtain⟨⟨a,p,e⟩,h1⟩:=amQ s
   obtain⟨⟨b,q,f⟩,h2⟩:=amQ t
   obtain⟨⟨c,u,g⟩,h3⟩:=amQ (40::(s++[10,41]))
   have k1:=λK=>aH.k (agU s (by unfold LB;omega) h1) K
   have k2:=λK=>aH.k (agU t (by unfold LB;omega) h2) K
   have k3:=λK=>aH.k (agU (40::(s++[10,41])) (by simp;unfold LB;omega) h3) K
   dsimp only at k1 k2 k3
   have z1:∀ (P:Program) (T:TT) (t':Nat) (v:Option TypeDesc),eT P T t' v .add (.of (.lit (.string {data:=#[40]}))) (.of (.lit (.string (aK s))))=out (agi (aK (40::s))):=λP T t' v=>aJ2 P T t' v [40] s (by simp only[abf];omega)
   have z2:∀ (P:Program) (T:TT) (t':Nat) (v:Option TypeDesc),eT P T t' v .add (.of (.lit (.string (aK (40::s))))) (.of (.lit (.string {data:=#[10,41]})))=out (agi (aK (40::(s++[10,41])))):=λP T t' v=>aJ2 P T t' v (40::s) [10,41] (by simp only[abf];omega)
   have kA:=λK=>aH.k (ahF ((ajq WL (ae _)).1 a (by have:=(as8 h1).2;dsimp only at this;unfold WL;omega))) K
   by_cases he:e=0
   .subst he
    have h4:=aAr h1 hs
    rw[h3] at h4
    cases h4
    by_cases hf:f=0
    .subst hf
     obtain⟨k,hk⟩ : ∃ k,k=way % 14:=⟨_,rfl⟩
     have hk14:k<sgL.length:=by show k<14;omega
     obtain⟨⟨w,o⟩,hwo⟩ : ∃ x,sgL[k]?=some x:=⟨_,aL hk14⟩
     have hsg:(w,o)∈sgL:=bO hwo
     have gw:aaA sgW (k:Int)=some w:=as4 (by unfold sgW;rw[bp,hwo];rfl)
     have go:aaA sgO (k:Int)=some o:=as4 (by unfold sgO;rw[bp,hwo];rfl)
     have hw1:IntKind.i64.wrap (way:Int)=way:=eu _ aC aC
     have hw2:(way:Int).tmod 14=(k:Int):=by rw[hk];rfl
     have hwl:w.length<=3:=(by decide:∀ x∈sgL,x.1.length<=3) _ hsg
     have h5:=aAq h1 h2 hs ht hsg
     have z3:=λ(P:Program) (T:TT) (t':Nat) (v:Option TypeDesc)=>avx P T t' v (a:=40::(s++[10,41])) (b:=w) (c:=40::(s++10::41::w)) aT (by simp;omega)
     have z4:∀ (P:Program) (T:TT) (t':Nat) (v:Option TypeDesc),eT P T t' v .add (.of (.lit (.string (aK (40::(s++10::41::w)))))) (.of (.lit (.string {data:=#[40]})))=out (agi (aK (40::(s++10::41::(w++[40]))))):=λP T t' v=>avx P T t' v (a:=40::(s++10::41::w)) (b:=[40]) aT (by simp;omega)
     have z5:=λ(P:Program) (T:TT) (t':Nat) (v:Option TypeDesc)=>avx P T t' v (a:=40::(s++10::41::(w++[40]))) (b:=t) (c:=40::(s++10::41::(w++40::t))) aT (by simp;omega)
     have z6:∀ (P:Program) (T:TT) (t':Nat) (v:Option TypeDesc),eT P T t' v .add (.of (.lit (.string (aK (40::(s++10::41::(w++40::t))))))) (.of (.lit (.string {data:=#[10,41]})))=out (agi (aK (40::(s++10::41::(w++40::(t++[10,41])))))):=λP T t' v=>avx P T t' v (a:=40::(s++10::41::(w++40::t))) (b:=[10,41]) aT (by simp;omega)
     have k5:=λK=>aH.k (ahF (apC o a b)) K
     obtain⟨wa,wb⟩:=ai (as8 h1) (as8 h2)
     have hWo:eN (cR o [a,b]):=(aok ..).2 ⟨(by decide:∀ x∈sgL,-9223372036854775808<=x.2/\x.2<=9223372036854775807) _ hsg,aoo,⟨wa.1,wb.1,trivial⟩,trivial⟩
     have hWw:xpW (cR o [a,b])<=WL:=by
      have:=wa.2;have:=wb.2
      dsimp only at *
      rw[cR,awc]
      simp only[cD,aaw,aR,v0]
      unfold WL
      have:ByteArray.empty.size=0:=rfl
      omega
     have k6:=λK=>aH.k (ahF (auD (cR o [a,b]) ⟨hWo,hWw⟩)) K
     have k7:=λK=>aH.k (ahF ((ajq WL (ae _)).1 (cR o [a,b]) hWw)) K
     cases hr:ahe (cR o [a,b]) with
     | true =>
      rw[hr] at h5 k6
      simp only[am] at h5
      have k4:=λK=>aH.k (agU (40::(s++10::41::(w++40::(t++[10,41])))) (by simp;unfold LB;omega) h5) K
      refine bB2 fi8 ?_
      simp only[↓zA,sevalprocAttr,zc8,ack,afA,afz,ds,dt,z1,z2,k1,k2,k3,kA,ajU,aIW,aIX,alh T5 U3,auu,hw1,hw2,aH0,aH1,gw,go,z3,z4,z5,z6,k4,k5,k6,k7]
      try rfl
     | false =>
      rw[hr] at h5 k6
      simp only[ah,av] at h5
      have k4:=λK=>aH.k (agU (40::(s++10::41::(w++40::(t++[10,41])))) (by simp;unfold LB;omega) h5) K
      refine bB2 fi8 ?_
      simp only[↓zA,sevalprocAttr,zc8,ack,afA,afz,ds,dt,z1,z2,k1,k2,k3,kA,ajU,aIW,aIX,alh T5 U3,auu,hw1,hw2,aH0,aH1,gw,go,z3,z4,z5,z6,k4,k5,k6]
      try rfl
    .have hf':(f=0)=False:=aF hf
     refine bB2 fi8 ?_
     simp only[↓zA,sevalprocAttr,zc8,ack,afA,afz,ds,dt,z1,z2,k1,k2,k3,kA,hf',ajU]
   .have he':(e=0)=False:=aF he
    refine bB2 fi8 ?_
    simp only[↓zA,sevalprocAttr,zc8,ack,afA,afz,ds,dt,z1,z2,k1,k2,k3,he',ajU]
  .have dt:((900:Int)<(t.length:Int))=True:=aa aC
   refine bB2 fi8 ?_
   simp only[↓zA,sevalprocAttr,zc8,ack,ds,dt,ajU]
 .have ds:((900:Int)<(s.length:Int))=True:=aa aC
  refine bB2 fi8 ?_
  simp only[↓zA,sevalprocAttr,zc8,ack,ds,ajU]
end Go.Proofs.YtghkmcffifpkeaaGreat
namespace Go.Proofs.YtghkmcffifpkeaaGreat.parseBrackets
open Pe Tab RowKit ChangeShapes WideShapes ChangeAt card
def aM4(H:Type)(enc:TypeId×Value->H)(W:World)(base:Nat)(args:Array Value)(ds gs:List (DataW H))(before:List MemPlace)
  (hval:∀ (j:Nat) t v,Tryz.f8.params[j]?=some t->args[j]?=some v->Value.okWide Tryz.prog W .any base t v)
  (hW:DataW.Whole enc Tryz.prog Tryz.f8.params.toList Rows.parseBracketsSpec.vars false W args.toList ds gs before)
  (hsh:W.ShapedOpen Tryz.prog) :
  Calls Tryz.prog 8 args W λe W'=>∃ v,e=.returned v/\Rows.parseBracketsSpec.post enc Tryz.prog Tryz.f8 false true false false W args v W':=by
 have hW':=hW
 obtain⟨p,q,hA0,hV,rfl,hfz,hnd⟩:=hW
 have hA:DataW.TrodAll enc Tryz.prog W 0 (λ_=>true) true Tryz.f8.params.toList args.toList ds p:=hA0
 rw[Tryz.params8] at hA hval
 have hAk:=hA
 obtain⟨v0,v1,v2,d0,d1,d2,p0,p1,p2,rfl,rfl,rfl,h0,h1,h2⟩:=trodAll_three hA
 obtain⟨rfl,rfl⟩:=trodVars_none hV
 obtain⟨s,rfl,rfl,rfl,_⟩:=Go.ChangeMaps.open_string Tryz.underlying9 (hval 0 _ v0 rfl rfl) h0
 obtain⟨t,rfl,rfl,rfl,_⟩:=Go.ChangeMaps.open_string Tryz.underlying9 (hval 1 _ v1 rfl rfl) h1
 obtain⟨n,rfl,rfl,rfl,hn⟩:=open_int Tryz.underlying5 (hval 2 _ v2 rfl rfl) h2
 have hn2:0<=n/\n<256:=by
  simp only[Lit.wf,IntKind.min,IntKind.max,IntKind.signed,IntKind.bits,aj] at hn
  simp at hn
  omega
 obtain⟨m,rfl⟩ : ∃ m:Nat,n=m:=⟨n.toNat,by omega⟩
 have hcall:=aoa s.data.toList t.data.toList m aC
 rw[atC,atC] at hcall
 refine (aGR hcall Tryz.func8 (table hsh) (vs:=[.string s,.string t,.int .u8 m]) ⟨_,_,rfl,⟨rfl,rfl⟩,_,_,rfl,⟨rfl,rfl⟩,_,_,rfl,⟨rfl,rfl⟩,rfl⟩).mono ?_
 rintro e W' ⟨rfl,hB⟩
 exact⟨_,rfl,⟨_,_,_,[],_,[],hW',trodAll_mk1 (shut_bool Tryz.underlying4 _),am7 (aJL aOs aOs a8R) hAk (λx hx=>by cases hx) (λx hx=>by cases hx),rfl,hB.frame _,λh=>by cases h⟩⟩
def aL5(os:Os):laidMet Tryz.prog Rows.parseBracketsUptoRow.laid ((anM os).forCall (λ_ _=>0) ⟨#[],#[.string ⟨#[]⟩,.string ⟨#[]⟩,.int .u8 0],[]⟩).memory :=
 laidMet_of_run' 8 aS aS
def a3n(os:Os){H:Type}(enc:TypeId×Value->H):∃ places,DataW.whole enc Tryz.prog ((anM os).forCall (λ_ _=>0) ⟨#[],#[.string ⟨#[]⟩,.string ⟨#[]⟩,.int .u8 0],[]⟩).memory Tryz.f8.params.toList Rows.parseBracketsSpec.vars false (#[.string ⟨#[]⟩,.string ⟨#[]⟩,.int .u8 0]:Array Value).toList 8=some ([.lit (.string []),.lit (.string []),.lit (.int .u8 0)],[],places) :=
 ⟨[],by kernel_rfl⟩
def aDN(os:Os)(started:os.Started)(H:Type)(enc:TypeId×Value->H)(F:Stop.Interp) :
  ReturnsInHanded {} Tryz.checked os 8 .any ((Rows.OpenSpec.upto Rows.parseBracketsSpec).preRow enc Tryz.prog Tryz.f8 Rows.parseBracketsUptoRow.domain false Rows.parseBracketsUptoRow.laid) (((Rows.OpenSpec.upto Rows.parseBracketsSpec).at F).post enc Tryz.prog Tryz.f8 false true false false):=by
 obtain⟨places,hx⟩:=a3n os enc
 refine returnsInHanded_of_row (C:=Tryz.checked) (s:=Rows.OpenSpec.upto Rows.parseBracketsSpec) own started aS Tryz.func8
  (witness_row_at (enc:=enc) (C:=Tryz.checked) false (anM os) #[.string ⟨#[]⟩,.string ⟨#[]⟩,.int .u8 0] rfl aS aS aS
   (OpenSpec.preRow_of_cond 8 hx aS (λk hk=>by cases hk;kernel_rfl) aS (aL5 os))) ?_
 intro W base args ds gs before hval hW _ hcond _ hL hsh _
 exact aM4 H enc W base args ds gs before hval hW hsh

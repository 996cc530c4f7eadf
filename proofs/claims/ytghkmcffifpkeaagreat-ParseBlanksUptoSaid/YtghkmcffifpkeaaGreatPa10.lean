/- A part. Conditions: none. -/
import Derived.Test.YtghkmcffifpkeaaGreatPa9
set_option linter.all false
set_option maxRecDepth 100000
set_option maxHeartbeats 64000000
namespace Go.Tab
open Pe
def nsW(l:List (List UInt8)):Nat:=(l.map dQ).sum
def aCt(a:List (List UInt8))(t:List UInt8):nsW (a++[t])=nsW a+t.length+1:=by simp[nsW,dQ];omega
def aG9(l:List Xp):(l.map xpW).sum=cP l:=(akC l).symm
def aYb(l:List Qy):(l.map qyW).sum=aaV l:=(akI l).symm
def atp(k:Int)(t n:List UInt8)(cs:List Cd)(ns:List (List UInt8))(un:Bool)(ks:List Kd)(rs:List Rd)(xs:List Xp)(rw:List (List Xp))(ss:List As)(wh:List Xp)(q:List Qy) :
  smW (.mk k t n cs ns un ks rs xs rw ss wh q)=t.length+n.length+(cs.map cdW).sum+nsW ns+(ks.map kdW).sum+(rs.map rdW).sum+cP xs+(rw.map (lsW xpW)).sum+(ss.map asW).sum+cP wh+aaV q+14:=by
 simp only[smW,fS,dQ,lsW,nsW,aG9,aYb]
 omega
def aph(k:Int)(t n:List UInt8)(cs:List Cd)(ns:List (List UInt8))(un:Bool)(ks:List Kd)(rs:List Rd)(xs:List Xp)(rw:List (List Xp))(ss:List As)(wh:List Xp)(q:List Qy) :
  abi (.mk k t n cs ns un ks rs xs rw ss wh q)↔I64 k/\(∀ c∈cs,aG4 c)/\dv xs/\(∀ r∈rw,dv r)/\(∀ a∈ss,auq a)/\dv wh/\acm q:=by
 simp only[abi,lsP,fa,a3s,a3d,ajJ,ajK,cV,aaC,implies_true]
def aqO{k:Int}(h:I64 k)(t n:List UInt8)(ns:List (List UInt8))(un:Bool):abi (smK k t n ns un):=(aph ..).2 ⟨h,by simp,trivial,by simp,by simp,trivial,trivial⟩
def k_w(k:Int)(t n:List UInt8)(ns:List (List UInt8))(un:Bool):smW (smK k t n ns un)=t.length+n.length+nsW ns+14:=by rw[smK,atp];simp[cP,aaV]
def crW(c:Cr):Nat:=(c.cs.map cdW).sum+(c.ks.map kdW).sum+(c.rs.map rdW).sum+cP c.xs
def auo(c:Cr):Prop:=(∀ x∈c.cs,aG4 x)/\dv c.xs
def a1S(c:Cr)(t:List UInt8):smW (c.sm t)=t.length+crW c+14:=by rw[Cr.sm,atp];simp[cP,aaV,nsW,crW];omega
def aFT{c:Cr}(h:auo c)(t:List UInt8):abi (c.sm t):=(aph ..).2 ⟨i1,h.1,h.2,by simp,by simp,trivial,trivial⟩
def asc(t:List UInt8)(ns:List (List UInt8))(rw:List (List Xp))(q:List Qy):smW (afO t ns rw q)=t.length+nsW ns+(rw.map (lsW xpW)).sum+aaV q+14:=by rw[afO,atp];simp[cP]
def apC(t:List UInt8)(ns:List (List UInt8)){rw:List (List Xp)}{q:List Qy}(h:∀ r∈rw,dv r)(h':acm q):abi (afO t ns rw q):=(aph ..).2 ⟨⟨by decide,by decide⟩,by simp,trivial,h,by simp,trivial,h'⟩
def axg(t:List UInt8)(ss:List As)(w:List Xp):smW (ahs t ss w)=t.length+(ss.map asW).sum+cP w+14:=by rw[ahs,atp];simp[cP,aaV,nsW]
def as8(t:List UInt8){ss:List As}{w:List Xp}(h:∀ a∈ss,auq a)(h':dv w):abi (ahs t ss w):=(aph ..).2 ⟨⟨by decide,by decide⟩,by simp,trivial,by simp,h,h',trivial⟩
def aPP(k:Int)(q:Qy):smW (quX k q)=qyW q+14:=by rw[quX,atp,aoq];simp[cP,nsW]
def aH1{k:Int}{q:Qy}(h:I64 k)(hq:fG q):abi (quX k q):=(aph ..).2 ⟨h,by simp,trivial,by simp,by simp,trivial,amN hq⟩
section
variable {α:Type} {l:List Tn} {F:Fs} {i i0 c:Nat} {W:α->Nat} {Ok:α->Prop}
theorem dC.nameR{g:List UInt8->α}{f:List UInt8->Nat->Rz α}{j:Nat}(h1:i<=j)(h2:j<=l.length)(h3:Ok (g []))(h4:W (g [])+PW l i<=PW l j+c+400)
  (hf:∀ s,j+1<=l.length->PW l j+1000+s.length<=PW l (j+1)->dC l i c W Ok (f s (j+1))):dC l i c W Ok (nameR (cd l j) g f):=by
 unfold Go.Tab.nameR cd
 split
 .rename_i e
  split at e
  .cases e
  .cases e;exact .bad h1 h2 h3 h4
 .rename_i e
  split at e
  .rename_i e1
   cases e
   exact hf _ (aci e1).1 (aci e1).2
  .cases e
theorem apZ:∀ n o i,l.length<n+i->i0<=i->i<=l.length->nsW o+PW l i0<=PW l i->dC l i0 0 nsW fa (adK l n o i)
 | 0,_,i,hf,_,h2,_=>by omega
 | n+1,o,i,hf,h1,h2,h3=>by
  unfold adK
  split
  .rename_i e
   obtain⟨e1,e2⟩:=aci e
   split
   .rename_i g
    obtain⟨g1,g2⟩:=isT_at g
    have g2:PW l (i+1)+1000<=PW l (i+2):=g2
    exact apZ n _ (i+2) aC aC g1 (by rw[aCt];omega)
   .exact .wantE aC e1 trivial (by rw[aCt];omega)
  .exact .bad h1 h2 trivial (by simp[nsW];omega)
theorem afD(h1:i<=l.length):dC l i 0 nsW fa (abt l i) :=
 .wantR (ae _) h1 trivial (by simp[nsW] <;> omega) λh8 h9=>apZ _ _ _ aC aC h8 (by simp[nsW];omega)
theorem aJR(h1:i<=l.length):dC l i 20 cdW aG4 (agY l i):=by
 refine .nameR (ae _) h1 ⟨trivial,i0_,trivial⟩ (by simp[cdW,dQ,fS];omega) λs h2 h3=>?_
 split
 .exact .bad aC h2 ⟨trivial,i0_,trivial⟩ (by simp only[cdW,dQ,fS];omega)
 .rename_i k e
  obtain⟨e1,e2,p,hp,rfl⟩:=amm e
  have ho:I64 p.2:=by
   simp only[bp,cB,eV] at hp
   rcases hp with hp|hp|hp <;> subst hp <;> exact⟨by decide,by decide⟩
  split
  .rename_i g
   obtain⟨g1,g2⟩:=isT_at g
   have g2:PW l (i+1+1)+1000<=PW l (i+1+2):=g2
   exact .wantE aC g1 ⟨trivial,ho,trivial⟩ (by simp only[cdW,dQ,fS];omega)
  .exact .go aC e1 ⟨trivial,ho,trivial⟩ (by simp only[cdW,dQ,fS];omega)
theorem aHY(h1:i<=l.length):dC l i 20 rdW fa (anc l i):=by
 have hr:rdW r0=4:=rfl
 refine .wantR (ae _) h1 trivial (by rw[hr];omega) λh2 h3=>?_
 refine (afD h2).on aC (λy j _ h5 h6 h7=>⟨trivial,by have:=afH (l:=l) h5;rw[hr];omega⟩) λf j _ h5 h6 h7=>?_
 refine .wantR aC h6 trivial (by have:=afH (l:=l) h5;rw[hr];omega) λh8 h9=>?_
 refine .nameR aC h8 trivial (by have:=afH (l:=l) h5;rw[hr];omega) λt h10 h11=>?_
 obtain⟨o,m,b,e,q1,q2,_,q4⟩:=afD (l:=l) h10
 rw[e]
 have hw:rdW ⟨f,t,o⟩=nsW f+t.length+nsW o+4:=by simp only[rdW,lsW,dQ,nsW];omega
 cases b with
 | true=>exact .bad aC q2 trivial (by rw[hw];simp only[au] at q4;omega)
 | false=>exact .go aC q2 trivial (by rw[hw];simp only[ah,av] at q4;omega)
theorem aOd{s:Cr}{c:Nat}(h:FOk l F (i+1))(h1:i<=l.length)(hs:auo s):dC l i (crW s+50) crW auo (elS F l i s):=by
 unfold elS
 split
 .refine (aJR h1).to (ae _) λa j d ha _ h5=>⟨⟨?_,hs.2⟩,by simp only[crW,cm,aU,bq,abf,dH,bX];omega⟩
  intro x hx
  rcases bt.1 hx with hx|hx
  .exact hs.1 x hx
  .rw[cn.1 hx];exact ha
 split
 .rename_i e
  obtain⟨e1,e2⟩:=isT_at e
  refine .wantR aC e1 hs aC λh8 h9=>?_
  exact (afD h8).to aC λa j d ha _ h5=>⟨hs,by simp only[crW,cm,aU,bq,abf,dH,bX,kdW,fS,lsW];simp only[nsW] at h5;omega⟩
 split
 .rename_i e
  obtain⟨e1,e2⟩:=isT_at e
  exact (afD e1).to aC λa j d ha _ h5=>⟨hs,by simp only[crW,cm,aU,bq,abf,dH,bX,kdW,fS,lsW];simp only[nsW] at h5;omega⟩
 split
 .rename_i e
  obtain⟨e1,e2⟩:=isT_at e
  exact (aHY e1).to aC λa j d ha _ h5=>⟨hs,by simp only[crW,cm,aU,bq,abf,dH,bX];omega⟩
 split
 .rename_i e
  obtain⟨e1,e2⟩:=isT_at e
  refine .wantR aC e1 hs aC λh8 h9=>?_
  refine (h.or0 _ aC h8).on aC (λy j hy h5 h6 h7=>⟨⟨hs.1,aeW hs.2 (aby hy)⟩,by simp only[crW,af5,ab8];omega⟩) λy j hy h5 h6 h7=>?_
  exact .wantE aC h6 ⟨hs.1,aeW hs.2 (aby hy)⟩ (by simp only[crW,af5,ab8];omega)
 .exact .bad (ae _) h1 hs aC
theorem azb(h:FOk l F (i0+1)):∀ n s i,l.length<n+i->i0<=i->i<=l.length->auo s->crW s+PW l i0<=PW l i->dC l i0 100 crW auo (elL F l n s i)
 | 0,_,i,hf,_,h2,_,_=>by omega
 | n+1,s,i,hf,h1,h2,h3,h4=>by
  refine (aOd (c:=0) (h.mono aC) h2 h3).on h1 (λy j hy h5 h6 h7=>⟨hy,by simp only[id];omega⟩) λy j hy h5 h6 h7=>?_
  split
  .rename_i e
   obtain⟨e1,e2⟩:=isT_at e
   exact azb h n _ (j+1) aC aC e1 hy aC
  .exact .wantE aC h6 hy aC
abbrev FS(l:List Tn)(i:Nat)(r:Rz Sm):Prop:=dC l i 300 smW abi r
theorem ap4(un:Bool)(h1:i<=l.length):FS l i (ag5 l un i):=by
 have hk:abi (smK 2 [] [] [] un):=aqO i2 ..
 have hw:smW (smK 2 [] [] [] un)=14:=by rw[k_w];rfl
 refine .wantR (ae _) h1 hk (by rw[hw];omega) λh2 h3=>?_
 refine .nameR aC h2 hk (by rw[hw];omega) λn h4 h5=>?_
 refine .wantR aC h4 hk (by rw[hw];omega) λh6 h7=>?_
 refine .nameR aC h6 hk (by rw[hw];omega) λt h8 h9=>?_
 exact (afD h8).to aC λo j d _ _ h10=>⟨aqO i2 ..,by rw[k_w];omega⟩
theorem azi(h:FOk l F (i+1))(h1:i<=l.length):FS l i (ac8 F l i):=by
 have hc:auo c0:=⟨by simp[c0],trivial⟩
 have hw:∀ t,smW (c0.sm t)=t.length+14:=λt=>by rw[a1S];rfl
 unfold ac8
 split
 .rename_i e
  obtain⟨e1,e2⟩:=isT_at e
  refine .nameR aC e1 (aFT hc _) (by rw[hw];simp only[aW];omega) λt h2 h3=>?_
  refine .wantR aC h2 (aFT hc _) (by rw[hw];omega) λh4 h5=>?_
  exact (azb (i0:=i+1+1+1) (h.mono aC) _ c0 _ aC (ae _) h4 hc (by simp[crW,c0,cP])).to aC λs j d hs _ h6=>⟨aFT hs _,by rw[a1S];omega⟩
 split
 .rename_i e
  obtain⟨e1,e2⟩:=isT_at e
  obtain⟨a,j,b,q1,q2,q3,q4,q5⟩:=ap4 (l:=l) true e1
  exact⟨a,j,b,q1,by omega,q3,q4,by omega⟩
 .exact ap4 false h1
theorem aFR(h1:i<=l.length):FS l i (aiu l i):=by
 unfold aiu
 have hn:nsW []=0:=rfl
 split
 .rename_i e
  obtain⟨e1,e2⟩:=isT_at e
  obtain⟨n1,n2,n3⟩:=amr (l:=l) (i:=i+1)
  exact .any aC (n2 e1) (aqO i3 ..) (by rw[k_w,hn];simp only[aW];omega)
 split
 .rename_i e
  obtain⟨e1,e2⟩:=isT_at e
  obtain⟨n1,n2,n3⟩:=amr (l:=l) (i:=i+1)
  exact .any aC (n2 e1) (aqO i3 ..) (by rw[k_w,hn];simp only[aW];omega)
 .exact .bad (ae _) h1 (aqO i3 ..) (by rw[k_w,hn];simp only[aW];omega)
theorem auJ(t:List UInt8)(ns:List (List UInt8))(h:FOk l F (i0+1)):∀ n rw i,l.length<n+i->i0<=i->i+1<=l.length->PW l i+1000<=PW l (i+1)->(∀ r∈rw,dv r)->t.length+nsW ns+(rw.map (lsW xpW)).sum+14+PW l i0<=PW l i+c->dC l i0 c smW abi (agS F l t ns n rw i)
 | 0,_,i,hf,_,h2,_,_,_=>by omega
 | n+1,rw,i,hf,h1,h2,h9,h3,h4=>by
  have hk:abi (afO t ns rw []):=apC t ns h3 trivial
  have hw:smW (afO t ns rw [])=t.length+nsW ns+(rw.map (lsW xpW)).sum+14:=by rw[asc];rfl
  refine .wantR aC h2 hk (by rw[hw];omega) λg1 g2=>?_
  refine (anv (h.mono aC) g1).on aC (λy j hy h5 h6 h7=>⟨hk,by rw[hw];have:=afH (l:=l) h5;omega⟩) λy j hy h5 h6 h7=>?_
  refine .wantR aC h6 hk (by rw[hw];have:=afH (l:=l) h5;omega) λg3 g4=>?_
  have hk2:∀ r∈rw++[y],dv r:=by
   intro x hx
   rcases bt.1 hx with hx|hx
   .exact h3 x hx
   .rw[cn.1 hx];exact hy
  have hw2:((rw++[y]).map (lsW xpW)).sum=(rw.map (lsW xpW)).sum+cP y+1:=by
   rw[cm,abf];simp only[aU,bq,dH,bX,lsW,aG9];omega
  split
  .rename_i e
   obtain⟨e1,e2⟩:=isT_at e
   exact auJ t ns h n _ (j+1) aC aC e1 e2 hk2 (by rw[hw2];omega)
  .exact .go aC g3 (apC t ns hk2 trivial) (by rw[asc,hw2];simp only[aaV];omega)
theorem au7(t:List UInt8)(ns:List (List UInt8))(h:FOk l F (i0+1))(h1:i0+1<=i)(h2:i<=l.length)(hw:t.length+nsW ns+14+PW l i0<=PW l i):dC l i0 0 smW abi (agl F l t ns i):=by
 unfold agl
 split
 .rename_i e
  obtain⟨e1,e2⟩:=isT_at e
  exact auJ t ns h _ _ i aC aC e1 e2 aT (by simp only[bq,bX];omega)
 .exact (h.qy0 i h1 h2).to aC λq j d hq _ h5=>⟨apC t ns aT (amN hq),by rw[asc,aoq];simp only[bq,bX];omega⟩
theorem dC.up{r:Rz α}{c':Nat}(h:dC l i0 c W Ok r)(hc:c<=c'):dC l i0 c' W Ok r:=by
 obtain⟨a,j,b,q1,q2,q3,q4,q5⟩:=h
 exact⟨a,j,b,q1,q2,q3,q4,by omega⟩
theorem ayG(h:FOk l F (i+1))(h1:i<=l.length):FS l i (ab2 F l i):=by
 have hk:∀ t,abi (afO t [] [] []):=λt=>apC t [] aT trivial
 have hw:∀ t,smW (afO t [] [] [])=t.length+14:=λt=>by rw[asc];simp[nsW,aaV]
 refine .wantR (ae _) h1 (hk []) (by rw[hw];simp only[aW];omega) λh2 h3=>?_
 refine .nameR aC h2 (hk []) (by rw[hw];simp only[aW];omega) λt h4 h5=>?_
 split
 .refine (afD h4).on aC (λy j hy h5 h6 h7=>⟨hk t,by rw[hw];have:=afH (l:=l) h5;omega⟩) λy j hy h6 h7 h8=>?_
  exact (au7 t y h aC h7 aC).up aC
 .exact (au7 t [] h aC h4 (by simp only[nsW,bq,bX];omega)).up aC
theorem avt(t:List UInt8)(h:FOk l F (i0+1)):∀ n ss i,l.length<n+i->i0+1<=i->i<=l.length->(∀ r∈ss,auq r)->t.length+(ss.map asW).sum+14+PW l i0<=PW l i->dC l i0 0 smW abi (ai6 F l t n ss i)
 | 0,_,i,hf,_,h2,_,_=>by omega
 | n+1,ss,i,hf,h1,h2,h3,h4=>by
  have hk:abi (ahs t ss []):=as8 t h3 trivial
  have hw:smW (ahs t ss [])=t.length+(ss.map asW).sum+14:=by rw[axg];rfl
  refine .nameR aC h2 hk (by rw[hw];omega) λc g1 g2=>?_
  refine .wantR aC g1 hk (by rw[hw];omega) λg3 g4=>?_
  refine (h.or0 _ aC g3).on aC (λy j hy h5 h6 h7=>⟨hk,by rw[hw];have:=afH (l:=l) h5;omega⟩) λy j hy h5 h6 h7=>?_
  have hk2:∀ r∈ss++[(⟨c,y⟩ : As)],auq r:=by
   intro x hx
   rcases bt.1 hx with hx|hx
   .exact h3 x hx
   .rw[cn.1 hx];exact⟨trivial,hy⟩
  have hw2:((ss++[(⟨c,y⟩ : As)]).map asW).sum=(ss.map asW).sum+c.length+xpW y+2:=by
   rw[cm,abf];simp only[aU,bq,dH,bX,asW,dQ];omega
  split
  .rename_i e
   obtain⟨e1,e2⟩:=isT_at e
   exact avt t h n _ (j+1) aC aC e1 hk2 (by rw[hw2];omega)
  .exact (aix h aC h6).to aC λw m d hw' _ h8=>⟨as8 t hk2 hw',by rw[axg,hw2];omega⟩
theorem axh(h:FOk l F (i+1))(h1:i<=l.length):FS l i (ad0 F l i):=by
 have hk:∀ t,abi (ahs t [] []):=λt=>as8 t aT trivial
 have hw:∀ t,smW (ahs t [] [])=t.length+14:=λt=>by rw[axg];rfl
 refine .nameR aC h1 (hk _) (by rw[hw];simp only[aW];omega) λt g1 g2=>?_
 refine .wantR aC g1 (hk _) (by rw[hw];omega) λg3 g4=>?_
 exact (avt t h _ _ _ aC aC g3 aT (by simp only[bq,bX];omega)).up aC
theorem aJI(h:FOk l F (i+1))(h1:i<=l.length):FS l i (anL F l i):=by
 have hk:abi s0:=aqO i0_ ..
 have hw:smW s0=14:=rfl
 refine .wantR aC h1 hk (by rw[hw];omega) λg1 g2=>?_
 refine .nameR aC g1 hk (by rw[hw];omega) λt g3 g4=>?_
 exact (aix h aC g3).to aC λw m d hw' _ h8=>⟨(aph ..).2 ⟨⟨by decide,by decide⟩,by simp,trivial,by simp,by simp,hw',trivial⟩,by rw[atp];simp only[bq,bX,nsW,cP,aaV,aW];omega⟩
theorem up1{r:Rz Sm}{i':Nat}(h:FS l i' r)(h1:i<=i')(h2:PW l i<=PW l i'):FS l i r:=by
 obtain⟨a,j,b,q1,q2,q3,q4,q5⟩:=h
 exact⟨a,j,b,q1,by omega,q3,q4,by omega⟩
theorem aD9(h:FOk l F (i+1))(hq:FQ l i 0 (F.qy i []))(h1:i<=l.length):FS l i (abq F l i):=by
 unfold abq
 split
 .rename_i k e
  obtain⟨e1,e2,p,hp,rfl⟩:=amm e
  have ho:I64 p.2:=by
   simp only[afd,bp,cB,eV] at hp
   rcases hp with hp|hp|hp|hp|hp|hp <;> subst hp <;> exact⟨by decide,by decide⟩
  exact .go aC e1 (aqO ho ..) (by rw[k_w];simp only[nsW,bq,bX,aW];omega)
 split
 .rename_i e
  exact up1 (azi (h.mono aC) (isT_at e).1) aC (by have:=(isT_at e).2;omega)
 split
 .rename_i e
  exact up1 (aFR (isT_at e).1) aC (by have:=(isT_at e).2;omega)
 split
 .rename_i e
  exact up1 (ayG (h.mono aC) (isT_at e).1) aC (by have:=(isT_at e).2;omega)
 split
 .rename_i e
  exact up1 (axh (h.mono aC) (isT_at e).1) aC (by have:=(isT_at e).2;omega)
 split
 .rename_i e
  exact up1 (aJI (h.mono aC) (isT_at e).1) aC (by have:=(isT_at e).2;omega)
 split
 .rename_i e
  obtain⟨e1,e2⟩:=isT_at e
  exact (h.qy0 (i+1) (ae _) e1).to aC λq j d hq _ h5=>⟨aH1 ⟨by decide,by decide⟩ hq,by rw[aPP];omega⟩
 .exact hq.to (ae _) λq j d hq _ h5=>⟨aH1 ⟨by decide,by decide⟩ hq,by rw[aPP];omega⟩
end
def a3p(l:List Tn):PW l l.length=1000*l.length+(l.map λt=>t.s.length).sum:=by
 unfold PW
 rw[afb]
 induction l with
 | nil=>rfl
 | cons t r ih=>simp only[aU,dH,aN,tw];omega
end Go.Tab
namespace Go.Proofs.YtghkmcffifpkeaaGreat
open Pe Tab
theorem axp{s:List UInt8}{Pt:Tn->Prop}(hP:∀ i l t,eU i l=(t,0)->t.k≠0->Pt t):∀ n o i r,(∀ t∈o,Pt t)->aeA s n o i=some r->∀ t∈r.1,Pt t
 | 0,_,_,_,_,h=>by cases h
 | n+1,o,i,r,ho,h=>by
  unfold aeA at h
  split at h
  .cases h;simp
  .rename_i e
   split at h
   .cases h;exact ho
   .rename_i k
    refine axp hP n _ _ r (λt ht=>?_) h
    rcases bt.1 ht with ht|ht
    .exact ho t ht
    .rw[cn.1 ht]
     have e:(dJ s i).2=0:=by simpa using e
     exact hP _ _ _ (aik rfl e) k
def aKM{i:Nat}{l:List UInt8}{t:Tn}(h:eU i l=(t,0))(hk:t.k=1):aqp t.s=true:=by
 cases l with
 | nil=>simp only[eU,aX] at h;rw[← h.1] at hk;cases hk
 | cons c r =>
  simp only[eU] at h
  split at h
  .generalize ((c::r).takeWhile λc=>abg c||bQ c)=w at *
   simp only[lxW] at h
   split at h
   .rename_i e;cases h;exact e
   split at h
   .simp at h
   .cases h;cases hk
  split at h
  .simp only[aif] at h
   split at h
   .simp at h
   .cases h;cases hk
  split at h
  .simp only[aib] at h
   split at h
   .split at h
    .simp at h
    split at h
    .simp at h
    .cases h;cases hk
   .simp at h
  split at h
  .simp only[aiC] at h
   split at h
   .simp at h
   .split at h
    .simp at h
    split at h
    .simp at h
    .cases h;cases hk
  .simp only[lxG] at h
   split at h
   .cases h;cases hk
   split at h
   .cases h;cases hk
   .simp at h
def apd{s:List UInt8}{l:List Tn}{p e:Int}(h:fL s=some (l,p,e))(hok:ToksOk s l):TL l where
 n t ht:=by obtain⟨j,q⟩:=hok.all t ht;exact q.n.1
 s t ht hk:=by obtain⟨j,q⟩:=hok.all t ht;exact q.nm hk
 w t ht hk:=by
  have h':aeA s (s.length+2) [] 0=some (l,p,e)\/l=[]:=by
   unfold fL at h
   split at h
   .cases h;exact .inr rfl
   .exact .inl h
  rcases h' with h'|rfl
  .have:=axp (Pt:=λt=>t.k=1->aqp t.s=true) (λi l t h _ hk=>aKM h hk) _ _ _ _ aT h' t ht hk
   constructor
   .intro q;rw[q] at this;revert this;decide +kernel
   .intro q;rw[q] at this;revert this;decide +kernel
  .cases ht
def aXg{s:List UInt8}{l:List Tn}(hok:ToksOk s l):∀ t∈l,I64 t.n:=λt ht=>by
 obtain⟨j,q⟩:=hok.all t ht
 have:=q.n
 unfold I64;omega
abbrev pF(l:List Tn):Fs:=ahh l (2*l.length+2)
def awy{s:List UInt8}{l:List Tn}(hok:ToksOk s l):FOk l (pF l) 0:=(ful (aXg hok) _).from aC
def abT{α:Type}(z:α)(run:List Tn->Rz α)(right:α->Bool)(s:List UInt8):Option (α×Int×Int):=match fL s with
 | none=>none
 | some (l,p,e)=>if e=0 then (run l).map λr=>cH z s l (right r.1) r else some (z,p,e)
def ajk:List UInt8->Option (Xp×Int×Int):=abT x0 (λl=>(pF l).or 0 []) ame
def ag2:List UInt8->Option (Qy×Int×Int):=abT y0 (λl=>(pF l).qy 0 []) amf
def ado:List UInt8->Option (Sm×Int×Int):=abT s0 (λl=>abq (pF l) l 0) agA
def afp:List UInt8->Option (List (Sm×Nat)×Int×Int):=abT [] (λl=>abZ (pF l) l (l.length+1) [] 0) λ_=>true
def axT{s:List UInt8}{l:List Tn}(hok:ToksOk s l)(hs:s.length<=2000){j:Nat}(hj:j<=l.length):PW l j<=6000000:=by
 have h1:=afH (l:=l) hj
 have h2:=a3p l
 have h3:∀ m:List Tn,(∀ t∈m,t.s.length<=2000)->(m.map λt=>t.s.length).sum<=2000*m.length:=by
  intro m
  induction m with
  | nil=>intro _;simp
  | cons t r ih =>
   intro h
   have:=ih λt ht=>h t (eX _ ht)
   have:=h t acO
   simp only[aU,dH,aN]
   omega
 have h4:=h3 l λt ht=>by obtain⟨j,q⟩:=hok.all t ht;have:=q.s;omega
 have:=hok.len
 omega
theorem dC.all{α:Type}{s:List UInt8}{l:List Tn}{c:Nat}{W:α->Nat}{Ok:α->Prop}{r:Rz α}(h:dC l 0 c W Ok r)(hok:ToksOk s l)(hs:s.length<=2000) :
  ∃ a,r=some a/\a.2.1<=l.length/\Ok a.1/\W a.1<=6000400+c/\(a.2.2=false->c<W a.1->0<l.length):=by
 obtain⟨a,j,b,rfl,h1,h2,h3,h4⟩:=h
 have:=axT hok hs h2
 refine⟨_,rfl,h2,h3,?_,?_⟩
 .dsimp only;split at h4 <;> omega
 .intro hb hc
  dsimp only at hb hc
  subst hb
  rcases aan l.length with q|q
  .obtain rfl:j=0:=by omega
   have:PW l 0=0:=rfl
   simp at h4
   omega
  .exact q
def aSL(x:Xp):0<xpW x:=by cases x;simp only[xpW];omega
def aTz(x:Qy):0<qyW x:=by cases x;simp only[qyW];omega
def ax4{s:List UInt8}{l:List Tn}(hok:ToksOk s l)(hs:s.length<=2000):∃ r,(pF l).or 0 []=some r/\r.2.1<=l.length/\fe r.1/\xpW r.1<=6000400/\(r.2.2=false->0<l.length):=by
 obtain⟨r,h1,h2,h3,h4,h5⟩:=dC.all (s:=s) ((awy hok).or 0 [] (ae _) (aO _) trivial) hok hs
 exact⟨r,h1,h2,h3,h4,λh=>h5 h (aSL _)⟩
def axS{s:List UInt8}{l:List Tn}(hok:ToksOk s l)(hs:s.length<=2000):∃ r,(pF l).qy 0 []=some r/\r.2.1<=l.length/\fG r.1/\qyW r.1<=6000400/\(r.2.2=false->0<l.length):=by
 obtain⟨r,h1,h2,h3,h4,h5⟩:=dC.all (s:=s) ((awy hok).qy 0 [] (ae _) (aO _) trivial) hok hs
 exact⟨r,h1,h2,h3,h4,λh=>h5 h (aTz _)⟩
def aTg{s:List UInt8}{l:List Tn}(hok:ToksOk s l){i:Nat}(hi:i<=l.length):FS l i (abq (pF l) l i) :=
 aD9 ((awy hok).mono (aO _)) ((awy hok).qy i [] (aO _) hi trivial) hi
def ama{s:List UInt8}{l:List Tn}(hok:ToksOk s l)(hs:s.length<=2000){i:Nat}(hi:i<=l.length):∃ r,abq (pF l) l i=some r/\i<=r.2.1/\r.2.1<=l.length/\abi r.1/\smW r.1<=6000700:=by
 obtain⟨a,j,b,h0,h1,h2,h3,h4⟩:=aTg hok hi
 have:=axT hok hs h2
 exact⟨_,h0,h1,h2,h3,by dsimp only;split at h4 <;> omega⟩
def aHB{F:Fs}{r:Sm×Nat×Bool}(Q:QF [] F)(h:abq F [] 0=some r):r.2.2=true:=by
 unfold abq at h
 have h1:∀ so,opT [] 0 so=none:=λso=>by induction so with
  | nil=>rfl
  | cons p r ih=>obtain⟨w,o⟩:=p;simp only[opT,isT,aeJ,ah,av];exact ih
 simp only[h1,isT,aeJ,ah,av] at h
 cases e:F.qy 0 [] with
 | none=>rw[e] at h;cases h
 | some q =>
  have:=Q 0 q rfl rfl e
  rw[e] at h
  obtain⟨a,j,b⟩:=q
  simp only[aX] at this
  obtain⟨rfl,rfl⟩:=this
  simp only[Rz.to,ab] at h
  rw[← h]
def aGV(l:List Tn)(x:Sm×Nat):Prop:=abi x.1/\smW x.1<=6000700/\x.2<l.length
theorem aCm{s:List UInt8}{l:List Tn}(hok:ToksOk s l)(hs:s.length<=2000):∀ n o i,l.length<n+i->i<=l.length->(∀ x∈o,aGV l x)->o.length<=i ->
  ∃ r,abZ (pF l) l n o i=some r/\r.2.1<=l.length/\(∀ x∈r.1,aGV l x)/\r.1.length<=l.length
 | 0,_,i,h1,h2,_,_=>by omega
 | n+1,o,i,h1,h2,h3,h4=>by
  unfold abZ
  split
  .rename_i hi
   obtain⟨⟨a,j,b⟩,e,q1,q2,q3,q4⟩:=ama hok hs h2
   rw[e]
   cases b with
   | true=>exact⟨_,rfl,q2,by simp,by simp⟩
   | false =>
    simp only[Rz.on,bH]
    by_cases c:isT l j [59]
    .rw[am c]
     have:=(Go.Tab.isT_at c).1
     dsimp only at q1 q2 q3 q4
     refine aCm hok hs n _ (j+1) aC this (λx hx=>?_) (by simp only[bc,dX];omega)
     rcases bt.1 hx with hx|hx
     .exact h3 x hx
     .rw[cn.1 hx];exact⟨q3,q4,hi⟩
    .rw[aj c]
     exact⟨_,rfl,q2,by simp,by simp⟩
  .exact⟨_,rfl,h2,h3,by dsimp only;omega⟩
def axN{s:List UInt8}{l:List Tn}(hok:ToksOk s l)(hs:s.length<=2000):∃ r,abZ (pF l) l (l.length+1) [] 0=some r/\r.2.1<=l.length/\(∀ x∈r.1,aGV l x)/\r.1.length<=l.length :=
 aCm hok hs _ _ _ aC (aO _) aT (ae _)
def aka{α:Type}(z:α)(run:List Tn->Rz α)(right:α->Bool)(s:List UInt8)(h:∀ l,ToksOk s l->s.length<=2000->∃ r,run l=some r):∃ r,abT z run right s=some r:=by
 unfold abT
 obtain⟨l,p,e,⟨h1,h2,h3,h4⟩|h1⟩:=atc s
 .rw[h1]
  by_cases he:e=0
  .obtain⟨r,hr⟩:=h l h2 h4
   simp only[am he,hr,aG];exact⟨_,rfl⟩
  .simp only[aj he];exact⟨_,rfl⟩
 .rw[h1];exact⟨_,rfl⟩
def aFI(s:List UInt8):∃ r,ajk s=some r:=aka _ _ _ _ λ_ h1 h2=>let ⟨r,h,_⟩:=ax4 h1 h2;⟨r,h⟩
def aAG(s:List UInt8):∃ r,ag2 s=some r:=aka _ _ _ _ λ_ h1 h2=>let ⟨r,h,_⟩:=axS h1 h2;⟨r,h⟩
def arC(s:List UInt8):∃ r,ado s=some r:=aka _ _ _ _ λ_ h1 h2=>let ⟨r,h,_⟩:=ama h1 h2 (aO _);⟨r,h⟩
def aAp(s:List UInt8):∃ r,afp s=some r:=aka _ _ _ _ λ_ h1 h2=>let ⟨r,h,_⟩:=axN h1 h2;⟨r,h⟩
end Go.Proofs.YtghkmcffifpkeaaGreat
namespace Go.Tab
deriving instance DecidableEq for Od,Cd
end Go.Tab
namespace Go.Proofs.YtghkmcffifpkeaaGreat
open Pe Tab
def FnB{α:Type}(A:α->C)(g:Nat)(cp:List C)(p:α->Bool)(l:List α):Prop:=ade g=false/\ew Tryz.prog g=true/\∀ x∈l,G1 g (.of (A x)::cp.map .of) (aL (p x))
def a3t{α:Type}(A:α->C)(g:Nat)(cp:List C)(p:α->α->Bool)(l:List α)(m:List α):Prop:=ade g=false/\ew Tryz.prog g=true/\∀ x∈l,∀ y∈m,G1 g (.of (A x)::.of (A y)::cp.map .of) (aL (p x y))
theorem aCO{α:Type}(p:α->Bool):∀ (l:List α) (k:Nat),ajV p k l=-1/\l.any p=false\/(k:Int)<=ajV p k l/\l.any p=true
 | [],k=>by simp[ajV]
 | x::r,k=>by
  simp only[ajV,agU]
  cases hp:p x
  .simp only[ah,av,eN]
   rcases aCO p r (k+1) with h|h
   .exact .inl h
   .exact .inr ⟨by omega,h.2⟩
  .exact .inr ⟨by simp,rfl⟩
def ayO{α:Type}(p:α->Bool)(l:List α):decide (0<=anC p l)=l.any p:=by
 rcases aCO p l 0 with h|h
 .rw[anC,h.1,h.2];rfl
 .rw[h.2];exact ey h.1
def aNx{α:Type}[DecidableEq α](v:α)(l:List α)[Decidable (v∈l)]:decide (0<=anC (λx=>decide (v=x)) l)=decide (v∈l):=by
 rw[ayO,fm]
 simp
def ake(a b:Nat):((a:Int)=(b:Int))=(a=b):=propext Int.natCast_inj
def eqR{α:Type}(q:α->α->Bool):List α->List α->Bool
 | [],[]=>true
 | x::l,y::m=>q x y&&eqR q l m
 | _,_=>false
theorem ay9{α:Type}(q:α->α->Bool):∀ l m:List α,¬l.length=m.length->eqR q l m=false
 | [],[],h=>absurd rfl h
 | [],_::_,_=>rfl
 | _::_,[],_=>rfl
 | x::l,y::m,h=>by
  rw[eqR,ay9 q l m (λe=>h (by simp[e])),cW]
theorem aJD{α:Type}[DecidableEq α](q:α->α->Bool):∀ l m:List α,(∀ x∈l,∀ y∈m,q x y=decide (x=y))->eqR q l m=decide (l=m)
 | [],[],_=>by simp[eqR]
 | [],_::_,_=>by simp[eqR]
 | _::_,[],_=>by simp[eqR]
 | x::l,y::m,h=>by
  rw[eqR,h x aT y aT,aJD q l m (λa ha b hb=>h a (by simp[ha]) b (by simp[hb])),fm]
  simp
def aqZ{P:Program}{T:TT}{t:Nat}{u:Option TypeDesc}{cs ds:List C}{b:Bool}(h:afk P T t cs ds=some b):fE P T t u .eql (.of (.agg cs)) (.of (.agg ds))=out (aL b)/\fE P T t u .neq (.of (.agg cs)) (.of (.agg ds))=out (aL (!b)):=by
 constructor
 .simp only[fE,fN,X.rd,agt,h]
  rfl
 .simp only[fE,fN,X.rd,agt,h]
  rfl
def aDP(a c:V):(a.k=c.k/\a.n=c.n/\a.s=c.s)=(a=c):=by
 apply propext
 constructor
 .rintro⟨h1,h2,h3⟩
  cases a;cases c
  simp only at h1 h2 h3
  rw[h1,h2,h3]
 .rintro rfl;exact⟨rfl,rfl,rfl⟩
def a2r(a c:Cd):(a.nm=c.nm/\a.ty=c.ty/\a.nn=c.nn)=(a=c):=by
 apply propext
 constructor
 .rintro⟨h1,h2,h3⟩
  cases a;cases c
  simp only at h1 h2 h3
  rw[h1,h2,h3]
 .rintro rfl;exact⟨rfl,rfl,rfl⟩
def aYG(a c:Od):(a.nm=c.nm/\a.pl=c.pl/\a.dn=c.dn)=(a=c):=by
 apply propext
 constructor
 .rintro⟨h1,h2,h3⟩
  cases a;cases c
  simp only at h1 h2 h3
  rw[h1,h2,h3]
 .rintro rfl;exact⟨rfl,rfl,rfl⟩
def aZU:Tryz.prog.stoodInHeld 24=false:=by kernel_rfl
def aUI:Tryz.prog.eqGuardType Tryz.prog.depth 24=false:=by kernel_rfl
def aUH:Tryz.prog.stoodInHeld 149=false:=by kernel_rfl
def aNJ:Tryz.prog.eqGuardType Tryz.prog.depth 149=false:=by kernel_rfl
def aUG:Tryz.prog.stoodInHeld 126=false:=by kernel_rfl
def aNI:Tryz.prog.eqGuardType Tryz.prog.depth 126=false:=by kernel_rfl
def aJB(x y:V):afk Tryz.prog tP 24 (aiA x) (aiA y)=some (decide (x=y)):=by
 simp only[afk,T24,aZU,aUI,bM,au,aiA,aeg,T3,T9,aG,alW,akl,← aDP]
 by_cases h1:x.k=y.k
 .by_cases h2:x.n=y.n
  .by_cases h3:x.s=y.s
   .simp[h1,h2,h3]
   .simp[h1,h2,h3]
  .simp[h1,h2]
 .simp[h1]
def aFM(x y:Cd):afk Tryz.prog tP 149 (cdC x) (cdC y)=some (decide (x=y)):=by
 simp only[afk,anV,aUH,aNJ,bM,au,amI,aeg,T3,T9,T4,aG,alW,akl,← a2r]
 by_cases h1:x.nm=y.nm
 .by_cases h2:x.ty=y.ty
  .by_cases h3:x.nn=y.nn
   .simp[h1,h2,h3]
   .simp[h1,h2,h3]
  .simp[h1,h2]
 .simp[h1,cJ]
def aJC(x y:Od):afk Tryz.prog tP 126 (odC x) (odC y)=some (decide (x=y)):=by
 simp only[afk,al2,aUG,aNI,bM,au,akN,aeg,T3,T9,T4,aG,alW,akl,← aYG]
 by_cases h1:x.nm=y.nm
 .by_cases h2:x.pl=y.pl
  .by_cases h3:x.dn=y.dn
   .simp[h1,h2,h3]
   .simp[h1,h2,h3]
  .simp[h1,h2]
 .simp[h1,cJ]
def aeU:=λ(u:Option TypeDesc) (x y:V)=>aqZ (u:=u) (aJB x y)
def asy:=λ(u:Option TypeDesc) (x y:Cd)=>aqZ (u:=u) (aFM x y)
def avg:=λ(u:Option TypeDesc) (x y:Od)=>aqZ (u:=u) (aJC x y)
def szP(a:Nat×Nat):Sz:=⟨a.1,a.2⟩
def arv(a:Nat×Nat):(szP a).nd=a.1:=rfl
def arw(a:Nat×Nat):(szP a).dp=a.2:=rfl
def FnS{α:Type}(A:α->C)(g:Nat)(cp:List C)(w:α->Nat×Nat)(l:List α):Prop:=ade g=false/\ew Tryz.prog g=true/\∀ x∈l,G1 g (.of (A x)::cp.map .of) (.of (.agg (szC (szP (w x)))))
def aS4{α:Type}(w:α->Nat×Nat)(x:α)(r:List α):cR w (x::r)=cI (w x) (cR w r):=rfl
def a2G(a b:Nat×Nat):(cI a b).1=a.1+b.1:=rfl
def cL{α:Type}(l:List α)(a b:Int)(p:α->Bool):Bool:=decide (a<=(l.length:Int))&&decide ((l.length:Int)<=b)&&l.all p
def aWy{α:Type}(p:α->Bool)(l:List α):l.any (λx=>!p x)=!l.all p:=by
 induction l with
 | nil=>rfl
 | cons x r ih=>simp[agU,agV,ih]
abbrev IFP(f:Nat){α:Type}(enc:α->List C)(e:α->C):Prop:=∀ (l:List α) (p:α->Bool) (g:Nat) (cp:List C),l.length<=4611686018427387903/\FnB e g cp p l->G1 f [.of (slC enc l),.of (.fn g cp)] (aQ (anC p l))
theorem IFP.k{f:Nat}{α:Type}{enc:α->List C}{e:α->C}(i:IFP f enc e)(l:List α)(p:α->Bool)(g:Nat)(cp:List C)(h:l.length<=4611686018427387903/\FnB e g cp p l)(K:An->Prop):cKp f [.of (slC enc l),.of (.fn g cp)] [] K↔K ⟨false,[aQ (anC p l)],[]⟩:=aH.k (i l p g cp h) K
def gIF {Z:Prop} {f:Nat} {fn:Func} {α:Type} {enc:α->List C} {e:α->C} (hi:FnI Tryz.prog f fn) (z:Z) (h:Z->FnI Tryz.prog f fn->IFP f enc e:=by
  intro z hi l p g cp h
  obtain⟨hl,ho,hc,hg⟩:=h
  refine ahR (kp:=false) rfl hi rfl rfl ?_
  generalize hX:slC _ l=X
  simp only[↓zA,sevalprocAttr,z,← hX,ho]
  refine aas l.length (λk s=>s.fr 0=.of X/\s.fr 1=.of (.fn g cp)/\s.fr 7=aQ l.length/\s.fr 8=aQ k/\s.objs=[]/\anC p l=ajV p k (l.drop k)) ?_ ?_
  .simp only[↓zA,sevalprocAttr,z,← hX]
   exact rfl
  .rintro k s hk ⟨f0,f1,f7,f8,hob,E⟩
   rcases aD k l.length with c1|c1
   .have hw:=er k aC
    have hx:=λK=>aH.k (hg l[k] (cC c1)) K
    rw[agJ c1,ajV] at E
    simp only[↓zA,sevalprocAttr,z,← hX,f0,f1,f7,f8,hob,ho,hc,aV,c1,dN c1,hw,hx]
    cases c2:p l[k] <;> (simp only[c2,au,ah,av] at E;simp only[↓zA,sevalprocAttr,z,← hX,c2,E])
   .have e:k=l.length:=by omega
    subst e
    rw[cY,ajV] at E
    simp only[↓zA,sevalprocAttr,z,← hX,f0,f1,f7,f8,hob,aV,cO,E]):IFP f enc e:=h z hi
def a3L:=fW @zq @ahW @ahZ @zT0 (kf aQI)
def av1:IFP 273 cdC (λx=>.agg (cdC x)):=gIF aQI (ai Tryz.f273.eq_1 a3L)
def a3T:=fW @zq @bG @fq @zT0 (kf aQT)
def aBJ:IFP 261 xpC (λx=>.agg (xpC x)):=gIF aQT (ai Tryz.f261.eq_1 a3T)
def a3J:=fW @zq @afQ @ahX @zT0 (kf aQG)
def avZ:IFP 275 rdC (λx=>.agg (rdC x)):=gIF aQG (ai Tryz.f275.eq_1 a3J)
def a3K:=fW @zq @ad3 @ahY @zT0 (kf aQH)
def av0:IFP 274 kdC (λx=>.agg (kdC x)):=gIF aQH (ai Tryz.f274.eq_1 a3K)
def a3S:=fW @zq @ep @fC @zT0 (kf aQS)
def az5:IFP 262 qyC (λx=>.agg (qyC x)):=gIF aQS (ai Tryz.f262.eq_1 a3S)
def a3G:=fW @zq @bG @acJ @zT0 (kf aQD)
def auj:IFP 278 (lsC xpC) (slC xpC):=gIF aQD (ai Tryz.f278.eq_1 a3G)
def a3F:=fW @zq @afR @agy @zT0 (kf aQC)
def av2:IFP 279 asC (λx=>.agg (asC x)):=gIF aQC (ai Tryz.f279.eq_1 a3F)
def a3D:=fX @zq @bO @P9 @Q9 @zT0 (kf aQA)
def avY:IFP 300 bI (λx=>aJ (aK x)):=gIF aQA (ai Tryz.f300.eq_1 a3D)
def a3O:=fW @zq @ahd @ajs @zT0 (kf aQL)
def az6:IFP 270 odC (λx=>.agg (odC x)):=gIF aQL (ai Tryz.f270.eq_1 a3O)
def a3N:=fW @zq @acv @ahr @zT0 (kf aQK)
def aBH:IFP 271 imC (λx=>.agg (imC x)):=gIF aQK (ai Tryz.f271.eq_1 a3N)
def a3M:=fW @zq @eG @acC @zT0 (kf aQJ)
def aBI:IFP 272 fmC (λx=>.agg (fmC x)):=gIF aQJ (ai Tryz.f272.eq_1 a3M)
abbrev CFP(f:Nat){α:Type}(enc:α->List C)(e:α->C):Prop:=∀ (l:List α) (p:α->Bool) (g:Nat) (cp:List C),l.length<=4611686018427387903/\FnB e g cp p l->G1 f [.of (slC enc l),.of (.fn g cp)] (aL (l.any p))
theorem CFP.k{f:Nat}{α:Type}{enc:α->List C}{e:α->C}(i:CFP f enc e)(l:List α)(p:α->Bool)(g:Nat)(cp:List C)(h:l.length<=4611686018427387903/\FnB e g cp p l)(K:An->Prop):cKp f [.of (slC enc l),.of (.fn g cp)] [] K↔K ⟨false,[aL (l.any p)],[]⟩:=aH.k (i l p g cp h) K
def gCF {Z:Prop} {f f':Nat} {fn:Func} {α:Type} {enc:α->List C} {e:α->C} (hi:FnI Tryz.prog f fn) (I:IFP f' enc e) (z:Z) (h:Z->FnI Tryz.prog f fn->IFP f' enc e->CFP f enc e:=by
  intro z hi I l p g cp h
  refine ahR (kp:=false) rfl hi rfl rfl ?_
  rw[← ayO]
  simp only[↓zA,sevalprocAttr,z,h.2.1,IFP.k I l p g cp h]):CFP f enc e:=h z hi I
def a4t:=fW @zq @a9a @bG @zT0 (kf aRy)
def aBQ:CFP 197 xpC (λx=>.agg (xpC x)):=gCF aRy aBJ (ai Tryz.f197.eq_1 a4t)
def a4c:=fW @zq @a80 @afQ @zT0 (kf aRb)
def awa:CFP 221 rdC (λx=>.agg (rdC x)):=gCF aRb avZ (ai Tryz.f221.eq_1 a4c)
def a4g:=fW @zq @a82 @ahW @zT0 (kf aRf)
def awc:CFP 217 cdC (λx=>.agg (cdC x)):=gCF aRf av1 (ai Tryz.f217.eq_1 a4g)
def a4e:=fW @zq @a81 @ad3 @zT0 (kf aRd)
def awb:CFP 219 kdC (λx=>.agg (kdC x)):=gCF aRd av0 (ai Tryz.f219.eq_1 a4e)
def a4r:=fW @zq @a89 @ep @zT0 (kf aRw)
def aAa:CFP 199 qyC (λx=>.agg (qyC x)):=gCF aRw az5 (ai Tryz.f199.eq_1 a4r)
def a39:=fV @zq @a8Y @zT0 (kf aQ8)
def aup:CFP 224 (lsC xpC) (slC xpC):=gCF aQ8 auj (ai Tryz.f224.eq_1 a39)
def a37:=fW @zq @a8X @afR @zT0 (kf aQ6)
def awd:CFP 226 asC (λx=>.agg (asC x)):=gCF aQ6 av2 (ai Tryz.f226.eq_1 a37)
def a3I:=fV @zq @a8S @zT0 (kf aQF)
def av9:CFP 276 bI (λx=>aJ (aK x)):=gCF aQF avY (ai Tryz.f276.eq_1 a3I)
def a4m:=fW @zq @a85 @ahd @zT0 (kf aRo)
def aAb:CFP 209 odC (λx=>.agg (odC x)):=gCF aRo az6 (ai Tryz.f209.eq_1 a4m)
def a4k:=fW @zq @a84 @acv @zT0 (kf aRm)
def aBO:CFP 211 imC (λx=>.agg (imC x)):=gCF aRm aBH (ai Tryz.f211.eq_1 a4k)
def a4i:=fW @zq @a83 @eG @zT0 (kf aRk)
def aBP:CFP 213 fmC (λx=>.agg (fmC x)):=gCF aRk aBI (ai Tryz.f213.eq_1 a4i)
def awf:=fY @Tryz.f264.eq_1 @zq @bO @P9 @Q9 @zT0 (kf aQR)
def avX(l:List (List UInt8))(v:(List UInt8))(hl:l.length<=4611686018427387903):G1 264 [.of (slC bI l),.of (aJ (aK v))] (aQ (anC (λx=>decide (v=x)) l)):=by
 refine bB aQR ?_
 simp only[↓zA,sevalprocAttr,awf]
 refine aas l.length (λk s=>s.fr 0=.of (slC bI l)/\s.fr 1=.of (aJ (aK v))/\s.fr 7=aQ l.length/\s.fr 8=aQ k/\s.objs=[]/\anC (λx=>decide (v=x)) l=ajV (λx=>decide (v=x)) k (l.drop k)) ?_ ?_
 .simp only[↓zA,sevalprocAttr,awf]
  exact rfl
 .rintro k s hk ⟨f0,f1,f7,f8,hob,E⟩
  rcases aD k l.length with c1|c1
  .have hw:=er k aC
   rw[agJ c1,ajV] at E
   simp only[↓zA,sevalprocAttr,awf,f0,f1,f7,f8,hob,aV,c1,dN c1,hw,cJ]
   by_cases c2:v=l[k]
   .simp only[c2,aaH,au] at E
    simp only[sevalprocAttr,c2,E]
   .simp only[c2,aam,ah,av] at E
    simp only[sevalprocAttr,c2,E]
  .have e:k=l.length:=by omega
   subst e
   rw[cY,ajV] at E
   simp only[↓zA,sevalprocAttr,awf,f7,f8,hob,aV,cO,E]
def aGY(l:List (List UInt8))(v:(List UInt8))(hl:l.length<=4611686018427387903)(K:An->Prop):cKp 264 [.of (slC bI l),.of (aJ (aK v))] [] K↔K ⟨false,[aQ (anC (λx=>decide (v=x)) l)],[]⟩:=aH.k (avX l v hl) K
def a4p:=fV @zq @a88 @zT0 (kf aRs)
def av8(l:List (List UInt8))(v:(List UInt8))(hl:l.length<=4611686018427387903):G1 205 [.of (slC bI l),.of (aJ (aK v))] (aL (decide (v∈l))):=by
 refine bB aRs ?_
 rw[← aNx]
 simp only[Tryz.f205,↓zA,sevalprocAttr,a4p,aGY l v hl]
def aG3(l:List (List UInt8))(v:(List UInt8))(K:An->Prop):cKp 205 [.of (slC bI l),.of (aJ (aK v))] [] K↔ifP (l.length<=4611686018427387903) (K ⟨false,[aL (decide (v∈l))],[]⟩) (ajq Tryz.prog pr 205 [.of (slC bI l),.of (aJ (aK v))] K):=ana (av8 l v) K
abbrev EFP(f:Nat){α:Type}(enc:α->List C)(e:α->C):Prop:=∀ (l m:List α) (q:α->α->Bool) (g:Nat) (cp:List C),l.length<=4611686018427387903/\a3t e g cp q l m->G1 f [.of (slC enc l),.of (slC enc m),.of (.fn g cp)] (aL (eqR q l m))
theorem EFP.k{f:Nat}{α:Type}{enc:α->List C}{e:α->C}(i:EFP f enc e)(l m:List α)(q:α->α->Bool)(g:Nat)(cp:List C)(h:l.length<=4611686018427387903/\a3t e g cp q l m)(K:An->Prop):cKp f [.of (slC enc l),.of (slC enc m),.of (.fn g cp)] [] K↔K ⟨false,[aL (eqR q l m)],[]⟩:=aH.k (i l m q g cp h) K
def gEF {Z:Prop} {f:Nat} {fn:Func} {α:Type} {enc:α->List C} {e:α->C} (hi:FnI Tryz.prog f fn) (z:Z) (h:Z->FnI Tryz.prog f fn->EFP f enc e:=by
  intro z hi l m q g cp h
  obtain⟨hl,ho,hc,hg⟩:=h
  refine ahR (kp:=false) rfl hi rfl rfl ?_
  generalize hX:slC _ l=X
  generalize hY:slC _ m=Y
  by_cases c0:l.length=m.length
  rotate_left
  .rw[ay9 q l m c0]
   simp only[↓zA,sevalprocAttr,z,← hX,← hY,ho,ake,c0]
  simp only[↓zA,sevalprocAttr,z,← hX,← hY,ho,ake,c0]
  refine aas l.length (λk s=>s.fr 1=.of Y/\s.fr 2=.of (.fn g cp)/\s.fr 15=.of X/\s.fr 16=aQ l.length/\s.fr 17=aQ k/\s.objs=[]/\eqR q l m=eqR q (l.drop k) (m.drop k)) ?_ ?_
  .simp only[↓zA,sevalprocAttr,z,← hX,← hY,c0]
   try exact rfl
  .rintro k s hk ⟨f1,f2,f15,f16,f17,hob,E⟩
   rcases aD k l.length with c1|c1
   .have hw:=er k aC
    have c1':k<m.length:=by omega
    have hx:=λK=>aH.k (hg l[k] (cC c1) m[k] (cC c1')) K
    rw[agJ c1,agJ c1',eqR] at E
    simp only[↓zA,sevalprocAttr,z,← hX,← hY,f1,f2,f15,f16,f17,hob,ho,hc,aV,c1,dN c1,dN c1',hw,hx]
    cases c2:q l[k] m[k] <;> (simp only[c2,dL,dz] at E;simp only[↓zA,sevalprocAttr,z,← hX,← hY,c2,E])
   .have e:k=l.length:=by omega
    subst e
    rw[cY,c0,cY,eqR] at E
    simp only[↓zA,sevalprocAttr,z,← hX,← hY,f1,f2,f15,f16,f17,hob,aV,cO,E]):EFP f enc e:=h z hi
def a4o:=fY @zq @anr @anq @bG @fq @zT0 (kf aRr)
def aBM:EFP 206 xpC (λx=>.agg (xpC x)):=gEF aRr (ai Tryz.f206.eq_1 a4o)
def aO9:=aBM.k
def a3Y:=fY @zq @anr @anq @ad3 @ahY @zT0 (kf aQY)
def av6:EFP 234 kdC (λx=>.agg (kdC x)):=gEF aQY (ai Tryz.f234.eq_1 a3Y)
def aG1:=av6.k
def a3X:=fY @zq @anr @anq @afQ @ahX @zT0 (kf aQX)
def av5:EFP 235 rdC (λx=>.agg (rdC x)):=gEF aQX (ai Tryz.f235.eq_1 a3X)
def aG0:=av5.k
def a3W:=fW @zq @bG @acJ @zT0 (kf aQW)
def aum:EFP 236 (lsC xpC) (slC xpC):=gEF aQW (ai Tryz.f236.eq_1 a3W)
def aBN:=aum.k
def a3V:=fY @zq @anr @anq @afR @agy @zT0 (kf aQV)
def av7:EFP 237 asC (λx=>.agg (asC x)):=gEF aQV (ai Tryz.f237.eq_1 a3V)
def aG2:=av7.k
def a4n:=fY @zq @anr @anq @ep @fC @zT0 (kf aRq)
def az9:EFP 207 qyC (λx=>.agg (qyC x)):=gEF aRq (ai Tryz.f207.eq_1 a4n)
def aKI:=az9.k
def a3Q:=fY @zq @anr @anq @acv @ahr @zT0 (kf aQP)
def aBK:EFP 266 imC (λx=>.agg (imC x)):=gEF aQP (ai Tryz.f266.eq_1 a3Q)
def aO7:=aBK.k
def a3P:=fY @zq @anr @anq @eG @acC @zT0 (kf aQN)
def aBL:EFP 268 fmC (λx=>.agg (fmC x)):=gEF aQN (ai Tryz.f268.eq_1 a3P)
def aO8:=aBL.k
abbrev EQP(f:Nat){α:Type}[DecidableEq α](enc:α->List C):Prop:=∀ (l m:List α),l.length<=4611686018427387903->G1 f [.of (slC enc l),.of (slC enc m)] (aL (eqR (λx y=>decide (x=y)) l m))
theorem EQP.k{f:Nat}{α:Type}[DecidableEq α]{enc:α->List C}(i:EQP f enc)(l m:List α)(h:l.length<=4611686018427387903)(K:An->Prop):cKp f [.of (slC enc l),.of (slC enc m)] [] K↔K ⟨false,[aL (eqR (λx y=>decide (x=y)) l m)],[]⟩:=aH.k (i l m h) K
def gEQ {Z:Prop} {f:Nat} {fn:Func} {α:Type} [DecidableEq α] {enc:α->List C} (hi:FnI Tryz.prog f fn) (z:Z) (h:Z->FnI Tryz.prog f fn->EQP f enc:=by
  intro z hi l m hl
  refine ahR (kp:=false) rfl hi rfl rfl ?_
  generalize hX:slC _ l=X
  generalize hY:slC _ m=Y
  by_cases c0:l.length=m.length
  rotate_left
  .rw[ay9 _ l m c0]
   simp only[↓zA,sevalprocAttr,z,← hX,← hY,ake,c0]
  simp only[↓zA,sevalprocAttr,z,← hX,← hY,ake,c0]
  refine aas l.length (λk s=>s.fr 0=.of X/\s.fr 1=.of Y/\s.fr 12=aQ l.length/\s.fr 13=aQ k/\s.objs=[]/\eqR (λx y=>decide (x=y)) l m=eqR (λx y=>decide (x=y)) (l.drop k) (m.drop k)) ?_ ?_
  .simp only[↓zA,sevalprocAttr,z,← hX,← hY,c0]
   try exact rfl
  .rintro k s hk ⟨f0,f1,f12,f13,hob,E⟩
   rcases aD k l.length with c1|c1
   .have hw:=er k aC
    have c1':k<m.length:=by omega
    rw[agJ c1,agJ c1',eqR] at E
    simp only[↓zA,sevalprocAttr,z,← hX,← hY,f0,f1,f12,f13,hob,aV,c1,dN c1,dN c1',hw,cJ,db,dK]
    by_cases c2:l[k]=m[k]
    .simp only[c2,aaH,dz] at E
     simp only[↓zA,sevalprocAttr,z,← hX,← hY,c2,E,abo]
    .simp only[c2,aam,dL] at E
     simp only[↓zA,sevalprocAttr,z,← hX,← hY,c2,E]
   .have e:k=l.length:=by omega
    subst e
    rw[cY,c0,cY,eqR] at E
    simp only[↓zA,sevalprocAttr,z,← hX,← hY,f0,f1,f12,f13,hob,aV,cO,E]):EQP f enc:=h z hi
def a33:=fY @zq @aMB @bO @P9 @Q9 @zT0 (kf aQ3)
def av3:EQP 229 bI:=gEQ aQ3 (ai Tryz.f229.eq_1 a33)
def a3Z:=fX @zq @aMB @ahW @ahZ @zT0 (kf aQZ)
def av4:EQP 233 cdC:=gEQ aQZ (ai (ai Tryz.f233.eq_1 a3Z) @asy)
def a3R:=fX @zq @aMB @ahd @ajs @zT0 (kf aQQ)
def az8:EQP 265 odC:=gEQ aQQ (ai (ai Tryz.f265.eq_1 a3R) @avg)
def aKH:=az8.k
def a4U:=gh @zq @a6y @a6x @a6w @aev @P3 @Q3 @zT0 (kf aSk)
def aKy(a b:Nat×Nat)(h:a.1+b.1<=4611686018427387903):G1 106 [.of (.agg (szC (szP a))),.of (.agg (szC (szP b)))] (.of (.agg (szC (szP (cI a b))))):=by
 have hw:IntKind.i64.wrap ((a.1:Int)+b.1)=((a.1+b.1:Nat):Int):=by rw[d9 _ aC aC];rfl
 have hm:(if (a.2:Int)<b.2 then (b.2:Int) else a.2)=((max a.2 b.2:Nat):Int):=by split <;> omega
 have e:szC (szP (cI a b))=[ci ((a.1+b.1:Nat):Int),ci ((max a.2 b.2:Nat):Int)]:=rfl
 refine bB aSk ?_
 simp only[Tryz.f106,↓zA,sevalprocAttr,a4U,arv,arw,hw,hm,e]
def asU(a b:Nat×Nat)(K:An->Prop):cKp 106 [.of (.agg (szC (szP a))),.of (.agg (szC (szP b)))] [] K↔ifP (a.1+b.1<=4611686018427387903) (K ⟨false,[.of (.agg (szC (szP (cI a b))))],[]⟩) (ajq Tryz.prog pr 106 [.of (.agg (szC (szP a))),.of (.agg (szC (szP b)))] K):=ana (aKy a b) K
def a4S:=fZ @zq @a6v @a6u @aev @P3 @Q3 @zT0 (kf aSi)
def aSS(a:Nat×Nat)(h:a.1<=4611686018427387903/\a.2<=4611686018427387903):G1 108 [.of (.agg (szC (szP a)))] (.of (.agg (szC (szP (upN a))))):=by
 have hw:=er a.1 aC
 have hw2:=er a.2 aC
 have e:szC (szP (upN a))=[ci ((a.1+1:Nat):Int),ci ((a.2+1:Nat):Int)]:=rfl
 refine bB aSi ?_
 simp only[Tryz.f108,↓zA,sevalprocAttr,a4S,arv,arw,hw,hw2,e]
def aKT(a:Nat×Nat)(K:An->Prop):cKp 108 [.of (.agg (szC (szP a)))] [] K↔ifP (a.1<=4611686018427387903/\a.2<=4611686018427387903) (K ⟨false,[.of (.agg (szC (szP (upN a))))],[]⟩) (ajq Tryz.prog pr 108 [.of (.agg (szC (szP a)))] K):=ana (aSS a) K
def aWZ:=fZ @Tryz.f57.eq_1 @zq @a6d @aev @P3 @Q3 @zT0 (kf a0P)
def aJu(a:Nat×Nat):G1 57 [.of (.agg (szC (szP a)))] (aL (ajj a)):=by
 have e1:((a.1:Int)<=400)=(a.1<=400):=propext aC
 have e2:((a.2:Int)<=40)=(a.2<=40):=propext aC
 refine bB a0P ?_
 by_cases c1:a.1<=400
 .simp only[↓zA,sevalprocAttr,aWZ,arv,arw,e1,e2,ajj,c1]
 .simp only[↓zA,sevalprocAttr,aWZ,arv,arw,e1,ajj,c1]
def amE(a:Nat×Nat)(K:An->Prop):cKp 57 [.of (.agg (szC (szP a)))] [] K↔K ⟨false,[aL (ajj a)],[]⟩:=aH.k (aJu a) K
abbrev SMP(f:Nat){α:Type}(enc:α->List C)(e:α->C):Prop:=∀ (l:List α) (w:α->Nat×Nat) (g:Nat) (cp:List C),l.length<=4611686018427387903/\(cR w l).1<=4611686018427387903/\FnS e g cp w l->G1 f [.of (slC enc l),.of (.fn g cp)] (.of (.agg (szC (szP (cR w l)))))
theorem SMP.k{f:Nat}{α:Type}{enc:α->List C}{e:α->C}(i:SMP f enc e)(l:List α)(w:α->Nat×Nat)(g:Nat)(cp:List C)(h:l.length<=4611686018427387903/\(cR w l).1<=4611686018427387903/\FnS e g cp w l)(K:An->Prop):cKp f [.of (slC enc l),.of (.fn g cp)] [] K↔K ⟨false,[.of (.agg (szC (szP (cR w l))))],[]⟩:=aH.k (i l w g cp h) K
def gSM {Z:Prop} {f:Nat} {fn:Func} {α:Type} {enc:α->List C} {e:α->C} (hi:FnI Tryz.prog f fn) (z:Z) (h:Z->FnI Tryz.prog f fn->SMP f enc e:=by
  intro z hi l w g cp h
  obtain⟨hl,hs,ho,hc,hg⟩:=h
  refine ahR (kp:=false) rfl hi rfl rfl ?_
  generalize hX:slC _ l=X
  simp only[↓zA,sevalprocAttr,z,← hX,ho]
  refine aas l.length (λk s=>∃ a,s.fr 1=.of (.fn g cp)/\s.fr 4=.ptr 0 0/\s.fr 5=.ptr 1 0/\s.fr 8=.of X/\s.fr 9=aQ l.length/\s.fr 10=aQ k/\s.objs=[.var 105 [aQ 0,aQ 0],.var 105 [.of (ci ((a:Nat×Nat).1:Int)),.of (ci (a.2:Int))]]/\cI a (cR w (l.drop k))=cR w l) ?_ ?_
  .refine⟨(0,0),?_⟩
   simp only[↓zA,sevalprocAttr,z,← hX,aG6]
   try exact rfl
  .rintro k s hk ⟨a,f1,f4,f5,f8,f9,f10,hob,E⟩
   have ea:szC (szP a)=[ci (a.1:Int),ci (a.2:Int)]:=rfl
   rcases aD k l.length with c1|c1
   .have hw:=er k aC
    have hx:=λK=>aH.k (hg l[k] (cC c1)) K
    rw[agJ c1,aS4,← aGQ] at E
    have hb:a.1+(w l[k]).1<=4611686018427387903:=by have:=congrArg Prod.fst E;simp only[a2G] at this;omega
    have eb:szC (szP (cI a (w l[k])))=[ci ((cI a (w l[k])).1:Int),ci ((cI a (w l[k])).2:Int)]:=rfl
    simp only[↓zA,sevalprocAttr,z,← hX,f1,f4,f5,f8,f9,f10,hob,ho,hc,aV,c1,dN c1,hw,hx,← ea,asU,hb,eb]
    exact⟨_,rfl,E⟩
   .have e:k=l.length:=by omega
    subst e
    rw[cY,cR,aKz] at E
    subst E
    simp only[↓zA,sevalprocAttr,z,← hX,f1,f4,f5,f8,f9,f10,hob,aV,cO,ea]):SMP f enc e:=h z hi
def a4H:=ai (fW @zq @apy @apx @atO @ajn) (fW @aev @bG @acJ @zT0 (kf aRY))
def ary:SMP 128 (lsC xpC) (slC xpC):=gSM aRY (ai Tryz.f128.eq_1 a4H)
def axB:=ary.k
def a4V:=ai (fX @zq @apy @apx @arV @atO @ajn) (fW @bG @aev @fq @zT0 (kf aSl))
def axA:SMP 105 xpC (λx=>.agg (xpC x)):=gSM aSl (ai Tryz.f105.eq_1 a4V)
def aHt:=axA.k
def a4F:=ai (fX @zq @apy @apx @arV @atO @ajn) (fW @afR @aev @agy @zT0 (kf aRW))
def atm:SMP 130 asC (λx=>.agg (asC x)):=gSM aRW (ai Tryz.f130.eq_1 a4F)
def aAm:=atm.k
def a4T:=ai (fX @zq @apy @apx @arV @atO @ajn) (fW @ep @aev @fC @zT0 (kf aSj))
def avG:SMP 107 qyC (λx=>.agg (qyC x)):=gSM aSj (ai Tryz.f107.eq_1 a4T)
def aD2:=avG.k
def a4O:=ai (fX @zq @apy @apx @arV @atO @ajn) (fW @aev @acv @ahr @zT0 (kf aR9))
def axy:SMP 117 imC (λx=>.agg (imC x)):=gSM aR9 (ai Tryz.f117.eq_1 a4O)
def aHr:=axy.k
def a4N:=ai (fX @zq @apy @apx @arV @atO @ajn) (fW @aev @eG @acC @zT0 (kf aR7))
def axz:SMP 119 fmC (λx=>.agg (fmC x)):=gSM aR7 (ai Tryz.f119.eq_1 a4N)
def aHs:=axz.k
abbrev SZ1(f:Nat){α:Type}(e:α->C):Prop:=∀ (x:α) (b:Bool) (g:Nat) (cp:List C),ade g=false->ew Tryz.prog g=true->G1 g (.of (e x)::cp.map .of) (aL b)->G1 f [.of (e x),.of (.ref [.fn g cp])] (aL (!b))
abbrev SZP(f:Nat){α:Type}(enc:α->List C)(e:α->C):Prop:=∀ (l:List α) (a b:Int) (p:α->Bool) (g:Nat) (cp:List C),l.length<=4611686018427387903/\FnB e g cp p l->G1 f [.of (slC enc l),.of (ci a),.of (ci b),.of (.fn g cp)] (aL (cL l a b p))
theorem SZP.k{f:Nat}{α:Type}{enc:α->List C}{e:α->C}(i:SZP f enc e)(l:List α)(a b:Int)(p:α->Bool)(g:Nat)(cp:List C)(h:l.length<=4611686018427387903/\FnB e g cp p l)(K:An->Prop):cKp f [.of (slC enc l),.of (ci a),.of (ci b),.of (.fn g cp)] [] K↔K ⟨false,[aL (cL l a b p)],[]⟩:=aH.k (i l a b p g cp h) K
def gS1 {Z:Prop} {f:Nat} {fn:Func} {α:Type} {e:α->C} (hi:FnI Tryz.prog f fn) (z:Z) (h:Z->FnI Tryz.prog f fn->SZ1 f e:=by
  intro z hi x b g cp ho hc hg
  refine ahR (kp:=false) rfl hi rfl rfl ?_
  have hx:=λK=>aH.k hg K
  simp only[↓zA,sevalprocAttr,z,ho,hc,hx]):SZ1 f e:=h z hi
def gSZ {Z:Prop} {f f1 f2:Nat} {fn:Func} {α:Type} {enc:α->List C} {e:α->C} (hi:FnI Tryz.prog f fn) (I1:SZ1 f1 e) (I2:CFP f2 enc e) (o1:ade f1=false) (o2:ew Tryz.prog f1=true) (z:Z) (h:Z->FnI Tryz.prog f fn->SZ1 f1 e->CFP f2 enc e->ade f1=false->ew Tryz.prog f1=true->SZP f enc e:=by
  intro z hi I1 I2 o1 o2 l a b p g cp h
  have hk:=λK=>CFP.k I2 l (λx=>!p x) _ [.ref [.fn g cp]] ⟨h.1,o1,o2,λx hx=>I1 x (p x) g cp h.2.1 h.2.2.1 (h.2.2.2 x hx)⟩ K
  refine ahR (kp:=false) rfl hi rfl rfl ?_
  by_cases c1:a<=(l.length:Int)
  .by_cases c2:(l.length:Int)<=b
   .simp only[↓zA,sevalprocAttr,z,c1,c2,hk,h.2.1,cL,aWy,Bool.not_not,aaH,dz]
   .simp only[↓zA,sevalprocAttr,z,c1,c2,cL,aaH,aam,dz,dL]
  .simp only[↓zA,sevalprocAttr,z,c1,cL,aam,dL]):SZP f enc e:=h z hi I1 I2 o1 o2
def a4f:=fX @zq @akf @ahW @a3i @zT0 (kf aRe)
def art:SZ1 218 (λx=>.agg (cdC x)):=gS1 aRe (ai Tryz.f218.eq_1 a4f)
def a4D:=gh @zq @aih @a2X @a9t @ahW @ahZ @a3i @zT0 (kf aRU)
def atj:SZP 132 cdC (λx=>.agg (cdC x)):=gSZ aRU art awc aYS aV8 (ai Tryz.f132.eq_1 a4D)
def aAk:=atj.k
def a4d:=fX @zq @akf @ad3 @a3h @zT0 (kf aRc)
def arr:SZ1 220 (λx=>.agg (kdC x)):=gS1 aRc (ai Tryz.f220.eq_1 a4d)
def a4C:=gh @zq @aih @a2W @a9s @ad3 @ahY @a3h @zT0 (kf aRS)
def ati:SZP 134 kdC (λx=>.agg (kdC x)):=gSZ aRS arr awb aYR aV7 (ai Tryz.f134.eq_1 a4C)
def aAj:=ati.k
def a4b:=fX @zq @akf @afQ @a3g @zT0 (kf aRa)
def arq:SZ1 222 (λx=>.agg (rdC x)):=gS1 aRa (ai Tryz.f222.eq_1 a4b)
def a4A:=gh @zq @aih @a2V @a9r @afQ @ahX @a3g @zT0 (kf aRQ)
def atf:SZP 136 rdC (λx=>.agg (rdC x)):=gSZ aRQ arq awa aYQ aV6 (ai Tryz.f136.eq_1 a4A)
def aAi:=atf.k
def a4s:=fX @zq @akf @bG @Q56 @zT0 (kf aRx)
def avF:SZ1 198 (λx=>.agg (xpC x)):=gS1 aRx (ai Tryz.f198.eq_1 a4s)
def a4R:=gh @zq @aih @T56 @a9C @bG @fq @Q56 @zT0 (kf aSg)
def axv:SZP 110 xpC (λx=>.agg (xpC x)):=gSZ aSg avF aBQ aYZ aWf (ai Tryz.f110.eq_1 a4R)
def aHq:=axv.k
def a4q:=fX @zq @akf @ep @Q57 @zT0 (kf aRv)
def atg:SZ1 200 (λx=>.agg (qyC x)):=gS1 aRv (ai Tryz.f200.eq_1 a4q)
def a4Q:=gh @zq @aih @T57 @a9B @ep @fC @Q57 @zT0 (kf aSf)
def avB:SZP 111 qyC (λx=>.agg (qyC x)):=gSZ aSf atg aAa aYY aWe (ai Tryz.f111.eq_1 a4Q)
def aD0:=avB.k
def a38:=fW @zq @bG @a3j @zT0 (kf aQ7)
def aqm:SZ1 225 (slC xpC):=gS1 aQ7 (ai Tryz.f225.eq_1 a38)
def a4y:=fZ @zq @aih @a2Y @a9p @acJ @a3j @zT0 (kf aRN)
def ars:SZP 139 (lsC xpC) (slC xpC):=gSZ aRN aqm aup aYP aV5 (ai Tryz.f139.eq_1 a4y)
def axw:=ars.k
def a35:=fX @zq @akf @afR @a3f @zT0 (kf aQ5)
def aru:SZ1 227 (λx=>.agg (asC x)):=gS1 aQ5 (ai Tryz.f227.eq_1 a35)
def a4w:=gh @zq @aih @a2U @a9o @afR @agy @a3f @zT0 (kf aRL)
def atk:SZP 141 asC (λx=>.agg (asC x)):=gSZ aRL aru awd aYO aV4 (ai Tryz.f141.eq_1 a4w)
def aAl:=atk.k
def a3H:=fV @zq @Q33 @zT0 (kf aQE)
def arp:SZ1 277 (λx=>aJ (aK x)):=gS1 aQE (ai Tryz.f277.eq_1 a3H)
def a4a:=fZ @zq @aih @T33 @a8Z @bO @Q33 @zT0 (kf aQ9)
def ate:SZP 223 bI (λx=>aJ (aK x)):=gSZ aQ9 arp av9 aYH aVX (ai Tryz.f223.eq_1 a4a)
def aAh:=ate.k
def a4l:=fX @zq @akf @ahd @a3m @zT0 (kf aRn)
def ath:SZ1 210 (λx=>.agg (odC x)):=gS1 aRn (ai Tryz.f210.eq_1 a4l)
def a4L:=gh @zq @aih @a3a @a9w @ahd @ajs @a3m @zT0 (kf aR5)
def avC:SZP 121 odC (λx=>.agg (odC x)):=gSZ aR5 ath aAb aYW aWc (ai Tryz.f121.eq_1 a4L)
def aD1:=avC.k
def a4j:=fX @zq @akf @acv @a3l @zT0 (kf aRl)
def avD:SZ1 212 (λx=>.agg (imC x)):=gS1 aRl (ai Tryz.f212.eq_1 a4j)
def a4K:=gh @zq @aih @a24 @a9v @acv @ahr @a3l @zT0 (kf aR3)
def axt:SZP 123 imC (λx=>.agg (imC x)):=gSZ aR3 avD aBO aYV aWb (ai Tryz.f123.eq_1 a4K)
def aHp:=axt.k
def a4h:=fX @zq @akf @eG @a3k @zT0 (kf aRj)
def avE:SZ1 214 (λx=>.agg (fmC x)):=gS1 aRj (ai Tryz.f214.eq_1 a4h)
def a4J:=gh @zq @aih @a2Z @a9u @eG @acC @a3k @zT0 (kf aR1)
def axu:SZP 125 fmC (λx=>.agg (fmC x)):=gSZ aR1 avE aBP aYU aWa (ai Tryz.f125.eq_1 a4J)
def auw:=axu.k
end Go.Proofs.YtghkmcffifpkeaaGreat
namespace Go.Tab
open Pe
def aB9(e:Xp):eO e=upN (cI (cR eO e.ks) (cR ab9 e.sb)):=by cases e;rw[eO,ahG,alp];rfl
def aCa(q:Qy):ab9 q=upN (cI (cI (cI (cI (cI (cR ab9 q.ks) (cR agQ q.its)) (cR aem q.fr)) (cR eO q.wh)) (cR eO q.gr)) (cR eO q.hv)):=by
 cases q;rw[ab9,alp,aux,aoa,ahG,ahG,ahG];rfl
def aCb(i:Im):agQ i=if i.st then (0,0) else eO i.e:=by cases i;rw[agQ];rfl
def aCc(f:Fm):aem f=upN (cI (cI (cR ab9 f.sb) (cR aem f.ks)) (cR eO f.on)):=by cases f;rw[aem,alp,aoa,ahG];rfl
def leW(a:Nat×Nat)(n:Nat):Prop:=a.1<=n/\a.2<=n
theorem aca{α:Type}(f:α->Nat×Nat)(w:α->Nat):∀ l:List α,(∀ x∈l,leW (f x) (w x))->leW (cR f l) (lsW w l)/\(cR f l).1<lsW w l
 | [],_=>by simp[cR,lsW,leW]
 | x::r,h=>by
  have h1:=h x aT
  have h2:=aca f w r (λy hy=>h y (by simp[hy]))
  simp only[leW,cR,cI,lsW,aU,dH] at h1 h2 ⊢
  omega
theorem dt{α:Type}(w:α->Nat):∀ l:List α,(∀ x∈l,1<=w x)->l.length<lsW w l
 | [],_=>by simp[lsW]
 | x::r,h=>by
  have h1:=h x aT
  have h2:=dt w r (λy hy=>h y (by simp[hy]))
  simp only[lsW,aU,dH,aN] at h2 ⊢
  omega
def afS(x:Xp):1<=xpW x:=by rw[ajt];omega
def aia(x:Qy):1<=qyW x:=by rw[ah9];omega
def aki(x:Im):1<=imW x:=by rw[akU];omega
def agI(x:Fm):1<=fmW x:=by rw[agn];omega
theorem ajN:∀ n,(∀ e,xpW e<=n->leW (eO e) (xpW e))/\(∀ e,qyW e<=n->leW (ab9 e) (qyW e))/\(∀ e,imW e<=n->leW (agQ e) (imW e))/\(∀ e,fmW e<=n->leW (aem e) (fmW e))
 | 0=>⟨λe h=>by have:=afS e;omega,λe h=>by have:=aia e;omega,λe h=>by have:=aki e;omega,λe h=>by have:=agI e;omega⟩
 | n+1=>by
  obtain⟨i1,i2,i3,i4⟩:=ajN n
  have sX:∀ l:List Xp,lsW xpW l<=n+1->leW (cR eO l) (lsW xpW l):=λl h=>(aca _ _ l λx hx=>i1 x (by have:=cX (w:=xpW) hx;omega)).1
  have sQ:∀ l:List Qy,lsW qyW l<=n+1->leW (cR ab9 l) (lsW qyW l):=λl h=>(aca _ _ l λx hx=>i2 x (by have:=cX (w:=qyW) hx;omega)).1
  have sI:∀ l:List Im,lsW imW l<=n+1->leW (cR agQ l) (lsW imW l):=λl h=>(aca _ _ l λx hx=>i3 x (by have:=cX (w:=imW) hx;omega)).1
  have sF:∀ l:List Fm,lsW fmW l<=n+1->leW (cR aem l) (lsW fmW l):=λl h=>(aca _ _ l λx hx=>i4 x (by have:=cX (w:=fmW) hx;omega)).1
  refine⟨λe h=>?_,λe h=>?_,λe h=>?_,λe h=>?_⟩
  .rw[ajt] at h ⊢
   have h1:=sX e.ks aC
   have h2:=sQ e.sb aC
   rw[aB9]
   simp only[leW,upN,cI] at h1 h2 ⊢
   omega
  .rw[ah9] at h ⊢
   have h1:=sQ e.ks aC
   have h2:=sI e.its aC
   have h3:=sF e.fr aC
   have h4:=sX e.wh aC
   have h5:=sX e.gr aC
   have h6:=sX e.hv aC
   rw[aCa]
   simp only[leW,upN,cI] at h1 h2 h3 h4 h5 h6 ⊢
   omega
  .rw[akU] at h ⊢
   have h1:=i1 e.e aC
   rw[aCb]
   simp only[leW] at h1 ⊢
   split
   .simp
   .omega
  .rw[agn] at h ⊢
   have h1:=sQ e.sb aC
   have h2:=sF e.ks aC
   have h3:=sX e.on aC
   rw[aCc]
   simp only[leW,upN,cI] at h1 h2 h3 ⊢
   omega
end Go.Tab
namespace Go.Proofs.YtghkmcffifpkeaaGreat
open Pe Tab
abbrev sX(e:Xp):X:=.of (.agg (szC (szP (eO e))))
def aoZ(l:List Xp):Prop:=∀ x∈l,G1 56 [.of (.agg (xpC x))] (.of (.agg (szC (szP (eO x)))))
def auf(l:List Qy):Prop:=∀ x∈l,G1 59 [.of (.agg (qyC x))] (.of (.agg (szC (szP (ab9 x)))))
def aO0(l:List Im):Prop:=∀ x∈l,G1 118 [.of (.agg (imC x))] (.of (.agg (szC (szP (agQ x)))))
def aGW(l:List Fm):Prop:=∀ x∈l,G1 120 [.of (.agg (fmC x))] (.of (.agg (szC (szP (aem x)))))
abbrev WL:Nat:=1152921504606846976
def aob{l:List Xp}(h:aoZ l)(hw:lsW xpW l<=WL)(K:An->Prop):cKp 105 [.of (slC xpC l),.of (.fn 56 [])] [] K↔K ⟨false,[.of (.agg (szC (szP (cR eO l))))],[]⟩:=by
 have h1:=dt xpW l λx _=>afS x
 have h2:=aca eO xpW l λx _=>(ajN _).1 x (ae _)
 simp only[leW,WL] at *
 exact aHt l eO _ [] ⟨by omega,by omega,a5L,a2y,h⟩ K
def aD3{l:List Qy}(h:auf l)(hw:lsW qyW l<=WL)(K:An->Prop):cKp 107 [.of (slC qyC l),.of (.fn 59 [])] [] K↔K ⟨false,[.of (.agg (szC (szP (cR ab9 l))))],[]⟩:=by
 have h1:=dt qyW l λx _=>aia x
 have h2:=aca ab9 qyW l λx _=>(ajN _).2.1 x (ae _)
 simp only[leW,WL] at *
 exact aD2 l ab9 _ [] ⟨by omega,by omega,a5J,a2w,h⟩ K
def baP{l:List Im}(h:aO0 l)(hw:lsW imW l<=WL)(K:An->Prop):cKp 117 [.of (slC imC l),.of (.fn 118 [])] [] K↔K ⟨false,[.of (.agg (szC (szP (cR agQ l))))],[]⟩:=by
 have h1:=dt imW l λx _=>aki x
 have h2:=aca agQ imW l λx _=>(ajN _).2.2.1 x (ae _)
 simp only[leW,WL] at *
 exact aHr l agQ _ [] ⟨by omega,by omega,aZb,aWr,h⟩ K
def aXy{l:List Fm}(h:aGW l)(hw:lsW fmW l<=WL)(K:An->Prop):cKp 119 [.of (slC fmC l),.of (.fn 120 [])] [] K↔K ⟨false,[.of (.agg (szC (szP (cR aem l))))],[]⟩:=by
 have h1:=dt fmW l λx _=>agI x
 have h2:=aca aem fmW l λx _=>(ajN _).2.2.2 x (ae _)
 simp only[leW,WL] at *
 exact aHs l aem _ [] ⟨by omega,by omega,aZa,aWq,h⟩ K
def sbX(l:List Xp):leW (cR eO l) (lsW xpW l):=(aca eO xpW l λx _=>(ajN _).1 x (ae _)).1
def sbQ(l:List Qy):leW (cR ab9 l) (lsW qyW l):=(aca ab9 qyW l λx _=>(ajN _).2.1 x (ae _)).1
def sbI(l:List Im):leW (cR agQ l) (lsW imW l):=(aca agQ imW l λx _=>(ajN _).2.2.1 x (ae _)).1
def sbF(l:List Fm):leW (cR aem l) (lsW fmW l):=(aca aem fmW l λx _=>(ajN _).2.2.2 x (ae _)).1
def bao:=ai (fZ @zq @a6t @a6s @bcu @asH @awW @ajn @aGh) (fY @bG @aev @ep @aoR @azu @zT0 (kf a0Q))
def avL(e:Xp)(hw:xpW e<=WL)(i1:aoZ e.ks)(i2:auf e.sb):G1 56 [.of (.agg (xpC e))] (.of (.agg (szC (szP (eO e))))):=by
 rw[ajt] at hw
 simp only[WL] at hw
 have k1:=aob i1 (by simp only[WL];omega)
 have k2:=aD3 i2 (by simp only[WL];omega)
 have b1:=sbX e.ks
 have b2:=sbQ e.sb
 simp only[leW] at b1 b2
 have h1:(cR eO e.ks).1+(cR ab9 e.sb).1<=4611686018427387903:=by omega
 have h2:(cI (cR eO e.ks) (cR ab9 e.sb)).1<=4611686018427387903/\(cI (cR eO e.ks) (cR ab9 e.sb)).2<=4611686018427387903:=by simp only[cI];omega
 rw[aB9]
 refine bB a0Q ?_
 simp only[Tryz.f56,↓zA,sevalprocAttr,bao,k1,k2,asU,h1,aKT,h2]
def aPr:=ai (fX @Tryz.f118.eq_1 @zq @a6r @a6q @aoR @bG) (fX @aev @acv @P4 @Q4 @zT0 (kf aR8))
def avJ(e:Im)(i1:G1 56 [.of (.agg (xpC e.e))] (.of (.agg (szC (szP (eO e.e)))))):G1 118 [.of (.agg (imC e))] (.of (.agg (szC (szP (agQ e))))):=by
 have k1:=λK=>aH.k i1 K
 have ez:szC (szP (0,0))=[ci 0,ci 0]:=rfl
 rw[aCb]
 refine bB aR8 ?_
 cases c:e.st
 .simp only[↓zA,sevalprocAttr,aPr,c,k1]
 .simp only[↓zA,sevalprocAttr,aPr,c,ez]
def a4M:=ai (gh @zq @a6p @a6o @bct @awW @aSH @ajn @asH @aGh) (fZ @aev @eG @ep @bG @azu @aoR @zT0 (kf aR6))
def avK(e:Fm)(hw:fmW e<=WL)(i1:auf e.sb)(i2:aGW e.ks)(i3:aoZ e.on):G1 120 [.of (.agg (fmC e))] (.of (.agg (szC (szP (aem e))))):=by
 rw[agn] at hw
 simp only[WL] at hw
 have k1:=aD3 i1 (by simp only[WL];omega)
 have k2:=aXy i2 (by simp only[WL];omega)
 have k3:=aob i3 (by simp only[WL];omega)
 have b1:=sbQ e.sb
 have b2:=sbF e.ks
 have b3:=sbX e.on
 simp only[leW] at b1 b2 b3
 have h1:(cR ab9 e.sb).1+(cR aem e.ks).1<=4611686018427387903:=by omega
 have h2:(cI (cR ab9 e.sb) (cR aem e.ks)).1+(cR eO e.on).1<=4611686018427387903:=by simp only[cI];omega
 have h3:(cI (cI (cR ab9 e.sb) (cR aem e.ks)) (cR eO e.on)).1<=4611686018427387903/\(cI (cI (cR ab9 e.sb) (cR aem e.ks)) (cR eO e.on)).2<=4611686018427387903:=by simp only[cI];omega
 rw[aCc]
 refine bB aR6 ?_
 simp only[Tryz.f120,↓zA,sevalprocAttr,a4M,k1,k2,k3,asU,h1,h2,aKT,h3]
def ban:=fU (fY @zq @a6n @a6m @bcs @awW @a9V @ajn) (fY @aSH @a6l @bcr @asH @aGh @ep @aev) (fY @acv @eG @bG @azu @aoR @zT0 (kf a0N))
def atr(e:Qy)(hw:qyW e<=WL)(i1:auf e.ks)(i2:aO0 e.its)(i3:aGW e.fr)(i4:aoZ e.wh)(i5:aoZ e.gr)(i6:aoZ e.hv):G1 59 [.of (.agg (qyC e))] (.of (.agg (szC (szP (ab9 e))))):=by
 rw[ah9] at hw
 simp only[WL] at hw
 have k1:=aD3 i1 (by simp only[WL];omega)
 have k2:=baP i2 (by simp only[WL];omega)
 have k3:=aXy i3 (by simp only[WL];omega)
 have k4:=aob i4 (by simp only[WL];omega)
 have k5:=aob i5 (by simp only[WL];omega)
 have k6:=aob i6 (by simp only[WL];omega)
 have b1:=sbQ e.ks
 have b2:=sbI e.its
 have b3:=sbF e.fr
 have b4:=sbX e.wh
 have b5:=sbX e.gr
 have b6:=sbX e.hv
 simp only[leW] at b1 b2 b3 b4 b5 b6
 rw[aCa]
 generalize cR ab9 e.ks=a1 at *
 generalize cR agQ e.its=a2 at *
 generalize cR aem e.fr=a3 at *
 generalize cR eO e.wh=a4 at *
 generalize cR eO e.gr=a5 at *
 generalize cR eO e.hv=a6 at *
 have h1:a1.1+a2.1<=4611686018427387903:=by omega
 have h2:(cI a1 a2).1+a3.1<=4611686018427387903:=by simp only[cI];omega
 have h3:(cI (cI a1 a2) a3).1+a4.1<=4611686018427387903:=by simp only[cI];omega
 have h4:(cI (cI (cI a1 a2) a3) a4).1+a5.1<=4611686018427387903:=by simp only[cI];omega
 have h5:(cI (cI (cI (cI a1 a2) a3) a4) a5).1+a6.1<=4611686018427387903:=by simp only[cI];omega
 have h6:(cI (cI (cI (cI (cI a1 a2) a3) a4) a5) a6).1<=4611686018427387903/\(cI (cI (cI (cI (cI a1 a2) a3) a4) a5) a6).2<=4611686018427387903:=by simp only[cI];omega
 refine bB a0N ?_
 simp only[Tryz.f59,↓zA,sevalprocAttr,ban,k1,k2,k3,k4,k5,k6,asU,h1,h2,h3,h4,h5,aKT,h6]
theorem aiE:∀ n,n<=WL->(∀ e,xpW e<=n->G1 56 [.of (.agg (xpC e))] (.of (.agg (szC (szP (eO e))))))/\(∀ e,qyW e<=n->G1 59 [.of (.agg (qyC e))] (.of (.agg (szC (szP (ab9 e))))))
  /\ (∀ e,imW e<=n->G1 118 [.of (.agg (imC e))] (.of (.agg (szC (szP (agQ e))))))/\(∀ e,fmW e<=n->G1 120 [.of (.agg (fmC e))] (.of (.agg (szC (szP (aem e))))))
 | 0,_=>⟨λe h=>by have:=afS e;omega,λe h=>by have:=aia e;omega,λe h=>by have:=aki e;omega,λe h=>by have:=agI e;omega⟩
 | n+1,hn=>by
  obtain⟨i1,i2,i3,i4⟩:=aiE n aC
  have sX:∀ l:List Xp,lsW xpW l<=n+1->aoZ l:=λl h x hx=>i1 x (by have:=cX (w:=xpW) hx;omega)
  have sQ:∀ l:List Qy,lsW qyW l<=n+1->auf l:=λl h x hx=>i2 x (by have:=cX (w:=qyW) hx;omega)
  have sI:∀ l:List Im,lsW imW l<=n+1->aO0 l:=λl h x hx=>i3 x (by have:=cX (w:=imW) hx;omega)
  have sF:∀ l:List Fm,lsW fmW l<=n+1->aGW l:=λl h x hx=>i4 x (by have:=cX (w:=fmW) hx;omega)
  refine⟨λe h=>?_,λe h=>?_,λe h=>?_,λe h=>?_⟩
  .have h':=ajt e
   exact avL e aC (sX _ aC) (sQ _ aC)
  .have h':=ah9 e
   exact atr e aC (sQ _ aC) (sI _ aC) (sF _ aC) (sX _ aC) (sX _ aC) (sX _ aC)
  .have h':=akU e
   exact avJ e (i1 _ aC)
  .have h':=agn e
   exact avK e aC (sQ _ aC) (sF _ aC) (sX _ aC)
def azZ(l:List Xp)(h:lsW xpW l<=WL):aoZ l:=λx hx=>(aiE WL (ae _)).1 x (by have:=cX (w:=xpW) hx;omega)
def a3b(l:List Qy)(h:lsW qyW l<=WL):auf l:=λx hx=>(aiE WL (ae _)).2.1 x (by have:=cX (w:=qyW) hx;omega)
def aXx(s:Sm):leW (atl s) (smW s):=by
 have b1:=sbX s.chs
 have b2:=(aca (λl=>cR eO l) (lsW xpW) s.rws λx _=>sbX x).1
 have b3:=(aca (λa:As=>eO a.e) asW s.sts λx _=>by have:=(ajN _).1 x.e (ae _);simp only[leW,asW] at this ⊢;omega).1
 have b4:=sbX s.wh
 have b5:=sbQ s.q
 simp only[leW,atl,cI,smW] at *
 omega
def a4G:=fZ @zq @a6i @asH @aev @bG @aoR @zT0 (kf aRX)
def axJ(l:List Xp)(h:lsW xpW l<=WL):G1 129 [.of (slC xpC l)] (.of (.agg (szC (szP (cR eO l))))):=by
 refine bB aRX ?_
 simp only[Tryz.f129,↓zA,sevalprocAttr,a4G,aob (azZ l h) h]
def a4E:=gh @zq @a6g @a6f @aoR @bG @afR @aev @zT0 (kf aRV)
def aAu(a:As)(h:asW a<=WL):G1 131 [.of (.agg (asC a))] (.of (.agg (szC (szP (eO a.e))))):=by
 have k1:=λK=>aH.k ((aiE WL (ae _)).1 a.e (by simp only[asW] at h;omega)) K
 refine bB aRV ?_
 simp only[Tryz.f131,↓zA,sevalprocAttr,a4E,k1]
def baO{l:List (List Xp)}(hw:lsW (lsW xpW) l<=WL)(K:An->Prop):cKp 128 [.of (slC (lsC xpC) l),.of (.fn 129 [])] [] K↔K ⟨false,[.of (.agg (szC (szP (cR (λl=>cR eO l) l))))],[]⟩:=by
 have h1:=dt (lsW xpW) l λx _=>by simp[lsW]
 have h2:=aca (λl=>cR eO l) (lsW xpW) l λx _=>sbX x
 simp only[leW,WL] at *
 exact axB l (λl=>cR eO l) _ [] ⟨by omega,by omega,aY6,aWm,λx hx=>axJ x (by have:=cX (w:=lsW xpW) hx;simp only[WL];omega)⟩ K
def baQ{l:List As}(hw:lsW asW l<=WL)(K:An->Prop):cKp 130 [.of (slC asC l),.of (.fn 131 [])] [] K↔K ⟨false,[.of (.agg (szC (szP (cR (λa:As=>eO a.e) l))))],[]⟩:=by
 have h1:=dt asW l λx _=>by simp[asW]
 have h2:=(aca (λa:As=>eO a.e) asW l λx _=>by have:=(ajN _).1 x.e (ae _);simp only[leW,asW] at this ⊢;omega)
 simp only[leW,WL] at *
 exact aAm l (λa:As=>eO a.e) _ [] ⟨by omega,by omega,aY5,aWl,λx hx=>aAu x (by have:=cX (w:=asW) hx;simp only[WL];omega)⟩ K
def bam:=fU (fY @zq @a6k @a6j @a9S @a6h @a9R @a6e) (fY @bcq @asH @ajn @awW @abE @aev @afR) (fY @bG @ep @acJ @aoR @azu @zT0 (kf a0L))
def avI(e:Sm)(hw:smW e<=WL):G1 61 [.of (.agg (smC e))] (.of (.agg (szC (szP (atl e))))):=by
 have b0:=aXx e
 simp only[WL,smW] at hw
 have k1:=aob (l:=e.chs) (azZ _ (by simp only[WL];omega)) (by simp only[WL];omega)
 have k2:=baO (l:=e.rws) (by simp only[WL];omega)
 have k3:=baQ (l:=e.sts) (by simp only[WL];omega)
 have k4:=aob (l:=e.wh) (azZ _ (by simp only[WL];omega)) (by simp only[WL];omega)
 have k5:=aD3 (l:=e.q) (a3b _ (by simp only[WL];omega)) (by simp only[WL];omega)
 have b1:=sbX e.chs
 have b2:=(aca (λl=>cR eO l) (lsW xpW) e.rws λx _=>sbX x).1
 have b3:=(aca (λa:As=>eO a.e) asW e.sts λx _=>by have:=(ajN _).1 x.e (ae _);simp only[leW,asW] at this ⊢;omega).1
 have b4:=sbX e.wh
 have b5:=sbQ e.q
 simp only[leW] at b1 b2 b3 b4 b5
 rw[atl]
 generalize cR eO e.chs=a1 at *
 generalize cR (λl=>cR eO l) e.rws=a2 at *
 generalize cR (λa:As=>eO a.e) e.sts=a3 at *
 generalize cR eO e.wh=a4 at *
 generalize cR ab9 e.q=a5 at *
 have h1:a1.1+a2.1<=4611686018427387903:=by omega
 have h2:(cI a1 a2).1+a3.1<=4611686018427387903:=by simp only[cI];omega
 have h3:(cI (cI a1 a2) a3).1+a4.1<=4611686018427387903:=by simp only[cI];omega
 have h4:(cI (cI (cI a1 a2) a3) a4).1+a5.1<=4611686018427387903:=by simp only[cI];omega
 refine bB a0L ?_
 simp only[Tryz.f61,↓zA,sevalprocAttr,bam,k1,k2,k3,k4,k5,asU,h1,h2,h3,h4]
end Go.Proofs.YtghkmcffifpkeaaGreat
namespace Go.Tab
open Pe
noncomputable instance:DecidableEq Xp:=λ_ _=>Classical.propDecidable _
noncomputable instance:DecidableEq Qy:=λ_ _=>Classical.propDecidable _
noncomputable instance:DecidableEq Im:=λ_ _=>Classical.propDecidable _
noncomputable instance:DecidableEq Fm:=λ_ _=>Classical.propDecidable _
noncomputable instance:DecidableEq Kd:=λ_ _=>Classical.propDecidable _
noncomputable instance:DecidableEq Rd:=λ_ _=>Classical.propDecidable _
noncomputable instance:DecidableEq As:=λ_ _=>Classical.propDecidable _
noncomputable instance:DecidableEq Sm:=λ_ _=>Classical.propDecidable _
def aj3(a b:Xp):(a=b)=(a.op=b.op/\a.v=b.v/\a.tb=b.tb/\a.nm=b.nm/\a.di=b.di/\a.ks=b.ks/\a.sb=b.sb):=by
 apply propext
 constructor
 .rintro rfl;simp
 .rintro⟨h0,h1,h2,h3,h4,h5,h6⟩
  cases a;cases b
  simp only[Xp.op,Xp.v,Xp.tb,Xp.nm,Xp.di,Xp.ks,Xp.sb] at *
  subst_vars
  rfl
def agC(a b:Qy):(a=b)=(a.op=b.op/\a.al=b.al/\a.di=b.di/\a.li=b.li/\a.sk=b.sk/\a.od=b.od/\a.ks=b.ks/\a.its=b.its/\a.fr=b.fr/\a.wh=b.wh/\a.gr=b.gr/\a.hv=b.hv):=by
 apply propext
 constructor
 .rintro rfl;simp
 .rintro⟨h0,h1,h2,h3,h4,h5,h6,h7,h8,h9,h10,h11⟩
  cases a;cases b
  simp only[Qy.op,Qy.al,Qy.di,Qy.li,Qy.sk,Qy.od,Qy.ks,Qy.its,Qy.fr,Qy.wh,Qy.gr,Qy.hv] at *
  subst_vars
  rfl
def ash(a b:Im):(a=b)=(a.st=b.st/\a.tb=b.tb/\a.az=b.az/\a.e=b.e):=by
 apply propext
 constructor
 .rintro rfl;simp
 .rintro⟨h0,h1,h2,h3⟩
  cases a;cases b
  simp only[Im.st,Im.tb,Im.az,Im.e] at *
  subst_vars
  rfl
def anE(a b:Fm):(a=b)=(a.kd=b.kd/\a.nm=b.nm/\a.az=b.az/\a.sb=b.sb/\a.ks=b.ks/\a.on=b.on):=by
 apply propext
 constructor
 .rintro rfl;simp
 .rintro⟨h0,h1,h2,h3,h4,h5⟩
  cases a;cases b
  simp only[Fm.kd,Fm.nm,Fm.az,Fm.sb,Fm.ks,Fm.on] at *
  subst_vars
  rfl
def aE9(a b:Kd):(a=b)=(a.pr=b.pr/\a.ns=b.ns):=by
 apply propext
 constructor
 .rintro rfl;simp
 .rintro⟨h0,h1⟩
  cases a;cases b
  simp only[] at *
  subst_vars
  rfl
def awu(a b:Rd):(a=b)=(a.tb=b.tb/\a.ns=b.ns/\a.to=b.to):=by
 apply propext
 constructor
 .rintro rfl;simp
 .rintro⟨h0,h1,h2⟩
  cases a;cases b
  simp only[] at *
  subst_vars
  rfl
def aGD(a b:As):(a=b)=(a.nm=b.nm/\a.e=b.e):=by
 apply propext
 constructor
 .rintro rfl;simp
 .rintro⟨h0,h1⟩
  cases a;cases b
  simp only[] at *
  subst_vars
  rfl
def ae2(a b:Sm):(a=b)=(a.kd=b.kd/\a.tb=b.tb/\a.nm=b.nm/\a.un=b.un/\a.cs=b.cs/\a.ns=b.ns/\a.kys=b.kys/\a.rfs=b.rfs/\a.chs=b.chs/\a.rws=b.rws/\a.sts=b.sts/\a.wh=b.wh/\a.q=b.q):=by
 apply propext
 constructor
 .rintro rfl;simp
 .rintro⟨h0,h1,h2,h3,h4,h5,h6,h7,h8,h9,h10,h11,h12⟩
  cases a;cases b
  simp only[] at *
  subst_vars
  rfl
end Go.Tab
namespace Go.Proofs.YtghkmcffifpkeaaGreat
open Pe Tab
def aeM{α:Type}[DecidableEq α](l m:List α):eqR (λx y=>decide (x=y)) l m=decide (l=m):=aJD _ l m λ_ _ _ _=>rfl
def ca(a b:Bool):(a == b)=decide (a=b):=by cases a <;> cases b <;> rfl
def aO5(l m:List Od)(hw:lsW odW l<=WL)(K:An->Prop):cKp 265 [.of (slC odC l),.of (slC odC m)] [] K↔K ⟨false,[aL (decide (l=m))],[]⟩:=by
 have:=aKH l m (by have:=dt odW l (λx _=>by simp[odW]);simp only[WL] at hw;omega) K
 rwa [aeM] at this
def abN(l m:List (List UInt8))(K:An->Prop):cKp 229 [.of (slC bI l),.of (slC bI m)] [] K↔ifP (l.length<=4611686018427387903) (K ⟨false,[aL (decide (l=m))],[]⟩) (ajq Tryz.prog pr 229 [.of (slC bI l),.of (slC bI m)] K):=ana (λh=>by have:=av3 l m h;rwa [aeM] at this) K
def adE(l m:List Cd)(K:An->Prop):cKp 233 [.of (slC cdC l),.of (slC cdC m)] [] K↔ifP (l.length<=4611686018427387903) (K ⟨false,[aL (decide (l=m))],[]⟩) (ajq Tryz.prog pr 233 [.of (slC cdC l),.of (slC cdC m)] K):=ana (λh=>by have:=av4 l m h;rwa [aeM] at this) K
def anZ(l:List Xp):Prop:=∀ x∈l,∀ y,G1 116 [.of (.agg (xpC x)),.of (.agg (xpC y))] (aL (decide (x=y)))
def efX{l:List Xp}(h:anZ l)(hw:lsW xpW l<=WL)(m:List Xp)(K:An->Prop):cKp 206 [.of (slC xpC l),.of (slC xpC m),.of (.fn 116 [])] [] K↔K ⟨false,[aL (decide (l=m))],[]⟩:=by
 have h1:=dt xpW l λx _=>afS x
 simp only[WL] at hw
 have:=aO9 l m (λx y=>decide (x=y)) 116 [] ⟨by omega,aZc,aWs,λx hx y _=>h x hx y⟩ K
 rwa [aeM] at this
def aul(l:List Qy):Prop:=∀ x∈l,∀ y,G1 208 [.of (.agg (qyC x)),.of (.agg (qyC y))] (aL (decide (x=y)))
def efQ{l:List Qy}(h:aul l)(hw:lsW qyW l<=WL)(m:List Qy)(K:An->Prop):cKp 207 [.of (slC qyC l),.of (slC qyC m),.of (.fn 208 [])] [] K↔K ⟨false,[aL (decide (l=m))],[]⟩:=by
 have h1:=dt qyW l λx _=>aia x
 simp only[WL] at hw
 have:=aKI l m (λx y=>decide (x=y)) 208 [] ⟨by omega,aYX,aWd,λx hx y _=>h x hx y⟩ K
 rwa [aeM] at this
def aO6(l:List Im):Prop:=∀ x∈l,∀ y,G1 267 [.of (.agg (imC x)),.of (.agg (imC y))] (aL (decide (x=y)))
def efI{l:List Im}(h:aO6 l)(hw:lsW imW l<=WL)(m:List Im)(K:An->Prop):cKp 266 [.of (slC imC l),.of (slC imC m),.of (.fn 267 [])] [] K↔K ⟨false,[aL (decide (l=m))],[]⟩:=by
 have h1:=dt imW l λx _=>aki x
 simp only[WL] at hw
 have:=aO7 l m (λx y=>decide (x=y)) 267 [] ⟨by omega,aYJ,aVZ,λx hx y _=>h x hx y⟩ K
 rwa [aeM] at this
def aGZ(l:List Fm):Prop:=∀ x∈l,∀ y,G1 269 [.of (.agg (fmC x)),.of (.agg (fmC y))] (aL (decide (x=y)))
def efF{l:List Fm}(h:aGZ l)(hw:lsW fmW l<=WL)(m:List Fm)(K:An->Prop):cKp 268 [.of (slC fmC l),.of (slC fmC m),.of (.fn 269 [])] [] K↔K ⟨false,[aL (decide (l=m))],[]⟩:=by
 have h1:=dt fmW l λx _=>agI x
 simp only[WL] at hw
 have:=aO8 l m (λx y=>decide (x=y)) 269 [] ⟨by omega,aYI,aVY,λx hx y _=>h x hx y⟩ K
 rwa [aeM] at this
def ald:=ai (gh @Tryz.f116.eq_1 @zq @a59 @a58 @awT @awS @ajr @bG @ep) (gh @alH @P3 @Q3 @P9 @Q9 @P4 @Q4 @zT0 (kf aSa))
def apV(a b:Xp)(hw:lsW xpW a.ks+lsW qyW a.sb<=WL)(i0:anZ a.ks)(i1:aul a.sb):G1 116 [.of (.agg (xpC a)),.of (.agg (xpC b))] (aL (decide (a=b))):=by
 simp only[WL] at hw
 have k0:=efX i0 (by simp only[WL];omega)
 have k1:=efQ i1 (by simp only[WL];omega)
 refine bB aSa ?_
 by_cases c0:a.op=b.op
 rotate_left
 .simp only[↓zA,sevalprocAttr,ald,c0,ca,aj3 a b]
 by_cases c1:a.v=b.v
 rotate_left
 .simp only[↓zA,sevalprocAttr,ald,aa c0,c1,ca,aeU,aj3 a b]
 by_cases c2:a.tb=b.tb
 rotate_left
 .simp only[↓zA,sevalprocAttr,ald,aa c0,aa c1,c2,cJ,ca,aeU,aj3 a b]
 by_cases c3:a.nm=b.nm
 rotate_left
 .simp only[↓zA,sevalprocAttr,ald,aa c0,aa c1,aa c2,c3,cJ,ca,aeU,aj3 a b]
 by_cases c4:a.di=b.di
 rotate_left
 .simp only[↓zA,sevalprocAttr,ald,aa c0,aa c1,aa c2,aa c3,c4,cJ,ca,aeU,aj3 a b]
 by_cases c5:a.ks=b.ks
 rotate_left
 .simp only[↓zA,sevalprocAttr,ald,aa c0,aa c1,aa c2,aa c3,aa c4,c5,k0,cJ,ca,aeU,aj3 a b]
 by_cases c6:a.sb=b.sb
 rotate_left
 .simp only[↓zA,sevalprocAttr,ald,aa c0,aa c1,aa c2,aa c3,aa c4,aa c5,c6,k0,k1,cJ,ca,aeU,aj3 a b]
 simp only[↓zA,sevalprocAttr,ald,aa c0,aa c1,aa c2,aa c3,aa c4,aa c5,aa c6,k0,k1,cJ,ca,aeU,aj3 a b,bM]
def agx:=fU (fY @Tryz.f208.eq_1 @zq @a53 @a52 @a87 @awS @a86) (fY @aSw @awT @ep @ahd @acv @eG @bG) (fY @alH @P3 @Q3 @P4 @Q4 @zT0 (kf aRp))
def aAy(a b:Qy)(hw:qyW a<=WL)(i0:aul a.ks)(i1:aO6 a.its)(i2:aGZ a.fr)(i3:anZ a.wh)(i4:anZ a.gr)(i5:anZ a.hv):G1 208 [.of (.agg (qyC a)),.of (.agg (qyC b))] (aL (decide (a=b))):=by
 rw[ah9] at hw
 simp only[WL] at hw
 have ko:=λm=>aO5 a.od m (by simp only[WL];omega)
 have k0:=efQ i0 (by simp only[WL];omega)
 have k1:=efI i1 (by simp only[WL];omega)
 have k2:=efF i2 (by simp only[WL];omega)
 have k3:=efX i3 (by simp only[WL];omega)
 have k4:=efX i4 (by simp only[WL];omega)
 have k5:=efX i5 (by simp only[WL];omega)
 refine bB aRp ?_
 by_cases c0:a.op=b.op
 rotate_left
 .simp only[↓zA,sevalprocAttr,agx,c0,ca,bd,agC a b]
 by_cases c1:a.al=b.al
 rotate_left
 .simp only[↓zA,sevalprocAttr,agx,aa c0,c1,ca,bd,agC a b]
 by_cases c2:a.di=b.di
 rotate_left
 .simp only[↓zA,sevalprocAttr,agx,aa c0,aa c1,c2,ca,bd,agC a b]
 by_cases c3:a.li=b.li
 rotate_left
 .simp only[↓zA,sevalprocAttr,agx,aa c0,aa c1,aa c2,c3,ca,bd,agC a b]
 by_cases c4:a.sk=b.sk
 rotate_left
 .simp only[↓zA,sevalprocAttr,agx,aa c0,aa c1,aa c2,aa c3,c4,ca,bd,agC a b]
 by_cases c5:a.od=b.od
 rotate_left
 .simp only[↓zA,sevalprocAttr,agx,aa c0,aa c1,aa c2,aa c3,aa c4,c5,ko,ca,bd,agC a b]
 by_cases c6:a.ks=b.ks
 rotate_left
 .simp only[↓zA,sevalprocAttr,agx,aa c0,aa c1,aa c2,aa c3,aa c4,aa c5,c6,ko,k0,ca,bd,agC a b]
 by_cases c7:a.its=b.its
 rotate_left
 .simp only[↓zA,sevalprocAttr,agx,aa c0,aa c1,aa c2,aa c3,aa c4,aa c5,aa c6,c7,ko,k0,k1,ca,bd,agC a b]
 by_cases c8:a.fr=b.fr
 rotate_left
 .simp only[↓zA,sevalprocAttr,agx,aa c0,aa c1,aa c2,aa c3,aa c4,aa c5,aa c6,aa c7,c8,ko,k0,k1,k2,ca,bd,agC a b]
 by_cases c9:a.wh=b.wh
 rotate_left
 .simp only[↓zA,sevalprocAttr,agx,aa c0,aa c1,aa c2,aa c3,aa c4,aa c5,aa c6,aa c7,aa c8,c9,ko,k0,k1,k2,k3,ca,bd,agC a b]
 by_cases c10:a.gr=b.gr
 rotate_left
 .simp only[↓zA,sevalprocAttr,agx,aa c0,aa c1,aa c2,aa c3,aa c4,aa c5,aa c6,aa c7,aa c8,aa c9,c10,ko,k0,k1,k2,k3,k4,ca,bd,agC a b]
 by_cases c11:a.hv=b.hv
 rotate_left
 .simp only[↓zA,sevalprocAttr,agx,aa c0,aa c1,aa c2,aa c3,aa c4,aa c5,aa c6,aa c7,aa c8,aa c9,aa c10,c11,ko,k0,k1,k2,k3,k4,k5,ca,bd,agC a b]
 simp only[↓zA,sevalprocAttr,agx,aa c0,aa c1,aa c2,aa c3,aa c4,aa c5,aa c6,aa c7,aa c8,aa c9,aa c10,aa c11,ko,k0,k1,k2,k3,k4,k5,ca,bd,agC a b,bM]
def are:=ai (fY @Tryz.f267.eq_1 @zq @a57 @a56 @alH @bG @acv) (fX @P4 @Q4 @P9 @Q9 @zT0 (kf aQO))
def aAA(a b:Im)(hw:imW a<=WL)(i0:anZ [a.e]):G1 267 [.of (.agg (imC a)),.of (.agg (imC b))] (aL (decide (a=b))):=by
 rw[akU] at hw
 simp only[WL] at hw
 have k0:=λK=>aH.k (i0 a.e aT b.e) K
 refine bB aQO ?_
 by_cases c0:a.st=b.st
 rotate_left
 .simp only[↓zA,sevalprocAttr,are,c0,ca,ash a b]
 by_cases c1:a.tb=b.tb
 rotate_left
 .simp only[↓zA,sevalprocAttr,are,aa c0,c1,cJ,ca,ash a b]
 by_cases c2:a.az=b.az
 rotate_left
 .simp only[↓zA,sevalprocAttr,are,aa c0,aa c1,c2,cJ,ca,ash a b]
 by_cases c3:a.e=b.e
 rotate_left
 .simp only[↓zA,sevalprocAttr,are,aa c0,aa c1,aa c2,c3,k0,cJ,ca,ash a b]
 simp only[↓zA,sevalprocAttr,are,aa c0,aa c1,aa c2,aa c3,k0,cJ,ca,ash a b,bM]
def amP:=ai (gh @Tryz.f269.eq_1 @zq @a55 @a54 @awS @aSw @awT @eG @ep) (fZ @bG @alH @P3 @Q3 @P9 @Q9 @zT0 (kf aQM))
def aAB(a b:Fm)(hw:fmW a<=WL)(i0:aul a.sb)(i1:aGZ a.ks)(i2:anZ a.on):G1 269 [.of (.agg (fmC a)),.of (.agg (fmC b))] (aL (decide (a=b))):=by
 rw[agn] at hw
 simp only[WL] at hw
 have k0:=efQ i0 (by simp only[WL];omega)
 have k1:=efF i1 (by simp only[WL];omega)
 have k2:=efX i2 (by simp only[WL];omega)
 refine bB aQM ?_
 by_cases c0:a.kd=b.kd
 rotate_left
 .simp only[↓zA,sevalprocAttr,amP,c0,ca,anE a b]
 by_cases c1:a.nm=b.nm
 rotate_left
 .simp only[↓zA,sevalprocAttr,amP,aa c0,c1,cJ,ca,anE a b]
 by_cases c2:a.az=b.az
 rotate_left
 .simp only[↓zA,sevalprocAttr,amP,aa c0,aa c1,c2,cJ,ca,anE a b]
 by_cases c3:a.sb=b.sb
 rotate_left
 .simp only[↓zA,sevalprocAttr,amP,aa c0,aa c1,aa c2,c3,k0,cJ,ca,anE a b]
 by_cases c4:a.ks=b.ks
 rotate_left
 .simp only[↓zA,sevalprocAttr,amP,aa c0,aa c1,aa c2,aa c3,c4,k0,k1,cJ,ca,anE a b]
 by_cases c5:a.on=b.on
 rotate_left
 .simp only[↓zA,sevalprocAttr,amP,aa c0,aa c1,aa c2,aa c3,aa c4,c5,k0,k1,k2,cJ,anE a b]
 simp only[↓zA,sevalprocAttr,amP,aa c0,aa c1,aa c2,aa c3,aa c4,aa c5,k0,k1,k2,cJ,anE a b,bM]
theorem am7:∀ n,n<=WL->(∀ a,xpW a<=n->∀ b,G1 116 [.of (.agg (xpC a)),.of (.agg (xpC b))] (aL (decide (a=b))))/\(∀ a,qyW a<=n->∀ b,G1 208 [.of (.agg (qyC a)),.of (.agg (qyC b))] (aL (decide (a=b))))
  /\ (∀ a,imW a<=n->∀ b,G1 267 [.of (.agg (imC a)),.of (.agg (imC b))] (aL (decide (a=b))))/\(∀ a,fmW a<=n->∀ b,G1 269 [.of (.agg (fmC a)),.of (.agg (fmC b))] (aL (decide (a=b))))
 | 0,_=>⟨λe h=>by have:=afS e;omega,λe h=>by have:=aia e;omega,λe h=>by have:=aki e;omega,λe h=>by have:=agI e;omega⟩
 | n+1,hn=>by
  obtain⟨i1,i2,i3,i4⟩:=am7 n aC
  have sX:∀ l:List Xp,lsW xpW l<=n+1->anZ l:=λl h x hx=>i1 x (by have:=cX (w:=xpW) hx;omega)
  have sQ:∀ l:List Qy,lsW qyW l<=n+1->aul l:=λl h x hx=>i2 x (by have:=cX (w:=qyW) hx;omega)
  have sI:∀ l:List Im,lsW imW l<=n+1->aO6 l:=λl h x hx=>i3 x (by have:=cX (w:=imW) hx;omega)
  have sF:∀ l:List Fm,lsW fmW l<=n+1->aGZ l:=λl h x hx=>i4 x (by have:=cX (w:=fmW) hx;omega)
  refine⟨λe h b=>?_,λe h b=>?_,λe h b=>?_,λe h b=>?_⟩
  .have h':=ajt e
   exact apV e b aC (sX _ aC) (sQ _ aC)
  .have h':=ah9 e
   exact aAy e b aC (sQ _ aC) (sI _ aC) (sF _ aC) (sX _ aC) (sX _ aC) (sX _ aC)
  .have h':=akU e
   exact aAA e b aC (λx hx=>by rw[cn.1 hx];exact i1 _ aC)
  .have h':=agn e
   exact aAB e b aC (sQ _ aC) (sF _ aC) (sX _ aC)
def a3u(l:List Xp)(h:lsW xpW l<=WL):anZ l:=λx hx=>(am7 WL (ae _)).1 x (by have:=cX (w:=xpW) hx;omega)
def a3v(l:List Qy)(h:lsW qyW l<=WL):aul l:=λx hx=>(am7 WL (ae _)).2.1 x (by have:=cX (w:=qyW) hx;omega)
def anX(a b:Xp)(K:An->Prop):cKp 116 [.of (.agg (xpC a)),.of (.agg (xpC b))] [] K↔ifP (xpW a<=WL) (K ⟨false,[aL (decide (a=b))],[]⟩) (ajq Tryz.prog pr 116 [.of (.agg (xpC a)),.of (.agg (xpC b))] K):=ana (λh=>(am7 WL (ae _)).1 a h b) K
def aDF:=ai (fX @Tryz.f228.eq_1 @zq @a5Y @a5X @aGb @ad3) (fW @bO @P4 @Q4 @zT0 (kf aQ4))
def aAz(a b:Kd)(hw:kdW a<=WL):G1 228 [.of (.agg (kdC a)),.of (.agg (kdC b))] (aL (decide (a=b))):=by
 have hl:a.ns.length<=4611686018427387903:=by have:=dt dQ a.ns (λx _=>by simp[dQ]);simp only[WL,kdW] at hw;omega
 refine bB aQ4 ?_
 by_cases c0:a.pr=b.pr
 rotate_left
 .simp only[↓zA,sevalprocAttr,aDF,c0,ca,aE9 a b]
 by_cases c1:a.ns=b.ns
 rotate_left
 .simp only[↓zA,sevalprocAttr,aDF,aa c0,c1,abN,hl,ca,aE9 a b]
 simp only[↓zA,sevalprocAttr,aDF,aa c0,aa c1,abN,hl,ca,aE9 a b,bM]
def awg:=ai (fX @Tryz.f230.eq_1 @zq @a5W @a5V @aGb @afQ) (fW @bO @P9 @Q9 @zT0 (kf aQ2))
def aAx(a b:Rd)(hw:rdW a<=WL):G1 230 [.of (.agg (rdC a)),.of (.agg (rdC b))] (aL (decide (a=b))):=by
 have hl:a.ns.length<=4611686018427387903:=by have:=dt dQ a.ns (λx _=>by simp[dQ]);simp only[WL,rdW] at hw;omega
 have hl2:a.to.length<=4611686018427387903:=by have:=dt dQ a.to (λx _=>by simp[dQ]);simp only[WL,rdW] at hw;omega
 refine bB aQ2 ?_
 by_cases c0:a.tb=b.tb
 rotate_left
 .simp only[↓zA,sevalprocAttr,awg,c0,cJ,ca,awu a b]
 by_cases c1:a.ns=b.ns
 rotate_left
 .simp only[↓zA,sevalprocAttr,awg,aa c0,c1,abN,hl,cJ,ca,awu a b]
 by_cases c2:a.to=b.to
 rotate_left
 .simp only[↓zA,sevalprocAttr,awg,aa c0,aa c1,c2,abN,hl,hl2,cJ,awu a b]
 simp only[↓zA,sevalprocAttr,awg,aa c0,aa c1,aa c2,abN,hl,hl2,cJ,awu a b,bM]
def aDE:=ai (fX @Tryz.f232.eq_1 @zq @a5U @a5T @alH @bG) (fW @afR @P9 @Q9 @zT0 (kf aQ0))
def aAC(a b:As)(hw:asW a<=WL):G1 232 [.of (.agg (asC a)),.of (.agg (asC b))] (aL (decide (a=b))):=by
 have hl:xpW a.e<=WL:=by simp only[asW] at hw;omega
 refine bB aQ0 ?_
 by_cases c0:a.nm=b.nm
 rotate_left
 .simp only[↓zA,sevalprocAttr,aDE,c0,cJ,ca,aGD a b]
 by_cases c1:a.e=b.e
 rotate_left
 .simp only[↓zA,sevalprocAttr,aDE,aa c0,c1,anX,hl,cJ,aGD a b]
 simp only[↓zA,sevalprocAttr,aDE,aa c0,aa c1,anX,hl,cJ,aGD a b,bM]
def a30:=fX @zq @awT @bG @alH @zT0 (kf aQ1)
def aok(a b:List Xp)(hw:lsW xpW a<=WL):G1 231 [.of (slC xpC a),.of (slC xpC b)] (aL (decide (a=b))):=by
 refine bB aQ1 ?_
 simp only[Tryz.f231,↓zA,sevalprocAttr,a30,efX (a3u a hw) hw]
def ahK(a b:List Xp)(K:An->Prop):cKp 231 [.of (slC xpC a),.of (slC xpC b)] [] K↔ifP (lsW xpW a<=WL) (K ⟨false,[aL (decide (a=b))],[]⟩) (ajq Tryz.prog pr 231 [.of (slC xpC a),.of (slC xpC b)] K):=ana (aok a b) K
def bdn{l:List Kd}(hw:lsW kdW l<=WL)(m:List Kd)(K:An->Prop):cKp 234 [.of (slC kdC l),.of (slC kdC m),.of (.fn 228 [])] [] K↔K ⟨false,[aL (decide (l=m))],[]⟩:=by
 have h1:=dt kdW l λx _=>by simp[kdW]
 have h2:=hw
 simp only[WL] at h2
 have:=aG1 l m (λx y=>decide (x=y)) 228 [] ⟨by omega,aYN,aV3,λx hx y _=>aAz x y (by have:=cX (w:=kdW) hx;omega)⟩ K
 rwa [aeM] at this
def bdm{l:List Rd}(hw:lsW rdW l<=WL)(m:List Rd)(K:An->Prop):cKp 235 [.of (slC rdC l),.of (slC rdC m),.of (.fn 230 [])] [] K↔K ⟨false,[aL (decide (l=m))],[]⟩:=by
 have h1:=dt rdW l λx _=>by simp[rdW]
 have h2:=hw
 simp only[WL] at h2
 have:=aG0 l m (λx y=>decide (x=y)) 230 [] ⟨by omega,aYM,aV2,λx hx y _=>aAx x y (by have:=cX (w:=rdW) hx;omega)⟩ K
 rwa [aeM] at this
def bdo{l:List As}(hw:lsW asW l<=WL)(m:List As)(K:An->Prop):cKp 237 [.of (slC asC l),.of (slC asC m),.of (.fn 232 [])] [] K↔K ⟨false,[aL (decide (l=m))],[]⟩:=by
 have h1:=dt asW l λx _=>by simp[asW]
 have h2:=hw
 simp only[WL] at h2
 have:=aG2 l m (λx y=>decide (x=y)) 232 [] ⟨by omega,aYK,aV0,λx hx y _=>aAC x y (by have:=cX (w:=asW) hx;omega)⟩ K
 rwa [aeM] at this
def efR{l:List (List Xp)}(hw:lsW (lsW xpW) l<=WL)(m:List (List Xp))(K:An->Prop):cKp 236 [.of (slC (lsC xpC) l),.of (slC (lsC xpC) m),.of (.fn 231 [])] [] K↔K ⟨false,[aL (decide (l=m))],[]⟩:=by
 have h1:=dt (lsW xpW) l λx _=>by simp[lsW]
 have h2:=hw
 simp only[WL] at h2
 have:=aBN l m (λx y=>decide (x=y)) 231 [] ⟨by omega,aYL,aV1,λx hx y _=>aok x y (by have:=cX (w:=lsW xpW) hx;omega)⟩ K
 rwa [aeM] at this
def afP:=fV (fZ @Tryz.f143.eq_1 @zq @a50 @a5Z @a9m @aGb @a9l @a9k) (fZ @a9j @a9i @awS @abE @ahW @ad3 @afQ @bG) (fZ @afR @ep @bO @acJ @a9n @P3 @Q3 @P9) (fW @Q9 @P4 @Q4 @zT0 (kf aRJ))
def aAw(a b:Sm)(hw:smW a<=WL):G1 143 [.of (.agg (smC a)),.of (.agg (smC b))] (aL (decide (a=b))):=by
 have hw':=hw
 simp only[WL,smW] at hw
 have l1:a.cs.length<=4611686018427387903:=by have:=dt cdW a.cs (λx _=>by simp[cdW]);omega
 have l2:a.ns.length<=4611686018427387903:=by have:=dt dQ a.ns (λx _=>by simp[dQ]);omega
 have l3:lsW xpW a.chs<=WL:=by simp only[WL];omega
 have l4:lsW xpW a.wh<=WL:=by simp only[WL];omega
 have k1:=bdn (l:=a.kys) (by simp only[WL];omega)
 have k2:=bdm (l:=a.rfs) (by simp only[WL];omega)
 have k3:=efR (l:=a.rws) (by simp only[WL];omega)
 have k4:=bdo (l:=a.sts) (by simp only[WL];omega)
 have k5:=efQ (a3v a.q (by simp only[WL];omega)) (by simp only[WL];omega)
 refine bB aRJ ?_
 by_cases c0:a.kd=b.kd
 rotate_left
 .simp only[↓zA,sevalprocAttr,afP,c0,ca,bd,ae2 a b]
 by_cases c1:a.tb=b.tb
 rotate_left
 .simp only[↓zA,sevalprocAttr,afP,aa c0,c1,cJ,ca,bd,ae2 a b]
 by_cases c2:a.nm=b.nm
 rotate_left
 .simp only[↓zA,sevalprocAttr,afP,aa c0,aa c1,c2,cJ,ca,bd,ae2 a b]
 by_cases c3:a.un=b.un
 rotate_left
 .simp only[↓zA,sevalprocAttr,afP,aa c0,aa c1,aa c2,c3,cJ,ca,bd,ae2 a b]
 by_cases c4:a.cs=b.cs
 rotate_left
 .simp only[↓zA,sevalprocAttr,afP,aa c0,aa c1,aa c2,aa c3,c4,adE,l1,cJ,ca,bd,ae2 a b]
 by_cases c5:a.ns=b.ns
 rotate_left
 .simp only[↓zA,sevalprocAttr,afP,aa c0,aa c1,aa c2,aa c3,aa c4,c5,adE,abN,l1,l2,cJ,ca,bd,ae2 a b]
 by_cases c6:a.kys=b.kys
 rotate_left
 .simp only[↓zA,sevalprocAttr,afP,aa c0,aa c1,aa c2,aa c3,aa c4,aa c5,c6,adE,abN,l1,l2,k1,cJ,ca,bd,ae2 a b]
 by_cases c7:a.rfs=b.rfs
 rotate_left
 .simp only[↓zA,sevalprocAttr,afP,aa c0,aa c1,aa c2,aa c3,aa c4,aa c5,aa c6,c7,adE,abN,l1,l2,k1,k2,cJ,ca,bd,ae2 a b]
 by_cases c8:a.chs=b.chs
 rotate_left
 .simp only[↓zA,sevalprocAttr,afP,aa c0,aa c1,aa c2,aa c3,aa c4,aa c5,aa c6,aa c7,c8,adE,abN,ahK,l1,l2,l3,k1,k2,cJ,ca,bd,ae2 a b]
 by_cases c9:a.rws=b.rws
 rotate_left
 .simp only[↓zA,sevalprocAttr,afP,aa c0,aa c1,aa c2,aa c3,aa c4,aa c5,aa c6,aa c7,aa c8,c9,adE,abN,ahK,l1,l2,l3,k1,k2,k3,cJ,ca,bd,ae2 a b]
 by_cases c10:a.sts=b.sts
 rotate_left
 .simp only[↓zA,sevalprocAttr,afP,aa c0,aa c1,aa c2,aa c3,aa c4,aa c5,aa c6,aa c7,aa c8,aa c9,c10,adE,abN,ahK,l1,l2,l3,k1,k2,k3,k4,cJ,ca,bd,ae2 a b]
 by_cases c11:a.wh=b.wh
 rotate_left
 .simp only[↓zA,sevalprocAttr,afP,aa c0,aa c1,aa c2,aa c3,aa c4,aa c5,aa c6,aa c7,aa c8,aa c9,aa c10,c11,adE,abN,ahK,l1,l2,l3,l4,k1,k2,k3,k4,cJ,ca,bd,ae2 a b]
 by_cases c12:a.q=b.q
 rotate_left
 .simp only[↓zA,sevalprocAttr,afP,aa c0,aa c1,aa c2,aa c3,aa c4,aa c5,aa c6,aa c7,aa c8,aa c9,aa c10,aa c11,c12,adE,abN,ahK,l1,l2,l3,l4,k1,k2,k3,k4,k5,cJ,ca,bd,ae2 a b]
 simp only[↓zA,sevalprocAttr,afP,aa c0,aa c1,aa c2,aa c3,aa c4,aa c5,aa c6,aa c7,aa c8,aa c9,aa c10,aa c11,aa c12,adE,abN,ahK,l1,l2,l3,l4,k1,k2,k3,k4,k5,cJ,ca,bd,ae2 a b,bM]
def aCh(n:Int):Bool:=decide (-9223372036854775808<=n/\n<=9223372036854775807)
instance (n:Int):Decidable (I64 n):=by unfold I64;infer_instance
def aGy(P:Program)(T:TT)(t:Nat)(u:Option TypeDesc)(n:Int):fE P T t u .andNot (.of (.lit (.int .i64 n))) (.of (.lit (.int .i64 1)))=out (aQ (IntKind.i64.wrap ((BitVec.ofInt 64 n &&& ~~~BitVec.ofInt 64 1).toNat:Int))):=by simp[fE,fN,acl,afw,bJ,out];rfl
def aBG(n:Int)(h:aCh n=true):IntKind.i64.wrap ((BitVec.ofInt 64 n &&& ~~~BitVec.ofInt 64 1).toNat:Int)=0↔(n=0\/n=1):=by
 simp only[aCh,bf] at h
 have hx:∀ b:BitVec 64,(b &&& ~~~(1#64))=0#64↔(b=0#64\/b=1#64):=by
  intro b
  constructor
  .intro e
   have h1:∀ i:Nat,0<i->b.getLsbD i=false:=λi hi=>by
    have:=congrArg (λx:BitVec 64=>x.getLsbD i) e
    by_cases h64:i<64
    .have hi0:¬ i=0:=by omega
     simp only[BitVec.getLsbD_and,BitVec.getLsbD_not,BitVec.getLsbD_one,BitVec.getLsbD_zero,h64,hi0,aaH,aam,cW,dK,aaw] at this
     exact this
    .exact BitVec.getLsbD_of_ge b i aC
   have z1:∀ i:Nat,(1#64).getLsbD i=decide (i=0):=λi=>by simp[BitVec.getLsbD_one]
   rcases hb:b.getLsbD 0 with _|_
   .left
    apply BitVec.eq_of_getLsbD_eq
    intro i hi
    rw[BitVec.getLsbD_zero]
    rcases aan i with rfl|hp
    .exact hb
    .exact h1 i hp
   .right
    apply BitVec.eq_of_getLsbD_eq
    intro i hi
    rw[z1]
    rcases aan i with rfl|hp
    .rw[hb];rfl
    .rw[h1 i hp,bw aC]
  .rintro (rfl|rfl) <;> decide
 have ho:∀ m:Int,0<=m->m<18446744073709551616->(IntKind.i64.wrap m=0↔m=0):=λm h0 h1=>by
  rw[IntKind.wrap_i64]
  omega
 have hlt:=(BitVec.ofInt 64 n &&& ~~~BitVec.ofInt 64 1).isLt
 rw[ho _ aC aC]
 have e1:(((BitVec.ofInt 64 n &&& ~~~BitVec.ofInt 64 1).toNat:Int)=0)↔(BitVec.ofInt 64 n &&& ~~~(1#64))=0#64:=by
  rw[← BitVec.toNat_inj]
  have:BitVec.ofInt 64 1=1#64:=by decide
  rw[this]
  simp
 rw[e1,hx]
 have e2:∀ k:Int,-9223372036854775808<=k->k<=9223372036854775807->(BitVec.ofInt 64 n=BitVec.ofInt 64 k↔n=k):=λk h1 h2=>by
  constructor
  .intro e
   have:=congrArg BitVec.toInt e
   simp only[BitVec.toInt_ofInt] at this
   simp only[Int.bmod_def] at this
   omega
  .rintro rfl;rfl
 have z0:(0#64)=BitVec.ofInt 64 0:=by decide
 have z1:(1#64)=BitVec.ofInt 64 1:=by decide
 rw[z0,z1,e2 0 aC aC,e2 1 aC aC]
def aPl:=fV @Tryz.f203.eq_1 @zq @zT0 (kf aRu)
def aWK(n:Int):G1 203 [aQ n] (aL (inB n)):=by
 refine bB aRu ?_
 by_cases h1:-1000000000000000<=n
 .simp -implicitDefEqProofs only[↓zA,sevalprocAttr,aPl,h1,inB]
 .simp -implicitDefEqProofs only[↓zA,sevalprocAttr,aPl,h1,inB]
def beu(n:Int)(K:An->Prop):cKp 203 [.of (ci n)] [] K↔K ⟨false,[aL (inB n)],[]⟩:=aH.k (aWK n) K
def bde(s:ByteArray)(K:An->Prop):cKp 201 [.of (aJ s),.of (.fn 202 [])] [] K↔K ⟨false,[aQ (Lib.idxFunc aiQ true s)],[]⟩ :=
 aH.k (aH.of_prim (show ixP [.of (aJ s),.of (.fn 202 [])] []=_ by unfold ixP;simp only[au])) K
def an5(v:V):(aiA v).length=3:=rfl
def s0q:(⟨#[]⟩ : ByteArray)=ByteArray.empty:=rfl
def alf:=ai (fX @Tryz.f112.eq_1 @zq @a5N @a9A @a9z @ajr) (fX @P3 @Q3 @P9 @Q9 @zT0 (kf aSe))
def axf(v:V)(hv:I64 v.n):G1 112 [.of (.agg (aiA v))] (aL (adh v)):=by
 refine bB aSe ?_
 by_cases k3:v.k=3
 .have e:adh v=(decide (v.n=0)&&amj v.s):=by simp[adh,k3]
  by_cases hn:v.n=0
  .by_cases hl:(v.s.size:Int)<=100
   .have e2:amj v.s=decide (Lib.idxFunc aiQ true v.s<0):=by
     unfold amj
     have:v.s.size<=100:=by omega
     rw[ey this,aaw]
     by_cases h:v.s.data.toList.all okB=true
     .rw[h,ey ((aCN v.s).2 h)]
     .rw[Bool.eq_false_iff.2 h,bw λe=>h ((aCN v.s).1 e)]
    simp -implicitDefEqProofs only[↓zA,sevalprocAttr,alf,bde,an5,k3,hn,hl,e,e2]
   .have e2:amj v.s=false:=by
     unfold amj
     have:¬ v.s.size<=100:=by omega
     rw[bw this,cW]
    simp -implicitDefEqProofs only[↓zA,sevalprocAttr,alf,an5,k3,hn,hl,e,e2]
  .simp -implicitDefEqProofs only[↓zA,sevalprocAttr,alf,an5,k3,hn,e]
 .by_cases hs:v.s=ByteArray.empty
  .by_cases k0:v.k=0
   .have e:adh v=decide (v.n=0):=by simp[adh,k0,hs]
    simp -implicitDefEqProofs only[↓zA,sevalprocAttr,alf,Int.reduceEq,an5,k0,s0q,hs,e]
   .by_cases k1:v.k=1
    .have e:adh v=(decide (IntKind.i64.wrap ((BitVec.ofInt 64 v.n &&& ~~~BitVec.ofInt 64 1).toNat:Int)=0)):=by
      have h2:decide (IntKind.i64.wrap ((BitVec.ofInt 64 v.n &&& ~~~BitVec.ofInt 64 1).toNat:Int)=0)=decide (v.n=0\/v.n=1):=ae8.2 (aBG v.n (ey hv))
      rw[h2]
      simp[adh,k1,hs]
     simp -implicitDefEqProofs only[↓zA,sevalprocAttr,alf,Int.reduceEq,an5,k1,s0q,hs,e,aGy]
    .by_cases k2:v.k=2
     .have e:adh v=inB v.n:=by simp[adh,k2,hs]
      simp -implicitDefEqProofs only[↓zA,sevalprocAttr,alf,beu,Int.reduceEq,an5,k2,s0q,hs,e]
     .have e:adh v=false:=by simp[adh,k0,k1,k2,k3]
      simp -implicitDefEqProofs only[↓zA,sevalprocAttr,alf,an5,k3,k0,k1,k2,s0q,hs,e]
  .have e:adh v=false:=by simp[adh,k3,hs]
   simp -implicitDefEqProofs only[↓zA,sevalprocAttr,alf,an5,k3,s0q,hs,e]
def alh(v:V)(K:An->Prop):cKp 112 [.of (.agg (aiA v))] [] K↔ifP (I64 v.n) (K ⟨false,[aL (adh v)],[]⟩) (ajq Tryz.prog pr 112 [.of (.agg (aiA v))] K):=ana (axf v) K
def aPK(a b:Int):Instr.sameNow (.int .i64) (.int .i64 a) (.int .i64 b)=some (decide (a=b)):=by
 simp only[Instr.sameNow]
 by_cases h:a=b
 .subst h;simp
 .simp[h]
def aBT(s:S)(d:Option Nat)(x:X)(r:Nat)(es:List (Value×C)):aDQ s d x r (some es)=some ((s.withO (s.objs.set r (Ob.map es))).put d x):=rfl
abbrev aat(a b c:Int):C:=.agg (shC ⟨a,b,c⟩)
def aTm:List (Value×C):=[(.int .i64 1,aat 0 0 0),(.int .i64 2,aat 0 0 0),(.int .i64 3,aat 1 1 0),(.int .i64 4,aat 1 1 0),(.int .i64 19,aat 1 1 0),(.int .i64 22,aat 3 3 0),(.int .i64 21,aat 2 65 0),(.int .i64 23,aat 2 129 0),(.int .i64 24,aat 0 64 0),(.int .i64 25,aat 0 1 0),(.int .i64 26,aat 0 0 1),(.int .i64 27,aat 0 0 1),(.int .i64 28,aat 1 1 1)]
def two:List Int:=[5,6,7,8,9,10,11,12,13,14,15,16,17,18,20]
def ahJ(k:Nat):List (Value×C):=aTm++(two.take k).map λn=>(.int .i64 n,aat 2 2 0)
def aKk(tk:Tk)(a b c d e f g h i j k l m n o:Int):cy tk 15 (Pe.elemOf tP 66) (some [(0,[aQ a]),(1,[aQ b]),(2,[aQ c]),(3,[aQ d]),(4,[aQ e]),(5,[aQ f]),(6,[aQ g]),(7,[aQ h]),(8,[aQ i]),(9,[aQ j]),(10,[aQ k]),(11,[aQ l]),(12,[aQ m]),(13,[aQ n]),(14,[aQ o])])=out (.own tk 3 1 [ci a,ci b,ci c,ci d,ci e,ci f,ci g,ci h,ci i,ci j,ci k,ci l,ci m,ci n,ci o] 15):=by rw[E66];kernel_rfl
def aA3(tk:Tk)(e z:Nat)(l:List Int)(n:Nat)(hn:n=l.length)(i:Int):bP tP 66 (.own tk e z (fl abC l) n) (.of (.lit (.int .i64 i)))=bP tP 66 (.of (slC abC l)) (.of (.lit (.int .i64 i))):=by
 subst hn
 rw[adP E66 _ _ i _ rfl,adP E66 _ _ i _ rfl]
theorem a5t:∀ k (h:k<two.length),anf (.int .i64) (.int .i64 two[k]) (.agg (shC ⟨2,2,0⟩)) (ahJ k)=some (ahJ (k+1))
 | 0,_=>rfl
 | 1,_=>rfl
 | 2,_=>rfl
 | 3,_=>rfl
 | 4,_=>rfl
 | 5,_=>rfl
 | 6,_=>rfl
 | 7,_=>rfl
 | 8,_=>rfl
 | 9,_=>rfl
 | 10,_=>rfl
 | 11,_=>rfl
 | 12,_=>rfl
 | 13,_=>rfl
 | 14,_=>rfl
 | k+15,h=>absurd h (by simp[two])
def al8:two.length=15:=rfl
def awl:=gh @Tryz.f109.eq_1 @zq @az4 @aPt @ahE @P3 @Q3 @zT0 (kf aSh)
def eT:aH Tryz.prog pr 109 [] [] ⟨false,[.mp 0],[.map (ahJ 15)]⟩:=by
 refine bB aSh ?_
 simp -implicitDefEqProofs only[↓zA,sevalprocAttr,awl,aKF (ht:=az4),akx,atF,aBT,apt,anf,aff,aPK,Int.reduceEq,aKk]
 refine aas two.length (λk s=>s.fr 1=.mp 0/\s.fr 19=.own (.nm 3 0 0) 3 1 (fl abC two) 15/\s.fr 20=aQ 15/\s.fr 21=aQ k/\s.objs=[.map (ahJ k)]) ?_ ?_
 .simp -implicitDefEqProofs only[↓zA,sevalprocAttr,awl]
  exact⟨rfl,rfl⟩
 .rintro k s hk ⟨f1,f19,f20,f21,ho⟩
  have e15:((k:Int)<15)=(k<two.length):=propext (by rw[al8];omega)
  rcases aD k two.length with c1|c1
  .have hw:=er k (by rw[al8] at hk;omega)
   simp -implicitDefEqProofs only[↓zA,sevalprocAttr,awl,f1,f19,f20,f21,ho,e15,aA3,al8,dN c1,hw,az0 (ht:=az4),akx,atF,aBT,apt,a5t k c1]
   have c2:k<15:=by rw[al8] at c1;exact c1
   simp only[c2,au]
  .have e:k=two.length:=by omega
   subst e
   simp -implicitDefEqProofs only[↓zA,sevalprocAttr,awl,f1,f20,f21,ho,al8]
def shX(op:Int):X:=match ajx op with
 | some (a,b,c)=>.tup [.of (.agg (shC ⟨a,b,c⟩)),aL true]
 | none=>.tup [.agg [aQ 0,aQ 0,aQ 0],aL false]
def aJv(n m:Int)(c:C)(es:List (Value×C))(i:Nat):aff (.int .i64) (.int .i64 n) ((.int .i64 m,c)::es) i=if n=m then some (some i) else aff (.int .i64) (.int .i64 n) es (i+1):=by
 simp only[aff,aPK]
 by_cases h:n=m <;> simp[h]
def aNS(n:Int)(i:Nat):aff (.int .i64) (.int .i64 n) [] i=some none:=rfl
def aAT(objs:List Ob)(op:Int)(ho:objs[0]?=some (.map (ahJ 15))):aeH tP objs 161 (.mp 0) (.of (.lit (.int .i64 op))) true=out (shX op):=by
 have hm:ahg objs (.mp 0)=some (ahJ 15):=by simp only[ahg,ho]
 simp only[aeH,az4,fN,hm]
 have e:ahJ 15=[(.int .i64 1,aat 0 0 0),(.int .i64 2,aat 0 0 0),(.int .i64 3,aat 1 1 0),(.int .i64 4,aat 1 1 0),(.int .i64 19,aat 1 1 0),(.int .i64 22,aat 3 3 0),(.int .i64 21,aat 2 65 0),(.int .i64 23,aat 2 129 0),(.int .i64 24,aat 0 64 0),(.int .i64 25,aat 0 1 0),(.int .i64 26,aat 0 0 1),(.int .i64 27,aat 0 0 1),(.int .i64 28,aat 1 1 1),
  (.int .i64 5,aat 2 2 0),(.int .i64 6,aat 2 2 0),(.int .i64 7,aat 2 2 0),(.int .i64 8,aat 2 2 0),(.int .i64 9,aat 2 2 0),(.int .i64 10,aat 2 2 0),(.int .i64 11,aat 2 2 0),(.int .i64 12,aat 2 2 0),(.int .i64 13,aat 2 2 0),(.int .i64 14,aat 2 2 0),(.int .i64 15,aat 2 2 0),(.int .i64 16,aat 2 2 0),(.int .i64 17,aat 2 2 0),(.int .i64 18,aat 2 2 0),(.int .i64 20,aat 2 2 0)]:=rfl
 have hz:alb tP 159=some (.agg [aQ 0,aQ 0,aQ 0]):=by kernel_rfl
 by_cases h:op=1\/op=2\/op=3\/op=4\/op=5\/op=6\/op=7\/op=8\/op=9\/op=10\/op=11\/op=12\/op=13\/op=14\/op=15\/op=16\/op=17\/op=18\/op=19\/op=20\/op=21\/op=22\/op=23\/op=24\/op=25\/op=26\/op=27\/op=28
 .rcases h with h|h|h|h|h|h|h|h|h|h|h|h|h|h|h|h|h|h|h|h|h|h|h|h|h|h|h|h <;> (subst h;rfl)
 .simp only[aii] at h
  rw[e]
  simp only[aJv,h,av,aNS,hz]
  have hs:ajx op=none:=by
   unfold ajx
   simp only[h,acN,av]
   rw[aj aC]
  simp only[shX,hs]
  rfl
def u8C(c:UInt8):List C:=[.lit (.int .u8 (c.toNat:Nat))]
def aKc(s:List UInt8):C.sl (aeP (aK s)) (aK s).size=slC u8C s:=by
 have h1:(aK s).data.toList=s:=by simp[aK]
 rw[ad5,slC,aeP,h1,fl]
 congr 1
 induction s with
 | nil=>rfl
 | cons x r ih =>
  have h2:(aK r).data.toList=r:=by simp[aK]
  simp[u8C,ih h2]
def aOm(s:List UInt8):adU tP 9 64 (.of (.lit (.string (aK s))))=out (.of (slC u8C s)):=by
 rw[aVL (e:=5) (by rw[T9];rfl) (by rw[T64];rfl) (by rw[T5];rfl),aKc]
def aZT(l)(i:Int):bP tP 64 (.of (slC u8C l)) (.of (.lit (.int .i64 i)))=aen (aaF l i) λx=>.of (.ref (u8C x++fl u8C (l.drop (i.toNat+1)))):=adk E64 (λ_=>rfl) aI l i
def aZs(l):aah (some (.slice 5)) (.of (slC u8C l))=out (aQ l.length):=ac6 u8C l rfl
def a5h(x:UInt8)(r:List C):C.ref (u8C x++r)=C.ref (.lit (.int .u8 (x.toNat:Nat))::r):=rfl
def aXb(c:UInt8)(n:Nat)(h:n<256):((c.toNat:Int)=(n:Int))=(c=UInt8.ofNat n):=by
 apply propext
 constructor
 .intro e
  apply UInt8.toNat_inj.1
  rw[UInt8.toNat_ofNat']
  omega
 .intro e
  subst e
  rw[UInt8.toNat_ofNat']
  omega
def u97(c:UInt8):((97:Int)<=(c.toNat:Int))=(97<=c.toNat):=propext aC
def aXc(c:UInt8):((c.toNat:Int)<=122)=(c.toNat<=122):=propext aC
def u95(c:UInt8):((c.toNat:Int)=95)=(c=95):=aXb c 95 aI
def u48(c:UInt8):((c.toNat:Int)<48)=¬(48<=c.toNat):=propext aC
def u57(c:UInt8):((57:Int)<(c.toNat:Int))=¬(c.toNat<=57):=propext aC
def aDG:=fV @Tryz.f204.eq_1 @zq @zT0 (kf aRt)
def aAL(c:UInt8):G1 204 [.of (.lit (.int .u8 (c.toNat:Nat)))] (aL (eF c)):=by
 refine bB aRt ?_
 by_cases c1:97<=c.toNat
 .by_cases c2:c.toNat<=122
  .simp only[↓zA,sevalprocAttr,aDG,u97,aXc,c1,c2,eF]
  .simp only[↓zA,sevalprocAttr,aDG,u97,aXc,u95,c1,c2,eF]
 .simp only[↓zA,sevalprocAttr,aDG,u97,u95,c1,eF]
def aqC(c:UInt8)(K:An->Prop):cKp 204 [.of (.lit (.int .u8 (c.toNat:Nat)))] [] K↔K ⟨false,[aL (eF c)],[]⟩:=aH.k (aAL c) K
def aln(c:UInt8):Bool:=eF c||bQ c
def aE6(n:Nat):((20:Int)<(n:Int))=(20<n):=propext aC
def alY{α:Type}(x:α)(r:List α):(x::r=[])=False:=by simp
def avb{α:Type}(x:α)(r:List α):aaF (x::r) 0=some x:=rfl
def aKA{α:Type}(p:α->Bool)(x:α)(r:List α):(x::r).all p=(p x&&r.all p):=rfl
def ahV:=fZ @Tryz.f113.eq_1 @zq @U64 @T9 @a9y @Q5 @zT0 (kf aSd)
def ap0(s:List UInt8):G1 113 [.of (aJ (aK s))] (aL (dy s)):=by
 refine bB aSd ?_
 cases s with
 | nil=>simp only[↓zA,sevalprocAttr,ahV,dy]
 | cons x r =>
  by_cases c0:20<r.length+1
  .have e:dy (x::r)=false:=by
    simp only[dy,bw (show ¬(r.length+1<=20) from by omega),cW]
   simp only[↓zA,sevalprocAttr,ahV,alY,aE6,c0,e]
  .have e:dy (x::r)=(eF x&&(x::r).all aln):=by
    simp only[dy,ey (show r.length+1<=20 from by omega),aaw,aKA,aln]
    cases eF x <;> rfl
   rw[e]
   cases c1:eF x
   .simp only[↓zA,sevalprocAttr,ahV,alY,aE6,c0,aqC,avb,c1]
   .simp only[↓zA,sevalprocAttr,ahV,alY,aE6,c0,aqC,avb,c1,aOm,aZs]
    refine aas (x::r).length (λk s=>s.fr 3=.of (.fn 204 [])/\s.fr 21=.of (slC u8C (x::r))/\s.fr 22=aQ (x::r).length/\s.fr 23=aQ k/\s.objs=[]/\(x::r).all aln=((x::r).drop k).all aln) ?_ ?_
    .simp only[↓zA,sevalprocAttr,ahV]
     try exact rfl
    .have c0':(x::r).length<=20:=by simp only[aN];omega
     generalize x::r=l at c0'
     rintro k s hk ⟨f3,f21,f22,f23,ho,E⟩
     rcases aD k l.length with d1|d1
     .have hw:=er k aC
      rw[agJ d1,aKA] at E
      simp only[↓zA,sevalprocAttr,ahV,f3,f21,f22,f23,ho,aV,d1,dN d1,hw,aZT,a5h,aqC,u48,u57]
      cases d2:eF l[k]
      .by_cases d3:48<=l[k].toNat
       .by_cases d4:l[k].toNat<=57
        .simp only[aln,bQ,d2,d3,d4,aaH,agW,bj,dz] at E
         simp only[sevalprocAttr,ahV,d3,d4,E]
        .simp only[aln,bQ,d2,d3,d4,aam,cW,ahz,dL] at E
         simp only[sevalprocAttr,ahV,d3,d4,E]
       .simp only[aln,bQ,d2,d3,aam,dL,ahz] at E
        simp only[sevalprocAttr,ahV,d3,E]
      .simp only[aln,d2,eK,dz] at E
       simp only[sevalprocAttr,ahV,E]
     .have e:k=l.length:=by omega
      subst e
      rw[cY,ahy] at E
      simp only[↓zA,sevalprocAttr,ahV,f22,f23,ho,aV,cO,E]
def aac(s:List UInt8)(K:An->Prop):cKp 113 [.of (aJ (aK s))] [] K↔K ⟨false,[aL (dy s)],[]⟩:=aH.k (ap0 s) K
def aNN(l:List (List UInt8)):FnB (λx=>aJ (aK x)) 113 [] dy l:=⟨aZd,aWt,λx _=>ap0 x⟩
def aaq{α:Type}(l:List α)(a b:Nat)(p:α->Bool):cL l (a:Int) (b:Int) p=(eS l.length a b&&l.all p):=by
 simp only[cL,eS]
 congr 2 <;> simp
def aPs:=fW @Tryz.f114.eq_1 @zq @akn @zT0 (kf aSc)
def aEQ(s:List UInt8):G1 114 [.of (aJ (aK s))] (aL (adM s)):=by
 refine bB aSc ?_
 by_cases c:s=[]
 .simp only[↓zA,sevalprocAttr,aPs,c,adM]
 .simp only[↓zA,sevalprocAttr,aPs,aac,c,adM]
def agE(s:List UInt8)(K:An->Prop):cKp 114 [.of (aJ (aK s))] [] K↔K ⟨false,[aL (adM s)],[]⟩:=aH.k (aEQ s) K
def a4z:=fW @zq @a9q @akn @zT0 (kf aRO)
def aAK(l:List (List UInt8))(a b:Int)(h:l.length<=4611686018427387903):G1 138 [.of (slC bI l),.of (ci a),.of (ci b)] (aL (cL l a b dy)):=by
 refine bB aRO ?_
 simp only[Tryz.f138,↓zA,sevalprocAttr,a4z,λK=>aAh l a b dy 113 [] ⟨h,aNN l⟩ K]
def amp(l:List (List UInt8))(a b:Int)(K:An->Prop):cKp 138 [.of (slC bI l),.of (ci a),.of (ci b)] [] K↔ifP (l.length<=4611686018427387903) (K ⟨false,[aL (cL l a b dy)],[]⟩) (ajq Tryz.prog pr 138 [.of (slC bI l),.of (ci a),.of (ci b)] K):=ana (aAK l a b) K
def amZ{α:Type}(l:List α)(p:α->Bool):cL l 1 16 p=(eS l.length 1 16&&l.all p):=aaq l 1 16 p
def awj:=ai (fX @Tryz.f133.eq_1 @zq @a6E @akn @ahW @P9) (fW @Q9 @P3 @Q3 @zT0 (kf aRT))
def aOq(c:Cd):G1 133 [.of (.agg (cdC c))] (aL (ajR c)):=by
 refine bB aRT ?_
 cases c0:dy c.nm
 .simp only[↓zA,sevalprocAttr,awj,aac,c0,ajR]
 .by_cases c1:1<=c.ty
  .by_cases c2:c.ty<=3
   .simp only[↓zA,sevalprocAttr,awj,aac,c0,c1,c2,ajR]
   .simp only[↓zA,sevalprocAttr,awj,aac,c0,c1,c2,ajR]
  .simp only[↓zA,sevalprocAttr,awj,aac,c0,c1,ajR]
def a4B:=fY @zq @a6D @aGe @ad3 @bO @zT0 (kf aRR)
def aNo(k:Kd)(h:k.ns.length<=4611686018427387903):G1 135 [.of (.agg (kdC k))] (aL (ank k)):=by
 refine bB aRR ?_
 simp only[Tryz.f135,↓zA,sevalprocAttr,a4B,amp,h,amZ,ank,abA]
def aDJ:=ai (fX @Tryz.f137.eq_1 @zq @a6C @aGe @akn @afQ) (fW @bO @P9 @Q9 @zT0 (kf aRP))
def aEj(r:Rd)(h:r.ns.length<=4611686018427387903/\r.to.length<=4611686018427387903):G1 137 [.of (.agg (rdC r))] (aL (akM r)):=by
 refine bB aRP ?_
 cases c0:cL r.ns 1 16 dy
 .simp only[↓zA,sevalprocAttr,aDJ,amp,h,c0,akM,abA,← amZ]
 .cases c1:dy r.tb
  .simp only[↓zA,sevalprocAttr,aDJ,amp,aac,h,c0,c1,akM,abA,← amZ]
  .simp only[↓zA,sevalprocAttr,aDJ,amp,aac,h,c0,c1,akM,abA,← amZ]
def awk:=ai (fX @Tryz.f122.eq_1 @zq @a6G @akn @ahd @P9) (fW @Q9 @P3 @Q3 @zT0 (kf aR4))
def aOB(o:Od):G1 122 [.of (.agg (odC o))] (aL (ajQ o)):=by
 refine bB aR4 ?_
 by_cases c0:o.nm=[]
 .by_cases c1:1<=o.pl
  .simp only[↓zA,sevalprocAttr,awk,c0,c1,ajQ,ajB,aae]
   try rfl
  .simp only[↓zA,sevalprocAttr,awk,c0,c1,ajQ,ajB,aae]
 .cases c1:dy o.nm
  .simp only[↓zA,sevalprocAttr,awk,aac,c0,c1,ajQ,aae]
  .simp only[↓zA,sevalprocAttr,awk,aac,c0,c1,ajQ,aae]
def azF(tk:Tk)(a b c d:ByteArray):cy tk 4 (Pe.elemOf tP 43) (some [(0,[.of (.lit (.string a))]),(1,[.of (.lit (.string b))]),(2,[.of (.lit (.string c))]),(3,[.of (.lit (.string d))])])=out (.own tk 9 1 [.lit (.string a),.lit (.string b),.lit (.string c),.lit (.string d)] 4):=by rw[E43];rfl
def aZV:C.sl [aJ {data:=#[99,111,117,110,116]},aJ {data:=#[115,117,109]},aJ {data:=#[109,105,110]},aJ {data:=#[109,97,120]}] 4=slC bI [[99,111,117,110,116],[115,117,109],[109,105,110],[109,97,120]]:=rfl
def aZW(s:List UInt8):decide (s∈[[99,111,117,110,116],[115,117,109],[109,105,110],[109,97,120]])=ajF s:=by
 simp only[ajF,amG,bp,cB,eV,Bool.decide_or,Bool.or_assoc]
 rfl
def a4P:=fW @zq @a9x @bO @zT0 (kf aSb)
def avS(s:List UInt8):G1 115 [.of (aJ (aK s))] (aL (ajF s)):=by
 refine bB aSb ?_
 rw[← aZW]
 simp only[Tryz.f115,↓zA,sevalprocAttr,a4P,azF,aZV,aG3]
def afe(s:List UInt8)(K:An->Prop):cKp 115 [.of (aJ (aK s))] [] K↔K ⟨false,[aL (ajF s)],[]⟩:=aH.k (avS s) K
def ak8(l:List Xp):Prop:=∀ x∈l,G1 58 [.of (.agg (xpC x))] (aL (eI x))
def aui(l:List Qy):Prop:=∀ x∈l,G1 60 [.of (.agg (qyC x))] (aL (acc x))
def zX{l:List Xp}(h:ak8 l)(hw:lsW xpW l<=WL)(a b:Int)(K:An->Prop):cKp 110 [.of (slC xpC l),.of (ci a),.of (ci b),.of (.fn 58 [])] [] K↔K ⟨false,[aL (cL l a b eI)],[]⟩:=by
 have h1:=dt xpW l λx _=>afS x
 simp only[WL] at *
 exact aHq l a b eI _ [] ⟨by omega,a5K,a2x,h⟩ K
def zQ{l:List Qy}(h:aui l)(hw:lsW qyW l<=WL)(a b:Int)(K:An->Prop):cKp 111 [.of (slC qyC l),.of (ci a),.of (ci b),.of (.fn 60 [])] [] K↔K ⟨false,[aL (cL l a b acc)],[]⟩:=by
 have h1:=dt qyW l λx _=>aia x
 simp only[WL] at *
 exact aD0 l a b acc _ [] ⟨by omega,a5I,a2v,h⟩ K
def aIo{e:Xp}(h:ajx e.op=none):eI e=false:=by cases e;rw[eI];simp only[Xp.op] at h;rw[h]
def aIn{e:Xp}{lo hi n:Nat}(h:ajx e.op=some (lo,hi,n)):eI e=(cL e.ks lo hi eI&&cL e.sb n n acc&&ae5 e.op e.v e.tb e.nm e.di e.ks.length):=by
 cases e
 rw[eI]
 simp only[Xp.op] at h
 rw[h]
 simp only[Xp.op,Xp.v,Xp.tb,Xp.nm,Xp.di,Xp.ks,Xp.sb,aaq,als,alu]
 have hn:∀ m:Nat,eS m n n=decide (m=n):=λm=>by
  rw[fm];simp only[eS,ap,bf];omega
 rw[hn]
 generalize ae5 _ _ _ _ _ _=q
 generalize eS _ _ _=q2
 generalize List.all _ eI=q3
 generalize List.all _ acc=q4
 generalize (decide (List.length _=n))=q5
 cases q <;> cases q2 <;> cases q3 <;> cases q4 <;> cases q5 <;> rfl
def aEg(k n:Int)(s tb nm:ByteArray)(di:Bool):G1 116 [.of (.agg [ci 0,ci k,ci n,aJ s,aJ tb,aJ nm,cb di,C.sl [] 0,C.sl [] 0]),.of (.agg [ci 0,ci 0,ci 0,aJ {data:=#[]},aJ {data:=#[]},aJ {data:=#[]},cb false,C.sl [] 0,C.sl [] 0])] (aL (decide (k=0/\n=0/\s={data:=#[]})&&decide (tb={data:=#[]})&&decide (nm={data:=#[]})&&!di)):=by
 have h:=apV (.mk 0 ⟨k,n,s⟩ tb.data.toList nm.data.toList di [] []) (.mk 0 ⟨0,0,{data:=#[]}⟩ [] [] false [] []) (by simp[lsW,Xp.ks,Xp.sb,WL]) (λx hx=>by simp[Xp.ks] at hx) (λx hx=>by simp[Xp.sb] at hx)
 have e1:aK tb.data.toList=tb:=by cases tb;simp[aK]
 have e2:aK nm.data.toList=nm:=by cases nm;simp[aK]
 have e3:∀ b:ByteArray,(b.data.toList=[])=(b={data:=#[]}):=λb=>propext ⟨λh=>by cases b;simp at h;rw[h],λh=>by rw[h]⟩
 have e4:xpC (.mk 0 ⟨k,n,s⟩ tb.data.toList nm.data.toList di [] [])=[ci 0,ci k,ci n,aJ s,aJ tb,aJ nm,cb di,C.sl [] 0,C.sl [] 0]:=by rw[ff];simp only[Xp.op,Xp.v,Xp.tb,Xp.nm,Xp.di,Xp.ks,Xp.sb,e1,e2];rfl
 have e5:xpC (.mk 0 ⟨0,0,{data:=#[]}⟩ [] [] false [] [])=[ci 0,ci 0,ci 0,aJ {data:=#[]},aJ {data:=#[]},aJ {data:=#[]},cb false,C.sl [] 0,C.sl [] 0]:=by rw[ff];rfl
 rw[e4,e5] at h
 simp only[aj3,Xp.op,Xp.v,Xp.tb,Xp.nm,Xp.di,Xp.ks,Xp.sb,e3,← aDP,cV,aaC] at h
 have e6:∀ i:Decidable ((k=0/\n=0/\s={data:=#[]})/\tb={data:=#[]}/\nm={data:=#[]}/\di=false),@decide _ i=(decide (k=0/\n=0/\s={data:=#[]})&&decide (tb={data:=#[]})&&decide (nm={data:=#[]})&&!di):=λi=>by
  rw[fm]
  simp only[bf,ap,cZ,ajU]
 rw[e6] at h
 exact h
def aiI(k n:Int)(s tb nm:ByteArray)(di:Bool)(K:An->Prop):cKp 116 [.of (.agg [ci 0,ci k,ci n,aJ s,aJ tb,aJ nm,cb di,C.sl [] 0,C.sl [] 0]),.of (.agg [ci 0,ci 0,ci 0,aJ {data:=#[]},aJ {data:=#[]},aJ {data:=#[]},cb false,C.sl [] 0,C.sl [] 0])] [] K↔K ⟨false,[aL (decide (k=0/\n=0/\s={data:=#[]})&&decide (tb={data:=#[]})&&decide (nm={data:=#[]})&&!di)],[]⟩:=aH.k (aEg k n s tb nm di) K
def am0(a:List UInt8):(aK a=({data:=#[99,111,117,110,116]}:ByteArray))=(a=amG):=cJ a amG
def acR(n:Nat):((n:Int)=0)=(n=0):=propext aC
def adZ(v:V):decide (v=amO)=decide (v.k=0/\v.n=0/\v.s={data:=#[]}):=by
 rw[fm]
 simp only[bf,← aDP]
 exact bg
def aeY:=fV (fZ @Tryz.f58.eq_1 @zq @a5S @bcp @a9Y @az4 @a5R @apJ) (fZ @awV @a5Q @a9X @akn @aGg @a9W @alH @ajr) (fZ @bG @aPt @ep @fq @anN @azt @P3 @Q3) (fX @P9 @Q9 @P4 @Q4 @zT0 (kf a0O))
def aJw(e:Xp)(hw:xpW e<=WL)(hv:I64 e.v.n)(i1:ak8 e.ks)(i2:aui e.sb):G1 58 [.of (.agg (xpC e))] (aL (eI e)):=by
 have hw':=ajt e
 simp only[WL] at hw
 have kx:=zX i1 (by simp only[WL];omega)
 have kq:=zQ i2 (by simp only[WL];omega)
 have ls:=aAT [.map (ahJ 15)] e.op rfl
 refine bB a0O ?_
 cases hs:ajx e.op with
 | none =>
  rw[aIo hs]
  simp only[↓zA,sevalprocAttr,aeY,adB eT abx acd,ls,shX,hs]
 | some p =>
  obtain⟨lo,hi,n⟩:=p
  rw[aIn hs]
  cases c1:cL e.ks lo hi eI
  .simp only[↓zA,sevalprocAttr,aeY,adB eT abx acd,ls,shX,hs,kx,c1]
  .cases c2:cL e.sb n n acc
   .simp only[↓zA,sevalprocAttr,aeY,adB eT abx acd,ls,shX,hs,kx,kq,c1,c2]
   .by_cases o1:e.op=1
    .cases r1:adh e.v
     .simp only[↓zA,sevalprocAttr,aeY,adB eT abx acd,ls,shX,hs,kx,kq,c1,c2,alh,hv,ae5,bM,aae,aa o1,r1]
     .by_cases r2:e.v.k=2
      .by_cases r3:0<=e.v.n
       .simp only[↓zA,sevalprocAttr,aeY,adB eT abx acd,ls,shX,hs,kx,kq,c1,c2,alh,hv,aiI,ae5,bM,aae,aa o1,r1,aa r2,r3,show ¬e.v.n<0 from by omega]
       .simp only[↓zA,sevalprocAttr,aeY,adB eT abx acd,ls,shX,hs,kx,kq,c1,c2,alh,hv,ae5,bM,aae,aa o1,r1,aa r2,r3,show e.v.n<0 from by omega]
      .simp only[↓zA,sevalprocAttr,aeY,adB eT abx acd,ls,shX,hs,kx,kq,c1,c2,alh,hv,aiI,ae5,bM,aae,aa o1,r1,r2]
    .by_cases o2:e.op=2
     .cases r1:dy e.nm
      .simp only[↓zA,sevalprocAttr,aeY,adB eT abx acd,ls,shX,hs,kx,kq,c1,c2,aac,ae5,adZ,bM,o1,aa o2,r1]
      .cases r2:adM e.tb
       .simp only[↓zA,sevalprocAttr,aeY,adB eT abx acd,ls,shX,hs,kx,kq,c1,c2,aac,agE,ae5,adZ,bM,o1,aa o2,r1,r2]
       .simp only[↓zA,sevalprocAttr,aeY,adB eT abx acd,ls,shX,hs,kx,kq,c1,c2,aac,agE,aiI,ae5,adZ,bM,o1,aa o2,r1,r2]
     .by_cases o3:e.op=24
      .cases r1:dy e.nm
       .simp only[↓zA,sevalprocAttr,aeY,adB eT abx acd,ls,shX,hs,kx,kq,c1,c2,aac,ae5,adZ,bM,o1,o2,aa o3,r1]
       .cases r2:ajF e.nm
        .simp only[↓zA,sevalprocAttr,aeY,adB eT abx acd,ls,shX,hs,kx,kq,c1,c2,aac,afe,aiI,ae5,adZ,bM,o1,o2,aa o3,r1,r2]
        .simp only[↓zA,sevalprocAttr,aeY,adB eT abx acd,ls,shX,hs,kx,kq,c1,c2,aac,afe,ae5,adZ,bM,o1,o2,aa o3,r1,r2]
      .by_cases o4:e.op=25
       .cases r1:ajF e.nm
        .simp only[↓zA,sevalprocAttr,aeY,adB eT abx acd,ls,shX,hs,kx,kq,c1,c2,afe,ae5,adZ,bM,o1,o2,o3,aa o4,r1]
        .by_cases r2:e.ks.length=0
         .by_cases r3:e.nm=amG
          .cases r4:e.di
           .simp only[↓zA,sevalprocAttr,aeY,adB eT abx acd,ls,shX,hs,kx,kq,c1,c2,afe,aiI,ae5,adZ,bM,o1,o2,o3,aa o4,r1,r2,am0,aa r3,r4]
           .simp only[↓zA,sevalprocAttr,aeY,adB eT abx acd,ls,shX,hs,kx,kq,c1,c2,afe,ae5,adZ,bM,o1,o2,o3,aa o4,r1,r2,am0,aa r3,r4]
          .simp only[↓zA,sevalprocAttr,aeY,adB eT abx acd,ls,shX,hs,kx,kq,c1,c2,afe,ae5,adZ,bM,o1,o2,o3,aa o4,r1,r2,am0,r3]
         .have r3:e.ks.length=1:=by
           rw[o4] at hs
           simp only[ajx] at hs
           simp at hs
           obtain⟨rfl,rfl,rfl⟩:=hs
           simp only[cL,ap,bf] at c1
           omega
          simp only[↓zA,sevalprocAttr,aeY,adB eT abx acd,ls,shX,hs,kx,kq,c1,c2,afe,aiI,ae5,adZ,bM,Int.reduceEq,o1,o2,o3,aa o4,r1,r3,Nat.reduceEqDiff]
       .simp only[↓zA,sevalprocAttr,aeY,adB eT abx acd,ls,shX,hs,kx,kq,c1,c2,aiI,ae5,adZ,bM,o1,o2,o3,o4]
def aT9(i:Im):aiP i=if i.st then adM i.tb&&arc i.e&&decide (i.az=[]) else decide (i.tb=[])&&adM i.az&&eI i.e:=by cases i;rw[aiP];rfl
def ar4(f:Fm):aaR f=if f.kd=1\/f.kd=2 then 1 else (f.ks.map aaR).sum:=by
 have h:∀ l:List Fm,anx l=(l.map aaR).sum:=λl=>by
  induction l with
  | nil=>rfl
  | cons x r ih=>rw[anx,ih];simp
 cases f;rw[aaR,h];rfl
def aUa(f:Fm):afK f=if f.kd=1 then dy f.nm&&adM f.az&&decide (f.sb.length+f.ks.length+f.on.length=0)
  else if f.kd=2 then decide (f.nm=[])&&dy f.az&&cL f.sb 1 1 acc&&decide (f.ks.length+f.on.length=0)
  else if f.kd=3\/f.kd=4\/f.kd=5 then decide (f.nm=[])&&decide (f.az=[])&&decide (f.sb.length=0)&&cL f.ks 2 2 afK&&cL f.on (if f.kd=3 then 0 else 1) (if f.kd=3 then 0 else 1) eI
  else false:=by
 have h1:cL f.sb 1 1 acc=(eS f.sb.length 1 1&&f.sb.all acc):=aaq _ 1 1 _
 have h2:cL f.ks 2 2 afK=(eS f.ks.length 2 2&&f.ks.all afK):=aaq _ 2 2 _
 have h3:cL f.on (if f.kd=3 then 0 else 1) (if f.kd=3 then 0 else 1) eI=(decide (f.on.length=if f.kd=3 then 0 else 1)&&f.on.all eI):=by
  split
  .rw[show cL f.on 0 0 eI=_ from aaq _ 0 0 _]
   congr 1
   rw[fm];simp only[eS,ap,bf];omega
  .rw[show cL f.on 1 1 eI=_ from aaq _ 1 1 _]
   congr 1
   rw[fm];simp only[eS,ap,bf];omega
 rw[h1,h2,h3]
 cases f
 rw[afK]
 simp only[Fm.kd,Fm.nm,Fm.az,Fm.sb,Fm.ks,Fm.on,als,alu,aow,agh]
 rfl
def ahj(f:Fm):Bool:=afK f&&decide (aaR f<=8)
def aT8(q:Qy):acc q=(decide (-1<=q.li)&&decide (q.li<=ajB)&&decide (0<=q.sk)&&decide (q.sk<=ajB)&&cL q.od 0 64 ajQ &&
  (if q.op=1 then !q.al&&decide (q.ks.length=0)&&cL q.its 1 64 aiP&&cL q.fr 0 1 ahj&&cL q.wh 0 1 eI&&cL q.gr 0 64 eI&&cL q.hv 0 1 eI
   else if q.op=2\/q.op=3\/q.op=4 then cL q.ks 2 2 acc&&!q.di&&decide (q.its.length+q.fr.length+q.wh.length+q.gr.length+q.hv.length=0)
   else false)):=by
 have h0:cL q.od 0 64 ajQ=_:=aaq q.od 0 64 ajQ
 have h1:cL q.its 1 64 aiP=_:=aaq q.its 1 64 aiP
 have h2:cL q.fr 0 1 ahj=_:=aaq q.fr 0 1 ahj
 have h3:cL q.wh 0 1 eI=_:=aaq q.wh 0 1 eI
 have h4:cL q.gr 0 64 eI=_:=aaq q.gr 0 64 eI
 have h5:cL q.hv 0 1 eI=_:=aaq q.hv 0 1 eI
 have h6:cL q.ks 2 2 acc=_:=aaq q.ks 2 2 acc
 have h7:decide (q.ks.length=0)=eS q.ks.length 0 0:=by rw[fm];simp only[eS,ap,bf];omega
 have h8:q.fr.all ahj=(q.fr.all afK&&q.fr.all λf=>decide (aaR f<=8)):=by
  induction q.fr with
  | nil=>rfl
  | cons x r ih =>
   simp only[agV,ih,ahj]
   cases afK x <;> cases decide (aaR x<=8) <;> simp
 rw[h0,h1,h2,h3,h4,h5,h6,h7,h8]
 cases q
 rw[acc]
 simp only[Qy.op,Qy.al,Qy.ks,Qy.di,Qy.its,Qy.fr,Qy.wh,Qy.gr,Qy.hv,Qy.od,Qy.li,Qy.sk,als,alu,aow,auR,agh]
 rfl
def aNh(n:Nat):∀ f:Fm,fmW f<=n->aaR f<=fmW f:=by
 induction n with
 | zero=>intro f h;have:=agI f;omega
 | succ n ih =>
  intro f h
  rw[ar4]
  rw[agn] at h ⊢
  split
  .omega
  .have:∀ l:List Fm,lsW fmW l<=n+1->(l.map aaR).sum<=lsW fmW l:=λl=>by
    induction l with
    | nil=>simp
    | cons x r ih2 =>
     intro hl
     have hx:=cX (w:=fmW) (l:=x::r) (x:=x) aT
     have h1:=ih x aC
     simp only[lsW,aU,dH] at hl ih2 ⊢
     have h2:=ih2 aC
     omega
   have:=this f.ks aC
   omega
def a4Y(l:List Fm):(l.map aaR).sum<=lsW fmW l:=by
 induction l with
 | nil=>simp
 | cons x r ih =>
  have:=aNh (fmW x) x (ae _)
  simp only[lsW,aU,dH] at ih ⊢
  omega
def aO3(l:List Im):Prop:=∀ x∈l,G1 124 [.of (.agg (imC x))] (aL (aiP x))
def aO2(l:List Fm):Prop:=∀ x∈l,G1 215 [.of (.agg (fmC x))] (aL (afK x))
def aO4(l:List Fm):Prop:=∀ x∈l,G1 126 [.of (.agg (fmC x))] (aL (ahj x))
def a2T(l:List Fm):Prop:=∀ x∈l,G1 216 [.of (.agg (fmC x))] (aQ (aaR x))
def zI{l:List Im}(h:aO3 l)(hw:lsW imW l<=WL)(a b:Int)(K:An->Prop):cKp 123 [.of (slC imC l),.of (ci a),.of (ci b),.of (.fn 124 [])] [] K↔K ⟨false,[aL (cL l a b aiP)],[]⟩:=by
 have h1:=dt imW l λx _=>aki x
 simp only[WL] at *
 exact aHp l a b aiP _ [] ⟨by omega,aY8,aWo,h⟩ K
def zSq{l:List Fm}(h:aO2 l)(hw:lsW fmW l<=WL)(a b:Int)(K:An->Prop):cKp 125 [.of (slC fmC l),.of (ci a),.of (ci b),.of (.fn 215 [])] [] K↔K ⟨false,[aL (cL l a b afK)],[]⟩:=by
 have h1:=dt fmW l λx _=>agI x
 simp only[WL] at *
 exact auw l a b afK _ [] ⟨by omega,aYT,aV9,h⟩ K
def zF{l:List Fm}(h:aO4 l)(hw:lsW fmW l<=WL)(a b:Int)(K:An->Prop):cKp 125 [.of (slC fmC l),.of (ci a),.of (ci b),.of (.fn 126 [])] [] K↔K ⟨false,[aL (cL l a b ahj)],[]⟩:=by
 have h1:=dt fmW l λx _=>agI x
 simp only[WL] at *
 exact auw l a b ahj _ [] ⟨by omega,aY7,aWn,h⟩ K
def zO{l:List Od}(hw:lsW odW l<=WL)(a b:Int)(K:An->Prop):cKp 121 [.of (slC odC l),.of (ci a),.of (ci b),.of (.fn 122 [])] [] K↔K ⟨false,[aL (cL l a b ajQ)],[]⟩:=by
 have h1:=dt odW l λx _=>by simp[odW]
 simp only[WL] at *
 exact aD1 l a b ajQ _ [] ⟨by omega,aY9,aWp,λx _=>aOB x⟩ K
def a4I:=fX @zq @apJ @bG @anN @zT0 (kf aRZ)
def aMh(l:List Xp)(h:ak8 l)(hw:lsW xpW l<=WL):G1 127 [.of (slC xpC l)] (aL (cL l 0 1 eI)):=by
 refine bB aRZ ?_
 simp only[Tryz.f127,↓zA,sevalprocAttr,a4I,zX h hw]
def a4x:=fX @zq @apJ @bG @anN @zT0 (kf aRM)
def aLm(l:List Xp)(h:ak8 l)(hw:lsW xpW l<=WL):G1 140 [.of (slC xpC l)] (aL (cL l 1 16 eI)):=by
 refine bB aRM ?_
 simp only[Tryz.f140,↓zA,sevalprocAttr,a4x,zX h hw]
def ao6:=ai (fY @Tryz.f124.eq_1 @zq @a5P @aGg @alH @anN @bG) (fY @acv @P4 @Q4 @P9 @Q9 @zT0 (kf aR2))
def aJa(i:Im)(hw:xpW i.e<=WL)(h:G1 58 [.of (.agg (xpC i.e))] (aL (eI i.e))):G1 124 [.of (.agg (imC i))] (aL (aiP i)):=by
 have kx:=λK=>aH.k h K
 have hz:decide (i.e=arb)=arc i.e:=by rw[fm,aG7,bf]
 have ez:[ci 0,ci 0,ci 0,aJ {data:=#[]},aJ {data:=#[]},aJ {data:=#[]},cb false,C.sl [] 0,C.sl [] 0]=xpC arb:=by rw[ff];rfl
 rw[aT9]
 refine bB aR2 ?_
 cases s1:i.st
 .by_cases s2:i.tb=[]
  .cases s3:adM i.az
   .simp only[↓zA,sevalprocAttr,ao6,s1,aa s2,s3,agE]
   .simp only[↓zA,sevalprocAttr,ao6,s1,aa s2,s3,agE,kx]
  .simp only[↓zA,sevalprocAttr,ao6,s1,s2]
 .cases s2:adM i.tb
  .simp only[↓zA,sevalprocAttr,ao6,s1,s2,agE]
  .by_cases s3:i.az=[]
   .simp only[↓zA,sevalprocAttr,ao6,s1,s2,aa s3,agE,ez,anX,hw,hz]
   .simp only[↓zA,sevalprocAttr,ao6,s1,s2,s3,agE]
def ao4:=ai (fX @Tryz.f216.eq_1 @zq @a6K @a6J @aSA @eG) (fW @acC @P3 @Q3 @zT0 (kf aRh))
def aAg(f:Fm)(hw:fmW f<=WL)(h:a2T f.ks):G1 216 [.of (.agg (fmC f))] (aQ (aaR f)):=by
 have hw2:=hw
 rw[agn] at hw2
 simp only[WL] at hw2
 have hsum:=a4Y f.ks
 have hlen:=dt fmW f.ks λx _=>agI x
 rw[ar4]
 refine bB aRh ?_
 by_cases k1:f.kd=1
 .simp only[↓zA,sevalprocAttr,ao4,k1]
 .by_cases k2:f.kd=2
  .simp only[↓zA,sevalprocAttr,ao4,k2,cQ,Int.reduceEq]
  .simp only[↓zA,sevalprocAttr,ao4,k1,k2,acN]
   refine aas f.ks.length (λk s=>∃ a:Nat,s.fr 3=aQ a/\s.fr 15=.of (slC fmC f.ks)/\s.fr 16=aQ f.ks.length/\s.fr 17=aQ k/\s.objs=[]/\a+((f.ks.drop k).map aaR).sum=(f.ks.map aaR).sum) ?_ ?_
   .refine⟨0,?_⟩
    simp only[↓zA,sevalprocAttr,ao4]
    try exact rfl
   .rintro k s hk ⟨a,f3,f15,f16,f17,ho,E⟩
    rcases aD k f.ks.length with c1|c1
    .have hw:=er k aC
     have hx:=λK=>aH.k (h f.ks[k] (cC c1)) K
     rw[agJ c1,aU,dH] at E
     have hw3:IntKind.i64.wrap ((a:Int)+(aaR f.ks[k]:Int))=((a+aaR f.ks[k]:Nat):Int):=by rw[d9 _ aC aC];rfl
     simp only[↓zA,sevalprocAttr,ao4,f3,f15,f16,f17,ho,aV,c1,dN c1,hw,hx,hw3]
     exact⟨_,rfl,by omega⟩
    .have e:k=f.ks.length:=by omega
     subst e
     rw[cY,bq,bX,aao] at E
     simp only[↓zA,sevalprocAttr,ao4,f3,f16,f17,ho,aV,cO,E]
def aPq:=fZ @Tryz.f126.eq_1 @zq @a6H @aSB @aSA @eG @zT0 (kf aR0)
def aJq(f:Fm)(h1:G1 215 [.of (.agg (fmC f))] (aL (afK f)))(h2:G1 216 [.of (.agg (fmC f))] (aQ (aaR f))):G1 126 [.of (.agg (fmC f))] (aL (ahj f)):=by
 have k1:=λK=>aH.k h1 K
 have k2:=λK=>aH.k h2 K
 have e8:((aaR f:Int)<=8)=(aaR f<=8):=propext aC
 refine bB aR0 ?_
 cases c:afK f
 .simp only[↓zA,sevalprocAttr,aPq,k1,c,ahj]
 .simp only[↓zA,sevalprocAttr,aPq,k1,k2,c,ahj,e8]
def amS(a b:Nat)(h:a+b<=WL):IntKind.i64.wrap ((a:Int)+(b:Int))=((a+b:Nat):Int):=by simp only[WL] at h;rw[d9 _ aC aC];rfl
def ab6:=fU (fZ @Tryz.f215.eq_1 @zq @a6I @akn @aGg @awV @aSG @apJ) (fZ @bG @ep @eG @fq @fC @acC @azt @aSB) (fY @anN @P3 @Q3 @P9 @Q9 @zT0 (kf aRi))
def aAq(f:Fm)(hw:fmW f<=WL)(h1:aui f.sb)(h2:aO2 f.ks)(h3:ak8 f.on):G1 215 [.of (.agg (fmC f))] (aL (afK f)):=by
 have hw2:=hw
 rw[agn] at hw2
 simp only[WL] at hw2
 have n1:=dt qyW f.sb λx _=>aia x
 have n2:=dt fmW f.ks λx _=>agI x
 have n3:=dt xpW f.on λx _=>afS x
 have kq:=zQ h1 (by simp only[WL];omega)
 have ks:=zSq h2 (by simp only[WL];omega)
 have kx:=zX h3 (by simp only[WL];omega)
 have w1:=amS f.sb.length f.ks.length (by simp only[WL];omega)
 have w2:=amS (f.sb.length+f.ks.length) f.on.length (by simp only[WL];omega)
 have w3:=amS f.ks.length f.on.length (by simp only[WL];omega)
 rw[aUa]
 refine bB aRi ?_
 by_cases k1:f.kd=1
 .cases c1:dy f.nm
  .simp only[↓zA,sevalprocAttr,ab6,aa k1,aac,c1]
  .cases c2:adM f.az
   .simp only[↓zA,sevalprocAttr,ab6,aa k1,aac,agE,c1,c2]
   .simp only[↓zA,sevalprocAttr,ab6,aa k1,aac,agE,c1,c2,w1,w2,acR]
 .by_cases k2:f.kd=2
  .by_cases c1:f.nm=[]
   .cases c2:dy f.az
    .simp only[↓zA,sevalprocAttr,ab6,k1,aa k2,aac,aa c1,c2]
    .cases c3:cL f.sb 1 1 acc
     .simp only[↓zA,sevalprocAttr,ab6,k1,aa k2,aac,aa c1,c2,kq,c3]
     .simp only[↓zA,sevalprocAttr,ab6,k1,aa k2,aac,aa c1,c2,kq,c3,w3,acR]
   .simp only[↓zA,sevalprocAttr,ab6,k1,aa k2,c1]
  .by_cases k3:f.kd=3\/f.kd=4\/f.kd=5
   .by_cases c1:f.nm=[]
    .by_cases c2:f.az=[]
     .by_cases c3:f.sb.length=0
      .cases c4:cL f.ks 2 2 afK
       .rcases k3 with k3|k3|k3
        .simp only[↓zA,sevalprocAttr,ab6,k1,k2,aa k3,aa c1,aa c2,aa c3,ks,c4,acR,true_or]
        .simp only[↓zA,sevalprocAttr,ab6,k3,Int.reduceEq,aa c1,aa c2,aa c3,ks,c4,acR,cQ]
        .simp only[↓zA,sevalprocAttr,ab6,k3,Int.reduceEq,aa c1,aa c2,aa c3,ks,c4,acR,cQ]
       .rcases k3 with k3|k3|k3
        .simp only[↓zA,sevalprocAttr,ab6,k1,k2,aa k3,aa c1,aa c2,aa c3,ks,kx,c4,acR,true_or]
        .simp only[↓zA,sevalprocAttr,ab6,k3,Int.reduceEq,aa c1,aa c2,aa c3,ks,kx,c4,acR,cQ]
        .simp only[↓zA,sevalprocAttr,ab6,k3,Int.reduceEq,aa c1,aa c2,aa c3,ks,kx,c4,acR,cQ]
      .rcases k3 with k3|k3|k3
       .simp only[↓zA,sevalprocAttr,ab6,k3,Int.reduceEq,aa c1,aa c2,c3,acR]
       .simp only[↓zA,sevalprocAttr,ab6,k3,Int.reduceEq,aa c1,aa c2,c3,acR,cQ]
       .simp only[↓zA,sevalprocAttr,ab6,k3,Int.reduceEq,aa c1,aa c2,c3,acR,cQ]
     .rcases k3 with k3|k3|k3
      .simp only[↓zA,sevalprocAttr,ab6,k3,Int.reduceEq,aa c1,c2]
      .simp only[↓zA,sevalprocAttr,ab6,k3,Int.reduceEq,aa c1,c2,cQ]
      .simp only[↓zA,sevalprocAttr,ab6,k3,Int.reduceEq,aa c1,c2,cQ]
    .rcases k3 with k3|k3|k3
     .simp only[↓zA,sevalprocAttr,ab6,k3,Int.reduceEq,c1]
     .simp only[↓zA,sevalprocAttr,ab6,k3,Int.reduceEq,c1,cQ]
     .simp only[↓zA,sevalprocAttr,ab6,k3,Int.reduceEq,c1,cQ]
   .simp only[aii] at k3
    simp only[↓zA,sevalprocAttr,ab6,k1,k2,k3,acN]
def aEC(l:List Xp)(h:ak8 l)(hw:lsW xpW l<=WL)(K:An->Prop):cKp 127 [.of (slC xpC l)] [] K↔K ⟨false,[aL (cL l 0 1 eI)],[]⟩:=aH.k (aMh l h hw) K
def adX:=fU (gh @Tryz.f60.eq_1 @zq @a6F @a9U @a9T @aSG @aSF @apJ @awV) (gh @bG @ep @acv @eG @ahd @fq @fC @ahr @acC) (fZ @anN @azt @P3 @Q3 @P4 @Q4 @zT0 (kf a0M))
def aEn(q:Qy)(hw:qyW q<=WL)(h1:aui q.ks)(h2:aO3 q.its)(h3:aO4 q.fr)(h4:ak8 q.wh)(h5:ak8 q.gr)(h6:ak8 q.hv):G1 60 [.of (.agg (qyC q))] (aL (acc q)):=by
 have hw2:=hw
 rw[ah9] at hw2
 simp only[WL] at hw2
 have n2:=dt imW q.its λx _=>aki x
 have n3:=dt fmW q.fr λx _=>agI x
 have n4:=dt xpW q.wh λx _=>afS x
 have n5:=dt xpW q.gr λx _=>afS x
 have n6:=dt xpW q.hv λx _=>afS x
 have kO:=zO (l:=q.od) (by simp only[WL];omega)
 have k1:=zQ h1 (by simp only[WL];omega)
 have k2:=zI h2 (by simp only[WL];omega)
 have k3:=zF h3 (by simp only[WL];omega)
 have k4:=aEC q.wh h4 (by simp only[WL];omega)
 have k5:=zX h5 (by simp only[WL];omega)
 have k6:=aEC q.hv h6 (by simp only[WL];omega)
 have w1:=amS q.its.length q.fr.length (by simp only[WL];omega)
 have w2:=amS (q.its.length+q.fr.length) q.wh.length (by simp only[WL];omega)
 have w3:=amS (q.its.length+q.fr.length+q.wh.length) q.gr.length (by simp only[WL];omega)
 have w4:=amS (q.its.length+q.fr.length+q.wh.length+q.gr.length) q.hv.length (by simp only[WL];omega)
 rw[aT8]
 simp only[ajB]
 refine bB a0M ?_
 by_cases a1:-1<=q.li
 rotate_left
 .simp only[↓zA,sevalprocAttr,adX,a1,show q.li < -1 from by omega]
 have a1':¬q.li < -1:=by omega
 by_cases a2:q.li<=1000000000000000
 rotate_left
 .simp only[↓zA,sevalprocAttr,adX,a1',a2,show 1000000000000000<q.li from by omega]
 have a2':¬1000000000000000<q.li:=by omega
 by_cases a3:0<=q.sk
 rotate_left
 .simp only[↓zA,sevalprocAttr,adX,a1',a2',a3,show q.sk<0 from by omega]
 have a3':¬q.sk<0:=by omega
 by_cases a4:q.sk<=1000000000000000
 rotate_left
 .simp only[↓zA,sevalprocAttr,adX,a1',a2',a3',a4,show 1000000000000000<q.sk from by omega]
 have a4':¬1000000000000000<q.sk:=by omega
 cases a5:cL q.od 0 64 ajQ
 .simp only[↓zA,sevalprocAttr,adX,kO,a1',a2',a3',a4',a5]
 by_cases o1:q.op=1
 .cases b1:q.al
  rotate_left
  .simp only[↓zA,sevalprocAttr,adX,kO,a1,a2,a3,a4,a1',a2',a3',a4',a5,aa o1,b1]
  by_cases b2:q.ks.length=0
  rotate_left
  .simp only[↓zA,sevalprocAttr,adX,kO,acR,a1,a2,a3,a4,a1',a2',a3',a4',a5,aa o1,b1,b2]
  cases b3:cL q.its 1 64 aiP
  .simp only[↓zA,sevalprocAttr,adX,kO,k2,acR,a1,a2,a3,a4,a1',a2',a3',a4',a5,aa o1,b1,aa b2,b3]
  cases b4:cL q.fr 0 1 ahj
  .simp only[↓zA,sevalprocAttr,adX,kO,k2,k3,acR,a1,a2,a3,a4,a1',a2',a3',a4',a5,aa o1,b1,aa b2,b3,b4]
  cases b5:cL q.wh 0 1 eI
  .simp only[↓zA,sevalprocAttr,adX,kO,k2,k3,k4,acR,a1,a2,a3,a4,a1',a2',a3',a4',a5,aa o1,b1,aa b2,b3,b4,b5]
  cases b6:cL q.gr 0 64 eI
  .simp only[↓zA,sevalprocAttr,adX,kO,k2,k3,k4,k5,acR,a1,a2,a3,a4,a1',a2',a3',a4',a5,aa o1,b1,aa b2,b3,b4,b5,b6]
  simp only[↓zA,sevalprocAttr,adX,kO,k2,k3,k4,k5,k6,acR,a1,a2,a3,a4,a1',a2',a3',a4',a5,aa o1,b1,aa b2,b3,b4,b5,b6]
 .by_cases o2:q.op=2\/q.op=3\/q.op=4
  .cases b1:cL q.ks 2 2 acc
   .rcases o2 with o2|o2|o2
    .simp only[↓zA,sevalprocAttr,adX,kO,k1,acN,a1,a2,a3,a4,a1',a2',a3',a4',a5,o2,Int.reduceEq,b1]
    .simp only[↓zA,sevalprocAttr,adX,kO,k1,cQ,a1,a2,a3,a4,a1',a2',a3',a4',a5,o2,Int.reduceEq,b1]
    .simp only[↓zA,sevalprocAttr,adX,kO,k1,cQ,a1,a2,a3,a4,a1',a2',a3',a4',a5,o2,Int.reduceEq,b1]
   .cases b2:q.di
    .rcases o2 with o2|o2|o2
     .simp only[↓zA,sevalprocAttr,adX,kO,k1,acR,w1,w2,w3,w4,acN,a1,a2,a3,a4,a1',a2',a3',a4',a5,o2,Int.reduceEq,b1,b2]
     .simp only[↓zA,sevalprocAttr,adX,kO,k1,acR,w1,w2,w3,w4,cQ,a1,a2,a3,a4,a1',a2',a3',a4',a5,o2,Int.reduceEq,b1,b2]
     .simp only[↓zA,sevalprocAttr,adX,kO,k1,acR,w1,w2,w3,w4,cQ,a1,a2,a3,a4,a1',a2',a3',a4',a5,o2,Int.reduceEq,b1,b2]
    .rcases o2 with o2|o2|o2
     .simp only[↓zA,sevalprocAttr,adX,kO,k1,acN,a1,a2,a3,a4,a1',a2',a3',a4',a5,o2,Int.reduceEq,b1,b2]
     .simp only[↓zA,sevalprocAttr,adX,kO,k1,cQ,a1,a2,a3,a4,a1',a2',a3',a4',a5,o2,Int.reduceEq,b1,b2]
     .simp only[↓zA,sevalprocAttr,adX,kO,k1,cQ,a1,a2,a3,a4,a1',a2',a3',a4',a5,o2,Int.reduceEq,b1,b2]
  .simp only[aii] at o2
   simp only[↓zA,sevalprocAttr,adX,kO,acN,a1,a2,a3,a4,a1',a2',a3',a4',a5,o1,o2]
theorem amn:∀ n,n<=WL->(∀ e,fe e->xpW e<=n->G1 58 [.of (.agg (xpC e))] (aL (eI e)))/\(∀ e,fG e->qyW e<=n->G1 60 [.of (.agg (qyC e))] (aL (acc e)))
  /\ (∀ e,ak9 e->imW e<=n->G1 124 [.of (.agg (imC e))] (aL (aiP e)))/\(∀ e,adg e->fmW e<=n->G1 215 [.of (.agg (fmC e))] (aL (afK e))/\G1 216 [.of (.agg (fmC e))] (aQ (aaR e)))
 | 0,_=>⟨λe _ h=>by have:=afS e;omega,λe _ h=>by have:=aia e;omega,λe _ h=>by have:=aki e;omega,λe _ h=>by have:=agI e;omega⟩
 | n+1,hn=>by
  obtain⟨i1,i2,i3,i4⟩:=amn n aC
  have sX:∀ l:List Xp,lsP fe l->lsW xpW l<=n+1->ak8 l:=λl g h x hx=>i1 x (g x hx) (by have:=cX (w:=xpW) hx;omega)
  have sQ:∀ l:List Qy,lsP fG l->lsW qyW l<=n+1->aui l:=λl g h x hx=>i2 x (g x hx) (by have:=cX (w:=qyW) hx;omega)
  have sI:∀ l:List Im,lsP ak9 l->lsW imW l<=n+1->aO3 l:=λl g h x hx=>i3 x (g x hx) (by have:=cX (w:=imW) hx;omega)
  have sS:∀ l:List Fm,lsP adg l->lsW fmW l<=n+1->aO2 l:=λl g h x hx=>(i4 x (g x hx) (by have:=cX (w:=fmW) hx;omega)).1
  have sT:∀ l:List Fm,lsP adg l->lsW fmW l<=n+1->a2T l:=λl g h x hx=>(i4 x (g x hx) (by have:=cX (w:=fmW) hx;omega)).2
  have sF:∀ l:List Fm,lsP adg l->lsW fmW l<=n+1->aO4 l:=λl g h x hx=>aJq x (sS l g h x hx) (sT l g h x hx)
  refine⟨λe g h=>?_,λe g h=>?_,λe g h=>?_,λe g h=>?_⟩
  .have h':=ajt e
   rw[aWz] at g
   exact aJw e aC g.2.1.2 (sX _ g.2.2.2.2.2.1 aC) (sQ _ g.2.2.2.2.2.2 aC)
  .have h':=ah9 e
   rw[aWF] at g
   obtain⟨_,_,g1,_,g2,g3,g4,g5,g6,_⟩:=g
   exact aEn e aC (sQ _ g1 aC) (sI _ g2 aC) (sF _ g3 aC) (sX _ g4 aC) (sX _ g5 aC) (sX _ g6 aC)
  .have h':=akU e
   rw[aWM] at g
   exact aJa e aC (i1 _ g.2.2.1 aC)
  .have h':=agn e
   rw[aWN] at g
   obtain⟨_,_,_,g1,g2,g3⟩:=g
   exact⟨aAq e aC (sQ _ g1 aC) (sS _ g2 aC) (sX _ g3 aC),aAg e aC (sT _ g2 aC)⟩
def az3(l:List Xp)(g:lsP fe l)(h:lsW xpW l<=WL):ak8 l:=λx hx=>(amn WL (ae _)).1 x (g x hx) (by have:=cX (w:=xpW) hx;omega)
def a3r(l:List Qy)(g:lsP fG l)(h:lsW qyW l<=WL):aui l:=λx hx=>(amn WL (ae _)).2.1 x (g x hx) (by have:=cX (w:=qyW) hx;omega)
def aW3:=gh @Tryz.f22.eq_1 @zq @a6c @aoR @aOs @anN @bG @zT0 (kf a06)
def avz(e:Xp)(h:fe e/\xpW e<=WL):G1 22 [.of (.agg (xpC e))] (aL (ame e)):=by
 have k1:=λK=>aH.k ((aiE WL (ae _)).1 e h.2) K
 have k2:=λK=>aH.k ((amn WL (ae _)).1 e h.1 h.2) K
 refine bB a06 ?_
 cases c:ajj (eO e)
 .simp only[↓zA,sevalprocAttr,aW3,k1,amE,c,ame]
 .simp only[↓zA,sevalprocAttr,aW3,k1,k2,amE,c,ame]
def bea{α:Type}(l:List α):(l=[])=(l.length=0):=propext List.length_eq_zero_iff.symm
def aPO{l:List (List Xp)}(hw:lsW (lsW xpW) l<=WL):∀ x∈l,lsW xpW x<=WL:=λx hx=>by have:=cX (w:=lsW xpW) hx;omega
abbrev zSm:List C:=[ci 0,aJ {data:=#[]},aJ {data:=#[]},C.sl [] 0,C.sl [] 0,cb false,C.sl [] 0,C.sl [] 0,C.sl [] 0,C.sl [] 0,C.sl [] 0,C.sl [] 0,C.sl [] 0]
def ajy(a:Sm){s:Sm}(_:smW s<=WL){xs:List C}{q:Bool}(K:An->Prop)(hw':smW a<=WL)
  (e4:smC a=xs:=by rw[aeB];rfl)
  (e6:∀ i:Decidable (a=Sm.mk 0 [] [] [] [] false [] [] [] [] [] [] []),@decide _ i=q:=by intro i;rw[fm];simp only[bf,ap,cZ,ajU,ae2,bea,cV,aaC,and_comm,and_left_comm]) :
  cKp 143 [.of (.agg xs),.of (.agg zSm)] [] K↔K ⟨false,[aL q],[]⟩:=by
 have h:=aAw a (.mk 0 [] [] [] [] false [] [] [] [] [] [] []) hw'
 rw[e4,show smC (.mk 0 [] [] [] [] false [] [] [] [] [] [] [])=zSm from by rw[aeB];rfl,e6] at h
 exact aH.k h K
def aX0(s:Sm)(hw:smW s<=WL)(K:An->Prop):cKp 143 [.of (.agg [ci 0,aJ {data:=#[]},aJ (aK s.nm),C.sl [] 0,slC bI s.ns,cb s.un,C.sl [] 0,C.sl [] 0,C.sl [] 0,slC (lsC xpC) s.rws,slC asC s.sts,slC xpC s.wh,slC qyC s.q]),.of (.agg zSm)] [] K↔K ⟨false,[aL (decide (s.nm=[])&&decide (s.ns=[])&&!s.un&&decide (s.rws.length=0)&&decide (s.sts.length=0)&&decide (s.wh.length=0)&&decide (s.q.length=0))],[]⟩:=ajy (.mk 0 [] s.nm [] s.ns s.un [] [] [] s.rws s.sts s.wh s.q) hw K (hw':=by simp only[smW,fS,WL,dQ,lsW,bq,bX,aW] at hw ⊢;omega)
def aXZ(s:Sm)(hw:smW s<=WL)(K:An->Prop):cKp 143 [.of (.agg [ci 0,aJ {data:=#[]},aJ {data:=#[]},slC cdC s.cs,C.sl [] 0,cb false,slC kdC s.kys,slC rdC s.rfs,slC xpC s.chs,slC (lsC xpC) s.rws,slC asC s.sts,slC xpC s.wh,slC qyC s.q]),.of (.agg zSm)] [] K↔K ⟨false,[aL (decide (s.cs.length=0)&&decide (s.kys.length=0)&&decide (s.rfs.length=0)&&decide (s.chs.length=0)&&decide (s.rws.length=0)&&decide (s.sts.length=0)&&decide (s.wh.length=0)&&decide (s.q.length=0))],[]⟩:=ajy (.mk 0 [] [] s.cs [] false s.kys s.rfs s.chs s.rws s.sts s.wh s.q) hw K (hw':=by simp only[smW,fS,WL,dQ,lsW,bq,bX,aW] at hw ⊢;omega)
def aXY(s:Sm)(hw:smW s<=WL)(K:An->Prop):cKp 143 [.of (.agg [ci 0,aJ {data:=#[]},aJ {data:=#[]},slC cdC s.cs,slC bI s.ns,cb s.un,slC kdC s.kys,slC rdC s.rfs,slC xpC s.chs,slC (lsC xpC) s.rws,slC asC s.sts,slC xpC s.wh,slC qyC s.q]),.of (.agg zSm)] [] K↔K ⟨false,[aL (decide (s.cs.length=0)&&decide (s.ns.length=0)&&!s.un&&decide (s.kys.length=0)&&decide (s.rfs.length=0)&&decide (s.chs.length=0)&&decide (s.rws.length=0)&&decide (s.sts.length=0)&&decide (s.wh.length=0)&&decide (s.q.length=0))],[]⟩:=ajy (.mk 0 [] [] s.cs s.ns s.un s.kys s.rfs s.chs s.rws s.sts s.wh s.q) hw K (hw':=by simp only[smW,fS,WL,dQ,lsW,aW] at hw ⊢;omega)
def aXX(s:Sm)(hw:smW s<=WL)(K:An->Prop):cKp 143 [.of (.agg [ci 0,aJ {data:=#[]},aJ (aK s.nm),slC cdC s.cs,C.sl [] 0,cb s.un,slC kdC s.kys,slC rdC s.rfs,slC xpC s.chs,C.sl [] 0,slC asC s.sts,slC xpC s.wh,C.sl [] 0]),.of (.agg zSm)] [] K↔K ⟨false,[aL (decide (s.nm=[])&&decide (s.cs.length=0)&&!s.un&&decide (s.kys.length=0)&&decide (s.rfs.length=0)&&decide (s.chs.length=0)&&decide (s.sts.length=0)&&decide (s.wh.length=0))],[]⟩:=ajy (.mk 0 [] s.nm s.cs [] s.un s.kys s.rfs s.chs [] s.sts s.wh []) hw K (hw':=by simp only[smW,fS,WL,dQ,lsW,bq,bX,aW] at hw ⊢;omega)
def aXW(s:Sm)(hw:smW s<=WL)(K:An->Prop):cKp 143 [.of (.agg [ci 0,aJ {data:=#[]},aJ (aK s.nm),slC cdC s.cs,slC bI s.ns,cb s.un,slC kdC s.kys,slC rdC s.rfs,slC xpC s.chs,slC (lsC xpC) s.rws,C.sl [] 0,C.sl [] 0,slC qyC s.q]),.of (.agg zSm)] [] K↔K ⟨false,[aL (decide (s.nm=[])&&decide (s.cs.length=0)&&decide (s.ns.length=0)&&!s.un&&decide (s.kys.length=0)&&decide (s.rfs.length=0)&&decide (s.chs.length=0)&&decide (s.rws.length=0)&&decide (s.q.length=0))],[]⟩:=ajy (.mk 0 [] s.nm s.cs s.ns s.un s.kys s.rfs s.chs s.rws [] [] s.q) hw K (hw':=by simp only[smW,fS,WL,dQ,lsW,bq,bX,aW] at hw ⊢;omega)
def aXV(s:Sm)(hw:smW s<=WL)(K:An->Prop):cKp 143 [.of (.agg [ci 0,aJ {data:=#[]},aJ (aK s.nm),slC cdC s.cs,slC bI s.ns,cb s.un,slC kdC s.kys,slC rdC s.rfs,slC xpC s.chs,slC (lsC xpC) s.rws,slC asC s.sts,C.sl [] 0,slC qyC s.q]),.of (.agg zSm)] [] K↔K ⟨false,[aL (decide (s.nm=[])&&decide (s.cs.length=0)&&decide (s.ns.length=0)&&!s.un&&decide (s.kys.length=0)&&decide (s.rfs.length=0)&&decide (s.chs.length=0)&&decide (s.rws.length=0)&&decide (s.sts.length=0)&&decide (s.q.length=0))],[]⟩:=ajy (.mk 0 [] s.nm s.cs s.ns s.un s.kys s.rfs s.chs s.rws s.sts [] s.q) hw K (hw':=by simp only[smW,fS,WL,dQ,lsW,bq,bX,aW] at hw ⊢;omega)
def aHV(s:Sm)(hw:smW s<=WL)(K:An->Prop):cKp 143 [.of (.agg [ci 0,aJ {data:=#[]},aJ (aK s.nm),slC cdC s.cs,slC bI s.ns,cb s.un,slC kdC s.kys,slC rdC s.rfs,slC xpC s.chs,slC (lsC xpC) s.rws,slC asC s.sts,slC xpC s.wh,C.sl [] 0]),.of (.agg zSm)] [] K↔K ⟨false,[aL (decide (s.nm=[])&&decide (s.cs.length=0)&&decide (s.ns.length=0)&&!s.un&&decide (s.kys.length=0)&&decide (s.rfs.length=0)&&decide (s.chs.length=0)&&decide (s.rws.length=0)&&decide (s.sts.length=0)&&decide (s.wh.length=0))],[]⟩:=ajy (.mk 0 [] s.nm s.cs s.ns s.un s.kys s.rfs s.chs s.rws s.sts s.wh []) hw K (hw':=by simp only[smW,fS,WL,dQ,lsW,bq,bX,aW] at hw ⊢;omega)
def amc(s:Sm)(hw:smW s<=WL)(K:An->Prop):cKp 143 [.of (.agg [ci 0,aJ {data:=#[]},aJ (aK s.nm),slC cdC s.cs,slC bI s.ns,cb s.un,slC kdC s.kys,slC rdC s.rfs,slC xpC s.chs,slC (lsC xpC) s.rws,slC asC s.sts,slC xpC s.wh,slC qyC s.q]),.of (.agg zSm)] [] K↔K ⟨false,[aL (decide (s.nm=[])&&decide (s.cs.length=0)&&decide (s.ns.length=0)&&!s.un&&decide (s.kys.length=0)&&decide (s.rfs.length=0)&&decide (s.chs.length=0)&&decide (s.rws.length=0)&&decide (s.sts.length=0)&&decide (s.wh.length=0)&&decide (s.q.length=0))],[]⟩:=ajy (.mk 0 [] s.nm s.cs s.ns s.un s.kys s.rfs s.chs s.rws s.sts s.wh s.q) hw K (hw':=by simp only[smW,fS,WL,dQ,lsW,aW] at hw ⊢;omega)
def zCd(l:List Cd)(h:l.length<=4611686018427387903)(a b:Int)(K:An->Prop):cKp 132 [.of (slC cdC l),.of (ci a),.of (ci b),.of (.fn 133 [])] [] K↔K ⟨false,[aL (cL l a b ajR)],[]⟩:=aAk l a b ajR _ [] ⟨h,aY4,aWk,λx _=>aOq x⟩ K
def zKd(l:List Kd)(hw:lsW kdW l<=WL)(a b:Int)(K:An->Prop):cKp 134 [.of (slC kdC l),.of (ci a),.of (ci b),.of (.fn 135 [])] [] K↔K ⟨false,[aL (cL l a b ank)],[]⟩:=by
 have h1:=dt kdW l λx _=>by simp[kdW]
 refine aAj l a b ank _ [] ⟨by simp only[WL] at hw;omega,aY3,aWj,λx hx=>aNo x ?_⟩ K
 have h2:=cX (w:=kdW) hx
 have h3:=dt dQ x.ns λx _=>by simp[dQ]
 simp only[WL,kdW] at *
 omega
def zRd(l:List Rd)(hw:lsW rdW l<=WL)(a b:Int)(K:An->Prop):cKp 136 [.of (slC rdC l),.of (ci a),.of (ci b),.of (.fn 137 [])] [] K↔K ⟨false,[aL (cL l a b akM)],[]⟩:=by
 have h1:=dt rdW l λx _=>by simp[rdW]
 refine aAi l a b akM _ [] ⟨by simp only[WL] at hw;omega,aY2,aWi,λx hx=>aEj x ?_⟩ K
 have h2:=cX (w:=rdW) hx
 have h3:=dt dQ x.ns λx _=>by simp[dQ]
 have h4:=dt dQ x.to λx _=>by simp[dQ]
 simp only[WL,rdW] at *
 omega
def zR(l:List (List Xp))(g:lsP (lsP fe) l)(hw:lsW (lsW xpW) l<=WL)(a b:Int)(K:An->Prop):cKp 139 [.of (slC (lsC xpC) l),.of (ci a),.of (ci b),.of (.fn 140 [])] [] K↔K ⟨false,[aL (cL l a b λr=>cL r 1 16 eI)],[]⟩:=by
 have h1:=dt (lsW xpW) l λx _=>by simp[lsW]
 exact axw l a b _ _ [] ⟨by simp only[WL] at hw;omega,aY1,aWh,λx hx=>aLm x (az3 x (g x hx) (aPO hw x hx)) (aPO hw x hx)⟩ K
def aPp:=ai (fX @Tryz.f142.eq_1 @zq @a6B @akn @anN @bG) (fW @afR @P9 @Q9 @zT0 (kf aRK))
def aBz(a:As)(g:fe a.e)(hw:asW a<=WL):G1 142 [.of (.agg (asC a))] (aL (alU a)):=by
 have k1:=λK=>aH.k ((amn WL (ae _)).1 a.e g (by simp only[asW] at hw;omega)) K
 refine bB aRK ?_
 cases c:dy a.nm
 .simp only[↓zA,sevalprocAttr,aPp,aac,c,alU]
 .simp only[↓zA,sevalprocAttr,aPp,aac,c,k1,alU]
def zAs(l:List As)(g:lsP auq l)(hw:lsW asW l<=WL)(a b:Int)(K:An->Prop):cKp 141 [.of (slC asC l),.of (ci a),.of (ci b),.of (.fn 142 [])] [] K↔K ⟨false,[aL (cL l a b alU)],[]⟩:=by
 have h1:=dt asW l λx _=>by simp[asW]
 exact aAl l a b alU _ [] ⟨by simp only[WL] at hw;omega,aY0,aWg,λx hx=>aBz x (g x hx).2 (by have:=cX (w:=asW) hx;omega)⟩ K
def baR(s:Sm):((eS s.cs.length 1 16&&s.cs.all ajR)=cL s.cs 1 16 ajR)/\((eS s.kys.length 0 64&&s.kys.all ank)=cL s.kys 0 64 ank)/\((eS s.rfs.length 0 64&&s.rfs.all akM)=cL s.rfs 0 64 akM)/\((eS s.chs.length 0 64&&s.chs.all eI)=cL s.chs 0 64 eI)/\((eS s.q.length 1 1&&s.q.all acc)=cL s.q 1 1 acc)/\((eS s.rws.length 1 64&&s.rws.all λl=>eS l.length 1 16&&l.all eI)=cL s.rws 1 64 (λr=>cL r 1 16 eI))/\((eS s.sts.length 1 16&&s.sts.all alU)=cL s.sts 1 16 alU)/\((eS s.wh.length 0 1&&s.wh.all eI)=cL s.wh 0 1 eI)/\((eS s.ns.length 1 16&&s.ns.all dy)=cL s.ns 1 16 dy)/\((eS s.ns.length 0 16&&s.ns.all dy)=cL s.ns 0 16 dy):=by
 refine⟨(aaq s.cs 1 16 ajR).symm,(aaq s.kys 0 64 ank).symm,(aaq s.rfs 0 64 akM).symm,(aaq s.chs 0 64 eI).symm,(aaq s.q 1 1 acc).symm,?_,(aaq s.sts 1 16 alU).symm,(aaq s.wh 0 1 eI).symm,(aaq s.ns 1 16 dy).symm,(aaq s.ns 0 16 dy).symm⟩
 rw[show cL s.rws 1 64 (λr=>cL r 1 16 eI)=_ from aaq s.rws 1 64 _]
 congr 2
 funext r
 exact (aaq r 1 16 eI).symm
def smB(s:Sm)(hw:smW s<=WL):(s.ns.length<=4611686018427387903/\s.cs.length<=4611686018427387903)/\lsW kdW s.kys<=WL/\lsW rdW s.rfs<=WL/\lsW xpW s.chs<=WL/\lsW (lsW xpW) s.rws<=WL/\lsW asW s.sts<=WL/\lsW xpW s.wh<=WL/\lsW qyW s.q<=WL:=by
 simp only[WL,smW] at *
 have n1:=dt cdW s.cs λx _=>by simp[cdW]
 have n2:=dt dQ s.ns λx _=>by simp[dQ]
 omega
def smF(s:Sm)(g:abi s)(hw:smW s<=WL):=ai (baR s) (ai (smB s hw).1.1 (ai (zCd s.cs (smB s hw).1.2) (ai (zKd s.kys (smB s hw).2.1) (ai (zRd s.rfs (smB s hw).2.2.1) (ai (zX (az3 s.chs g.2.2.2.2.2.2.2.2.1 (smB s hw).2.2.2.1) (smB s hw).2.2.2.1) (ai (zR s.rws g.2.2.2.2.2.2.2.2.2.1 (smB s hw).2.2.2.2.1) (ai (zAs s.sts g.2.2.2.2.2.2.2.2.2.2.1 (smB s hw).2.2.2.2.2.1) (ai (aEC s.wh (az3 s.wh g.2.2.2.2.2.2.2.2.2.2.2.1 (smB s hw).2.2.2.2.2.2.1) (smB s hw).2.2.2.2.2.2.1) (zQ (a3r s.q g.2.2.2.2.2.2.2.2.2.2.2.2 (smB s hw).2.2.2.2.2.2.2) (smB s hw).2.2.2.2.2.2.2)))))))))
def zsm:=gh @aac @amp @acR @acN @aE @bj @eN @eK @agh
def fd:=fV (gh @Tryz.f62.eq_1 @zq @a6A @a6z @akn @a9Q @a9P @a9O @apJ) (gh @aGe @awV @a9N @a9M @aSF @a9L @ep @abE @ahW) (gh @ad3 @afQ @bG @afR @fC @acJ @bO @anN @azt) (fX @P9 @Q9 @P3 @Q3 @zT0 (kf agX))
def aXI(s:Sm)(g:abi s)(hw:smW s<=WL)(hk:s.kd=1):G1 62 [.of (.agg (smC s))] (aL (dD s)):=by
 have F:=smF s g hw
 have kS:=aX0 s hw
 refine bB agX ?_
 cases b0:dy s.tb
 .simp only[↓zA,sevalprocAttr,fd,dD,hk,b0,abG,zsm,F]
 cases b1:cL s.cs 1 16 ajR
 .simp only[↓zA,sevalprocAttr,fd,dD,hk,b0,b1,abG,zsm,F]
 cases b2:cL s.kys 0 64 ank
 .simp only[↓zA,sevalprocAttr,fd,dD,hk,b0,b1,b2,abG,zsm,F]
 cases b3:cL s.rfs 0 64 akM
 .simp only[↓zA,sevalprocAttr,fd,dD,hk,b0,b1,b2,b3,abG,zsm,F]
 cases b4:cL s.chs 0 64 eI
 .simp only[↓zA,sevalprocAttr,fd,dD,hk,b0,b1,b2,b3,b4,abG,zsm,F]
 simp only[↓zA,sevalprocAttr,fd,dD,hk,b0,b1,b2,b3,b4,abG,zsm,F,kS]
def aXH(s:Sm)(g:abi s)(hw:smW s<=WL)(hk:s.kd=2):G1 62 [.of (.agg (smC s))] (aL (dD s)):=by
 have F:=smF s g hw
 have kS:=aXZ s hw
 refine bB agX ?_
 cases b0:dy s.tb
 .simp only[↓zA,sevalprocAttr,fd,dD,hk,b0,abA,zsm,F,Int.reduceEq]
 cases b1:dy s.nm
 .simp only[↓zA,sevalprocAttr,fd,dD,hk,b0,b1,abA,zsm,F,Int.reduceEq]
 cases b2:cL s.ns 1 16 dy
 .simp only[↓zA,sevalprocAttr,fd,dD,hk,b0,b1,b2,abA,zsm,F,Int.reduceEq]
 simp only[↓zA,sevalprocAttr,fd,dD,hk,b0,b1,b2,abA,zsm,F,Int.reduceEq,kS]
def aXE(s:Sm)(g:abi s)(hw:smW s<=WL)(hk:s.kd=5):G1 62 [.of (.agg (smC s))] (aL (dD s)):=by
 have F:=smF s g hw
 have kS:=aXW s hw
 refine bB agX ?_
 cases b0:dy s.tb
 .simp only[↓zA,sevalprocAttr,fd,dD,hk,b0,abG,zsm,F,Int.reduceEq]
 cases b1:cL s.sts 1 16 alU
 .simp only[↓zA,sevalprocAttr,fd,dD,hk,b0,b1,abG,zsm,F,Int.reduceEq]
 cases b2:cL s.wh 0 1 eI
 .simp only[↓zA,sevalprocAttr,fd,dD,hk,b0,b1,b2,abG,zsm,F,Int.reduceEq]
 simp only[↓zA,sevalprocAttr,fd,dD,hk,b0,b1,b2,abG,zsm,F,Int.reduceEq,kS]
def aXD(s:Sm)(g:abi s)(hw:smW s<=WL)(hk:s.kd=6):G1 62 [.of (.agg (smC s))] (aL (dD s)):=by
 have F:=smF s g hw
 have kS:=aXV s hw
 refine bB agX ?_
 cases b0:dy s.tb
 .simp only[↓zA,sevalprocAttr,fd,dD,hk,b0,abG,zsm,F,Int.reduceEq]
 cases b1:cL s.wh 0 1 eI
 .simp only[↓zA,sevalprocAttr,fd,dD,hk,b0,b1,abG,zsm,F,Int.reduceEq]
 simp only[↓zA,sevalprocAttr,fd,dD,hk,b0,b1,abG,zsm,F,Int.reduceEq,kS]
def aXC(s:Sm)(g:abi s)(hw:smW s<=WL)(hk:s.kd=7):G1 62 [.of (.agg (smC s))] (aL (dD s)):=by
 have F:=smF s g hw
 have kS:=aHV s hw
 refine bB agX ?_
 by_cases b0:s.tb=[]
 rotate_left
 .simp only[↓zA,sevalprocAttr,fd,dD,hk,b0,zsm,F,Int.reduceEq]
 cases b1:cL s.q 1 1 acc
 .simp only[↓zA,sevalprocAttr,fd,dD,hk,aa b0,b1,zsm,F,Int.reduceEq]
 simp only[↓zA,sevalprocAttr,fd,dD,hk,aa b0,b1,zsm,F,Int.reduceEq,kS]
def aTc(s:Sm)(g:abi s)(hw:smW s<=WL)(hk:s.kd=11):G1 62 [.of (.agg (smC s))] (aL (dD s)):=by
 have F:=smF s g hw
 have kS:=aHV s hw
 refine bB agX ?_
 by_cases b0:s.tb=[]
 rotate_left
 .simp only[↓zA,sevalprocAttr,fd,dD,hk,cQ,b0,zsm,F,Int.reduceEq]
 cases b1:cL s.q 1 1 acc
 .simp only[↓zA,sevalprocAttr,fd,dD,hk,cQ,aa b0,b1,zsm,F,Int.reduceEq]
 simp only[↓zA,sevalprocAttr,fd,dD,hk,cQ,aa b0,b1,zsm,F,Int.reduceEq,kS]
def aXB(s:Sm)(g:abi s)(hw:smW s<=WL)(hk:s.kd=8):G1 62 [.of (.agg (smC s))] (aL (dD s)):=by
 have F:=smF s g hw
 have kS:=amc s hw
 refine bB agX ?_
 by_cases b0:s.tb=[]
 rotate_left
 .simp only[↓zA,sevalprocAttr,fd,dD,hk,b0,zsm,Int.reduceEq]
 simp only[↓zA,sevalprocAttr,fd,dD,hk,aa b0,zsm,Int.reduceEq,kS]
def aXA(s:Sm)(g:abi s)(hw:smW s<=WL)(hk:s.kd=9):G1 62 [.of (.agg (smC s))] (aL (dD s)):=by
 have F:=smF s g hw
 have kS:=amc s hw
 refine bB agX ?_
 by_cases b0:s.tb=[]
 rotate_left
 .simp only[↓zA,sevalprocAttr,fd,dD,hk,cQ,b0,zsm,Int.reduceEq]
 simp only[↓zA,sevalprocAttr,fd,dD,hk,cQ,aa b0,zsm,Int.reduceEq,kS]
def aTd(s:Sm)(g:abi s)(hw:smW s<=WL)(hk:s.kd=10):G1 62 [.of (.agg (smC s))] (aL (dD s)):=by
 have F:=smF s g hw
 have kS:=amc s hw
 refine bB agX ?_
 by_cases b0:s.tb=[]
 rotate_left
 .simp only[↓zA,sevalprocAttr,fd,dD,hk,cQ,b0,zsm,Int.reduceEq]
 simp only[↓zA,sevalprocAttr,fd,dD,hk,cQ,aa b0,zsm,Int.reduceEq,kS]
def aTb(s:Sm)(g:abi s)(hw:smW s<=WL)(hk:s.kd=12):G1 62 [.of (.agg (smC s))] (aL (dD s)):=by
 have F:=smF s g hw
 have kS:=amc s hw
 refine bB agX ?_
 by_cases b0:s.tb=[]
 rotate_left
 .simp only[↓zA,sevalprocAttr,fd,dD,hk,cQ,b0,zsm,Int.reduceEq]
 simp only[↓zA,sevalprocAttr,fd,dD,hk,cQ,aa b0,zsm,Int.reduceEq,kS]
def aTa(s:Sm)(g:abi s)(hw:smW s<=WL)(hk:s.kd=13):G1 62 [.of (.agg (smC s))] (aL (dD s)):=by
 have F:=smF s g hw
 have kS:=amc s hw
 refine bB agX ?_
 by_cases b0:s.tb=[]
 rotate_left
 .simp only[↓zA,sevalprocAttr,fd,dD,hk,cQ,b0,zsm,Int.reduceEq]
 simp only[↓zA,sevalprocAttr,fd,dD,hk,cQ,aa b0,zsm,Int.reduceEq,kS]
def aS9(s:Sm)(g:abi s)(hw:smW s<=WL)(hk:s.kd=14):G1 62 [.of (.agg (smC s))] (aL (dD s)):=by
 have F:=smF s g hw
 have kS:=amc s hw
 refine bB agX ?_
 by_cases b0:s.tb=[]
 rotate_left
 .simp only[↓zA,sevalprocAttr,fd,dD,hk,cQ,b0,zsm,Int.reduceEq]
 simp only[↓zA,sevalprocAttr,fd,dD,hk,cQ,aa b0,zsm,Int.reduceEq,kS]
def aXG(s:Sm)(g:abi s)(hw:smW s<=WL)(hk:s.kd=3):G1 62 [.of (.agg (smC s))] (aL (dD s)):=by
 have F:=smF s g hw
 have kS:=aXY s hw
 refine bB agX ?_
 cases b0:dy s.tb
 .by_cases b2:s.tb=[]
  .cases b3:dy s.nm
   .simp only[↓zA,sevalprocAttr,fd,dD,hk,b0,aa b2,b3,zsm,Int.reduceEq]
   .simp only[↓zA,sevalprocAttr,fd,dD,hk,b0,aa b2,b3,zsm,Int.reduceEq,kS]
  .simp only[↓zA,sevalprocAttr,fd,dD,hk,b0,b2,zsm,Int.reduceEq]
 .by_cases b1:s.nm=[]
  .simp only[↓zA,sevalprocAttr,fd,dD,hk,b0,aa b1,zsm,Int.reduceEq,kS]
  .by_cases b2:s.tb=[]
   .cases b3:dy s.nm
    .simp only[↓zA,sevalprocAttr,fd,dD,hk,b0,b1,aa b2,b3,zsm,Int.reduceEq]
    .simp only[↓zA,sevalprocAttr,fd,dD,hk,b0,b1,aa b2,b3,zsm,Int.reduceEq,kS]
   .simp only[↓zA,sevalprocAttr,fd,dD,hk,b0,b1,b2,zsm,Int.reduceEq]
def aXF(s:Sm)(g:abi s)(hw:smW s<=WL)(hk:s.kd=4):G1 62 [.of (.agg (smC s))] (aL (dD s)):=by
 have F:=smF s g hw
 have kS:=aXX s hw
 refine bB agX ?_
 cases b0:dy s.tb
 .simp only[↓zA,sevalprocAttr,fd,dD,hk,b0,abA,abG,zsm,F,Int.reduceEq]
 cases b1:cL s.ns 0 16 dy
 .simp only[↓zA,sevalprocAttr,fd,dD,hk,b0,b1,abA,abG,zsm,F,Int.reduceEq]
 by_cases b2:s.rws.length=0
 .cases b3:cL s.q 1 1 acc
  .by_cases b4:s.q.length=0
   .cases b5:cL s.rws 1 64 (λr=>cL r 1 16 eI)
    .simp only[↓zA,sevalprocAttr,fd,dD,hk,b0,b1,aa b2,b3,aa b4,b5,abA,abG,zsm,F,Int.reduceEq]
    .simp only[↓zA,sevalprocAttr,fd,dD,hk,b0,b1,aa b2,b3,aa b4,b5,abA,abG,zsm,F,Int.reduceEq,kS]
   .simp only[↓zA,sevalprocAttr,fd,dD,hk,b0,b1,aa b2,b3,b4,abA,abG,zsm,F,Int.reduceEq]
  .simp only[↓zA,sevalprocAttr,fd,dD,hk,b0,b1,aa b2,b3,abA,abG,zsm,F,Int.reduceEq,kS]
 .by_cases b4:s.q.length=0
  .cases b5:cL s.rws 1 64 (λr=>cL r 1 16 eI)
   .simp only[↓zA,sevalprocAttr,fd,dD,hk,b0,b1,b2,aa b4,b5,abA,abG,zsm,F,Int.reduceEq]
   .simp only[↓zA,sevalprocAttr,fd,dD,hk,b0,b1,b2,aa b4,b5,abA,abG,zsm,F,Int.reduceEq,kS]
  .simp only[↓zA,sevalprocAttr,fd,dD,hk,b0,b1,b2,b4,abA,abG,zsm,F,Int.reduceEq]
def aS8(s:Sm)(h:∀ k:Int,1<=k->k<=14->¬s.kd=k):G1 62 [.of (.agg (smC s))] (aL (dD s)):=by
 refine bB agX ?_
 simp only[↓zA,sevalprocAttr,fd,dD,aac,h 1 aI aI,h 2 aI aI,h 3 aI aI,h 4 aI aI,h 5 aI aI,h 6 aI aI,h 7 aI aI,h 8 aI aI,h 9 aI aI,h 10 aI aI,h 11 aI aI,h 12 aI aI,h 13 aI aI,h 14 aI aI,acN]
def aD8(s:Sm)(g:abi s)(hw:smW s<=WL):G1 62 [.of (.agg (smC s))] (aL (dD s)):=by
 by_cases h:1<=s.kd/\s.kd<=14
 .have hk:s.kd=1\/s.kd=2\/s.kd=3\/s.kd=4\/s.kd=5\/s.kd=6\/s.kd=7\/s.kd=8\/s.kd=9\/s.kd=10\/s.kd=11\/s.kd=12\/s.kd=13\/s.kd=14:=by omega
  rcases hk with hk|hk|hk|hk|hk|hk|hk|hk|hk|hk|hk|hk|hk|hk
  .exact aXI s g hw hk
  .exact aXH s g hw hk
  .exact aXG s g hw hk
  .exact aXF s g hw hk
  .exact aXE s g hw hk
  .exact aXD s g hw hk
  .exact aXC s g hw hk
  .exact aXB s g hw hk
  .exact aXA s g hw hk
  .exact aTd s g hw hk
  .exact aTc s g hw hk
  .exact aTb s g hw hk
  .exact aTa s g hw hk
  .exact aS9 s g hw hk
 .exact aS8 s λk h1 h2 e=>h aC
def aW1:=gh @Tryz.f24.eq_1 @zq @a6a @bdS @aOs @bdR @abE @zT0 (kf a04)
def aoY(s:Sm)(h:abi s/\smW s<=WL):G1 24 [.of (.agg (smC s))] (aL (agA s)):=by
 have k1:=λK=>aH.k (avI s h.2) K
 have k2:=λK=>aH.k (aD8 s h.1 h.2) K
 refine bB a04 ?_
 cases c:ajj (atl s)
 .simp only[↓zA,sevalprocAttr,aW1,k1,amE,c,agA]
 .simp only[↓zA,sevalprocAttr,aW1,k1,k2,amE,c,agA]
def aW2:=gh @Tryz.f23.eq_1 @zq @a6b @azu @aOs @azt @ep @zT0 (kf a05)
def as0(q:Qy)(h:fG q/\qyW q<=WL):G1 23 [.of (.agg (qyC q))] (aL (amf q)):=by
 have k1:=λK=>aH.k ((aiE WL (ae _)).2.1 q h.2) K
 have k2:=λK=>aH.k ((amn WL (ae _)).2.1 q h.1 h.2) K
 refine bB a05 ?_
 cases c:ajj (ab9 q)
 .simp only[↓zA,sevalprocAttr,aW2,k1,amE,c,amf]
 .simp only[↓zA,sevalprocAttr,aW2,k1,k2,amE,c,amf]
def bap:=fU @zq @zT0 (kf a0R)
def axM(x:X):G1 53 [x] (aL true):=by
 refine bB a0R ?_
 simp only[Tryz.f53,↓zA,sevalprocAttr,bap]
end Go.Proofs.YtghkmcffifpkeaaGreat
namespace Go.Pe
section
variable {P:Program} {pr:Pr} {prim2:Orc}
structure Over (P:Program) (pr:Pr) (prim2:Orc):Prop where
 old:∀ f xs obs an,pr.prim f xs obs=some an->prim2 f xs obs=some an
 new:∀ f xs obs an,pr.prim f xs obs=none->prim2 f xs obs=some an->at4 pr.mt P f=false
theorem aoN{T:TT}(h2:Over P pr prim2){a b:Code->S->Option (Ex×S)}(h:∀ c s r,a c s=some r->b c s=some r):En.le (ai2 P T pr a) (ai2 P T {pr with prim:=prim2} b) where
 obj:=rfl
 tk:=rfl
 mt:=rfl
 orc:=by
  intro f xs obs an hr
  simp only[ai2,apm] at *
  cases hp:pr.prim f xs obs with
  | some r' =>
   rw[hp] at hr
   rw[h2.old f xs obs r' hp]
   exact hr
  | none =>
   rw[hp] at hr
   dsimp only at hr
   unfold amJ at *
   split at hr
   .rename_i hc
    cases hq:prim2 f xs obs with
    | some r' =>
     have:=h2.new f xs obs r' hp hq
     rw[this] at hc
     cases hc.1
    | none =>
     dsimp only
     rw[am hc]
     split at hr
     .rename_i s1 h1;rw[h _ _ _ h1];exact hr
     .rename_i s1 h1;rw[h _ _ _ h1];exact hr
     .rename_i x s1 h1;rw[h _ _ _ h1];exact hr
     .cases hr
   .cases hr
theorem ay8{T:TT}(h2:Over P pr prim2):∀ (n:Nat) (c:Code) (s:S) (r:Ex×S),evC P T pr n c s=some r->evC P T {pr with prim:=prim2} n c s=some r
 | 0,c,s,r,h=>by simp[evC] at h
 | n+1,c,s,r,h=>by
  have ih:=ay8 (T:=T) h2 n
  cases c with
  | seq a b =>
   rw[ahA] at h ⊢
   split at h
   .rename_i s1 h1;rw[ih _ _ _ h1];exact ih _ _ _ h
   .rename_i hne
    cases h2:evC P T pr n a s with
    | none=>rw[h2] at h;cases h
    | some p =>
     obtain⟨e,s1⟩:=p
     rw[ih _ _ _ h2]
     cases e with
     | normal=>exact (hne s1 h2).elim
     | exit i=>rw[h2] at h;exact h
     | ret=>rw[h2] at h;exact h
     | pan x=>rw[h2] at h;exact h
  | block i c =>
   rw[afj] at h ⊢
   cases h2:evC P T pr n c s with
   | none=>rw[h2] at h;cases h
   | some p=>rw[ih _ _ _ h2];rw[h2] at h;exact h
  | cond c a b =>
   rw[ajH] at h ⊢
   split at h
   .exact ih _ _ _ h
   .exact ih _ _ _ h
   .cases h
  | loop c =>
   rw[agq] at h ⊢
   cases h2:evC P T pr n c s with
   | none=>rw[h2] at h;cases h
   | some p =>
    obtain⟨e,s1⟩:=p
    rw[ih _ _ _ h2]
    rw[h2] at h
    cases e with
    | normal=>exact ih _ _ _ h
    | exit i=>exact h
    | ret=>exact h
    | pan x=>exact h
  | region id ops draw =>
   rw[ag9] at h ⊢
   split at h
   .rename_i s1 h1
    rw[anI (aoN h2 ih) h1]
    exact h
   .rename_i x s1 h1
    rw[anI (aoN h2 ih) h1]
    exact h
   .cases h
  | scope c=>simp only[evC] at h ⊢;exact ih _ _ _ h
  | label l=>simpa only [evC] using h
  | skip=>simpa only [evC] using h
  | ret=>simpa only [evC] using h
  | exit i=>simpa only [evC] using h
  | _=>simp[evC] at h
theorem aH.lift(h2:Over P pr prim2){f:Nat}{xs:List X}{obs:List Ob}{an:An}(h:aH P pr f xs obs an):aH P {pr with prim:=prim2} f xs obs an:=by
 obtain⟨n,hn⟩:=h
 exact⟨n,(aoN h2 (ay8 h2 n)).orc f xs obs an hn⟩
end
end Go.Pe
namespace Go.Proofs.YtghkmcffifpkeaaGreat
open Pe Tab
def auy(b:ByteArray):aK b.data.toList=b:=rfl
def adH{s:List UInt8}{l:List Tn}{p e:Int}(h:fL s=some (l,p,e))(he:e=0):ToksOk s l/\s.length<=2000/\p=0:=by
 obtain⟨l',p',e',⟨h1,h2,h3,h4⟩|h1⟩:=atc s
 .rw[h] at h1;cases h1;exact⟨h2,h4,h3 he⟩
 .rw[h] at h1;cases h1;cases he
def ah2(s:List UInt8)(o:List (Sm×Nat)):X:=am1 (((fL s).getD ([],0,0)).1) o
def aju:Orc:=λf xs obs=>match xs,obs with
 | [.of (.lit (.string b)),.of (.fn m []),.of (.fn r [])],[] =>
  if f=30/\m=31/\r=22/\b.size<LB then (ajk b.data.toList).map λa=>⟨false,[xpE a.1,aQ a.2.1,aQ a.2.2],[]⟩
  else if f=38/\m=39/\r=23/\b.size<LB then (ag2 b.data.toList).map λa=>⟨false,[qyE a.1,aQ a.2.1,aQ a.2.2],[]⟩
  else if f=45/\m=46/\r=24/\b.size<LB then (ado b.data.toList).map λa=>⟨false,[smE a.1,aQ a.2.1,aQ a.2.2],[]⟩
  else if f=51/\m=52/\r=53/\b.size<LB then (afp b.data.toList).map λa=>⟨false,[ah2 b.data.toList a.1,aQ a.2.1,aQ a.2.2],[]⟩
  else none
 | _,_=>none
def adj:Orc:=λf xs obs=>match prims f xs obs with
 | some an=>some an
 | none=>aju f xs obs
def pr2:Pr:=⟨adj,ade,tkF,afY,mtF⟩
def aHb{f:Nat}{xs:List X}{obs:List Ob}{an:An}(h:aju f xs obs=some an):f=30\/f=38\/f=45\/f=51:=by
 unfold aju at h
 split at h
 .split at h
  .rename_i q;exact .inl q.1
  split at h
  .rename_i q;exact .inr (.inl q.1)
  split at h
  .rename_i q;exact .inr (.inr (.inl q.1))
  split at h
  .rename_i q;exact .inr (.inr (.inr q.1))
  .cases h
 .cases h
def a5x:Over Tryz.prog pr adj where
 old f xs obs an h:=by
  have h:prims f xs obs=some an:=h
  unfold adj;rw[h]
 new f xs obs an h1 h2:=by
  have h1:prims f xs obs=none:=h1
  unfold adj at h2
  rw[h1] at h2
  rcases aHb h2 with rfl|rfl|rfl|rfl <;> decide +kernel
def aex{f:Nat}{xs:List X}{obs:List Ob}{an:An}(h:aH Tryz.prog pr f xs obs an):aH Tryz.prog pr2 f xs obs an:=h.lift a5x
def baH{G:Go.Pe.GP}(hpr:PrSound Tryz.prog G pr)(s:List UInt8)(hs:s.length<LB){a}(h:ajk s=some a) :
  aa2 Tryz.prog G 30 [.of (aJ (aK s)),.of (.fn 31 []),.of (.fn 22 [])] [] ⟨false,[xpE a.1,aQ a.2.1,aQ a.2.2],[]⟩:=by
 unfold ajk abT at h
 split at h
 .cases h
 .rename_i l p e ht
  split at h
  .rename_i he
   obtain⟨hok,h20,hp⟩:=adH ht he
   subst he hp
   have hl:l.length<LB:=by have:=hok.len;unfold LB;omega
   obtain⟨r,hr,q2,q3,q4,q5⟩:=ax4 hok h20
   dsimp only at h
   rw[hr] at h
   simp only[aG,ab] at h
   subst h
   exact aw6 hpr s hs l 0 ht hl (ao1 _ hl (apd ht hok) _) r hr _ (λK=>aH.k (avz r.1 ⟨q3,by unfold WL;omega⟩) K) (λh _=>q5 h)
  .rename_i he
   cases h
   exact aE1 hpr s hs l p e ht he
def baK{G:Go.Pe.GP}(hpr:PrSound Tryz.prog G pr)(s:List UInt8)(hs:s.length<LB){a}(h:ag2 s=some a) :
  aa2 Tryz.prog G 38 [.of (aJ (aK s)),.of (.fn 39 []),.of (.fn 23 [])] [] ⟨false,[qyE a.1,aQ a.2.1,aQ a.2.2],[]⟩:=by
 unfold ag2 abT at h
 split at h
 .cases h
 .rename_i l p e ht
  split at h
  .rename_i he
   obtain⟨hok,h20,hp⟩:=adH ht he
   subst he hp
   have hl:l.length<LB:=by have:=hok.len;unfold LB;omega
   obtain⟨r,hr,q2,q3,q4,q5⟩:=axS hok h20
   dsimp only at h
   rw[hr] at h
   simp only[aG,ab] at h
   subst h
   exact aw9 hpr s hs l 0 ht hl (ao1 _ hl (apd ht hok) _) r hr _ (λK=>aH.k (as0 r.1 ⟨q3,by unfold WL;omega⟩) K) (λh _=>q5 h)
  .rename_i he
   cases h
   exact aE4 hpr s hs l p e ht he
def baJ{G:Go.Pe.GP}(hpr:PrSound Tryz.prog G pr)(s:List UInt8)(hs:s.length<LB){a}(h:ado s=some a) :
  aa2 Tryz.prog G 45 [.of (aJ (aK s)),.of (.fn 46 []),.of (.fn 24 [])] [] ⟨false,[smE a.1,aQ a.2.1,aQ a.2.2],[]⟩:=by
 unfold ado abT at h
 split at h
 .cases h
 .rename_i l p e ht
  split at h
  .rename_i he
   obtain⟨hok,h20,hp⟩:=adH ht he
   subst he hp
   have hl:l.length<LB:=by have:=hok.len;unfold LB;omega
   obtain⟨r,hr,q1,q2,q3,q4⟩:=ama hok h20 (aO _)
   dsimp only at h
   rw[hr] at h
   simp only[aG,ab] at h
   subst h
   exact aw8 hpr s hs l 0 ht hl (ao1 _ hl (apd ht hok) _) (ao0 _ _) r hr _ (λK=>aH.k (aoY r.1 ⟨q3,by unfold WL;omega⟩) K) (λh _=>Nat.pos_of_ne_zero λhz=>by
    obtain rfl:l=[]:=List.length_eq_zero_iff.1 hz
    have:=aHB (ao0 _ _) hr
    rw[h] at this;cases this)
  .rename_i he
   cases h
   exact aE3 hpr s hs l p e ht he
def baI{G:Go.Pe.GP}(hpr:PrSound Tryz.prog G pr)(s:List UInt8)(hs:s.length<LB){a}(h:afp s=some a) :
  aa2 Tryz.prog G 51 [.of (aJ (aK s)),.of (.fn 52 []),.of (.fn 53 [])] [] ⟨false,[ah2 s a.1,aQ a.2.1,aQ a.2.2],[]⟩:=by
 unfold afp abT at h
 split at h
 .cases h
 .rename_i l p e ht
  split at h
  .rename_i he
   obtain⟨hok,h20,hp⟩:=adH ht he
   subst he hp
   have hl:l.length<LB:=by have:=hok.len;unfold LB;omega
   obtain⟨r,hr,q2,q3,q4⟩:=axN hok h20
   dsimp only at h
   rw[hr] at h
   simp only[aG,ab] at h
   subst h
   have hst:∀ o,ah2 s o=am1 l o:=λo=>by unfold ah2;rw[ht];rfl
   rw[hst]
   exact aw7 hpr s hs l 0 ht hl (ao1 _ hl (apd ht hok) _) (ao0 _ _) r hr _ (λK=>aH.k (axM _) K) (λ_ h=>by cases h)
  .rename_i he
   cases h
   have hst:∀ o,ah2 s o=am1 l o:=λo=>by unfold ah2;rw[ht];rfl
   rw[hst]
   exact aE2 hpr s hs l p e ht he
def aHI{G:Go.Pe.GP}(hpr:PrSound Tryz.prog G pr):PrSound Tryz.prog G pr2 where
 prim f xs obs an h0:=by
  have h:adj f xs obs=some an:=h0
  clear h0
  unfold adj at h
  cases hp:prims f xs obs with
  | some r=>rw[hp] at h;cases h;exact hpr.prim f xs obs an hp
  | none =>
   rw[hp] at h
   dsimp only at h
   unfold aju at h
   split at h
   .rename_i b m r
    have hb:∀ {g:Prop},(b.data.toList.length<LB->g)->b.size<LB->g:=λk q=>k (by simpa using q)
    split at h
    .rename_i q;obtain⟨rfl,rfl,rfl,q⟩:=q
     obtain⟨a,e,rfl⟩:=ar.1 h
     exact hb (λq=>baH hpr _ q e) q
    split at h
    .rename_i q;obtain⟨rfl,rfl,rfl,q⟩:=q
     obtain⟨a,e,rfl⟩:=ar.1 h
     exact hb (λq=>baK hpr _ q e) q
    split at h
    .rename_i q;obtain⟨rfl,rfl,rfl,q⟩:=q
     obtain⟨a,e,rfl⟩:=ar.1 h
     exact hb (λq=>baJ hpr _ q e) q
    split at h
    .rename_i q;obtain⟨rfl,rfl,rfl,q⟩:=q
     obtain⟨a,e,rfl⟩:=ar.1 h
     exact hb (λq=>baI hpr _ q e) q
    .cases h
   .cases h
def aaA(f:Nat):pr2.obj f=ade f:=rfl
def aLz(f:Nat):pr2.keep f=afY f:=rfl
def acW(p:String)(d:Option Nat):pr2.mt p d=mtF p d:=rfl
def adI:pr2.obj=ade:=rfl
abbrev H1(f:Nat)(xs:List X)(x:X):Prop:=aH Tryz.prog pr2 f xs [] ⟨false,[x],[]⟩
abbrev HN(f:Nat)(xs:List X)(rs:List X):Prop:=aH Tryz.prog pr2 f xs [] ⟨false,rs,[]⟩
def aOC{f:Nat}{fn:Func}{xs:List X}{obs:List Ob}{an:An}{kp:Bool}(hp:adj f xs obs=none)(hi:FnI Tryz.prog f fn)(hk:afY f=kp)(hl:Nat.ble xs.length fn.ntmps=true)
  (h:WC Tryz.prog pr2 (fn.body.getD .skip) (adz xs obs) (endQ Tryz.prog kp f obs.length an)):aH Tryz.prog pr2 f xs obs an :=
 aH.of_body hp hi.1 (by unfold apP;rw[hi.2];exact adr hl) (by unfold amK;rw[hi.2,aLz,hk];exact h)
def bB2{f:Nat}{fn:Func}{xs:List X}{obs:List Ob}{an:An}(hi:FnI Tryz.prog f fn)(h:WC Tryz.prog pr2 (fn.body.getD .skip) (adz xs obs) (endQ Tryz.prog false f obs.length an))(hp:adj f xs obs=none:=by exact rfl)(hk:afY f=false:=by exact rfl)(hl:Nat.ble xs.length fn.ntmps=true:=by exact rfl):aH Tryz.prog pr2 f xs obs an:=aOC hp hi hk hl h

/- A part. Conditions: none. -/
import Derived.Test.YtghkmcffifpkeaaGreatPa9
set_option linter.all false
set_option maxRecDepth 100000
set_option maxHeartbeats 64000000
namespace Go.Tab
open Pe
def nsW(l:List (List UInt8)):Nat:=(l.map dT).sum
def aBh(a:List (List UInt8))(t:List UInt8):nsW (a++[t])=nsW a+t.length+1:=by simp[nsW,dT];omega
def aFZ(l:List Xp):(l.map xpW).sum=cD l:=(ajX l).symm
def aWG(l:List Qy):(l.map qyW).sum=aaw l:=(aj3 l).symm
def asi(k:Int)(t n:List UInt8)(cs:List Cd)(ns:List (List UInt8))(un:Bool)(ks:List Kd)(rs:List Rd)(xs:List Xp)(rw:List (List Xp))(ss:List As)(wh:List Xp)(q:List Qy) :
  smW (.mk k t n cs ns un ks rs xs rw ss wh q)=t.length+n.length+(cs.map cdW).sum+nsW ns+(ks.map kdW).sum+(rs.map rdW).sum+cD xs+(rw.map (lsW xpW)).sum+(ss.map asW).sum+cD wh+aaw q+14:=by
 simp only[smW,fL,dT,lsW,nsW,aFZ,aWG]
 omega
def aox(k:Int)(t n:List UInt8)(cs:List Cd)(ns:List (List UInt8))(un:Bool)(ks:List Kd)(rs:List Rd)(xs:List Xp)(rw:List (List Xp))(ss:List As)(wh:List Xp)(q:List Qy) :
  aaW (.mk k t n cs ns un ks rs xs rw ss wh q)↔I64 k/\(∀ c∈cs,aFU c)/\dh xs/\(∀ r∈rw,dh r)/\(∀ a∈ss,att a)/\dh wh/\ab1 q:=by
 simp only[aaW,lsP,eM,a1m,a07,aiZ,ai0,cM,aak,implies_true]
def ap0{k:Int}(h:I64 k)(t n:List UInt8)(ns:List (List UInt8))(un:Bool):aaW (smK k t n ns un):=(aox ..).2 ⟨h,by simp,trivial,by simp,by simp,trivial,trivial⟩
def k_w(k:Int)(t n:List UInt8)(ns:List (List UInt8))(un:Bool):smW (smK k t n ns un)=t.length+n.length+nsW ns+14:=by rw[smK,asi];simp[cD,aaw]
def crW(c:Cr):Nat:=(c.cs.map cdW).sum+(c.ks.map kdW).sum+(c.rs.map rdW).sum+cD c.xs
def atr(c:Cr):Prop:=(∀ x∈c.cs,aFU x)/\dh c.xs
def a0a(c:Cr)(t:List UInt8):smW (c.sm t)=t.length+crW c+14:=by rw[Cr.sm,asi];simp[cD,aaw,nsW,crW];omega
def aEI{c:Cr}(h:atr c)(t:List UInt8):aaW (c.sm t):=(aox ..).2 ⟨i1,h.1,h.2,by simp,by simp,trivial,trivial⟩
def arh(t:List UInt8)(ns:List (List UInt8))(rw:List (List Xp))(q:List Qy):smW (afc t ns rw q)=t.length+nsW ns+(rw.map (lsW xpW)).sum+aaw q+14:=by rw[afc,asi];simp[cD]
def aoQ(t:List UInt8)(ns:List (List UInt8)){rw:List (List Xp)}{q:List Qy}(h:∀ r∈rw,dh r)(h':ab1 q):aaW (afc t ns rw q):=(aox ..).2 ⟨⟨by decide,by decide⟩,by simp,trivial,h,by simp,trivial,h'⟩
def awp(t:List UInt8)(ss:List As)(w:List Xp):smW (agQ t ss w)=t.length+(ss.map asW).sum+cD w+14:=by rw[agQ,asi];simp[cD,aaw,nsW]
def ar2(t:List UInt8){ss:List As}{w:List Xp}(h:∀ a∈ss,att a)(h':dh w):aaW (agQ t ss w):=(aox ..).2 ⟨⟨by decide,by decide⟩,by simp,trivial,by simp,h,h',trivial⟩
def aOy(k:Int)(q:Qy):smW (quX k q)=qyW q+14:=by rw[quX,asi,anx];simp[cD,nsW]
def aGK{k:Int}{q:Qy}(h:I64 k)(hq:fM q):aaW (quX k q):=(aox ..).2 ⟨h,by simp,trivial,by simp,by simp,trivial,al5 hq⟩
section
variable {α:Type} {l:List Tn} {F:Fs} {i i0 c:Nat} {W:α->Nat} {Ok:α->Prop}
theorem dw.nameR{g:List UInt8->α}{f:List UInt8->Nat->Rz α}{j:Nat}(h1:i<=j)(h2:j<=l.length)(h3:Ok (g []))(h4:W (g [])+PW l i<=PW l j+c+400)
  (hf:∀ s,j+1<=l.length->PW l j+1000+s.length<=PW l (j+1)->dw l i c W Ok (f s (j+1))):dw l i c W Ok (nameR (bT l j) g f):=by
 unfold Go.Tab.nameR bT
 split
 .rename_i e
  split at e
  .cases e
  .cases e;exact .bad h1 h2 h3 h4
 .rename_i e
  split at e
  .rename_i e1
   cases e
   exact hf _ (fO e1).1 (fO e1).2
  .cases e
theorem apf:∀ n o i,l.length<n+i->i0<=i->i<=l.length->nsW o+PW l i0<=PW l i->dw l i0 0 nsW eM (ahC l n o i)
 | 0,_,i,hf,_,h2,_=>by omega
 | n+1,o,i,hf,h1,h2,h3=>by
  unfold ahC
  split
  .rename_i e
   obtain⟨e1,e2⟩:=fO e
   split
   .rename_i g
    obtain⟨g1,g2⟩:=isT_at g
    have g2:PW l (i+1)+1000<=PW l (i+2):=g2
    exact apf n _ (i+2) aC aC g1 (by rw[aBh];omega)
   .exact .wantE aC e1 trivial (by rw[aBh];omega)
  .exact .bad h1 h2 trivial (by simp[nsW];omega)
theorem ae2(h1:i<=l.length):dw l i 0 nsW eM (acg l i) :=
 .wantR (ae _) h1 trivial (by simp[nsW] <;> omega) λh8 h9=>apf _ _ _ aC aC h8 (by simp[nsW];omega)
theorem aIz(h1:i<=l.length):dw l i 20 cdW aFU (ajf l i):=by
 refine .nameR (ae _) h1 ⟨trivial,i0_,trivial⟩ (by simp[cdW,dT,fL];omega) λs h2 h3=>?_
 split
 .exact .bad aC h2 ⟨trivial,i0_,trivial⟩ (by simp only[cdW,dT,fL];omega)
 .rename_i k e
  obtain⟨e1,e2,p,hp,rfl⟩:=alF e
  have ho:I64 p.2:=by
   simp only[bj,bH,dJ] at hp
   rcases hp with hp|hp|hp <;> subst hp <;> exact⟨by decide,by decide⟩
  split
  .rename_i g
   obtain⟨g1,g2⟩:=isT_at g
   have g2:PW l (i+1+1)+1000<=PW l (i+1+2):=g2
   exact .wantE aC g1 ⟨trivial,ho,trivial⟩ (by simp only[cdW,dT,fL];omega)
  .exact .go aC e1 ⟨trivial,ho,trivial⟩ (by simp only[cdW,dT,fL];omega)
theorem aGH(h1:i<=l.length):dw l i 20 rdW eM (awW l i):=by
 have hr:rdW r0=4:=rfl
 refine .wantR (ae _) h1 trivial (by rw[hr];omega) λh2 h3=>?_
 refine (ae2 h2).on aC (λy j _ h5 h6 h7=>⟨trivial,by have:=ae6 (l:=l) h5;rw[hr];omega⟩) λf j _ h5 h6 h7=>?_
 refine .wantR aC h6 trivial (by have:=ae6 (l:=l) h5;rw[hr];omega) λh8 h9=>?_
 refine .nameR aC h8 trivial (by have:=ae6 (l:=l) h5;rw[hr];omega) λt h10 h11=>?_
 obtain⟨o,m,b,e,q1,q2,_,q4⟩:=ae2 (l:=l) h10
 rw[e]
 have hw:rdW ⟨f,t,o⟩=nsW f+t.length+nsW o+4:=by simp only[rdW,lsW,dT,nsW];omega
 cases b with
 | true=>exact .bad aC q2 trivial (by rw[hw];simp only[am] at q4;omega)
 | false=>exact .go aC q2 trivial (by rw[hw];simp only[ah,av] at q4;omega)
theorem aMU{s:Cr}{c:Nat}(h:FOk l F (i+1))(h1:i<=l.length)(hs:atr s):dw l i (crW s+50) crW atr (elS F l i s):=by
 unfold elS
 split
 .refine (aIz h1).to (ae _) λa j d ha _ h5=>⟨⟨?_,hs.2⟩,by simp only[crW,bX,bc,bm,aaQ,dF,bR];omega⟩
  intro x hx
  rcases br.1 hx with hx|hx
  .exact hs.1 x hx
  .rw[cC.1 hx];exact ha
 split
 .rename_i e
  obtain⟨e1,e2⟩:=isT_at e
  refine .wantR aC e1 hs aC λh8 h9=>?_
  exact (ae2 h8).to aC λa j d ha _ h5=>⟨hs,by simp only[crW,bX,bc,bm,aaQ,dF,bR,kdW,fL,lsW];simp only[nsW] at h5;omega⟩
 split
 .rename_i e
  obtain⟨e1,e2⟩:=isT_at e
  exact (ae2 e1).to aC λa j d ha _ h5=>⟨hs,by simp only[crW,bX,bc,bm,aaQ,dF,bR,kdW,fL,lsW];simp only[nsW] at h5;omega⟩
 split
 .rename_i e
  obtain⟨e1,e2⟩:=isT_at e
  exact (aGH e1).to aC λa j d ha _ h5=>⟨hs,by simp only[crW,bX,bc,bm,aaQ,dF,bR];omega⟩
 split
 .rename_i e
  obtain⟨e1,e2⟩:=isT_at e
  refine .wantR aC e1 hs aC λh8 h9=>?_
  refine (h.or0 _ aC h8).on aC (λy j hy h5 h6 h7=>⟨⟨hs.1,aex hs.2 (aa8 hy)⟩,by simp only[crW,afs,abQ];omega⟩) λy j hy h5 h6 h7=>?_
  exact .wantE aC h6 ⟨hs.1,aex hs.2 (aa8 hy)⟩ (by simp only[crW,afs,abQ];omega)
 .exact .bad (ae _) h1 hs aC
theorem aya(h:FOk l F (i0+1)):∀ n s i,l.length<n+i->i0<=i->i<=l.length->atr s->crW s+PW l i0<=PW l i->dw l i0 100 crW atr (elL F l n s i)
 | 0,_,i,hf,_,h2,_,_=>by omega
 | n+1,s,i,hf,h1,h2,h3,h4=>by
  refine (aMU (c:=0) (h.mono aC) h2 h3).on h1 (λy j hy h5 h6 h7=>⟨hy,by simp only[id];omega⟩) λy j hy h5 h6 h7=>?_
  split
  .rename_i e
   obtain⟨e1,e2⟩:=isT_at e
   exact aya h n _ (j+1) aC aC e1 hy aC
  .exact .wantE aC h6 hy aC
abbrev FS(l:List Tn)(i:Nat)(r:Rz Sm):Prop:=dw l i 300 smW aaW r
theorem apm(un:Bool)(h1:i<=l.length):FS l i (anQ l un i):=by
 have hk:aaW (smK 2 [] [] [] un):=ap0 i2 ..
 have hw:smW (smK 2 [] [] [] un)=14:=by rw[k_w];rfl
 refine .wantR (ae _) h1 hk (by rw[hw];omega) λh2 h3=>?_
 refine .nameR aC h2 hk (by rw[hw];omega) λn h4 h5=>?_
 refine .wantR aC h4 hk (by rw[hw];omega) λh6 h7=>?_
 refine .nameR aC h6 hk (by rw[hw];omega) λt h8 h9=>?_
 exact (ae2 h8).to aC λo j d _ _ h10=>⟨ap0 i2 ..,by rw[k_w];omega⟩
theorem ayh(h:FOk l F (i+1))(h1:i<=l.length):FS l i (age F l i):=by
 have hc:atr c0:=⟨by simp[c0],trivial⟩
 have hw:∀ t,smW (c0.sm t)=t.length+14:=λt=>by rw[a0a];rfl
 unfold age
 split
 .rename_i e
  obtain⟨e1,e2⟩:=isT_at e
  refine .nameR aC e1 (aEI hc _) (by rw[hw];simp only[aR];omega) λt h2 h3=>?_
  refine .wantR aC h2 (aEI hc _) (by rw[hw];omega) λh4 h5=>?_
  exact (aya (i0:=i+1+1+1) (h.mono aC) _ c0 _ aC (ae _) h4 hc (by simp[crW,c0,cD])).to aC λs j d hs _ h6=>⟨aEI hs _,by rw[a0a];omega⟩
 split
 .rename_i e
  obtain⟨e1,e2⟩:=isT_at e
  obtain⟨a,j,b,q1,q2,q3,q4,q5⟩:=apm (l:=l) true e1
  exact⟨a,j,b,q1,by omega,q3,q4,by omega⟩
 .exact apm false h1
theorem aEF(h1:i<=l.length):FS l i (aoW l i):=by
 unfold aoW
 have hn:nsW []=0:=rfl
 split
 .rename_i e
  obtain⟨e1,e2⟩:=isT_at e
  obtain⟨n1,n2,n3⟩:=alK (l:=l) (i:=i+1)
  exact .any aC (n2 e1) (ap0 i3 ..) (by rw[k_w,hn];simp only[aR];omega)
 split
 .rename_i e
  obtain⟨e1,e2⟩:=isT_at e
  obtain⟨n1,n2,n3⟩:=alK (l:=l) (i:=i+1)
  exact .any aC (n2 e1) (ap0 i3 ..) (by rw[k_w,hn];simp only[aR];omega)
 .exact .bad (ae _) h1 (ap0 i3 ..) (by rw[k_w,hn];simp only[aR];omega)
theorem atN(t:List UInt8)(ns:List (List UInt8))(h:FOk l F (i0+1)):∀ n rw i,l.length<n+i->i0<=i->i+1<=l.length->PW l i+1000<=PW l (i+1)->(∀ r∈rw,dh r)->t.length+nsW ns+(rw.map (lsW xpW)).sum+14+PW l i0<=PW l i+c->dw l i0 c smW aaW (aj1 F l t ns n rw i)
 | 0,_,i,hf,_,h2,_,_,_=>by omega
 | n+1,rw,i,hf,h1,h2,h9,h3,h4=>by
  have hk:aaW (afc t ns rw []):=aoQ t ns h3 trivial
  have hw:smW (afc t ns rw [])=t.length+nsW ns+(rw.map (lsW xpW)).sum+14:=by rw[arh];rfl
  refine .wantR aC h2 hk (by rw[hw];omega) λg1 g2=>?_
  refine (amH (h.mono aC) g1).on aC (λy j hy h5 h6 h7=>⟨hk,by rw[hw];have:=ae6 (l:=l) h5;omega⟩) λy j hy h5 h6 h7=>?_
  refine .wantR aC h6 hk (by rw[hw];have:=ae6 (l:=l) h5;omega) λg3 g4=>?_
  have hk2:∀ r∈rw++[y],dh r:=by
   intro x hx
   rcases br.1 hx with hx|hx
   .exact h3 x hx
   .rw[cC.1 hx];exact hy
  have hw2:((rw++[y]).map (lsW xpW)).sum=(rw.map (lsW xpW)).sum+cD y+1:=by
   rw[bX,aaQ];simp only[bc,bm,dF,bR,lsW,aFZ];omega
  split
  .rename_i e
   obtain⟨e1,e2⟩:=isT_at e
   exact atN t ns h n _ (j+1) aC aC e1 e2 hk2 (by rw[hw2];omega)
  .exact .go aC g3 (aoQ t ns hk2 trivial) (by rw[arh,hw2];simp only[aaw];omega)
theorem at9(t:List UInt8)(ns:List (List UInt8))(h:FOk l F (i0+1))(h1:i0+1<=i)(h2:i<=l.length)(hw:t.length+nsW ns+14+PW l i0<=PW l i):dw l i0 0 smW aaW (ajb F l t ns i):=by
 unfold ajb
 split
 .rename_i e
  obtain⟨e1,e2⟩:=isT_at e
  exact atN t ns h _ _ i aC aC e1 e2 aT (by simp only[bm,bR];omega)
 .exact (h.qy0 i h1 h2).to aC λq j d hq _ h5=>⟨aoQ t ns aT (al5 hq),by rw[arh,anx];simp only[bm,bR];omega⟩
theorem dw.up{r:Rz α}{c':Nat}(h:dw l i0 c W Ok r)(hc:c<=c'):dw l i0 c' W Ok r:=by
 obtain⟨a,j,b,q1,q2,q3,q4,q5⟩:=h
 exact⟨a,j,b,q1,q2,q3,q4,by omega⟩
theorem axG(h:FOk l F (i+1))(h1:i<=l.length):FS l i (adH F l i):=by
 have hk:∀ t,aaW (afc t [] [] []):=λt=>aoQ t [] aT trivial
 have hw:∀ t,smW (afc t [] [] [])=t.length+14:=λt=>by rw[arh];simp[nsW,aaw]
 refine .wantR (ae _) h1 (hk []) (by rw[hw];simp only[aR];omega) λh2 h3=>?_
 refine .nameR aC h2 (hk []) (by rw[hw];simp only[aR];omega) λt h4 h5=>?_
 split
 .refine (ae2 h4).on aC (λy j hy h5 h6 h7=>⟨hk t,by rw[hw];have:=ae6 (l:=l) h5;omega⟩) λy j hy h6 h7 h8=>?_
  exact (at9 t y h aC h7 aC).up aC
 .exact (at9 t [] h aC h4 (by simp only[nsW,bm,bR];omega)).up aC
theorem auw(t:List UInt8)(h:FOk l F (i0+1)):∀ n ss i,l.length<n+i->i0+1<=i->i<=l.length->(∀ r∈ss,att r)->t.length+(ss.map asW).sum+14+PW l i0<=PW l i->dw l i0 0 smW aaW (an6 F l t n ss i)
 | 0,_,i,hf,_,h2,_,_=>by omega
 | n+1,ss,i,hf,h1,h2,h3,h4=>by
  have hk:aaW (agQ t ss []):=ar2 t h3 trivial
  have hw:smW (agQ t ss [])=t.length+(ss.map asW).sum+14:=by rw[awp];rfl
  refine .nameR aC h2 hk (by rw[hw];omega) λc g1 g2=>?_
  refine .wantR aC g1 hk (by rw[hw];omega) λg3 g4=>?_
  refine (h.or0 _ aC g3).on aC (λy j hy h5 h6 h7=>⟨hk,by rw[hw];have:=ae6 (l:=l) h5;omega⟩) λy j hy h5 h6 h7=>?_
  have hk2:∀ r∈ss++[(⟨c,y⟩ : As)],att r:=by
   intro x hx
   rcases br.1 hx with hx|hx
   .exact h3 x hx
   .rw[cC.1 hx];exact⟨trivial,hy⟩
  have hw2:((ss++[(⟨c,y⟩ : As)]).map asW).sum=(ss.map asW).sum+c.length+xpW y+2:=by
   rw[bX,aaQ];simp only[bc,bm,dF,bR,asW,dT];omega
  split
  .rename_i e
   obtain⟨e1,e2⟩:=isT_at e
   exact auw t h n _ (j+1) aC aC e1 hk2 (by rw[hw2];omega)
  .exact (ahR h aC h6).to aC λw m d hw' _ h8=>⟨ar2 t hk2 hw',by rw[awp,hw2];omega⟩
theorem awq(h:FOk l F (i+1))(h1:i<=l.length):FS l i (ahW F l i):=by
 have hk:∀ t,aaW (agQ t [] []):=λt=>ar2 t aT trivial
 have hw:∀ t,smW (agQ t [] [])=t.length+14:=λt=>by rw[awp];rfl
 refine .nameR aC h1 (hk _) (by rw[hw];simp only[aR];omega) λt g1 g2=>?_
 refine .wantR aC g1 (hk _) (by rw[hw];omega) λg3 g4=>?_
 exact (auw t h _ _ _ aC aC g3 aT (by simp only[bm,bR];omega)).up aC
theorem aIs(h:FOk l F (i+1))(h1:i<=l.length):FS l i (aEH F l i):=by
 have hk:aaW s0:=ap0 i0_ ..
 have hw:smW s0=14:=rfl
 refine .wantR aC h1 hk (by rw[hw];omega) λg1 g2=>?_
 refine .nameR aC g1 hk (by rw[hw];omega) λt g3 g4=>?_
 exact (ahR h aC g3).to aC λw m d hw' _ h8=>⟨(aox ..).2 ⟨⟨by decide,by decide⟩,by simp,trivial,by simp,by simp,hw',trivial⟩,by rw[asi];simp only[bm,bR,nsW,cD,aaw,aR];omega⟩
theorem up1{r:Rz Sm}{i':Nat}(h:FS l i' r)(h1:i<=i')(h2:PW l i<=PW l i'):FS l i r:=by
 obtain⟨a,j,b,q1,q2,q3,q4,q5⟩:=h
 exact⟨a,j,b,q1,by omega,q3,q4,by omega⟩
theorem aCV(h:FOk l F (i+1))(hq:FQ l i 0 (F.qy i []))(h1:i<=l.length):FS l i (aea F l i):=by
 unfold aea
 split
 .rename_i k e
  obtain⟨e1,e2,p,hp,rfl⟩:=alF e
  have ho:I64 p.2:=by
   simp only[ag1,bj,bH,dJ] at hp
   rcases hp with hp|hp|hp|hp|hp|hp <;> subst hp <;> exact⟨by decide,by decide⟩
  exact .go aC e1 (ap0 ho ..) (by rw[k_w];simp only[nsW,bm,bR,aR];omega)
 split
 .rename_i e
  exact up1 (ayh (h.mono aC) (isT_at e).1) aC (by have:=(isT_at e).2;omega)
 split
 .rename_i e
  exact up1 (aEF (isT_at e).1) aC (by have:=(isT_at e).2;omega)
 split
 .rename_i e
  exact up1 (axG (h.mono aC) (isT_at e).1) aC (by have:=(isT_at e).2;omega)
 split
 .rename_i e
  exact up1 (awq (h.mono aC) (isT_at e).1) aC (by have:=(isT_at e).2;omega)
 split
 .rename_i e
  exact up1 (aIs (h.mono aC) (isT_at e).1) aC (by have:=(isT_at e).2;omega)
 split
 .rename_i e
  obtain⟨e1,e2⟩:=isT_at e
  exact (h.qy0 (i+1) (ae _) e1).to aC λq j d hq _ h5=>⟨aGK ⟨by decide,by decide⟩ hq,by rw[aOy];omega⟩
 .exact hq.to (ae _) λq j d hq _ h5=>⟨aGK ⟨by decide,by decide⟩ hq,by rw[aOy];omega⟩
end
def a1j(l:List Tn):PW l l.length=1000*l.length+(l.map λt=>t.s.length).sum:=by
 unfold PW
 rw[List.take_length]
 induction l with
 | nil=>rfl
 | cons t r ih=>simp only[bc,dF,aN,tw];omega
end Go.Tab
namespace Go.Proofs.YtghkmcffifpkeaaGreat
open Pe Tab
theorem awy{s:List UInt8}{Pt:Tn->Prop}(hP:∀ i l t,acH i l=(t,0)->t.k≠0->Pt t):∀ n o i r,(∀ t∈o,Pt t)->agR s n o i=some r->∀ t∈r.1,Pt t
 | 0,_,_,_,_,h=>by cases h
 | n+1,o,i,r,ho,h=>by
  unfold agR at h
  split at h
  .cases h;simp
  .rename_i e
   split at h
   .cases h;exact ho
   .rename_i k
    refine awy hP n _ _ r (λt ht=>?_) h
    rcases br.1 ht with ht|ht
    .exact ho t ht
    .rw[cC.1 ht]
     have e:(fm s i).2=0:=by simpa using e
     exact hP _ _ _ (ake rfl e) k
def aJu{i:Nat}{l:List UInt8}{t:Tn}(h:acH i l=(t,0))(hk:t.k=1):amt t.s=true:=by
 cases l with
 | nil=>simp only[acH,aY] at h;rw[← h.1] at hk;cases hk
 | cons c r =>
  simp only[acH] at h
  split at h
  .generalize ((c::r).takeWhile λc=>acX c||cJ c)=w at *
   simp only[lxW] at h
   split at h
   .rename_i e;cases h;exact e
   split at h
   .simp at h
   .cases h;cases hk
  split at h
  .simp only[ai7] at h
   split at h
   .simp at h
   .cases h;cases hk
  split at h
  .simp only[aj4] at h
   split at h
   .split at h
    .simp at h
    split at h
    .simp at h
    .cases h;cases hk
   .simp at h
  split at h
  .simp only[ak8] at h
   split at h
   .simp at h
   .split at h
    .simp at h
    split at h
    .simp at h
    .cases h;cases hk
  .simp only[lxG] at h
   split at h
   .cases h;cases hk
   split at h
   .cases h;cases hk
   .simp at h
def aot{s:List UInt8}{l:List Tn}{p e:Int}(h:abv s=some (l,p,e))(hok:ToksOk s l):TL l where
 n t ht:=by obtain⟨j,q⟩:=hok.all t ht;exact q.n.1
 s t ht hk:=by obtain⟨j,q⟩:=hok.all t ht;exact q.nm hk
 w t ht hk:=by
  have h':agR s (s.length+2) [] 0=some (l,p,e)\/l=[]:=by
   unfold abv at h
   split at h
   .cases h;exact .inr rfl
   .exact .inl h
  rcases h' with h'|rfl
  .have:=awy (Pt:=λt=>t.k=1->amt t.s=true) (λi l t h _ hk=>aJu h hk) _ _ _ _ aT h' t ht hk
   constructor
   .intro q;rw[q] at this;revert this;decide +kernel
   .intro q;rw[q] at this;revert this;decide +kernel
  .cases ht
def aVL{s:List UInt8}{l:List Tn}(hok:ToksOk s l):∀ t∈l,I64 t.n:=λt ht=>by
 obtain⟨j,q⟩:=hok.all t ht
 have:=q.n
 unfold I64;omega
abbrev pF(l:List Tn):Fs:=aac l (2*l.length+2)
def avD{s:List UInt8}{l:List Tn}(hok:ToksOk s l):FOk l (pF l) 0:=(ful (aVL hok) _).from aC
def afg{α:Type}(z:α)(run:List Tn->Rz α)(right:α->Bool)(s:List UInt8):Option (α×Int×Int):=match abv s with
 | none=>none
 | some (l,p,e)=>if e=0 then (run l).map λr=>cS z s l (right r.1) r else some (z,p,e)
def adg:List UInt8->Option (Xp×Int×Int):=afg x0 (λl=>(pF l).or 0 []) ahe
def alA:List UInt8->Option (Qy×Int×Int):=afg y0 (λl=>(pF l).qy 0 []) aoy
def aow:List UInt8->Option (Sm×Int×Int):=afg s0 (λl=>aea (pF l) l 0) ajN
def aiK:List UInt8->Option (List (Sm×Nat)×Int×Int):=afg [] (λl=>adF (pF l) l (l.length+1) [] 0) λ_=>true
def awY{s:List UInt8}{l:List Tn}(hok:ToksOk s l)(hs:s.length<=2000){j:Nat}(hj:j<=l.length):PW l j<=6000000:=by
 have h1:=ae6 (l:=l) hj
 have h2:=a1j l
 have h3:∀ m:List Tn,(∀ t∈m,t.s.length<=2000)->(m.map λt=>t.s.length).sum<=2000*m.length:=by
  intro m
  induction m with
  | nil=>intro _;simp
  | cons t r ih =>
   intro h
   have:=ih λt ht=>h t (dY _ ht)
   have:=h t abt
   simp only[bc,dF,aN]
   omega
 have h4:=h3 l λt ht=>by obtain⟨j,q⟩:=hok.all t ht;have:=q.s;omega
 have:=hok.len
 omega
theorem dw.all{α:Type}{s:List UInt8}{l:List Tn}{c:Nat}{W:α->Nat}{Ok:α->Prop}{r:Rz α}(h:dw l 0 c W Ok r)(hok:ToksOk s l)(hs:s.length<=2000) :
  ∃ a,r=some a/\a.2.1<=l.length/\Ok a.1/\W a.1<=6000400+c/\(a.2.2=false->c<W a.1->0<l.length):=by
 obtain⟨a,j,b,rfl,h1,h2,h3,h4⟩:=h
 have:=awY hok hs h2
 refine⟨_,rfl,h2,h3,?_,?_⟩
 .dsimp only;split at h4 <;> omega
 .intro hb hc
  dsimp only at hb hc
  subst hb
  rcases aaH l.length with q|q
  .obtain rfl:j=0:=by omega
   have:PW l 0=0:=rfl
   simp at h4
   omega
  .exact q
def aRp(x:Xp):0<xpW x:=by cases x;simp only[xpW];omega
def aR8(x:Qy):0<qyW x:=by cases x;simp only[qyW];omega
def aqT{s:List UInt8}{l:List Tn}(hok:ToksOk s l)(hs:s.length<=2000):∃ r,(pF l).or 0 []=some r/\r.2.1<=l.length/\eN r.1/\xpW r.1<=6000400/\(r.2.2=false->0<l.length):=by
 obtain⟨r,h1,h2,h3,h4,h5⟩:=dw.all (s:=s) ((avD hok).or 0 [] (ae _) (aU _) trivial) hok hs
 exact⟨r,h1,h2,h3,h4,λh=>h5 h (aRp _)⟩
def aWF{s:List UInt8}{l:List Tn}(hok:ToksOk s l)(hs:s.length<=2000):∃ r,(pF l).qy 0 []=some r/\r.2.1<=l.length/\fM r.1/\qyW r.1<=6000400/\(r.2.2=false->0<l.length):=by
 obtain⟨r,h1,h2,h3,h4,h5⟩:=dw.all (s:=s) ((avD hok).qy 0 [] (ae _) (aU _) trivial) hok hs
 exact⟨r,h1,h2,h3,h4,λh=>h5 h (aR8 _)⟩
def aRP{s:List UInt8}{l:List Tn}(hok:ToksOk s l){i:Nat}(hi:i<=l.length):FS l i (aea (pF l) l i) :=
 aCV ((avD hok).mono (aU _)) ((avD hok).qy i [] (aU _) hi trivial) hi
def aGm{s:List UInt8}{l:List Tn}(hok:ToksOk s l)(hs:s.length<=2000){i:Nat}(hi:i<=l.length):∃ r,aea (pF l) l i=some r/\i<=r.2.1/\r.2.1<=l.length/\aaW r.1/\smW r.1<=6000700:=by
 obtain⟨a,j,b,h0,h1,h2,h3,h4⟩:=aRP hok hi
 have:=awY hok hs h2
 exact⟨_,h0,h1,h2,h3,by dsimp only;split at h4 <;> omega⟩
def aWe{F:Fs}{r:Sm×Nat×Bool}(Q:QF [] F)(h:aea F [] 0=some r):r.2.2=true:=by
 unfold aea at h
 have h1:∀ so,opT [] 0 so=none:=λso=>by induction so with
  | nil=>rfl
  | cons p r ih=>obtain⟨w,o⟩:=p;simp only[opT,isT,aek,ah,av];exact ih
 simp only[h1,isT,aek,ah,av] at h
 cases e:F.qy 0 [] with
 | none=>rw[e] at h;cases h
 | some q =>
  have:=Q 0 q rfl rfl e
  rw[e] at h
  obtain⟨a,j,b⟩:=q
  simp only[aY] at this
  obtain⟨rfl,rfl⟩:=this
  simp only[Rz.to,ab] at h
  rw[← h]
def aFJ(l:List Tn)(x:Sm×Nat):Prop:=aaW x.1/\smW x.1<=6000700/\x.2<l.length
theorem aA8{s:List UInt8}{l:List Tn}(hok:ToksOk s l)(hs:s.length<=2000):∀ n o i,l.length<n+i->i<=l.length->(∀ x∈o,aFJ l x)->o.length<=i ->
  ∃ r,adF (pF l) l n o i=some r/\r.2.1<=l.length/\(∀ x∈r.1,aFJ l x)/\r.1.length<=l.length
 | 0,_,i,h1,h2,_,_=>by omega
 | n+1,o,i,h1,h2,h3,h4=>by
  unfold adF
  split
  .rename_i hi
   obtain⟨⟨a,j,b⟩,e,q1,q2,q3,q4⟩:=aGm hok hs h2
   rw[e]
   cases b with
   | true=>exact⟨_,rfl,q2,by simp,by simp⟩
   | false =>
    simp only[Rz.on,bG]
    by_cases c:isT l j [59]
    .rw[au c]
     have:=(Go.Tab.isT_at c).1
     dsimp only at q1 q2 q3 q4
     refine aA8 hok hs n _ (j+1) aC this (λx hx=>?_) (by simp only[bg,dR];omega)
     rcases br.1 hx with hx|hx
     .exact h3 x hx
     .rw[cC.1 hx];exact⟨q3,q4,hi⟩
    .rw[ar c]
     exact⟨_,rfl,q2,by simp,by simp⟩
  .exact⟨_,rfl,h2,h3,by dsimp only;omega⟩
def aGF{s:List UInt8}{l:List Tn}(hok:ToksOk s l)(hs:s.length<=2000):∃ r,adF (pF l) l (l.length+1) [] 0=some r/\r.2.1<=l.length/\(∀ x∈r.1,aFJ l x)/\r.1.length<=l.length :=
 aA8 hok hs _ _ _ aC (aU _) aT (ae _)
def aDp{α:Type}(z:α)(run:List Tn->Rz α)(right:α->Bool)(s:List UInt8)(h:∀ l,ToksOk s l->s.length<=2000->∃ r,run l=some r):∃ r,afg z run right s=some r:=by
 unfold afg
 obtain⟨l,p,e,⟨h1,h2,h3,h4⟩|h1⟩:=ar4 s
 .rw[h1]
  by_cases he:e=0
  .obtain⟨r,hr⟩:=h l h2 h4
   simp only[au he,hr,aJ];exact⟨_,rfl⟩
  .simp only[ar he];exact⟨_,rfl⟩
 .rw[h1];exact⟨_,rfl⟩
def amQ(s:List UInt8):∃ r,adg s=some r:=aDp _ _ _ _ λ_ h1 h2=>let ⟨r,h,_⟩:=aqT h1 h2;⟨r,h⟩
end Go.Proofs.YtghkmcffifpkeaaGreat
namespace Go.Tab
deriving instance DecidableEq for Od,Cd
end Go.Tab
namespace Go.Proofs.YtghkmcffifpkeaaGreat
open Pe Tab
def FnB{α:Type}(A:α->C)(g:Nat)(cp:List C)(p:α->Bool)(l:List α):Prop:=acW g=false/\d9 Tryz.prog g=true/\∀ x∈l,G1 g (.of (A x)::cp.map .of) (aM (p x))
def a1n{α:Type}(A:α->C)(g:Nat)(cp:List C)(p:α->α->Bool)(l:List α)(m:List α):Prop:=acW g=false/\d9 Tryz.prog g=true/\∀ x∈l,∀ y∈m,G1 g (.of (A x)::.of (A y)::cp.map .of) (aM (p x y))
theorem aBC{α:Type}(p:α->Bool):∀ (l:List α) (k:Nat),ajc p k l=-1/\l.any p=false\/(k:Int)<=ajc p k l/\l.any p=true
 | [],k=>by simp[ajc]
 | x::r,k=>by
  simp only[ajc,ajj]
  cases hp:p x
  .simp only[ah,av,eG]
   rcases aBC p r (k+1) with h|h
   .exact .inl h
   .exact .inr ⟨by omega,h.2⟩
  .exact .inr ⟨by simp,rfl⟩
def axM{α:Type}(p:α->Bool)(l:List α):decide (0<=amM p l)=l.any p:=by
 rcases aBC p l 0 with h|h
 .rw[amM,h.1,h.2];rfl
 .rw[h.2];exact dM h.1
def aMi{α:Type}[DecidableEq α](v:α)(l:List α)[Decidable (v∈l)]:decide (0<=amM (λx=>decide (v=x)) l)=decide (v∈l):=by
 rw[axM,eY]
 simp
def ajw(a b:Nat):((a:Int)=(b:Int))=(a=b):=propext Int.natCast_inj
def eqR{α:Type}(q:α->α->Bool):List α->List α->Bool
 | [],[]=>true
 | x::l,y::m=>q x y&&eqR q l m
 | _,_=>false
theorem ax9{α:Type}(q:α->α->Bool):∀ l m:List α,¬l.length=m.length->eqR q l m=false
 | [],[],h=>absurd rfl h
 | [],_::_,_=>rfl
 | _::_,[],_=>rfl
 | x::l,y::m,h=>by
  rw[eqR,ax9 q l m (λe=>h (by simp[e])),cj]
theorem aIm{α:Type}[DecidableEq α](q:α->α->Bool):∀ l m:List α,(∀ x∈l,∀ y∈m,q x y=decide (x=y))->eqR q l m=decide (l=m)
 | [],[],_=>by simp[eqR]
 | [],_::_,_=>by simp[eqR]
 | _::_,[],_=>by simp[eqR]
 | x::l,y::m,h=>by
  rw[eqR,h x aT y aT,aIm q l m (λa ha b hb=>h a (by simp[ha]) b (by simp[hb])),eY]
  simp
def aqb{P:Program}{T:TT}{t:Nat}{u:Option TypeDesc}{cs ds:List C}{b:Bool}(h:aeO P T t cs ds=some b):eT P T t u .eql (.of (.agg cs)) (.of (.agg ds))=out (aM b)/\eT P T t u .neq (.of (.agg cs)) (.of (.agg ds))=out (aM (!b)):=by
 constructor
 .simp only[eT,fu,X.rd,afS,h]
  rfl
 .simp only[eT,fu,X.rd,afS,h]
  rfl
def aCC(a c:V):(a.k=c.k/\a.n=c.n/\a.s=c.s)=(a=c):=by
 apply propext
 constructor
 .rintro⟨h1,h2,h3⟩
  cases a;cases c
  simp only at h1 h2 h3
  rw[h1,h2,h3]
 .rintro rfl;exact⟨rfl,rfl,rfl⟩
def a0u(a c:Cd):(a.nm=c.nm/\a.ty=c.ty/\a.nn=c.nn)=(a=c):=by
 apply propext
 constructor
 .rintro⟨h1,h2,h3⟩
  cases a;cases c
  simp only at h1 h2 h3
  rw[h1,h2,h3]
 .rintro rfl;exact⟨rfl,rfl,rfl⟩
def aXa(a c:Od):(a.nm=c.nm/\a.pl=c.pl/\a.dn=c.dn)=(a=c):=by
 apply propext
 constructor
 .rintro⟨h1,h2,h3⟩
  cases a;cases c
  simp only at h1 h2 h3
  rw[h1,h2,h3]
 .rintro rfl;exact⟨rfl,rfl,rfl⟩
def aYm:Tryz.prog.stoodInHeld 24=false:=by kernel_rfl
def aTi:Tryz.prog.eqGuardType Tryz.prog.depth 24=false:=by kernel_rfl
def aTh:Tryz.prog.stoodInHeld 149=false:=by kernel_rfl
def aMs:Tryz.prog.eqGuardType Tryz.prog.depth 149=false:=by kernel_rfl
def aTg:Tryz.prog.stoodInHeld 126=false:=by kernel_rfl
def aMr:Tryz.prog.eqGuardType Tryz.prog.depth 126=false:=by kernel_rfl
def aIk(x y:V):aeO Tryz.prog tP 24 (ahV x) (ahV y)=some (decide (x=y)):=by
 simp only[aeO,T24,aYm,aTi,bM,am,ahV,adU,T3,T9,aJ,alf,ajC,← aCC]
 by_cases h1:x.k=y.k
 .by_cases h2:x.n=y.n
  .by_cases h3:x.s=y.s
   .simp[h1,h2,h3]
   .simp[h1,h2,h3]
  .simp[h1,h2]
 .simp[h1]
def aEA(x y:Cd):aeO Tryz.prog tP 149 (cdC x) (cdC y)=some (decide (x=y)):=by
 simp only[aeO,am3,aTh,aMs,bM,am,al0,adU,T3,T9,T4,aJ,alf,ajC,← a0u]
 by_cases h1:x.nm=y.nm
 .by_cases h2:x.ty=y.ty
  .by_cases h3:x.nn=y.nn
   .simp[h1,h2,h3]
   .simp[h1,h2,h3]
  .simp[h1,h2]
 .simp[h1,ct]
def aIl(x y:Od):aeO Tryz.prog tP 126 (odC x) (odC y)=some (decide (x=y)):=by
 simp only[aeO,alo,aTg,aMr,bM,am,aj9,adU,T3,T9,T4,aJ,alf,ajC,← aXa]
 by_cases h1:x.nm=y.nm
 .by_cases h2:x.pl=y.pl
  .by_cases h3:x.dn=y.dn
   .simp[h1,h2,h3]
   .simp[h1,h2,h3]
  .simp[h1,h2]
 .simp[h1,ct]
def aev:=λ(u:Option TypeDesc) (x y:V)=>aqb (u:=u) (aIk x y)
def aEz:=λ(u:Option TypeDesc) (x y:Cd)=>aqb (u:=u) (aEA x y)
def aui:=λ(u:Option TypeDesc) (x y:Od)=>aqb (u:=u) (aIl x y)
def szP(a:Nat×Nat):Sz:=⟨a.1,a.2⟩
def aqD(a:Nat×Nat):(szP a).nd=a.1:=rfl
def aqE(a:Nat×Nat):(szP a).dp=a.2:=rfl
def FnS{α:Type}(A:α->C)(g:Nat)(cp:List C)(w:α->Nat×Nat)(l:List α):Prop:=acW g=false/\d9 Tryz.prog g=true/\∀ x∈l,G1 g (.of (A x)::cp.map .of) (.of (.agg (szC (szP (w x)))))
def aRD{α:Type}(w:α->Nat×Nat)(x:α)(r:List α):cH w (x::r)=cr (w x) (cH w r):=rfl
def a0J(a b:Nat×Nat):(cr a b).1=a.1+b.1:=rfl
def cw{α:Type}(l:List α)(a b:Int)(p:α->Bool):Bool:=decide (a<=(l.length:Int))&&decide ((l.length:Int)<=b)&&l.all p
def aU6{α:Type}(p:α->Bool)(l:List α):l.any (λx=>!p x)=!l.all p:=by
 induction l with
 | nil=>rfl
 | cons x r ih=>simp[ajj,agm,ih]
abbrev IFP(f:Nat){α:Type}(enc:α->List C)(e:α->C):Prop:=∀ (l:List α) (p:α->Bool) (g:Nat) (cp:List C),l.length<=4611686018427387903/\FnB e g cp p l->G1 f [.of (slC enc l),.of (.fn g cp)] (aQ (amM p l))
theorem IFP.k{f:Nat}{α:Type}{enc:α->List C}{e:α->C}(i:IFP f enc e)(l:List α)(p:α->Bool)(g:Nat)(cp:List C)(h:l.length<=4611686018427387903/\FnB e g cp p l)(K:An->Prop):cKp f [.of (slC enc l),.of (.fn g cp)] [] K↔K ⟨false,[aQ (amM p l)],[]⟩:=aH.k (i l p g cp h) K
def gIF {Z:Prop} {f:Nat} {fn:Func} {α:Type} {enc:α->List C} {e:α->C} (hi:FnI Tryz.prog f fn) (z:Z) (h:Z->FnI Tryz.prog f fn->IFP f enc e:=by
  intro z hi l p g cp h
  obtain⟨hl,ho,hc,hg⟩:=h
  refine ahj (kp:=false) rfl hi rfl rfl ?_
  generalize hX:slC _ l=X
  simp only[↓zA,sevalprocAttr,z,← hX,ho]
  refine abJ l.length (λk s=>s.fr 0=.of X/\s.fr 1=.of (.fn g cp)/\s.fr 7=aQ l.length/\s.fr 8=aQ k/\s.objs=[]/\amM p l=ajc p k (l.drop k)) ?_ ?_
  .simp only[↓zA,sevalprocAttr,z,← hX]
   exact rfl
  .rintro k s hk ⟨f0,f1,f7,f8,hob,E⟩
   rcases aA k l.length with c1|c1
   .have hw:=fq k aC
    have hx:=λK=>aH.k (hg l[k] (dK c1)) K
    rw[agc c1,ajc] at E
    simp only[↓zA,sevalprocAttr,z,← hX,f0,f1,f7,f8,hob,ho,hc,ba,c1,eX c1,hw,hx]
    cases c2:p l[k] <;> (simp only[c2,am,ah,av] at E;simp only[↓zA,sevalprocAttr,z,← hX,c2,E])
   .have e:k=l.length:=by omega
    subst e
    rw[df,ajc] at E
    simp only[↓zA,sevalprocAttr,z,← hX,f0,f1,f7,f8,hob,ba,dE,E]):IFP f enc e:=h z hi
def a1F:=gp @zq @aiq @ajn @zT0 (kf aPq)
def au5:IFP 273 cdC (λx=>.agg (cdC x)):=gIF aPq (ai Tryz.f273.eq_1 a1F)
def a1N:=gp @zq @bF @eZ @zT0 (kf aPB)
def aAF:IFP 261 xpC (λx=>.agg (xpC x)):=gIF aPB (ai Tryz.f261.eq_1 a1N)
def a1D:=gp @zq @afX @ajl @zT0 (kf aPo)
def au3:IFP 275 rdC (λx=>.agg (rdC x)):=gIF aPo (ai Tryz.f275.eq_1 a1D)
def a1E:=gp @zq @ad8 @ajm @zT0 (kf aPp)
def au4:IFP 274 kdC (λx=>.agg (kdC x)):=gIF aPp (ai Tryz.f274.eq_1 a1E)
def a1M:=gp @zq @eo @fC @zT0 (kf aPA)
def ay3:IFP 262 qyC (λx=>.agg (qyC x)):=gIF aPA (ai Tryz.f262.eq_1 a1M)
def a1A:=gp @zq @bF @adk @zT0 (kf aPl)
def atm:IFP 278 (lsC xpC) (slC xpC):=gIF aPl (ai Tryz.f278.eq_1 a1A)
def a1z:=gp @zq @afY @aho @zT0 (kf aPk)
def au6:IFP 279 asC (λx=>.agg (asC x)):=gIF aPk (ai Tryz.f279.eq_1 a1z)
def a1x:=gq @zq @bQ @P9 @Q9 @zT0 (kf aPi)
def au2:IFP 300 bU (λx=>aG (aK x)):=gIF aPi (ai Tryz.f300.eq_1 a1x)
def a1I:=gp @zq @agB @aiH @zT0 (kf aPt)
def ay4:IFP 270 odC (λx=>.agg (odC x)):=gIF aPt (ai Tryz.f270.eq_1 a1I)
def a1H:=gp @zq @acb @agP @zT0 (kf aPs)
def aAD:IFP 271 imC (λx=>.agg (imC x)):=gIF aPs (ai Tryz.f271.eq_1 a1H)
def a1G:=gp @zq @er @aci @zT0 (kf aPr)
def aAE:IFP 272 fmC (λx=>.agg (fmC x)):=gIF aPr (ai Tryz.f272.eq_1 a1G)
abbrev CFP(f:Nat){α:Type}(enc:α->List C)(e:α->C):Prop:=∀ (l:List α) (p:α->Bool) (g:Nat) (cp:List C),l.length<=4611686018427387903/\FnB e g cp p l->G1 f [.of (slC enc l),.of (.fn g cp)] (aM (l.any p))
theorem CFP.k{f:Nat}{α:Type}{enc:α->List C}{e:α->C}(i:CFP f enc e)(l:List α)(p:α->Bool)(g:Nat)(cp:List C)(h:l.length<=4611686018427387903/\FnB e g cp p l)(K:An->Prop):cKp f [.of (slC enc l),.of (.fn g cp)] [] K↔K ⟨false,[aM (l.any p)],[]⟩:=aH.k (i l p g cp h) K
def gCF {Z:Prop} {f f':Nat} {fn:Func} {α:Type} {enc:α->List C} {e:α->C} (hi:FnI Tryz.prog f fn) (I:IFP f' enc e) (z:Z) (h:Z->FnI Tryz.prog f fn->IFP f' enc e->CFP f enc e:=by
  intro z hi I l p g cp h
  refine ahj (kp:=false) rfl hi rfl rfl ?_
  rw[← axM]
  simp only[↓zA,sevalprocAttr,z,h.2.1,IFP.k I l p g cp h]):CFP f enc e:=h z hi I
def a2s:=gp @zq @a7c @bF @zT0 (kf aQf)
def aAM:CFP 197 xpC (λx=>.agg (xpC x)):=gCF aQf aAF (ai Tryz.f197.eq_1 a2s)
def a2b:=gp @zq @a62 @afX @zT0 (kf aPT)
def ave:CFP 221 rdC (λx=>.agg (rdC x)):=gCF aPT au3 (ai Tryz.f221.eq_1 a2b)
def a2f:=gp @zq @a64 @aiq @zT0 (kf aPX)
def avg:CFP 217 cdC (λx=>.agg (cdC x)):=gCF aPX au5 (ai Tryz.f217.eq_1 a2f)
def a2d:=gp @zq @a63 @ad8 @zT0 (kf aPV)
def avf:CFP 219 kdC (λx=>.agg (kdC x)):=gCF aPV au4 (ai Tryz.f219.eq_1 a2d)
def a2q:=gp @zq @a7b @eo @zT0 (kf aQd)
def ay7:CFP 199 qyC (λx=>.agg (qyC x)):=gCF aQd ay3 (ai Tryz.f199.eq_1 a2q)
def a1Z:=gm @zq @a6Z @zT0 (kf aPQ)
def ats:CFP 224 (lsC xpC) (slC xpC):=gCF aPQ atm (ai Tryz.f224.eq_1 a1Z)
def a1X:=gp @zq @a6Y @afY @zT0 (kf aPO)
def avh:CFP 226 asC (λx=>.agg (asC x)):=gCF aPO au6 (ai Tryz.f226.eq_1 a1X)
def a1C:=gm @zq @a6T @zT0 (kf aPn)
def avd:CFP 276 bU (λx=>aG (aK x)):=gCF aPn au2 (ai Tryz.f276.eq_1 a1C)
def a2l:=gp @zq @a67 @agB @zT0 (kf aP5)
def ay8:CFP 209 odC (λx=>.agg (odC x)):=gCF aP5 ay4 (ai Tryz.f209.eq_1 a2l)
def a2j:=gp @zq @a66 @acb @zT0 (kf aP3)
def aAK:CFP 211 imC (λx=>.agg (imC x)):=gCF aP3 aAD (ai Tryz.f211.eq_1 a2j)
def a2h:=gp @zq @a65 @er @zT0 (kf aP1)
def aAL:CFP 213 fmC (λx=>.agg (fmC x)):=gCF aP1 aAE (ai Tryz.f213.eq_1 a2h)
def aof:=gu @Tryz.f264.eq_1 @zq @bQ @P9 @Q9 @zT0 (kf aPz)
def au1(l:List (List UInt8))(v:(List UInt8))(hl:l.length<=4611686018427387903):G1 264 [.of (slC bU l),.of (aG (aK v))] (aQ (amM (λx=>decide (v=x)) l)):=by
 refine bB aPz ?_
 simp only[↓zA,sevalprocAttr,aof]
 refine abJ l.length (λk s=>s.fr 0=.of (slC bU l)/\s.fr 1=.of (aG (aK v))/\s.fr 7=aQ l.length/\s.fr 8=aQ k/\s.objs=[]/\amM (λx=>decide (v=x)) l=ajc (λx=>decide (v=x)) k (l.drop k)) ?_ ?_
 .simp only[↓zA,sevalprocAttr,aof]
  exact rfl
 .rintro k s hk ⟨f0,f1,f7,f8,hob,E⟩
  rcases aA k l.length with c1|c1
  .have hw:=fq k aC
   rw[agc c1,ajc] at E
   simp only[↓zA,sevalprocAttr,aof,f0,f1,f7,f8,hob,ba,c1,eX c1,hw,ct]
   by_cases c2:v=l[k]
   .simp only[c2,fS,am] at E
    simp only[↓zA,sevalprocAttr,aof,c2,E]
   .simp only[c2,fw,ah,av] at E
    simp only[↓zA,sevalprocAttr,aof,c2,E]
  .have e:k=l.length:=by omega
   subst e
   rw[df,ajc] at E
   simp only[↓zA,sevalprocAttr,aof,f0,f1,f7,f8,hob,ba,dE,E]
def aFO(l:List (List UInt8))(v:(List UInt8))(hl:l.length<=4611686018427387903)(K:An->Prop):cKp 264 [.of (slC bU l),.of (aG (aK v))] [] K↔K ⟨false,[aQ (amM (λx=>decide (v=x)) l)],[]⟩:=aH.k (au1 l v hl) K
def a2o:=gm @zq @a7a @zT0 (kf aP9)
def avc(l:List (List UInt8))(v:(List UInt8))(hl:l.length<=4611686018427387903):G1 205 [.of (slC bU l),.of (aG (aK v))] (aM (decide (v∈l))):=by
 refine bB aP9 ?_
 rw[← aMi]
 simp only[Tryz.f205,↓zA,sevalprocAttr,a2o,aFO l v hl]
def aFT(l:List (List UInt8))(v:(List UInt8))(K:An->Prop):cKp 205 [.of (slC bU l),.of (aG (aK v))] [] K↔ifP (l.length<=4611686018427387903) (K ⟨false,[aM (decide (v∈l))],[]⟩) (aiF Tryz.prog pr 205 [.of (slC bU l),.of (aG (aK v))] K):=amr (avc l v) K
abbrev EFP(f:Nat){α:Type}(enc:α->List C)(e:α->C):Prop:=∀ (l m:List α) (q:α->α->Bool) (g:Nat) (cp:List C),l.length<=4611686018427387903/\a1n e g cp q l m->G1 f [.of (slC enc l),.of (slC enc m),.of (.fn g cp)] (aM (eqR q l m))
theorem EFP.k{f:Nat}{α:Type}{enc:α->List C}{e:α->C}(i:EFP f enc e)(l m:List α)(q:α->α->Bool)(g:Nat)(cp:List C)(h:l.length<=4611686018427387903/\a1n e g cp q l m)(K:An->Prop):cKp f [.of (slC enc l),.of (slC enc m),.of (.fn g cp)] [] K↔K ⟨false,[aM (eqR q l m)],[]⟩:=aH.k (i l m q g cp h) K
def gEF {Z:Prop} {f:Nat} {fn:Func} {α:Type} {enc:α->List C} {e:α->C} (hi:FnI Tryz.prog f fn) (z:Z) (h:Z->FnI Tryz.prog f fn->EFP f enc e:=by
  intro z hi l m q g cp h
  obtain⟨hl,ho,hc,hg⟩:=h
  refine ahj (kp:=false) rfl hi rfl rfl ?_
  generalize hX:slC _ l=X
  generalize hY:slC _ m=Y
  by_cases c0:l.length=m.length
  rotate_left
  .rw[ax9 q l m c0]
   simp only[↓zA,sevalprocAttr,z,← hX,← hY,ho,ajw,c0]
  simp only[↓zA,sevalprocAttr,z,← hX,← hY,ho,ajw,c0]
  refine abJ l.length (λk s=>s.fr 1=.of Y/\s.fr 2=.of (.fn g cp)/\s.fr 15=.of X/\s.fr 16=aQ l.length/\s.fr 17=aQ k/\s.objs=[]/\eqR q l m=eqR q (l.drop k) (m.drop k)) ?_ ?_
  .simp only[↓zA,sevalprocAttr,z,← hX,← hY,c0]
   try exact rfl
  .rintro k s hk ⟨f1,f2,f15,f16,f17,hob,E⟩
   rcases aA k l.length with c1|c1
   .have hw:=fq k aC
    have c1':k<m.length:=by omega
    have hx:=λK=>aH.k (hg l[k] (dK c1) m[k] (dK c1')) K
    rw[agc c1,agc c1',eqR] at E
    simp only[↓zA,sevalprocAttr,z,← hX,← hY,f1,f2,f15,f16,f17,hob,ho,hc,ba,c1,eX c1,eX c1',hw,hx]
    cases c2:q l[k] m[k] <;> (simp only[c2,cY,cO] at E;simp only[↓zA,sevalprocAttr,z,← hX,← hY,c2,E])
   .have e:k=l.length:=by omega
    subst e
    rw[df,c0,df,eqR] at E
    simp only[↓zA,sevalprocAttr,z,← hX,← hY,f1,f2,f15,f16,f17,hob,ba,dE,E]):EFP f enc e:=h z hi
def a2n:=gu @zq @amE @amD @bF @eZ @zT0 (kf aP8)
def aAI:EFP 206 xpC (λx=>.agg (xpC x)):=gEF aP8 (ai Tryz.f206.eq_1 a2n)
def aNT:=aAI.k
def a1S:=gu @zq @amE @amD @ad8 @ajm @zT0 (kf aPG)
def ava:EFP 234 kdC (λx=>.agg (kdC x)):=gEF aPG (ai Tryz.f234.eq_1 a1S)
def aFR:=ava.k
def a1R:=gu @zq @amE @amD @afX @ajl @zT0 (kf aPF)
def au9:EFP 235 rdC (λx=>.agg (rdC x)):=gEF aPF (ai Tryz.f235.eq_1 a1R)
def aFQ:=au9.k
def a1Q:=gp @zq @bF @adk @zT0 (kf aPE)
def atq:EFP 236 (lsC xpC) (slC xpC):=gEF aPE (ai Tryz.f236.eq_1 a1Q)
def aAJ:=atq.k
def a1P:=gu @zq @amE @amD @afY @aho @zT0 (kf aPD)
def avb:EFP 237 asC (λx=>.agg (asC x)):=gEF aPD (ai Tryz.f237.eq_1 a1P)
def aFS:=avb.k
def a2m:=gu @zq @amE @amD @eo @fC @zT0 (kf aP7)
def ay6:EFP 207 qyC (λx=>.agg (qyC x)):=gEF aP7 (ai Tryz.f207.eq_1 a2m)
def aJr:=ay6.k
def a1K:=gu @zq @amE @amD @acb @agP @zT0 (kf aPx)
def aAG:EFP 266 imC (λx=>.agg (imC x)):=gEF aPx (ai Tryz.f266.eq_1 a1K)
def aNR:=aAG.k
def a1J:=gu @zq @amE @amD @er @aci @zT0 (kf aPv)
def aAH:EFP 268 fmC (λx=>.agg (fmC x)):=gEF aPv (ai Tryz.f268.eq_1 a1J)
def aNS:=aAH.k
abbrev EQP(f:Nat){α:Type}[DecidableEq α](enc:α->List C):Prop:=∀ (l m:List α),l.length<=4611686018427387903->G1 f [.of (slC enc l),.of (slC enc m)] (aM (eqR (λx y=>decide (x=y)) l m))
theorem EQP.k{f:Nat}{α:Type}[DecidableEq α]{enc:α->List C}(i:EQP f enc)(l m:List α)(h:l.length<=4611686018427387903)(K:An->Prop):cKp f [.of (slC enc l),.of (slC enc m)] [] K↔K ⟨false,[aM (eqR (λx y=>decide (x=y)) l m)],[]⟩:=aH.k (i l m h) K
def gEQ {Z:Prop} {f:Nat} {fn:Func} {α:Type} [DecidableEq α] {enc:α->List C} (hi:FnI Tryz.prog f fn) (z:Z) (h:Z->FnI Tryz.prog f fn->EQP f enc:=by
  intro z hi l m hl
  refine ahj (kp:=false) rfl hi rfl rfl ?_
  generalize hX:slC _ l=X
  generalize hY:slC _ m=Y
  by_cases c0:l.length=m.length
  rotate_left
  .rw[ax9 _ l m c0]
   simp only[↓zA,sevalprocAttr,z,← hX,← hY,ajw,c0]
  simp only[↓zA,sevalprocAttr,z,← hX,← hY,ajw,c0]
  refine abJ l.length (λk s=>s.fr 0=.of X/\s.fr 1=.of Y/\s.fr 12=aQ l.length/\s.fr 13=aQ k/\s.objs=[]/\eqR (λx y=>decide (x=y)) l m=eqR (λx y=>decide (x=y)) (l.drop k) (m.drop k)) ?_ ?_
  .simp only[↓zA,sevalprocAttr,z,← hX,← hY,c0]
   try exact rfl
  .rintro k s hk ⟨f0,f1,f12,f13,hob,E⟩
   rcases aA k l.length with c1|c1
   .have hw:=fq k aC
    have c1':k<m.length:=by omega
    rw[agc c1,agc c1',eqR] at E
    simp only[↓zA,sevalprocAttr,z,← hX,← hY,f0,f1,f12,f13,hob,ba,c1,eX c1,eX c1',hw,ct,cX,dH]
    by_cases c2:l[k]=m[k]
    .simp only[c2,fS,cO] at E
     simp only[↓zA,sevalprocAttr,z,← hX,← hY,c2,E,aaX]
    .simp only[c2,fw,cY] at E
     simp only[↓zA,sevalprocAttr,z,← hX,← hY,c2,E]
   .have e:k=l.length:=by omega
    subst e
    rw[df,c0,df,eqR] at E
    simp only[↓zA,sevalprocAttr,z,← hX,← hY,f0,f1,f12,f13,hob,ba,dE,E]):EQP f enc:=h z hi
def a1V:=gu @zq @aLk @bQ @P9 @Q9 @zT0 (kf aPL)
def au7:EQP 229 bU:=gEQ aPL (ai Tryz.f229.eq_1 a1V)
def a1T:=gq @zq @aLk @aiq @ajn @zT0 (kf aPH)
def au8:EQP 233 cdC:=gEQ aPH (ai (ai Tryz.f233.eq_1 a1T) @aEz)
def a1L:=gq @zq @aLk @agB @aiH @zT0 (kf aPy)
def ay5:EQP 265 odC:=gEQ aPy (ai (ai Tryz.f265.eq_1 a1L) @aui)
def aJq:=ay5.k
def a2T:=gz @zq @a4J @a4I @a4H @ad7 @P3 @Q3 @zT0 (kf aQ0)
def aJg(a b:Nat×Nat)(h:a.1+b.1<=4611686018427387903):G1 106 [.of (.agg (szC (szP a))),.of (.agg (szC (szP b)))] (.of (.agg (szC (szP (cr a b))))):=by
 have hw:IntKind.i64.wrap ((a.1:Int)+b.1)=((a.1+b.1:Nat):Int):=by rw[eu _ aC aC];rfl
 have hm:(if (a.2:Int)<b.2 then (b.2:Int) else a.2)=((max a.2 b.2:Nat):Int):=by split <;> omega
 have e:szC (szP (cr a b))=[ci ((a.1+b.1:Nat):Int),ci ((max a.2 b.2:Nat):Int)]:=rfl
 refine bB aQ0 ?_
 simp only[Tryz.f106,↓zA,sevalprocAttr,a2T,aqD,aqE,hw,hm,e]
def arT(a b:Nat×Nat)(K:An->Prop):cKp 106 [.of (.agg (szC (szP a))),.of (.agg (szC (szP b)))] [] K↔ifP (a.1+b.1<=4611686018427387903) (K ⟨false,[.of (.agg (szC (szP (cr a b))))],[]⟩) (aiF Tryz.prog pr 106 [.of (.agg (szC (szP a))),.of (.agg (szC (szP b)))] K):=amr (aJg a b) K
def a2R:=gv @zq @a4G @a4F @ad7 @P3 @Q3 @zT0 (kf aQY)
def aRr(a:Nat×Nat)(h:a.1<=4611686018427387903/\a.2<=4611686018427387903):G1 108 [.of (.agg (szC (szP a)))] (.of (.agg (szC (szP (upN a))))):=by
 have hw:=fq a.1 aC
 have hw2:=fq a.2 aC
 have e:szC (szP (upN a))=[ci ((a.1+1:Nat):Int),ci ((a.2+1:Nat):Int)]:=rfl
 refine bB aQY ?_
 simp only[Tryz.f108,↓zA,sevalprocAttr,a2R,aqD,aqE,hw,hw2,e]
def aJA(a:Nat×Nat)(K:An->Prop):cKp 108 [.of (.agg (szC (szP a)))] [] K↔ifP (a.1<=4611686018427387903/\a.2<=4611686018427387903) (K ⟨false,[.of (.agg (szC (szP (upN a))))],[]⟩) (aiF Tryz.prog pr 108 [.of (.agg (szC (szP a)))] K):=amr (aRr a) K
def aVx:=gv @Tryz.f57.eq_1 @zq @a4o @ad7 @P3 @Q3 @zT0 (kf aZd)
def aId(a:Nat×Nat):G1 57 [.of (.agg (szC (szP a)))] (aM (aiA a)):=by
 have e1:((a.1:Int)<=400)=(a.1<=400):=propext aC
 have e2:((a.2:Int)<=40)=(a.2<=40):=propext aC
 refine bB aZd ?_
 by_cases c1:a.1<=400
 .simp only[↓zA,sevalprocAttr,aVx,aqD,aqE,e1,e2,aiA,c1,fS,cO]
 .simp only[↓zA,sevalprocAttr,aVx,aqD,aqE,e1,e2,aiA,c1,fw,cY]
def alW(a:Nat×Nat)(K:An->Prop):cKp 57 [.of (.agg (szC (szP a)))] [] K↔K ⟨false,[aM (aiA a)],[]⟩:=aH.k (aId a) K
abbrev SMP(f:Nat){α:Type}(enc:α->List C)(e:α->C):Prop:=∀ (l:List α) (w:α->Nat×Nat) (g:Nat) (cp:List C),l.length<=4611686018427387903/\(cH w l).1<=4611686018427387903/\FnS e g cp w l->G1 f [.of (slC enc l),.of (.fn g cp)] (.of (.agg (szC (szP (cH w l)))))
theorem SMP.k{f:Nat}{α:Type}{enc:α->List C}{e:α->C}(i:SMP f enc e)(l:List α)(w:α->Nat×Nat)(g:Nat)(cp:List C)(h:l.length<=4611686018427387903/\(cH w l).1<=4611686018427387903/\FnS e g cp w l)(K:An->Prop):cKp f [.of (slC enc l),.of (.fn g cp)] [] K↔K ⟨false,[.of (.agg (szC (szP (cH w l))))],[]⟩:=aH.k (i l w g cp h) K
def gSM {Z:Prop} {f:Nat} {fn:Func} {α:Type} {enc:α->List C} {e:α->C} (hi:FnI Tryz.prog f fn) (z:Z) (h:Z->FnI Tryz.prog f fn->SMP f enc e:=by
  intro z hi l w g cp h
  obtain⟨hl,hs,ho,hc,hg⟩:=h
  refine ahj (kp:=false) rfl hi rfl rfl ?_
  generalize hX:slC _ l=X
  simp only[↓zA,sevalprocAttr,z,← hX,ho]
  refine abJ l.length (λk s=>∃ a,s.fr 1=.of (.fn g cp)/\s.fr 4=.ptr 0 0/\s.fr 5=.ptr 1 0/\s.fr 8=.of X/\s.fr 9=aQ l.length/\s.fr 10=aQ k/\s.objs=[.var 105 [aQ 0,aQ 0],.var 105 [.of (ci ((a:Nat×Nat).1:Int)),.of (ci (a.2:Int))]]/\cr a (cH w (l.drop k))=cH w l) ?_ ?_
  .refine⟨(0,0),?_⟩
   simp only[↓zA,sevalprocAttr,z,← hX,aFW]
   try exact rfl
  .rintro k s hk ⟨a,f1,f4,f5,f8,f9,f10,hob,E⟩
   have ea:szC (szP a)=[ci (a.1:Int),ci (a.2:Int)]:=rfl
   rcases aA k l.length with c1|c1
   .have hw:=fq k aC
    have hx:=λK=>aH.k (hg l[k] (dK c1)) K
    rw[agc c1,aRD,← aFE] at E
    have hb:a.1+(w l[k]).1<=4611686018427387903:=by have:=congrArg Prod.fst E;simp only[a0J] at this;omega
    have eb:szC (szP (cr a (w l[k])))=[ci ((cr a (w l[k])).1:Int),ci ((cr a (w l[k])).2:Int)]:=rfl
    simp only[↓zA,sevalprocAttr,z,← hX,f1,f4,f5,f8,f9,f10,hob,ho,hc,ba,c1,eX c1,hw,hx,← ea,arT,hb,eb]
    exact⟨_,rfl,E⟩
   .have e:k=l.length:=by omega
    subst e
    rw[df,cH,aJh] at E
    subst E
    simp only[↓zA,sevalprocAttr,z,← hX,f1,f4,f5,f8,f9,f10,hob,ba,dE,ea]):SMP f enc e:=h z hi
def a2G:=ai (gp @zq @aoM @aoL @asO @aiC) (gp @ad7 @bF @adk @zT0 (kf aQE))
def aqG:SMP 128 (lsC xpC) (slC xpC):=gSM aQE (ai Tryz.f128.eq_1 a2G)
def awJ:=aqG.k
def a2U:=ai (gq @zq @aoM @aoL @aq0 @asO @aiC) (gp @bF @ad7 @eZ @zT0 (kf aQ1))
def awI:SMP 105 xpC (λx=>.agg (xpC x)):=gSM aQ1 (ai Tryz.f105.eq_1 a2U)
def aGe:=awI.k
def a2E:=ai (gq @zq @aoM @aoL @aq0 @asO @aiC) (gp @afY @ad7 @aho @zT0 (kf aQC))
def asg:SMP 130 asC (λx=>.agg (asC x)):=gSM aQC (ai Tryz.f130.eq_1 a2E)
def azj:=asg.k
def a2S:=ai (gq @zq @aoM @aoL @aq0 @asO @aiC) (gp @eo @ad7 @fC @zT0 (kf aQZ))
def auK:SMP 107 qyC (λx=>.agg (qyC x)):=gSM aQZ (ai Tryz.f107.eq_1 a2S)
def aCP:=auK.k
def a2N:=ai (gq @zq @aoM @aoL @aq0 @asO @aiC) (gp @ad7 @acb @agP @zT0 (kf aQP))
def awG:SMP 117 imC (λx=>.agg (imC x)):=gSM aQP (ai Tryz.f117.eq_1 a2N)
def aGc:=awG.k
def a2M:=ai (gq @zq @aoM @aoL @aq0 @asO @aiC) (gp @ad7 @er @aci @zT0 (kf aQN))
def awH:SMP 119 fmC (λx=>.agg (fmC x)):=gSM aQN (ai Tryz.f119.eq_1 a2M)
def aGd:=awH.k
abbrev SZ1(f:Nat){α:Type}(e:α->C):Prop:=∀ (x:α) (b:Bool) (g:Nat) (cp:List C),acW g=false->d9 Tryz.prog g=true->G1 g (.of (e x)::cp.map .of) (aM b)->G1 f [.of (e x),.of (.ref [.fn g cp])] (aM (!b))
abbrev SZP(f:Nat){α:Type}(enc:α->List C)(e:α->C):Prop:=∀ (l:List α) (a b:Int) (p:α->Bool) (g:Nat) (cp:List C),l.length<=4611686018427387903/\FnB e g cp p l->G1 f [.of (slC enc l),.of (ci a),.of (ci b),.of (.fn g cp)] (aM (cw l a b p))
theorem SZP.k{f:Nat}{α:Type}{enc:α->List C}{e:α->C}(i:SZP f enc e)(l:List α)(a b:Int)(p:α->Bool)(g:Nat)(cp:List C)(h:l.length<=4611686018427387903/\FnB e g cp p l)(K:An->Prop):cKp f [.of (slC enc l),.of (ci a),.of (ci b),.of (.fn g cp)] [] K↔K ⟨false,[aM (cw l a b p)],[]⟩:=aH.k (i l a b p g cp h) K
def gS1 {Z:Prop} {f:Nat} {fn:Func} {α:Type} {e:α->C} (hi:FnI Tryz.prog f fn) (z:Z) (h:Z->FnI Tryz.prog f fn->SZ1 f e:=by
  intro z hi x b g cp ho hc hg
  refine ahj (kp:=false) rfl hi rfl rfl ?_
  have hx:=λK=>aH.k hg K
  simp only[↓zA,sevalprocAttr,z,ho,hc,hx]):SZ1 f e:=h z hi
def gSZ {Z:Prop} {f f1 f2:Nat} {fn:Func} {α:Type} {enc:α->List C} {e:α->C} (hi:FnI Tryz.prog f fn) (I1:SZ1 f1 e) (I2:CFP f2 enc e) (o1:acW f1=false) (o2:d9 Tryz.prog f1=true) (z:Z) (h:Z->FnI Tryz.prog f fn->SZ1 f1 e->CFP f2 enc e->acW f1=false->d9 Tryz.prog f1=true->SZP f enc e:=by
  intro z hi I1 I2 o1 o2 l a b p g cp h
  have hk:=λK=>CFP.k I2 l (λx=>!p x) _ [.ref [.fn g cp]] ⟨h.1,o1,o2,λx hx=>I1 x (p x) g cp h.2.1 h.2.2.1 (h.2.2.2 x hx)⟩ K
  refine ahj (kp:=false) rfl hi rfl rfl ?_
  by_cases c1:a<=(l.length:Int)
  .by_cases c2:(l.length:Int)<=b
   .simp only[↓zA,sevalprocAttr,z,c1,c2,hk,h.2.1,cw,aU6,Bool.not_not,fS,cO]
   .simp only[↓zA,sevalprocAttr,z,c1,c2,cw,fS,fw,cO,cY]
  .simp only[↓zA,sevalprocAttr,z,c1,cw,fw,cY]):SZP f enc e:=h z hi I1 I2 o1 o2
def a2e:=gq @zq @ajx @aiq @a1c @zT0 (kf aPW)
def aqB:SZ1 218 (λx=>.agg (cdC x)):=gS1 aPW (ai Tryz.f218.eq_1 a2e)
def a2C:=ai (gp @zq @ahE @a00 @a7A @aiq) (gp @ajn @a7z @a1c @zT0 (kf aQA))
def asd:SZP 132 cdC (λx=>.agg (cdC x)):=gSZ aQA aqB avg aXm aUG (ai Tryz.f132.eq_1 a2C)
def azh:=asd.k
def a2c:=gq @zq @ajx @ad8 @a1b @zT0 (kf aPU)
def aqz:SZ1 220 (λx=>.agg (kdC x)):=gS1 aPU (ai Tryz.f220.eq_1 a2c)
def a2B:=ai (gp @zq @ahE @a0Z @a7y @ad8) (gp @ajm @a7x @a1b @zT0 (kf aQy))
def asc:SZP 134 kdC (λx=>.agg (kdC x)):=gSZ aQy aqz avf aXl aUF (ai Tryz.f134.eq_1 a2B)
def azg:=asc.k
def a2a:=gq @zq @ajx @afX @a1a @zT0 (kf aPS)
def aqy:SZ1 222 (λx=>.agg (rdC x)):=gS1 aPS (ai Tryz.f222.eq_1 a2a)
def a2z:=ai (gp @zq @ahE @a0Y @a7w @afX) (gp @ajl @a7v @a1a @zT0 (kf aQw))
def ar8:SZP 136 rdC (λx=>.agg (rdC x)):=gSZ aQw aqy ave aXk aUE (ai Tryz.f136.eq_1 a2z)
def azf:=ar8.k
def a2r:=gq @zq @ajx @bF @Q56 @zT0 (kf aQe)
def auJ:SZ1 198 (λx=>.agg (xpC x)):=gS1 aQe (ai Tryz.f198.eq_1 a2r)
def a2Q:=ai (gp @zq @ahE @T56 @a7O @bF) (gp @eZ @a7N @Q56 @zT0 (kf aQW))
def awD:SZP 110 xpC (λx=>.agg (xpC x)):=gSZ aQW auJ aAM aXt aUN (ai Tryz.f110.eq_1 a2Q)
def aGb:=awD.k
def a2p:=gq @zq @ajx @eo @Q57 @zT0 (kf aQc)
def ar9:SZ1 200 (λx=>.agg (qyC x)):=gS1 aQc (ai Tryz.f200.eq_1 a2p)
def a2P:=ai (gp @zq @ahE @T57 @a7M @eo) (gp @fC @a7L @Q57 @zT0 (kf aQV))
def auF:SZP 111 qyC (λx=>.agg (qyC x)):=gSZ aQV ar9 ay7 aXs aUM (ai Tryz.f111.eq_1 a2P)
def aCN:=auF.k
def a1Y:=gp @zq @bF @a1d @zT0 (kf aPP)
def apE:SZ1 225 (slC xpC):=gS1 aPP (ai Tryz.f225.eq_1 a1Y)
def a2x:=gz @zq @ahE @a01 @a7t @adk @a7s @a1d @zT0 (kf aQt)
def aqA:SZP 139 (lsC xpC) (slC xpC):=gSZ aQt apE ats aXj aUD (ai Tryz.f139.eq_1 a2x)
def awE:=aqA.k
def a1W:=gq @zq @ajx @afY @a09 @zT0 (kf aPN)
def aqC:SZ1 227 (λx=>.agg (asC x)):=gS1 aPN (ai Tryz.f227.eq_1 a1W)
def a2v:=ai (gp @zq @ahE @a0X @a7r @afY) (gp @aho @a7q @a09 @zT0 (kf aQr))
def ase:SZP 141 asC (λx=>.agg (asC x)):=gSZ aQr aqC avh aXi aUC (ai Tryz.f141.eq_1 a2v)
def azi:=ase.k
def a1B:=gm @zq @Q33 @zT0 (kf aPm)
def aqx:SZ1 277 (λx=>aG (aK x)):=gS1 aPm (ai Tryz.f277.eq_1 a1B)
def a19:=gz @zq @ahE @T33 @a61 @bQ @a60 @Q33 @zT0 (kf aPR)
def ar7:SZP 223 bU (λx=>aG (aK x)):=gSZ aPR aqx avd aXb aUv (ai Tryz.f223.eq_1 a19)
def aze:=ar7.k
def a2k:=gq @zq @ajx @agB @a1g @zT0 (kf aP4)
def asa:SZ1 210 (λx=>.agg (odC x)):=gS1 aP4 (ai Tryz.f210.eq_1 a2k)
def a2K:=ai (gp @zq @ahE @a04 @a7G @agB) (gp @aiH @a7F @a1g @zT0 (kf aQL))
def auG:SZP 121 odC (λx=>.agg (odC x)):=gSZ aQL asa ay8 aXq aUK (ai Tryz.f121.eq_1 a2K)
def aCO:=auG.k
def a2i:=gq @zq @ajx @acb @a1f @zT0 (kf aP2)
def auH:SZ1 212 (λx=>.agg (imC x)):=gS1 aP2 (ai Tryz.f212.eq_1 a2i)
def a2J:=ai (gp @zq @ahE @a03 @a7E @acb) (gp @agP @a7D @a1f @zT0 (kf aQJ))
def awB:SZP 123 imC (λx=>.agg (imC x)):=gSZ aQJ auH aAK aXp aUJ (ai Tryz.f123.eq_1 a2J)
def aGa:=awB.k
def a2g:=gq @zq @ajx @er @a1e @zT0 (kf aP0)
def auI:SZ1 214 (λx=>.agg (fmC x)):=gS1 aP0 (ai Tryz.f214.eq_1 a2g)
def a2I:=ai (gp @zq @ahE @a02 @a7C @er) (gp @aci @a7B @a1e @zT0 (kf aQH))
def awC:SZP 125 fmC (λx=>.agg (fmC x)):=gSZ aQH auI aAL aXo aUI (ai Tryz.f125.eq_1 a2I)
def atA:=awC.k
end Go.Proofs.YtghkmcffifpkeaaGreat
namespace Go.Tab
open Pe
def aAX(e:Xp):eH e=upN (cr (cH eH e.ks) (cH abR e.sb)):=by cases e;rw[eH,ag9,akN];rfl
def aAY(q:Qy):abR q=upN (cr (cr (cr (cr (cr (cH abR q.ks) (cH agj q.its)) (cH adZ q.fr)) (cH eH q.wh)) (cH eH q.gr)) (cH eH q.hv)):=by
 cases q;rw[abR,akN,atB,anh,ag9,ag9,ag9];rfl
def aAZ(i:Im):agj i=if i.st then (0,0) else eH i.e:=by cases i;rw[agj];rfl
def aA0(f:Fm):adZ f=upN (cr (cr (cH abR f.sb) (cH adZ f.ks)) (cH eH f.on)):=by cases f;rw[adZ,akN,anh,ag9];rfl
def leW(a:Nat×Nat)(n:Nat):Prop:=a.1<=n/\a.2<=n
theorem abS{α:Type}(f:α->Nat×Nat)(w:α->Nat):∀ l:List α,(∀ x∈l,leW (f x) (w x))->leW (cH f l) (lsW w l)/\(cH f l).1<lsW w l
 | [],_=>by simp[cH,lsW,leW]
 | x::r,h=>by
  have h1:=h x aT
  have h2:=abS f w r (λy hy=>h y (by simp[hy]))
  simp only[leW,cH,cr,lsW,bc,dF] at h1 h2 ⊢
  omega
theorem dL{α:Type}(w:α->Nat):∀ l:List α,(∀ x∈l,1<=w x)->l.length<lsW w l
 | [],_=>by simp[lsW]
 | x::r,h=>by
  have h1:=h x aT
  have h2:=dL w r (λy hy=>h y (by simp[hy]))
  simp only[lsW,bc,dF,aN] at h2 ⊢
  omega
def af0(x:Xp):1<=xpW x:=by rw[aiI];omega
def aiv(x:Qy):1<=qyW x:=by rw[ahz];omega
def ajA(x:Im):1<=imW x:=by rw[akj];omega
def agb(x:Fm):1<=fmW x:=by rw[afN];omega
theorem ai2:∀ n,(∀ e,xpW e<=n->leW (eH e) (xpW e))/\(∀ e,qyW e<=n->leW (abR e) (qyW e))/\(∀ e,imW e<=n->leW (agj e) (imW e))/\(∀ e,fmW e<=n->leW (adZ e) (fmW e))
 | 0=>⟨λe h=>by have:=af0 e;omega,λe h=>by have:=aiv e;omega,λe h=>by have:=ajA e;omega,λe h=>by have:=agb e;omega⟩
 | n+1=>by
  obtain⟨i1,i2,i3,i4⟩:=ai2 n
  have sX:∀ l:List Xp,lsW xpW l<=n+1->leW (cH eH l) (lsW xpW l):=λl h=>(abS _ _ l λx hx=>i1 x (by have:=dC (w:=xpW) hx;omega)).1
  have sQ:∀ l:List Qy,lsW qyW l<=n+1->leW (cH abR l) (lsW qyW l):=λl h=>(abS _ _ l λx hx=>i2 x (by have:=dC (w:=qyW) hx;omega)).1
  have sI:∀ l:List Im,lsW imW l<=n+1->leW (cH agj l) (lsW imW l):=λl h=>(abS _ _ l λx hx=>i3 x (by have:=dC (w:=imW) hx;omega)).1
  have sF:∀ l:List Fm,lsW fmW l<=n+1->leW (cH adZ l) (lsW fmW l):=λl h=>(abS _ _ l λx hx=>i4 x (by have:=dC (w:=fmW) hx;omega)).1
  refine⟨λe h=>?_,λe h=>?_,λe h=>?_,λe h=>?_⟩
  .rw[aiI] at h ⊢
   have h1:=sX e.ks aC
   have h2:=sQ e.sb aC
   rw[aAX]
   simp only[leW,upN,cr] at h1 h2 ⊢
   omega
  .rw[ahz] at h ⊢
   have h1:=sQ e.ks aC
   have h2:=sI e.its aC
   have h3:=sF e.fr aC
   have h4:=sX e.wh aC
   have h5:=sX e.gr aC
   have h6:=sX e.hv aC
   rw[aAY]
   simp only[leW,upN,cr] at h1 h2 h3 h4 h5 h6 ⊢
   omega
  .rw[akj] at h ⊢
   have h1:=i1 e.e aC
   rw[aAZ]
   simp only[leW] at h1 ⊢
   split
   .simp
   .omega
  .rw[afN] at h ⊢
   have h1:=sQ e.sb aC
   have h2:=sF e.ks aC
   have h3:=sX e.on aC
   rw[aA0]
   simp only[leW,upN,cr] at h1 h2 h3 ⊢
   omega
end Go.Tab
namespace Go.Proofs.YtghkmcffifpkeaaGreat
open Pe Tab
abbrev sX(e:Xp):X:=.of (.agg (szC (szP (eH e))))
def an9(l:List Xp):Prop:=∀ x∈l,G1 56 [.of (.agg (xpC x))] (.of (.agg (szC (szP (eH x)))))
def ati(l:List Qy):Prop:=∀ x∈l,G1 59 [.of (.agg (qyC x))] (.of (.agg (szC (szP (abR x)))))
def aNK(l:List Im):Prop:=∀ x∈l,G1 118 [.of (.agg (imC x))] (.of (.agg (szC (szP (agj x)))))
def aFK(l:List Fm):Prop:=∀ x∈l,G1 120 [.of (.agg (fmC x))] (.of (.agg (szC (szP (adZ x)))))
abbrev WL:Nat:=1152921504606846976
def ani{l:List Xp}(h:an9 l)(hw:lsW xpW l<=WL)(K:An->Prop):cKp 105 [.of (slC xpC l),.of (.fn 56 [])] [] K↔K ⟨false,[.of (.agg (szC (szP (cH eH l))))],[]⟩:=by
 have h1:=dL xpW l λx _=>af0 x
 have h2:=abS eH xpW l λx _=>(ai2 _).1 x (ae _)
 simp only[leW,WL] at *
 exact aGe l eH _ [] ⟨by omega,by omega,a3S,a0B,h⟩ K
def aCQ{l:List Qy}(h:ati l)(hw:lsW qyW l<=WL)(K:An->Prop):cKp 107 [.of (slC qyC l),.of (.fn 59 [])] [] K↔K ⟨false,[.of (.agg (szC (szP (cH abR l))))],[]⟩:=by
 have h1:=dL qyW l λx _=>aiv x
 have h2:=abS abR qyW l λx _=>(ai2 _).2.1 x (ae _)
 simp only[leW,WL] at *
 exact aCP l abR _ [] ⟨by omega,by omega,a3Q,a0z,h⟩ K
def a80{l:List Im}(h:aNK l)(hw:lsW imW l<=WL)(K:An->Prop):cKp 117 [.of (slC imC l),.of (.fn 118 [])] [] K↔K ⟨false,[.of (.agg (szC (szP (cH agj l))))],[]⟩:=by
 have h1:=dL imW l λx _=>ajA x
 have h2:=abS agj imW l λx _=>(ai2 _).2.2.1 x (ae _)
 simp only[leW,WL] at *
 exact aGc l agj _ [] ⟨by omega,by omega,aXF,aUZ,h⟩ K
def aV3{l:List Fm}(h:aFK l)(hw:lsW fmW l<=WL)(K:An->Prop):cKp 119 [.of (slC fmC l),.of (.fn 120 [])] [] K↔K ⟨false,[.of (.agg (szC (szP (cH adZ l))))],[]⟩:=by
 have h1:=dL fmW l λx _=>agb x
 have h2:=abS adZ fmW l λx _=>(ai2 _).2.2.2 x (ae _)
 simp only[leW,WL] at *
 exact aGd l adZ _ [] ⟨by omega,by omega,aXE,aUY,h⟩ K
def sbX(l:List Xp):leW (cH eH l) (lsW xpW l):=(abS eH xpW l λx _=>(ai2 _).1 x (ae _)).1
def sbQ(l:List Qy):leW (cH abR l) (lsW qyW l):=(abS abR qyW l λx _=>(ai2 _).2.1 x (ae _)).1
def sbI(l:List Im):leW (cH agj l) (lsW imW l):=(abS agj imW l λx _=>(ai2 _).2.2.1 x (ae _)).1
def sbF(l:List Fm):leW (cH adZ l) (lsW fmW l):=(abS adZ fmW l λx _=>(ai2 _).2.2.2 x (ae _)).1
def a8z:=ai (gv @zq @a4E @a4D @baB @arF @av3 @aiC @aE5) (gu @bF @ad7 @eo @an2 @ays @zT0 (kf aZe))
def auP(e:Xp)(hw:xpW e<=WL)(i1:an9 e.ks)(i2:ati e.sb):G1 56 [.of (.agg (xpC e))] (.of (.agg (szC (szP (eH e))))):=by
 rw[aiI] at hw
 simp only[WL] at hw
 have k1:=ani i1 (by simp only[WL];omega)
 have k2:=aCQ i2 (by simp only[WL];omega)
 have b1:=sbX e.ks
 have b2:=sbQ e.sb
 simp only[leW] at b1 b2
 have h1:(cH eH e.ks).1+(cH abR e.sb).1<=4611686018427387903:=by omega
 have h2:(cr (cH eH e.ks) (cH abR e.sb)).1<=4611686018427387903/\(cr (cH eH e.ks) (cH abR e.sb)).2<=4611686018427387903:=by simp only[cr];omega
 rw[aAX]
 refine bB aZe ?_
 simp only[Tryz.f56,↓zA,sevalprocAttr,a8z,k1,k2,arT,h1,aJA,h2]
def aOc:=ai (gq @Tryz.f118.eq_1 @zq @a4C @a4B @an2 @bF) (gq @ad7 @acb @P4 @Q4 @zT0 (kf aQO))
def auN(e:Im)(i1:G1 56 [.of (.agg (xpC e.e))] (.of (.agg (szC (szP (eH e.e)))))):G1 118 [.of (.agg (imC e))] (.of (.agg (szC (szP (agj e))))):=by
 have k1:=λK=>aH.k i1 K
 have ez:szC (szP (0,0))=[ci 0,ci 0]:=rfl
 rw[aAZ]
 refine bB aQO ?_
 cases c:e.st
 .simp only[↓zA,sevalprocAttr,aOc,c,k1]
 .simp only[↓zA,sevalprocAttr,aOc,c,ez]
def a2L:=ai (gz @zq @a4A @a4z @baA @av3 @aRm @aiC @arF @aE5) (gv @ad7 @er @eo @bF @ays @an2 @zT0 (kf aQM))
def auO(e:Fm)(hw:fmW e<=WL)(i1:ati e.sb)(i2:aFK e.ks)(i3:an9 e.on):G1 120 [.of (.agg (fmC e))] (.of (.agg (szC (szP (adZ e))))):=by
 rw[afN] at hw
 simp only[WL] at hw
 have k1:=aCQ i1 (by simp only[WL];omega)
 have k2:=aV3 i2 (by simp only[WL];omega)
 have k3:=ani i3 (by simp only[WL];omega)
 have b1:=sbQ e.sb
 have b2:=sbF e.ks
 have b3:=sbX e.on
 simp only[leW] at b1 b2 b3
 have h1:(cH abR e.sb).1+(cH adZ e.ks).1<=4611686018427387903:=by omega
 have h2:(cr (cH abR e.sb) (cH adZ e.ks)).1+(cH eH e.on).1<=4611686018427387903:=by simp only[cr];omega
 have h3:(cr (cr (cH abR e.sb) (cH adZ e.ks)) (cH eH e.on)).1<=4611686018427387903/\(cr (cr (cH abR e.sb) (cH adZ e.ks)) (cH eH e.on)).2<=4611686018427387903:=by simp only[cr];omega
 rw[aA0]
 refine bB aQM ?_
 simp only[Tryz.f120,↓zA,sevalprocAttr,a2L,k1,k2,k3,arT,h1,h2,aJA,h3]
def a8y:=gj (gu @zq @a4y @a4x @baz @av3 @a77 @aiC) (gu @aRm @a4w @bay @arF @aE5 @eo @ad7) (gu @acb @er @bF @ays @an2 @zT0 (kf aZb))
def asm(e:Qy)(hw:qyW e<=WL)(i1:ati e.ks)(i2:aNK e.its)(i3:aFK e.fr)(i4:an9 e.wh)(i5:an9 e.gr)(i6:an9 e.hv):G1 59 [.of (.agg (qyC e))] (.of (.agg (szC (szP (abR e))))):=by
 rw[ahz] at hw
 simp only[WL] at hw
 have k1:=aCQ i1 (by simp only[WL];omega)
 have k2:=a80 i2 (by simp only[WL];omega)
 have k3:=aV3 i3 (by simp only[WL];omega)
 have k4:=ani i4 (by simp only[WL];omega)
 have k5:=ani i5 (by simp only[WL];omega)
 have k6:=ani i6 (by simp only[WL];omega)
 have b1:=sbQ e.ks
 have b2:=sbI e.its
 have b3:=sbF e.fr
 have b4:=sbX e.wh
 have b5:=sbX e.gr
 have b6:=sbX e.hv
 simp only[leW] at b1 b2 b3 b4 b5 b6
 rw[aAY]
 generalize cH abR e.ks=a1 at *
 generalize cH agj e.its=a2 at *
 generalize cH adZ e.fr=a3 at *
 generalize cH eH e.wh=a4 at *
 generalize cH eH e.gr=a5 at *
 generalize cH eH e.hv=a6 at *
 have h1:a1.1+a2.1<=4611686018427387903:=by omega
 have h2:(cr a1 a2).1+a3.1<=4611686018427387903:=by simp only[cr];omega
 have h3:(cr (cr a1 a2) a3).1+a4.1<=4611686018427387903:=by simp only[cr];omega
 have h4:(cr (cr (cr a1 a2) a3) a4).1+a5.1<=4611686018427387903:=by simp only[cr];omega
 have h5:(cr (cr (cr (cr a1 a2) a3) a4) a5).1+a6.1<=4611686018427387903:=by simp only[cr];omega
 have h6:(cr (cr (cr (cr (cr a1 a2) a3) a4) a5) a6).1<=4611686018427387903/\(cr (cr (cr (cr (cr a1 a2) a3) a4) a5) a6).2<=4611686018427387903:=by simp only[cr];omega
 refine bB aZb ?_
 simp only[Tryz.f59,↓zA,sevalprocAttr,a8y,k1,k2,k3,k4,k5,k6,arT,h1,h2,h3,h4,h5,aJA,h6]
theorem ah1:∀ n,n<=WL->(∀ e,xpW e<=n->G1 56 [.of (.agg (xpC e))] (.of (.agg (szC (szP (eH e))))))/\(∀ e,qyW e<=n->G1 59 [.of (.agg (qyC e))] (.of (.agg (szC (szP (abR e))))))
  /\ (∀ e,imW e<=n->G1 118 [.of (.agg (imC e))] (.of (.agg (szC (szP (agj e))))))/\(∀ e,fmW e<=n->G1 120 [.of (.agg (fmC e))] (.of (.agg (szC (szP (adZ e))))))
 | 0,_=>⟨λe h=>by have:=af0 e;omega,λe h=>by have:=aiv e;omega,λe h=>by have:=ajA e;omega,λe h=>by have:=agb e;omega⟩
 | n+1,hn=>by
  obtain⟨i1,i2,i3,i4⟩:=ah1 n aC
  have sX:∀ l:List Xp,lsW xpW l<=n+1->an9 l:=λl h x hx=>i1 x (by have:=dC (w:=xpW) hx;omega)
  have sQ:∀ l:List Qy,lsW qyW l<=n+1->ati l:=λl h x hx=>i2 x (by have:=dC (w:=qyW) hx;omega)
  have sI:∀ l:List Im,lsW imW l<=n+1->aNK l:=λl h x hx=>i3 x (by have:=dC (w:=imW) hx;omega)
  have sF:∀ l:List Fm,lsW fmW l<=n+1->aFK l:=λl h x hx=>i4 x (by have:=dC (w:=fmW) hx;omega)
  refine⟨λe h=>?_,λe h=>?_,λe h=>?_,λe h=>?_⟩
  .have h':=aiI e
   exact auP e aC (sX _ aC) (sQ _ aC)
  .have h':=ahz e
   exact asm e aC (sQ _ aC) (sI _ aC) (sF _ aC) (sX _ aC) (sX _ aC) (sX _ aC)
  .have h':=akj e
   exact auN e (i1 _ aC)
  .have h':=afN e
   exact auO e aC (sQ _ aC) (sF _ aC) (sX _ aC)
def ayW(l:List Xp)(h:lsW xpW l<=WL):an9 l:=λx hx=>(ah1 WL (ae _)).1 x (by have:=dC (w:=xpW) hx;omega)
def a05(l:List Qy)(h:lsW qyW l<=WL):ati l:=λx hx=>(ah1 WL (ae _)).2.1 x (by have:=dC (w:=qyW) hx;omega)
def aV2(s:Sm):leW (asf s) (smW s):=by
 have b1:=sbX s.chs
 have b2:=(abS (λl=>cH eH l) (lsW xpW) s.rws λx _=>sbX x).1
 have b3:=(abS (λa:As=>eH a.e) asW s.sts λx _=>by have:=(ai2 _).1 x.e (ae _);simp only[leW,asW] at this ⊢;omega).1
 have b4:=sbX s.wh
 have b5:=sbQ s.q
 simp only[leW,asf,cr,smW] at *
 omega
def a2F:=gv @zq @a4t @arF @ad7 @bF @an2 @zT0 (kf aQD)
def awP(l:List Xp)(h:lsW xpW l<=WL):G1 129 [.of (slC xpC l)] (.of (.agg (szC (szP (cH eH l))))):=by
 refine bB aQD ?_
 simp only[Tryz.f129,↓zA,sevalprocAttr,a2F,ani (ayW l h) h]
def a2D:=gz @zq @a4r @a4q @an2 @bF @afY @ad7 @zT0 (kf aQB)
def azq(a:As)(h:asW a<=WL):G1 131 [.of (.agg (asC a))] (.of (.agg (szC (szP (eH a.e))))):=by
 have k1:=λK=>aH.k ((ah1 WL (ae _)).1 a.e (by simp only[asW] at h;omega)) K
 refine bB aQB ?_
 simp only[Tryz.f131,↓zA,sevalprocAttr,a2D,k1]
def a8Z{l:List (List Xp)}(hw:lsW (lsW xpW) l<=WL)(K:An->Prop):cKp 128 [.of (slC (lsC xpC) l),.of (.fn 129 [])] [] K↔K ⟨false,[.of (.agg (szC (szP (cH (λl=>cH eH l) l))))],[]⟩:=by
 have h1:=dL (lsW xpW) l λx _=>by simp[lsW]
 have h2:=abS (λl=>cH eH l) (lsW xpW) l λx _=>sbX x
 simp only[leW,WL] at *
 exact awJ l (λl=>cH eH l) _ [] ⟨by omega,by omega,aXA,aUU,λx hx=>awP x (by have:=dC (w:=lsW xpW) hx;simp only[WL];omega)⟩ K
def a81{l:List As}(hw:lsW asW l<=WL)(K:An->Prop):cKp 130 [.of (slC asC l),.of (.fn 131 [])] [] K↔K ⟨false,[.of (.agg (szC (szP (cH (λa:As=>eH a.e) l))))],[]⟩:=by
 have h1:=dL asW l λx _=>by simp[asW]
 have h2:=(abS (λa:As=>eH a.e) asW l λx _=>by have:=(ai2 _).1 x.e (ae _);simp only[leW,asW] at this ⊢;omega)
 simp only[leW,WL] at *
 exact azj l (λa:As=>eH a.e) _ [] ⟨by omega,by omega,aXz,aUT,λx hx=>azq x (by have:=dC (w:=asW) hx;simp only[WL];omega)⟩ K
def a8x:=gj (gu @zq @a4v @a4u @a74 @a4s @a73 @a4p) (gu @bax @arF @aiC @av3 @aca @ad7 @afY) (gu @bF @eo @adk @an2 @ays @zT0 (kf aY9))
def auM(e:Sm)(hw:smW e<=WL):G1 61 [.of (.agg (smC e))] (.of (.agg (szC (szP (asf e))))):=by
 have b0:=aV2 e
 simp only[WL,smW] at hw
 have k1:=ani (l:=e.chs) (ayW _ (by simp only[WL];omega)) (by simp only[WL];omega)
 have k2:=a8Z (l:=e.rws) (by simp only[WL];omega)
 have k3:=a81 (l:=e.sts) (by simp only[WL];omega)
 have k4:=ani (l:=e.wh) (ayW _ (by simp only[WL];omega)) (by simp only[WL];omega)
 have k5:=aCQ (l:=e.q) (a05 _ (by simp only[WL];omega)) (by simp only[WL];omega)
 have b1:=sbX e.chs
 have b2:=(abS (λl=>cH eH l) (lsW xpW) e.rws λx _=>sbX x).1
 have b3:=(abS (λa:As=>eH a.e) asW e.sts λx _=>by have:=(ai2 _).1 x.e (ae _);simp only[leW,asW] at this ⊢;omega).1
 have b4:=sbX e.wh
 have b5:=sbQ e.q
 simp only[leW] at b1 b2 b3 b4 b5
 rw[asf]
 generalize cH eH e.chs=a1 at *
 generalize cH (λl=>cH eH l) e.rws=a2 at *
 generalize cH (λa:As=>eH a.e) e.sts=a3 at *
 generalize cH eH e.wh=a4 at *
 generalize cH abR e.q=a5 at *
 have h1:a1.1+a2.1<=4611686018427387903:=by omega
 have h2:(cr a1 a2).1+a3.1<=4611686018427387903:=by simp only[cr];omega
 have h3:(cr (cr a1 a2) a3).1+a4.1<=4611686018427387903:=by simp only[cr];omega
 have h4:(cr (cr (cr a1 a2) a3) a4).1+a5.1<=4611686018427387903:=by simp only[cr];omega
 refine bB aY9 ?_
 simp only[Tryz.f61,↓zA,sevalprocAttr,a8x,k1,k2,k3,k4,k5,arT,h1,h2,h3,h4]
end Go.Proofs.YtghkmcffifpkeaaGreat
namespace Go.Tab
open Pe
noncomputable instance:DecidableEq Xp:=λ_ _=>Classical.propDecidable _
noncomputable instance:DecidableEq Qy:=λ_ _=>Classical.propDecidable _
noncomputable instance:DecidableEq Im:=λ_ _=>Classical.propDecidable _
noncomputable instance:DecidableEq Fm:=λ_ _=>Classical.propDecidable _
noncomputable instance:DecidableEq Kd:=λ_ _=>Classical.propDecidable _
noncomputable instance:DecidableEq Rd:=λ_ _=>Classical.propDecidable _
noncomputable instance:DecidableEq As:=λ_ _=>Classical.propDecidable _
noncomputable instance:DecidableEq Sm:=λ_ _=>Classical.propDecidable _
def ajo(a b:Xp):(a=b)=(a.op=b.op/\a.v=b.v/\a.tb=b.tb/\a.nm=b.nm/\a.di=b.di/\a.ks=b.ks/\a.sb=b.sb):=by
 apply propext
 constructor
 .rintro rfl;simp
 .rintro⟨h0,h1,h2,h3,h4,h5,h6⟩
  cases a;cases b
  simp only[Xp.op,Xp.v,Xp.tb,Xp.nm,Xp.di,Xp.ks,Xp.sb] at *
  subst_vars
  rfl
def af3(a b:Qy):(a=b)=(a.op=b.op/\a.al=b.al/\a.di=b.di/\a.li=b.li/\a.sk=b.sk/\a.od=b.od/\a.ks=b.ks/\a.its=b.its/\a.fr=b.fr/\a.wh=b.wh/\a.gr=b.gr/\a.hv=b.hv):=by
 apply propext
 constructor
 .rintro rfl;simp
 .rintro⟨h0,h1,h2,h3,h4,h5,h6,h7,h8,h9,h10,h11⟩
  cases a;cases b
  simp only[Qy.op,Qy.al,Qy.di,Qy.li,Qy.sk,Qy.od,Qy.ks,Qy.its,Qy.fr,Qy.wh,Qy.gr,Qy.hv] at *
  subst_vars
  rfl
def arm(a b:Im):(a=b)=(a.st=b.st/\a.tb=b.tb/\a.az=b.az/\a.e=b.e):=by
 apply propext
 constructor
 .rintro rfl;simp
 .rintro⟨h0,h1,h2,h3⟩
  cases a;cases b
  simp only[Im.st,Im.tb,Im.az,Im.e] at *
  subst_vars
  rfl
def amN(a b:Fm):(a=b)=(a.kd=b.kd/\a.nm=b.nm/\a.az=b.az/\a.sb=b.sb/\a.ks=b.ks/\a.on=b.on):=by
 apply propext
 constructor
 .rintro rfl;simp
 .rintro⟨h0,h1,h2,h3,h4,h5⟩
  cases a;cases b
  simp only[Fm.kd,Fm.nm,Fm.az,Fm.sb,Fm.ks,Fm.on] at *
  subst_vars
  rfl
def aDW(a b:Kd):(a=b)=(a.pr=b.pr/\a.ns=b.ns):=by
 apply propext
 constructor
 .rintro rfl;simp
 .rintro⟨h0,h1⟩
  cases a;cases b
  simp only[] at *
  subst_vars
  rfl
def avz(a b:Rd):(a=b)=(a.tb=b.tb/\a.ns=b.ns/\a.to=b.to):=by
 apply propext
 constructor
 .rintro rfl;simp
 .rintro⟨h0,h1,h2⟩
  cases a;cases b
  simp only[] at *
  subst_vars
  rfl
def aFr(a b:As):(a=b)=(a.nm=b.nm/\a.e=b.e):=by
 apply propext
 constructor
 .rintro rfl;simp
 .rintro⟨h0,h1⟩
  cases a;cases b
  simp only[] at *
  subst_vars
  rfl
def aeD(a b:Sm):(a=b)=(a.kd=b.kd/\a.tb=b.tb/\a.nm=b.nm/\a.un=b.un/\a.cs=b.cs/\a.ns=b.ns/\a.kys=b.kys/\a.rfs=b.rfs/\a.chs=b.chs/\a.rws=b.rws/\a.sts=b.sts/\a.wh=b.wh/\a.q=b.q):=by
 apply propext
 constructor
 .rintro rfl;simp
 .rintro⟨h0,h1,h2,h3,h4,h5,h6,h7,h8,h9,h10,h11,h12⟩
  cases a;cases b
  simp only[] at *
  subst_vars
  rfl
end Go.Tab
namespace Go.Proofs.YtghkmcffifpkeaaGreat
open Pe Tab
def aen{α:Type}[DecidableEq α](l m:List α):eqR (λx y=>decide (x=y)) l m=decide (l=m):=aIm _ l m λ_ _ _ _=>rfl
def bS(a b:Bool):(a == b)=decide (a=b):=by cases a <;> cases b <;> rfl
def aNP(l m:List Od)(hw:lsW odW l<=WL)(K:An->Prop):cKp 265 [.of (slC odC l),.of (slC odC m)] [] K↔K ⟨false,[aM (decide (l=m))],[]⟩:=by
 have:=aJq l m (by have:=dL odW l (λx _=>by simp[odW]);simp only[WL] at hw;omega) K
 rwa [aen] at this
def abo(l m:List (List UInt8))(K:An->Prop):cKp 229 [.of (slC bU l),.of (slC bU m)] [] K↔ifP (l.length<=4611686018427387903) (K ⟨false,[aM (decide (l=m))],[]⟩) (aiF Tryz.prog pr 229 [.of (slC bU l),.of (slC bU m)] K):=amr (λh=>by have:=au7 l m h;rwa [aen] at this) K
def adl(l m:List Cd)(K:An->Prop):cKp 233 [.of (slC cdC l),.of (slC cdC m)] [] K↔ifP (l.length<=4611686018427387903) (K ⟨false,[aM (decide (l=m))],[]⟩) (aiF Tryz.prog pr 233 [.of (slC cdC l),.of (slC cdC m)] K):=amr (λh=>by have:=au8 l m h;rwa [aen] at this) K
def am6(l:List Xp):Prop:=∀ x∈l,∀ y,G1 116 [.of (.agg (xpC x)),.of (.agg (xpC y))] (aM (decide (x=y)))
def efX{l:List Xp}(h:am6 l)(hw:lsW xpW l<=WL)(m:List Xp)(K:An->Prop):cKp 206 [.of (slC xpC l),.of (slC xpC m),.of (.fn 116 [])] [] K↔K ⟨false,[aM (decide (l=m))],[]⟩:=by
 have h1:=dL xpW l λx _=>af0 x
 simp only[WL] at hw
 have:=aNT l m (λx y=>decide (x=y)) 116 [] ⟨by omega,aXG,aU0,λx hx y _=>h x hx y⟩ K
 rwa [aen] at this
def atp(l:List Qy):Prop:=∀ x∈l,∀ y,G1 208 [.of (.agg (qyC x)),.of (.agg (qyC y))] (aM (decide (x=y)))
def efQ{l:List Qy}(h:atp l)(hw:lsW qyW l<=WL)(m:List Qy)(K:An->Prop):cKp 207 [.of (slC qyC l),.of (slC qyC m),.of (.fn 208 [])] [] K↔K ⟨false,[aM (decide (l=m))],[]⟩:=by
 have h1:=dL qyW l λx _=>aiv x
 simp only[WL] at hw
 have:=aJr l m (λx y=>decide (x=y)) 208 [] ⟨by omega,aXr,aUL,λx hx y _=>h x hx y⟩ K
 rwa [aen] at this
def aNQ(l:List Im):Prop:=∀ x∈l,∀ y,G1 267 [.of (.agg (imC x)),.of (.agg (imC y))] (aM (decide (x=y)))
def efI{l:List Im}(h:aNQ l)(hw:lsW imW l<=WL)(m:List Im)(K:An->Prop):cKp 266 [.of (slC imC l),.of (slC imC m),.of (.fn 267 [])] [] K↔K ⟨false,[aM (decide (l=m))],[]⟩:=by
 have h1:=dL imW l λx _=>ajA x
 simp only[WL] at hw
 have:=aNR l m (λx y=>decide (x=y)) 267 [] ⟨by omega,aXd,aUx,λx hx y _=>h x hx y⟩ K
 rwa [aen] at this
def aFP(l:List Fm):Prop:=∀ x∈l,∀ y,G1 269 [.of (.agg (fmC x)),.of (.agg (fmC y))] (aM (decide (x=y)))
def efF{l:List Fm}(h:aFP l)(hw:lsW fmW l<=WL)(m:List Fm)(K:An->Prop):cKp 268 [.of (slC fmC l),.of (slC fmC m),.of (.fn 269 [])] [] K↔K ⟨false,[aM (decide (l=m))],[]⟩:=by
 have h1:=dL fmW l λx _=>agb x
 simp only[WL] at hw
 have:=aNS l m (λx y=>decide (x=y)) 269 [] ⟨by omega,aXc,aUw,λx hx y _=>h x hx y⟩ K
 rwa [aen] at this
def akD:=ai (gz @Tryz.f116.eq_1 @zq @a4k @a4j @av0 @avZ @aiG @bF @eo) (gz @ak2 @P3 @Q3 @P9 @Q9 @P4 @Q4 @zT0 (kf aQQ))
def apb(a b:Xp)(hw:lsW xpW a.ks+lsW qyW a.sb<=WL)(i0:am6 a.ks)(i1:atp a.sb):G1 116 [.of (.agg (xpC a)),.of (.agg (xpC b))] (aM (decide (a=b))):=by
 simp only[WL] at hw
 have k0:=efX i0 (by simp only[WL];omega)
 have k1:=efQ i1 (by simp only[WL];omega)
 refine bB aQQ ?_
 by_cases c0:a.op=b.op
 rotate_left
 .simp only[↓zA,sevalprocAttr,akD,c0,bS,ajo a b]
 by_cases c1:a.v=b.v
 rotate_left
 .simp only[↓zA,sevalprocAttr,akD,aa c0,c1,bS,aev,ajo a b]
 by_cases c2:a.tb=b.tb
 rotate_left
 .simp only[↓zA,sevalprocAttr,akD,aa c0,aa c1,c2,ct,bS,aev,ajo a b]
 by_cases c3:a.nm=b.nm
 rotate_left
 .simp only[↓zA,sevalprocAttr,akD,aa c0,aa c1,aa c2,c3,ct,bS,aev,ajo a b]
 by_cases c4:a.di=b.di
 rotate_left
 .simp only[↓zA,sevalprocAttr,akD,aa c0,aa c1,aa c2,aa c3,c4,ct,bS,aev,ajo a b]
 by_cases c5:a.ks=b.ks
 rotate_left
 .simp only[↓zA,sevalprocAttr,akD,aa c0,aa c1,aa c2,aa c3,aa c4,c5,k0,ct,bS,aev,ajo a b]
 by_cases c6:a.sb=b.sb
 rotate_left
 .simp only[↓zA,sevalprocAttr,akD,aa c0,aa c1,aa c2,aa c3,aa c4,aa c5,c6,k0,k1,ct,bS,aev,ajo a b]
 simp only[↓zA,sevalprocAttr,akD,aa c0,aa c1,aa c2,aa c3,aa c4,aa c5,aa c6,k0,k1,ct,bS,aev,ajo a b,bM]
def afW:=gj (gu @Tryz.f208.eq_1 @zq @a4e @a4d @a69 @avZ @a68) (gu @aRa @av0 @eo @agB @acb @er @bF) (gu @ak2 @P3 @Q3 @P4 @Q4 @zT0 (kf aP6))
def azu(a b:Qy)(hw:qyW a<=WL)(i0:atp a.ks)(i1:aNQ a.its)(i2:aFP a.fr)(i3:am6 a.wh)(i4:am6 a.gr)(i5:am6 a.hv):G1 208 [.of (.agg (qyC a)),.of (.agg (qyC b))] (aM (decide (a=b))):=by
 rw[ahz] at hw
 simp only[WL] at hw
 have ko:=λm=>aNP a.od m (by simp only[WL];omega)
 have k0:=efQ i0 (by simp only[WL];omega)
 have k1:=efI i1 (by simp only[WL];omega)
 have k2:=efF i2 (by simp only[WL];omega)
 have k3:=efX i3 (by simp only[WL];omega)
 have k4:=efX i4 (by simp only[WL];omega)
 have k5:=efX i5 (by simp only[WL];omega)
 refine bB aP6 ?_
 by_cases c0:a.op=b.op
 rotate_left
 .simp only[↓zA,sevalprocAttr,afW,c0,bS,bn,af3 a b]
 by_cases c1:a.al=b.al
 rotate_left
 .simp only[↓zA,sevalprocAttr,afW,aa c0,c1,bS,bn,af3 a b]
 by_cases c2:a.di=b.di
 rotate_left
 .simp only[↓zA,sevalprocAttr,afW,aa c0,aa c1,c2,bS,bn,af3 a b]
 by_cases c3:a.li=b.li
 rotate_left
 .simp only[↓zA,sevalprocAttr,afW,aa c0,aa c1,aa c2,c3,bS,bn,af3 a b]
 by_cases c4:a.sk=b.sk
 rotate_left
 .simp only[↓zA,sevalprocAttr,afW,aa c0,aa c1,aa c2,aa c3,c4,bS,bn,af3 a b]
 by_cases c5:a.od=b.od
 rotate_left
 .simp only[↓zA,sevalprocAttr,afW,aa c0,aa c1,aa c2,aa c3,aa c4,c5,ko,bS,bn,af3 a b]
 by_cases c6:a.ks=b.ks
 rotate_left
 .simp only[↓zA,sevalprocAttr,afW,aa c0,aa c1,aa c2,aa c3,aa c4,aa c5,c6,ko,k0,bS,bn,af3 a b]
 by_cases c7:a.its=b.its
 rotate_left
 .simp only[↓zA,sevalprocAttr,afW,aa c0,aa c1,aa c2,aa c3,aa c4,aa c5,aa c6,c7,ko,k0,k1,bS,bn,af3 a b]
 by_cases c8:a.fr=b.fr
 rotate_left
 .simp only[↓zA,sevalprocAttr,afW,aa c0,aa c1,aa c2,aa c3,aa c4,aa c5,aa c6,aa c7,c8,ko,k0,k1,k2,bS,bn,af3 a b]
 by_cases c9:a.wh=b.wh
 rotate_left
 .simp only[↓zA,sevalprocAttr,afW,aa c0,aa c1,aa c2,aa c3,aa c4,aa c5,aa c6,aa c7,aa c8,c9,ko,k0,k1,k2,k3,bS,bn,af3 a b]
 by_cases c10:a.gr=b.gr
 rotate_left
 .simp only[↓zA,sevalprocAttr,afW,aa c0,aa c1,aa c2,aa c3,aa c4,aa c5,aa c6,aa c7,aa c8,aa c9,c10,ko,k0,k1,k2,k3,k4,bS,bn,af3 a b]
 by_cases c11:a.hv=b.hv
 rotate_left
 .simp only[↓zA,sevalprocAttr,afW,aa c0,aa c1,aa c2,aa c3,aa c4,aa c5,aa c6,aa c7,aa c8,aa c9,aa c10,c11,ko,k0,k1,k2,k3,k4,k5,bS,bn,af3 a b]
 simp only[↓zA,sevalprocAttr,afW,aa c0,aa c1,aa c2,aa c3,aa c4,aa c5,aa c6,aa c7,aa c8,aa c9,aa c10,aa c11,ko,k0,k1,k2,k3,k4,k5,bS,bn,af3 a b,bM]
def aqo:=ai (gu @Tryz.f267.eq_1 @zq @a4i @a4h @ak2 @bF @acb) (gq @P4 @Q4 @P9 @Q9 @zT0 (kf aPw))
def azw(a b:Im)(hw:imW a<=WL)(i0:am6 [a.e]):G1 267 [.of (.agg (imC a)),.of (.agg (imC b))] (aM (decide (a=b))):=by
 rw[akj] at hw
 simp only[WL] at hw
 have k0:=λK=>aH.k (i0 a.e aT b.e) K
 refine bB aPw ?_
 by_cases c0:a.st=b.st
 rotate_left
 .simp only[↓zA,sevalprocAttr,aqo,c0,bS,arm a b]
 by_cases c1:a.tb=b.tb
 rotate_left
 .simp only[↓zA,sevalprocAttr,aqo,aa c0,c1,ct,bS,arm a b]
 by_cases c2:a.az=b.az
 rotate_left
 .simp only[↓zA,sevalprocAttr,aqo,aa c0,aa c1,c2,ct,bS,arm a b]
 by_cases c3:a.e=b.e
 rotate_left
 .simp only[↓zA,sevalprocAttr,aqo,aa c0,aa c1,aa c2,c3,k0,ct,bS,arm a b]
 simp only[↓zA,sevalprocAttr,aqo,aa c0,aa c1,aa c2,aa c3,k0,ct,bS,arm a b,bM]
def al7:=ai (gz @Tryz.f269.eq_1 @zq @a4g @a4f @avZ @aRa @av0 @er @eo) (gv @bF @ak2 @P3 @Q3 @P9 @Q9 @zT0 (kf aPu))
def azx(a b:Fm)(hw:fmW a<=WL)(i0:atp a.sb)(i1:aFP a.ks)(i2:am6 a.on):G1 269 [.of (.agg (fmC a)),.of (.agg (fmC b))] (aM (decide (a=b))):=by
 rw[afN] at hw
 simp only[WL] at hw
 have k0:=efQ i0 (by simp only[WL];omega)
 have k1:=efF i1 (by simp only[WL];omega)
 have k2:=efX i2 (by simp only[WL];omega)
 refine bB aPu ?_
 by_cases c0:a.kd=b.kd
 rotate_left
 .simp only[↓zA,sevalprocAttr,al7,c0,bS,amN a b]
 by_cases c1:a.nm=b.nm
 rotate_left
 .simp only[↓zA,sevalprocAttr,al7,aa c0,c1,ct,bS,amN a b]
 by_cases c2:a.az=b.az
 rotate_left
 .simp only[↓zA,sevalprocAttr,al7,aa c0,aa c1,c2,ct,bS,amN a b]
 by_cases c3:a.sb=b.sb
 rotate_left
 .simp only[↓zA,sevalprocAttr,al7,aa c0,aa c1,aa c2,c3,k0,ct,bS,amN a b]
 by_cases c4:a.ks=b.ks
 rotate_left
 .simp only[↓zA,sevalprocAttr,al7,aa c0,aa c1,aa c2,aa c3,c4,k0,k1,ct,bS,amN a b]
 by_cases c5:a.on=b.on
 rotate_left
 .simp only[↓zA,sevalprocAttr,al7,aa c0,aa c1,aa c2,aa c3,aa c4,c5,k0,k1,k2,ct,amN a b]
 simp only[↓zA,sevalprocAttr,al7,aa c0,aa c1,aa c2,aa c3,aa c4,aa c5,k0,k1,k2,ct,amN a b,bM]
theorem amn:∀ n,n<=WL->(∀ a,xpW a<=n->∀ b,G1 116 [.of (.agg (xpC a)),.of (.agg (xpC b))] (aM (decide (a=b))))/\(∀ a,qyW a<=n->∀ b,G1 208 [.of (.agg (qyC a)),.of (.agg (qyC b))] (aM (decide (a=b))))
  /\ (∀ a,imW a<=n->∀ b,G1 267 [.of (.agg (imC a)),.of (.agg (imC b))] (aM (decide (a=b))))/\(∀ a,fmW a<=n->∀ b,G1 269 [.of (.agg (fmC a)),.of (.agg (fmC b))] (aM (decide (a=b))))
 | 0,_=>⟨λe h=>by have:=af0 e;omega,λe h=>by have:=aiv e;omega,λe h=>by have:=ajA e;omega,λe h=>by have:=agb e;omega⟩
 | n+1,hn=>by
  obtain⟨i1,i2,i3,i4⟩:=amn n aC
  have sX:∀ l:List Xp,lsW xpW l<=n+1->am6 l:=λl h x hx=>i1 x (by have:=dC (w:=xpW) hx;omega)
  have sQ:∀ l:List Qy,lsW qyW l<=n+1->atp l:=λl h x hx=>i2 x (by have:=dC (w:=qyW) hx;omega)
  have sI:∀ l:List Im,lsW imW l<=n+1->aNQ l:=λl h x hx=>i3 x (by have:=dC (w:=imW) hx;omega)
  have sF:∀ l:List Fm,lsW fmW l<=n+1->aFP l:=λl h x hx=>i4 x (by have:=dC (w:=fmW) hx;omega)
  refine⟨λe h b=>?_,λe h b=>?_,λe h b=>?_,λe h b=>?_⟩
  .have h':=aiI e
   exact apb e b aC (sX _ aC) (sQ _ aC)
  .have h':=ahz e
   exact azu e b aC (sQ _ aC) (sI _ aC) (sF _ aC) (sX _ aC) (sX _ aC) (sX _ aC)
  .have h':=akj e
   exact azw e b aC (λx hx=>by rw[cC.1 hx];exact i1 _ aC)
  .have h':=afN e
   exact azx e b aC (sQ _ aC) (sF _ aC) (sX _ aC)
def a1o(l:List Xp)(h:lsW xpW l<=WL):am6 l:=λx hx=>(amn WL (ae _)).1 x (by have:=dC (w:=xpW) hx;omega)
def a1p(l:List Qy)(h:lsW qyW l<=WL):atp l:=λx hx=>(amn WL (ae _)).2.1 x (by have:=dC (w:=qyW) hx;omega)
def am5(a b:Xp)(K:An->Prop):cKp 116 [.of (.agg (xpC a)),.of (.agg (xpC b))] [] K↔ifP (xpW a<=WL) (K ⟨false,[aM (decide (a=b))],[]⟩) (aiF Tryz.prog pr 116 [.of (.agg (xpC a)),.of (.agg (xpC b))] K):=amr (λh=>(amn WL (ae _)).1 a h b) K
def aCs:=ai (gq @Tryz.f228.eq_1 @zq @a4a @a39 @aEZ @ad8) (gp @bQ @P4 @Q4 @zT0 (kf aPM))
def azv(a b:Kd)(hw:kdW a<=WL):G1 228 [.of (.agg (kdC a)),.of (.agg (kdC b))] (aM (decide (a=b))):=by
 have hl:a.ns.length<=4611686018427387903:=by have:=dL dT a.ns (λx _=>by simp[dT]);simp only[WL,kdW] at hw;omega
 refine bB aPM ?_
 by_cases c0:a.pr=b.pr
 rotate_left
 .simp only[↓zA,sevalprocAttr,aCs,c0,bS,aDW a b]
 by_cases c1:a.ns=b.ns
 rotate_left
 .simp only[↓zA,sevalprocAttr,aCs,aa c0,c1,abo,hl,bS,aDW a b]
 simp only[↓zA,sevalprocAttr,aCs,aa c0,aa c1,abo,hl,bS,aDW a b,bM]
def avj:=ai (gq @Tryz.f230.eq_1 @zq @a38 @a37 @aEZ @afX) (gp @bQ @P9 @Q9 @zT0 (kf aPK))
def azt(a b:Rd)(hw:rdW a<=WL):G1 230 [.of (.agg (rdC a)),.of (.agg (rdC b))] (aM (decide (a=b))):=by
 have hl:a.ns.length<=4611686018427387903:=by have:=dL dT a.ns (λx _=>by simp[dT]);simp only[WL,rdW] at hw;omega
 have hl2:a.to.length<=4611686018427387903:=by have:=dL dT a.to (λx _=>by simp[dT]);simp only[WL,rdW] at hw;omega
 refine bB aPK ?_
 by_cases c0:a.tb=b.tb
 rotate_left
 .simp only[↓zA,sevalprocAttr,avj,c0,ct,bS,avz a b]
 by_cases c1:a.ns=b.ns
 rotate_left
 .simp only[↓zA,sevalprocAttr,avj,aa c0,c1,abo,hl,ct,bS,avz a b]
 by_cases c2:a.to=b.to
 rotate_left
 .simp only[↓zA,sevalprocAttr,avj,aa c0,aa c1,c2,abo,hl,hl2,ct,avz a b]
 simp only[↓zA,sevalprocAttr,avj,aa c0,aa c1,aa c2,abo,hl,hl2,ct,avz a b,bM]
def aCr:=ai (gq @Tryz.f232.eq_1 @zq @a35 @a33 @ak2 @bF) (gp @afY @P9 @Q9 @zT0 (kf aPI))
def azy(a b:As)(hw:asW a<=WL):G1 232 [.of (.agg (asC a)),.of (.agg (asC b))] (aM (decide (a=b))):=by
 have hl:xpW a.e<=WL:=by simp only[asW] at hw;omega
 refine bB aPI ?_
 by_cases c0:a.nm=b.nm
 rotate_left
 .simp only[↓zA,sevalprocAttr,aCr,c0,ct,bS,aFr a b]
 by_cases c1:a.e=b.e
 rotate_left
 .simp only[↓zA,sevalprocAttr,aCr,aa c0,c1,am5,hl,ct,aFr a b]
 simp only[↓zA,sevalprocAttr,aCr,aa c0,aa c1,am5,hl,ct,aFr a b,bM]
def a1U:=gq @zq @av0 @bF @ak2 @zT0 (kf aPJ)
def ant(a b:List Xp)(hw:lsW xpW a<=WL):G1 231 [.of (slC xpC a),.of (slC xpC b)] (aM (decide (a=b))):=by
 refine bB aPJ ?_
 simp only[Tryz.f231,↓zA,sevalprocAttr,a1U,efX (a1o a hw) hw]
def ahd(a b:List Xp)(K:An->Prop):cKp 231 [.of (slC xpC a),.of (slC xpC b)] [] K↔ifP (lsW xpW a<=WL) (K ⟨false,[aM (decide (a=b))],[]⟩) (aiF Tryz.prog pr 231 [.of (slC xpC a),.of (slC xpC b)] K):=amr (ant a b) K
def bbo{l:List Kd}(hw:lsW kdW l<=WL)(m:List Kd)(K:An->Prop):cKp 234 [.of (slC kdC l),.of (slC kdC m),.of (.fn 228 [])] [] K↔K ⟨false,[aM (decide (l=m))],[]⟩:=by
 have h1:=dL kdW l λx _=>by simp[kdW]
 have h2:=hw
 simp only[WL] at h2
 have:=aFR l m (λx y=>decide (x=y)) 228 [] ⟨by omega,aXh,aUB,λx hx y _=>azv x y (by have:=dC (w:=kdW) hx;omega)⟩ K
 rwa [aen] at this
def bbn{l:List Rd}(hw:lsW rdW l<=WL)(m:List Rd)(K:An->Prop):cKp 235 [.of (slC rdC l),.of (slC rdC m),.of (.fn 230 [])] [] K↔K ⟨false,[aM (decide (l=m))],[]⟩:=by
 have h1:=dL rdW l λx _=>by simp[rdW]
 have h2:=hw
 simp only[WL] at h2
 have:=aFQ l m (λx y=>decide (x=y)) 230 [] ⟨by omega,aXg,aUA,λx hx y _=>azt x y (by have:=dC (w:=rdW) hx;omega)⟩ K
 rwa [aen] at this
def bbp{l:List As}(hw:lsW asW l<=WL)(m:List As)(K:An->Prop):cKp 237 [.of (slC asC l),.of (slC asC m),.of (.fn 232 [])] [] K↔K ⟨false,[aM (decide (l=m))],[]⟩:=by
 have h1:=dL asW l λx _=>by simp[asW]
 have h2:=hw
 simp only[WL] at h2
 have:=aFS l m (λx y=>decide (x=y)) 232 [] ⟨by omega,aXe,aUy,λx hx y _=>azy x y (by have:=dC (w:=asW) hx;omega)⟩ K
 rwa [aen] at this
def efR{l:List (List Xp)}(hw:lsW (lsW xpW) l<=WL)(m:List (List Xp))(K:An->Prop):cKp 236 [.of (slC (lsC xpC) l),.of (slC (lsC xpC) m),.of (.fn 231 [])] [] K↔K ⟨false,[aM (decide (l=m))],[]⟩:=by
 have h1:=dL (lsW xpW) l λx _=>by simp[lsW]
 have h2:=hw
 simp only[WL] at h2
 have:=aAJ l m (λx y=>decide (x=y)) 231 [] ⟨by omega,aXf,aUz,λx hx y _=>ant x y (by have:=dC (w:=lsW xpW) hx;omega)⟩ K
 rwa [aen] at this
def afd:=gm (gv @Tryz.f143.eq_1 @zq @a4c @a4b @a7o @aEZ @a7n @a7m) (gv @a7l @a7k @avZ @aca @aiq @ad8 @afX @bF) (gv @afY @eo @bQ @adk @a7p @P3 @Q3 @P9) (gp @Q9 @P4 @Q4 @zT0 (kf aQp))
def azs(a b:Sm)(hw:smW a<=WL):G1 143 [.of (.agg (smC a)),.of (.agg (smC b))] (aM (decide (a=b))):=by
 have hw':=hw
 simp only[WL,smW] at hw
 have l1:a.cs.length<=4611686018427387903:=by have:=dL cdW a.cs (λx _=>by simp[cdW]);omega
 have l2:a.ns.length<=4611686018427387903:=by have:=dL dT a.ns (λx _=>by simp[dT]);omega
 have l3:lsW xpW a.chs<=WL:=by simp only[WL];omega
 have l4:lsW xpW a.wh<=WL:=by simp only[WL];omega
 have k1:=bbo (l:=a.kys) (by simp only[WL];omega)
 have k2:=bbn (l:=a.rfs) (by simp only[WL];omega)
 have k3:=efR (l:=a.rws) (by simp only[WL];omega)
 have k4:=bbp (l:=a.sts) (by simp only[WL];omega)
 have k5:=efQ (a1p a.q (by simp only[WL];omega)) (by simp only[WL];omega)
 refine bB aQp ?_
 by_cases c0:a.kd=b.kd
 rotate_left
 .simp only[↓zA,sevalprocAttr,afd,c0,bS,bn,aeD a b]
 by_cases c1:a.tb=b.tb
 rotate_left
 .simp only[↓zA,sevalprocAttr,afd,aa c0,c1,ct,bS,bn,aeD a b]
 by_cases c2:a.nm=b.nm
 rotate_left
 .simp only[↓zA,sevalprocAttr,afd,aa c0,aa c1,c2,ct,bS,bn,aeD a b]
 by_cases c3:a.un=b.un
 rotate_left
 .simp only[↓zA,sevalprocAttr,afd,aa c0,aa c1,aa c2,c3,ct,bS,bn,aeD a b]
 by_cases c4:a.cs=b.cs
 rotate_left
 .simp only[↓zA,sevalprocAttr,afd,aa c0,aa c1,aa c2,aa c3,c4,adl,l1,ct,bS,bn,aeD a b]
 by_cases c5:a.ns=b.ns
 rotate_left
 .simp only[↓zA,sevalprocAttr,afd,aa c0,aa c1,aa c2,aa c3,aa c4,c5,adl,abo,l1,l2,ct,bS,bn,aeD a b]
 by_cases c6:a.kys=b.kys
 rotate_left
 .simp only[↓zA,sevalprocAttr,afd,aa c0,aa c1,aa c2,aa c3,aa c4,aa c5,c6,adl,abo,l1,l2,k1,ct,bS,bn,aeD a b]
 by_cases c7:a.rfs=b.rfs
 rotate_left
 .simp only[↓zA,sevalprocAttr,afd,aa c0,aa c1,aa c2,aa c3,aa c4,aa c5,aa c6,c7,adl,abo,l1,l2,k1,k2,ct,bS,bn,aeD a b]
 by_cases c8:a.chs=b.chs
 rotate_left
 .simp only[↓zA,sevalprocAttr,afd,aa c0,aa c1,aa c2,aa c3,aa c4,aa c5,aa c6,aa c7,c8,adl,abo,ahd,l1,l2,l3,k1,k2,ct,bS,bn,aeD a b]
 by_cases c9:a.rws=b.rws
 rotate_left
 .simp only[↓zA,sevalprocAttr,afd,aa c0,aa c1,aa c2,aa c3,aa c4,aa c5,aa c6,aa c7,aa c8,c9,adl,abo,ahd,l1,l2,l3,k1,k2,k3,ct,bS,bn,aeD a b]
 by_cases c10:a.sts=b.sts
 rotate_left
 .simp only[↓zA,sevalprocAttr,afd,aa c0,aa c1,aa c2,aa c3,aa c4,aa c5,aa c6,aa c7,aa c8,aa c9,c10,adl,abo,ahd,l1,l2,l3,k1,k2,k3,k4,ct,bS,bn,aeD a b]
 by_cases c11:a.wh=b.wh
 rotate_left
 .simp only[↓zA,sevalprocAttr,afd,aa c0,aa c1,aa c2,aa c3,aa c4,aa c5,aa c6,aa c7,aa c8,aa c9,aa c10,c11,adl,abo,ahd,l1,l2,l3,l4,k1,k2,k3,k4,ct,bS,bn,aeD a b]
 by_cases c12:a.q=b.q
 rotate_left
 .simp only[↓zA,sevalprocAttr,afd,aa c0,aa c1,aa c2,aa c3,aa c4,aa c5,aa c6,aa c7,aa c8,aa c9,aa c10,aa c11,c12,adl,abo,ahd,l1,l2,l3,l4,k1,k2,k3,k4,k5,ct,bS,bn,aeD a b]
 simp only[↓zA,sevalprocAttr,afd,aa c0,aa c1,aa c2,aa c3,aa c4,aa c5,aa c6,aa c7,aa c8,aa c9,aa c10,aa c11,aa c12,adl,abo,ahd,l1,l2,l3,l4,k1,k2,k3,k4,k5,ct,bS,bn,aeD a b,bM]
def aA3(n:Int):Bool:=decide (-9223372036854775808<=n/\n<=9223372036854775807)
instance (n:Int):Decidable (I64 n):=by unfold I64;infer_instance
def aFm(P:Program)(T:TT)(t:Nat)(u:Option TypeDesc)(n:Int):eT P T t u .andNot (.of (.lit (.int .i64 n))) (.of (.lit (.int .i64 1)))=out (aQ (IntKind.i64.wrap ((BitVec.ofInt 64 n &&& ~~~BitVec.ofInt 64 1).toNat:Int))):=by simp[eT,fu,abI,aer,bE,out];rfl
def aAC(n:Int)(h:aA3 n=true):IntKind.i64.wrap ((BitVec.ofInt 64 n &&& ~~~BitVec.ofInt 64 1).toNat:Int)=0↔(n=0\/n=1):=by
 simp only[aA3,aV] at h
 have hx:∀ b:BitVec 64,(b &&& ~~~(1#64))=0#64↔(b=0#64\/b=1#64):=by
  intro b
  constructor
  .intro e
   have h1:∀ i:Nat,0<i->b.getLsbD i=false:=λi hi=>by
    have:=congrArg (λx:BitVec 64=>x.getLsbD i) e
    by_cases h64:i<64
    .have hi0:¬ i=0:=by omega
     simp only[BitVec.getLsbD_and,BitVec.getLsbD_not,BitVec.getLsbD_one,BitVec.getLsbD_zero,h64,hi0,fS,fw,cj,dH,aag] at this
     exact this
    .exact BitVec.getLsbD_of_ge b i aC
   have z1:∀ i:Nat,(1#64).getLsbD i=decide (i=0):=λi=>by simp[BitVec.getLsbD_one]
   rcases hb:b.getLsbD 0 with _|_
   .left
    apply BitVec.eq_of_getLsbD_eq
    intro i hi
    rw[BitVec.getLsbD_zero]
    rcases aaH i with rfl|hp
    .exact hb
    .exact h1 i hp
   .right
    apply BitVec.eq_of_getLsbD_eq
    intro i hi
    rw[z1]
    rcases aaH i with rfl|hp
    .rw[hb];rfl
    .rw[h1 i hp,bd aC]
  .rintro (rfl|rfl) <;> decide
 have ho:∀ m:Int,0<=m->m<18446744073709551616->(IntKind.i64.wrap m=0↔m=0):=λm h0 h1=>by
  rw[IntKind.wrap_i64]
  omega
 have hlt:=(BitVec.ofInt 64 n &&& ~~~BitVec.ofInt 64 1).isLt
 rw[ho _ aC aC]
 have e1:(((BitVec.ofInt 64 n &&& ~~~BitVec.ofInt 64 1).toNat:Int)=0)↔(BitVec.ofInt 64 n &&& ~~~(1#64))=0#64:=by
  rw[← BitVec.toNat_inj]
  have:BitVec.ofInt 64 1=1#64:=by decide
  rw[this]
  simp
 rw[e1,hx]
 have e2:∀ k:Int,-9223372036854775808<=k->k<=9223372036854775807->(BitVec.ofInt 64 n=BitVec.ofInt 64 k↔n=k):=λk h1 h2=>by
  constructor
  .intro e
   have:=congrArg BitVec.toInt e
   simp only[BitVec.toInt_ofInt] at this
   simp only[Int.bmod_def] at this
   omega
  .rintro rfl;rfl
 have z0:(0#64)=BitVec.ofInt 64 0:=by decide
 have z1:(1#64)=BitVec.ofInt 64 1:=by decide
 rw[z0,z1,e2 0 aC aC,e2 1 aC aC]
def aN6:=gm @Tryz.f203.eq_1 @zq @zT0 (kf aQb)
def aVi(n:Int):G1 203 [aQ n] (aM (inB n)):=by
 refine bB aQb ?_
 by_cases h1:-1000000000000000<=n
 .simp only[↓zA,sevalprocAttr,aN6,h1,inB]
 .simp only[↓zA,sevalprocAttr,aN6,h1,inB]
def bcu(n:Int)(K:An->Prop):cKp 203 [.of (ci n)] [] K↔K ⟨false,[aM (inB n)],[]⟩:=aH.k (aVi n) K
def bbf(s:ByteArray)(K:An->Prop):cKp 201 [.of (aG s),.of (.fn 202 [])] [] K↔K ⟨false,[aQ (Lib.idxFunc aia true s)],[]⟩ :=
 aH.k (aH.of_prim (show ixP [.of (aG s),.of (.fn 202 [])] []=_ by unfold ixP;simp only[am])) K
def anc(v:V):(ahV v).length=3:=rfl
def s0:(⟨#[]⟩ : ByteArray)=ByteArray.empty:=rfl
def akE:=ai (gq @Tryz.f112.eq_1 @zq @a3V @a7K @a7J @aiG) (gq @P3 @Q3 @P9 @Q9 @zT0 (kf aQU))
def awo(v:V)(hv:I64 v.n):G1 112 [.of (.agg (ahV v))] (aM (acZ v)):=by
 refine bB aQU ?_
 by_cases k3:v.k=3
 .have e:acZ v=(decide (v.n=0)&&alC v.s):=by simp[acZ,k3]
  by_cases hn:v.n=0
  .by_cases hl:(v.s.size:Int)<=100
   .have e2:alC v.s=decide (Lib.idxFunc aia true v.s<0):=by
     unfold alC
     have:v.s.size<=100:=by omega
     rw[dM this,aag]
     by_cases h:v.s.data.toList.all okB=true
     .rw[h,dM ((aBB v.s).2 h)]
     .rw[Bool.eq_false_iff.2 h,bd λe=>h ((aBB v.s).1 e)]
    simp only[↓zA,sevalprocAttr,akE,bbf,anc,k3,hn,hl,e,e2]
   .have e2:alC v.s=false:=by
     unfold alC
     have:¬ v.s.size<=100:=by omega
     rw[bd this,cj]
    simp only[↓zA,sevalprocAttr,akE,anc,k3,hn,hl,e,e2]
  .simp only[↓zA,sevalprocAttr,akE,anc,k3,hn,e]
 .by_cases hs:v.s=ByteArray.empty
  .by_cases k0:v.k=0
   .have e:acZ v=decide (v.n=0):=by simp[acZ,k0,hs]
    simp only[↓zA,sevalprocAttr,akE,Int.reduceEq,anc,k0,s0,hs,e]
   .by_cases k1:v.k=1
    .have e:acZ v=(decide (IntKind.i64.wrap ((BitVec.ofInt 64 v.n &&& ~~~BitVec.ofInt 64 1).toNat:Int)=0)):=by
      have h2:decide (IntKind.i64.wrap ((BitVec.ofInt 64 v.n &&& ~~~BitVec.ofInt 64 1).toNat:Int)=0)=decide (v.n=0\/v.n=1):=decide_eq_decide.2 (aAC v.n (dM hv))
      rw[h2]
      simp[acZ,k1,hs]
     simp only[↓zA,sevalprocAttr,akE,Int.reduceEq,anc,k1,s0,hs,e,aFm]
    .by_cases k2:v.k=2
     .have e:acZ v=inB v.n:=by simp[acZ,k2,hs]
      simp only[↓zA,sevalprocAttr,akE,bcu,Int.reduceEq,anc,k2,s0,hs,e]
     .have e:acZ v=false:=by simp[acZ,k0,k1,k2,k3]
      simp only[↓zA,sevalprocAttr,akE,anc,k3,k0,k1,k2,s0,hs,e]
  .have e:acZ v=false:=by simp[acZ,k3,hs]
   simp only[↓zA,sevalprocAttr,akE,anc,k3,s0,hs,e]
def akG(v:V)(K:An->Prop):cKp 112 [.of (.agg (ahV v))] [] K↔ifP (I64 v.n) (K ⟨false,[aM (acZ v)],[]⟩) (aiF Tryz.prog pr 112 [.of (.agg (ahV v))] K):=amr (awo v) K
def aOv(a b:Int):Instr.sameNow (.int .i64) (.int .i64 a) (.int .i64 b)=some (decide (a=b)):=by
 simp only[Instr.sameNow]
 by_cases h:a=b
 .subst h;simp
 .simp[h]
def aAP(s:S)(d:Option Nat)(x:X)(r:Nat)(es:List (Value×C)):aCD s d x r (some es)=some ((s.withO (s.objs.set r (Ob.map es))).put d x):=rfl
abbrev aad(a b c:Int):C:=.agg (shC ⟨a,b,c⟩)
def aRV:List (Value×C):=[(.int .i64 1,aad 0 0 0),(.int .i64 2,aad 0 0 0),(.int .i64 3,aad 1 1 0),(.int .i64 4,aad 1 1 0),(.int .i64 19,aad 1 1 0),(.int .i64 22,aad 3 3 0),(.int .i64 21,aad 2 65 0),(.int .i64 23,aad 2 129 0),(.int .i64 24,aad 0 64 0),(.int .i64 25,aad 0 1 0),(.int .i64 26,aad 0 0 1),(.int .i64 27,aad 0 0 1),(.int .i64 28,aad 1 1 1)]
def two:List Int:=[5,6,7,8,9,10,11,12,13,14,15,16,17,18,20]
def ahc(k:Nat):List (Value×C):=aRV++(two.take k).map λn=>(.int .i64 n,aad 2 2 0)
def aI4(tk:Tk)(a b c d e f g h i j k l m n o:Int):bW tk 15 (Pe.elemOf tP 66) (some [(0,[aQ a]),(1,[aQ b]),(2,[aQ c]),(3,[aQ d]),(4,[aQ e]),(5,[aQ f]),(6,[aQ g]),(7,[aQ h]),(8,[aQ i]),(9,[aQ j]),(10,[aQ k]),(11,[aQ l]),(12,[aQ m]),(13,[aQ n]),(14,[aQ o])])=out (.own tk 3 1 [ci a,ci b,ci c,ci d,ci e,ci f,ci g,ci h,ci i,ci j,ci k,ci l,ci m,ci n,ci o] 15):=by rw[E66];kernel_rfl
def azY(tk:Tk)(e z:Nat)(l:List Int)(n:Nat)(hn:n=l.length)(i:Int):bz tP 66 (.own tk e z (fl aa6 l) n) (.of (.lit (.int .i64 i)))=bz tP 66 (.of (slC aa6 l)) (.of (.lit (.int .i64 i))):=by
 subst hn
 rw[abY E66 _ _ i _ rfl,abY E66 _ _ i _ rfl]
theorem a3A:∀ k (h:k<two.length),amv (.int .i64) (.int .i64 two[k]) (.agg (shC ⟨2,2,0⟩)) (ahc k)=some (ahc (k+1))
 | 0,_=>rfl
 | 1,_=>rfl
 | 2,_=>rfl
 | 3,_=>rfl
 | 4,_=>rfl
 | 5,_=>rfl
 | 6,_=>rfl
 | 7,_=>rfl
 | 8,_=>rfl
 | 9,_=>rfl
 | 10,_=>rfl
 | 11,_=>rfl
 | 12,_=>rfl
 | 13,_=>rfl
 | 14,_=>rfl
 | k+15,h=>absurd h (by simp[two])
def alt:two.length=15:=rfl
def avp:=gz @Tryz.f109.eq_1 @zq @ay2 @aOe @afZ @P3 @Q3 @zT0 (kf aQX)
def eJ:aH Tryz.prog pr 109 [] [] ⟨false,[.mp 0],[.map (ahc 15)]⟩:=by
 refine bB aQX ?_
 simp -implicitDefEqProofs only[↓zA,sevalprocAttr,avp,aJn (ht:=ay2),ajR,asE,aAP,aoG,amv,aeK,aOv,Int.reduceEq,aI4]
 refine abJ two.length (λk s=>s.fr 1=.mp 0/\s.fr 19=.own (.nm 3 0 0) 3 1 (fl aa6 two) 15/\s.fr 20=aQ 15/\s.fr 21=aQ k/\s.objs=[.map (ahc k)]) ?_ ?_
 .simp -implicitDefEqProofs only[↓zA,sevalprocAttr,avp]
  exact⟨rfl,rfl⟩
 .rintro k s hk ⟨f1,f19,f20,f21,ho⟩
  have e15:((k:Int)<15)=(k<two.length):=propext (by rw[alt];omega)
  rcases aA k two.length with c1|c1
  .have hw:=fq k (by rw[alt] at hk;omega)
   simp -implicitDefEqProofs only[↓zA,sevalprocAttr,avp,f1,f19,f20,f21,ho,e15,azY,alt,eX c1,hw,ayX (ht:=ay2),ajR,asE,aAP,aoG,a3A k c1]
   have c2:k<15:=by rw[alt] at c1;exact c1
   simp -implicitDefEqProofs only[c2,am]
  .have e:k=two.length:=by omega
   subst e
   simp -implicitDefEqProofs only[↓zA,sevalprocAttr,avp,f1,f20,f21,ho,alt]
def shX(op:Int):X:=match aiM op with
 | some (a,b,c)=>.tup [.of (.agg (shC ⟨a,b,c⟩)),aM true]
 | none=>.tup [.agg [aQ 0,aQ 0,aQ 0],aM false]
def aIe(n m:Int)(c:C)(es:List (Value×C))(i:Nat):aeK (.int .i64) (.int .i64 n) ((.int .i64 m,c)::es) i=if n=m then some (some i) else aeK (.int .i64) (.int .i64 n) es (i+1):=by
 simp only[aeK,aOv]
 by_cases h:n=m <;> simp[h]
def aMA(n:Int)(i:Nat):aeK (.int .i64) (.int .i64 n) [] i=some none:=rfl
def azO(objs:List Ob)(op:Int)(ho:objs[0]?=some (.map (ahc 15))):aei tP objs 161 (.mp 0) (.of (.lit (.int .i64 op))) true=out (shX op):=by
 have hm:agE objs (.mp 0)=some (ahc 15):=by simp only[agE,ho]
 simp only[aei,ay2,fu,hm]
 have e:ahc 15=[(.int .i64 1,aad 0 0 0),(.int .i64 2,aad 0 0 0),(.int .i64 3,aad 1 1 0),(.int .i64 4,aad 1 1 0),(.int .i64 19,aad 1 1 0),(.int .i64 22,aad 3 3 0),(.int .i64 21,aad 2 65 0),(.int .i64 23,aad 2 129 0),(.int .i64 24,aad 0 64 0),(.int .i64 25,aad 0 1 0),(.int .i64 26,aad 0 0 1),(.int .i64 27,aad 0 0 1),(.int .i64 28,aad 1 1 1),
  (.int .i64 5,aad 2 2 0),(.int .i64 6,aad 2 2 0),(.int .i64 7,aad 2 2 0),(.int .i64 8,aad 2 2 0),(.int .i64 9,aad 2 2 0),(.int .i64 10,aad 2 2 0),(.int .i64 11,aad 2 2 0),(.int .i64 12,aad 2 2 0),(.int .i64 13,aad 2 2 0),(.int .i64 14,aad 2 2 0),(.int .i64 15,aad 2 2 0),(.int .i64 16,aad 2 2 0),(.int .i64 17,aad 2 2 0),(.int .i64 18,aad 2 2 0),(.int .i64 20,aad 2 2 0)]:=rfl
 have hz:akB tP 159=some (.agg [aQ 0,aQ 0,aQ 0]):=by kernel_rfl
 by_cases h:op=1\/op=2\/op=3\/op=4\/op=5\/op=6\/op=7\/op=8\/op=9\/op=10\/op=11\/op=12\/op=13\/op=14\/op=15\/op=16\/op=17\/op=18\/op=19\/op=20\/op=21\/op=22\/op=23\/op=24\/op=25\/op=26\/op=27\/op=28
 .rcases h with h|h|h|h|h|h|h|h|h|h|h|h|h|h|h|h|h|h|h|h|h|h|h|h|h|h|h|h <;> (subst h;rfl)
 .simp only[af9] at h
  rw[e]
  simp only[aIe,h,av,aMA,hz]
  have hs:aiM op=none:=by
   unfold aiM
   simp only[h,acz,av]
   rw[ar aC]
  simp only[shX,hs]
  rfl
def u8C(c:UInt8):List C:=[.lit (.int .u8 (c.toNat:Nat))]
def aIU(s:List UInt8):C.sl (akt (aK s)) (aK s).size=slC u8C s:=by
 have h1:(aK s).data.toList=s:=by simp[aK]
 rw[afw,slC,akt,h1,fl]
 congr 1
 induction s with
 | nil=>rfl
 | cons x r ih =>
  have h2:(aK r).data.toList=r:=by simp[aK]
  simp[u8C,ih h2]
def aM3(s:List UInt8):aed tP 9 64 (.of (.lit (.string (aK s))))=out (.of (slC u8C s)):=by
 rw[aUj (e:=5) (by rw[T9];rfl) (by rw[T64];rfl) (by rw[T5];rfl),aIU]
def aYl(l)(i:Int):bz tP 64 (.of (slC u8C l)) (.of (.lit (.int .i64 i)))=ad0 (aaA l i) λx=>.of (.ref (u8C x++fl u8C (l.drop (i.toNat+1)))):=ac1 E64 (λ_=>rfl) aI l i
def aXV(l):fV (some (.slice 5)) (.of (slC u8C l))=out (aQ l.length):=acQ u8C l rfl
def a3p(x:UInt8)(r:List C):C.ref (u8C x++r)=C.ref (.lit (.int .u8 (x.toNat:Nat))::r):=rfl
def aVG(c:UInt8)(n:Nat)(h:n<256):((c.toNat:Int)=(n:Int))=(c=UInt8.ofNat n):=by
 apply propext
 constructor
 .intro e
  apply UInt8.toNat_inj.1
  rw[UInt8.toNat_ofNat']
  omega
 .intro e
  subst e
  rw[UInt8.toNat_ofNat']
  omega
def u97(c:UInt8):((97:Int)<=(c.toNat:Int))=(97<=c.toNat):=propext aC
def aVH(c:UInt8):((c.toNat:Int)<=122)=(c.toNat<=122):=propext aC
def u95(c:UInt8):((c.toNat:Int)=95)=(c=95):=aVG c 95 aI
def u48(c:UInt8):((c.toNat:Int)<48)=¬(48<=c.toNat):=propext aC
def u57(c:UInt8):((57:Int)<(c.toNat:Int))=¬(c.toNat<=57):=propext aC
def aCt:=gm @Tryz.f204.eq_1 @zq @zT0 (kf aQa)
def azG(c:UInt8):G1 204 [.of (.lit (.int .u8 (c.toNat:Nat)))] (aM (eE c)):=by
 refine bB aQa ?_
 by_cases c1:97<=c.toNat
 .by_cases c2:c.toNat<=122
  .simp only[↓zA,sevalprocAttr,aCt,u97,aVH,c1,c2,eE]
  .simp only[↓zA,sevalprocAttr,aCt,u97,aVH,u95,c1,c2,eE]
 .simp only[↓zA,sevalprocAttr,aCt,u97,u95,c1,eE]
def apQ(c:UInt8)(K:An->Prop):cKp 204 [.of (.lit (.int .u8 (c.toNat:Nat)))] [] K↔K ⟨false,[aM (eE c)],[]⟩:=aH.k (azG c) K
def akL(c:UInt8):Bool:=eE c||cJ c
def aDT(n:Nat):((20:Int)<(n:Int))=(20<n):=propext aC
def alj{α:Type}(x:α)(r:List α):(x::r=[])=False:=by simp
def aud{α:Type}(x:α)(r:List α):aaA (x::r) 0=some x:=rfl
def aJi{α:Type}(p:α->Bool)(x:α)(r:List α):(x::r).all p=(p x&&r.all p):=rfl
def ahn:=gv @Tryz.f113.eq_1 @zq @U64 @T9 @a7I @Q5 @zT0 (kf aQT)
def apg(s:List UInt8):G1 113 [.of (aG (aK s))] (aM (dq s)):=by
 refine bB aQT ?_
 cases s with
 | nil=>simp only[↓zA,sevalprocAttr,ahn,dq]
 | cons x r =>
  by_cases c0:20<r.length+1
  .have e:dq (x::r)=false:=by
    simp only[dq,bd (show ¬(r.length+1<=20) from by omega),cj]
   simp only[↓zA,sevalprocAttr,ahn,alj,aDT,c0,e]
  .have e:dq (x::r)=(eE x&&(x::r).all akL):=by
    simp only[dq,dM (show r.length+1<=20 from by omega),aag,aJi,akL]
    cases eE x <;> rfl
   rw[e]
   cases c1:eE x
   .simp only[↓zA,sevalprocAttr,ahn,alj,aDT,c0,apQ,aud,c1]
   .simp only[↓zA,sevalprocAttr,ahn,alj,aDT,c0,apQ,aud,c1,aM3,aXV]
    refine abJ (x::r).length (λk s=>s.fr 3=.of (.fn 204 [])/\s.fr 21=.of (slC u8C (x::r))/\s.fr 22=aQ (x::r).length/\s.fr 23=aQ k/\s.objs=[]/\(x::r).all akL=((x::r).drop k).all akL) ?_ ?_
    .simp only[↓zA,sevalprocAttr,ahn]
     try exact rfl
    .have c0':(x::r).length<=20:=by simp only[aN];omega
     generalize x::r=l at c0'
     rintro k s hk ⟨f3,f21,f22,f23,ho,E⟩
     rcases aA k l.length with d1|d1
     .have hw:=fq k aC
      rw[agc d1,aJi] at E
      simp only[↓zA,sevalprocAttr,ahn,f3,f21,f22,f23,ho,ba,d1,eX d1,hw,aYl,a3p,apQ,u48,u57]
      cases d2:eE l[k]
      .by_cases d3:48<=l[k].toNat
       .by_cases d4:l[k].toNat<=57
        .simp only[akL,cJ,d2,d3,d4,fS,agn,bh,cO] at E
         simp only[sevalprocAttr,ahn,d3,d4,E]
        .simp only[akL,cJ,d2,d3,d4,fw,cj,ag0,cY] at E
         simp only[sevalprocAttr,ahn,d3,d4,E]
       .simp only[akL,cJ,d2,d3,fw,cY,ag0] at E
        simp only[sevalprocAttr,ahn,d3,E]
      .simp only[akL,d2,eA,cO] at E
       simp only[sevalprocAttr,ahn,E]
     .have e:k=l.length:=by omega
      subst e
      rw[df,agZ] at E
      simp only[↓zA,sevalprocAttr,ahn,f22,f23,ho,ba,dE,E]
def fP(s:List UInt8)(K:An->Prop):cKp 113 [.of (aG (aK s))] [] K↔K ⟨false,[aM (dq s)],[]⟩:=aH.k (apg s) K
def aMv(l:List (List UInt8)):FnB (λx=>aG (aK x)) 113 [] dq l:=⟨aXH,aU1,λx _=>apg x⟩
def gh{α:Type}(l:List α)(a b:Nat)(p:α->Bool):cw l (a:Int) (b:Int) p=(eI l.length a b&&l.all p):=by
 simp only[cw,eI]
 congr 2 <;> simp
def aOd:=gp @Tryz.f114.eq_1 @zq @ajF @zT0 (kf aQS)
def aDB(s:List UInt8):G1 114 [.of (aG (aK s))] (aM (ads s)):=by
 refine bB aQS ?_
 by_cases c:s=[]
 .simp only[↓zA,sevalprocAttr,aOd,c,ads]
 .simp only[↓zA,sevalprocAttr,aOd,fP,c,ads]
def af6(s:List UInt8)(K:An->Prop):cKp 114 [.of (aG (aK s))] [] K↔K ⟨false,[aM (ads s)],[]⟩:=aH.k (aDB s) K
def a2y:=gp @zq @a7u @ajF @zT0 (kf aQu)
def azF(l:List (List UInt8))(a b:Int)(h:l.length<=4611686018427387903):G1 138 [.of (slC bU l),.of (ci a),.of (ci b)] (aM (cw l a b dq)):=by
 refine bB aQu ?_
 simp only[Tryz.f138,↓zA,sevalprocAttr,a2y,λK=>aze l a b dq 113 [] ⟨h,aMv l⟩ K]
def alI(l:List (List UInt8))(a b:Int)(K:An->Prop):cKp 138 [.of (slC bU l),.of (ci a),.of (ci b)] [] K↔ifP (l.length<=4611686018427387903) (K ⟨false,[aM (cw l a b dq)],[]⟩) (aiF Tryz.prog pr 138 [.of (slC bU l),.of (ci a),.of (ci b)] K):=amr (azF l a b) K
def amf{α:Type}(l:List α)(p:α->Bool):cw l 1 16 p=(eI l.length 1 16&&l.all p):=gh l 1 16 p
def avm:=ai (gq @Tryz.f133.eq_1 @zq @a4P @ajF @aiq @P9) (gp @Q9 @P3 @Q3 @zT0 (kf aQz))
def aM7(c:Cd):G1 133 [.of (.agg (cdC c))] (aM (ai6 c)):=by
 refine bB aQz ?_
 cases c0:dq c.nm
 .simp only[↓zA,sevalprocAttr,avm,fP,c0,ai6]
 .by_cases c1:1<=c.ty
  .by_cases c2:c.ty<=3
   .simp only[↓zA,sevalprocAttr,avm,fP,c0,c1,c2,ai6]
   .simp only[↓zA,sevalprocAttr,avm,fP,c0,c1,c2,ai6]
  .simp only[↓zA,sevalprocAttr,avm,fP,c0,c1,ai6]
def a2A:=gu @zq @a4O @aE2 @ad8 @bQ @zT0 (kf aQx)
def aL8(k:Kd)(h:k.ns.length<=4611686018427387903):G1 135 [.of (.agg (kdC k))] (aM (amz k)):=by
 refine bB aQx ?_
 simp only[Tryz.f135,↓zA,sevalprocAttr,a2A,alI,h,amf,amz,abc]
def aCw:=ai (gq @Tryz.f137.eq_1 @zq @a4N @aE2 @ajF @afX) (gp @bQ @P9 @Q9 @zT0 (kf aQv))
def aC5(r:Rd)(h:r.ns.length<=4611686018427387903/\r.to.length<=4611686018427387903):G1 137 [.of (.agg (rdC r))] (aM (aj8 r)):=by
 refine bB aQv ?_
 cases c0:cw r.ns 1 16 dq
 .simp only[↓zA,sevalprocAttr,aCw,alI,h,c0,aj8,abc,← amf]
 .cases c1:dq r.tb
  .simp only[↓zA,sevalprocAttr,aCw,alI,fP,h,c0,c1,aj8,abc,← amf]
  .simp only[↓zA,sevalprocAttr,aCw,alI,fP,h,c0,c1,aj8,abc,← amf]
def avo:=ai (gq @Tryz.f122.eq_1 @zq @a4R @ajF @agB @P9) (gp @Q9 @P3 @Q3 @zT0 (kf aQK))
def aNj(o:Od):G1 122 [.of (.agg (odC o))] (aM (ai5 o)):=by
 refine bB aQK ?_
 by_cases c0:o.nm=[]
 .by_cases c1:1<=o.pl
  .simp only[↓zA,sevalprocAttr,avo,c0,c1,ai5,aiQ,fR]
   try rfl
  .simp only[↓zA,sevalprocAttr,avo,c0,c1,ai5,aiQ,fR]
 .cases c1:dq o.nm
  .simp only[↓zA,sevalprocAttr,avo,fP,c0,c1,ai5,fR]
  .simp only[↓zA,sevalprocAttr,avo,fP,c0,c1,ai5,fR]
def ayC(tk:Tk)(a b c d:ByteArray):bW tk 4 (Pe.elemOf tP 43) (some [(0,[.of (.lit (.string a))]),(1,[.of (.lit (.string b))]),(2,[.of (.lit (.string c))]),(3,[.of (.lit (.string d))])])=out (.own tk 9 1 [.lit (.string a),.lit (.string b),.lit (.string c),.lit (.string d)] 4):=by rw[E43];rfl
def aYn:C.sl [aG {data:=#[99,111,117,110,116]},aG {data:=#[115,117,109]},aG {data:=#[109,105,110]},aG {data:=#[109,97,120]}] 4=slC bU [[99,111,117,110,116],[115,117,109],[109,105,110],[109,97,120]]:=rfl
def aYo(s:List UInt8):decide (s∈[[99,111,117,110,116],[115,117,109],[109,105,110],[109,97,120]])=aiV s:=by
 simp only[aiV,alY,bj,bH,dJ,Bool.decide_or,Bool.or_assoc]
 rfl
def a2O:=gp @zq @a7H @bQ @zT0 (kf aQR)
def auW(s:List UInt8):G1 115 [.of (aG (aK s))] (aM (aiV s)):=by
 refine bB aQR ?_
 rw[← aYo]
 simp only[Tryz.f115,↓zA,sevalprocAttr,a2O,ayC,aYn,aFT]
def aeJ(s:List UInt8)(K:An->Prop):cKp 115 [.of (aG (aK s))] [] K↔K ⟨false,[aM (aiV s)],[]⟩:=aH.k (auW s) K
def aky(l:List Xp):Prop:=∀ x∈l,G1 58 [.of (.agg (xpC x))] (aM (ew x))
def atl(l:List Qy):Prop:=∀ x∈l,G1 60 [.of (.agg (qyC x))] (aM (abU x))
def zX{l:List Xp}(h:aky l)(hw:lsW xpW l<=WL)(a b:Int)(K:An->Prop):cKp 110 [.of (slC xpC l),.of (ci a),.of (ci b),.of (.fn 58 [])] [] K↔K ⟨false,[aM (cw l a b ew)],[]⟩:=by
 have h1:=dL xpW l λx _=>af0 x
 simp only[WL] at *
 exact aGb l a b ew _ [] ⟨by omega,a3R,a0A,h⟩ K
def zQ{l:List Qy}(h:atl l)(hw:lsW qyW l<=WL)(a b:Int)(K:An->Prop):cKp 111 [.of (slC qyC l),.of (ci a),.of (ci b),.of (.fn 60 [])] [] K↔K ⟨false,[aM (cw l a b abU)],[]⟩:=by
 have h1:=dL qyW l λx _=>aiv x
 simp only[WL] at *
 exact aCN l a b abU _ [] ⟨by omega,a3P,a0y,h⟩ K
def aG6{e:Xp}(h:aiM e.op=none):ew e=false:=by cases e;rw[ew];simp only[Xp.op] at h;rw[h]
def aG5{e:Xp}{lo hi n:Nat}(h:aiM e.op=some (lo,hi,n)):ew e=(cw e.ks lo hi ew&&cw e.sb n n abU&&Go.Tab.abL e.op e.v e.tb e.nm e.di e.ks.length):=by
 cases e
 rw[ew]
 simp only[Xp.op] at h
 rw[h]
 simp only[Xp.op,Xp.v,Xp.tb,Xp.nm,Xp.di,Xp.ks,Xp.sb,gh,akQ,akS]
 have hn:∀ m:Nat,eI m n n=decide (m=n):=λm=>by
  rw[eY];simp only[eI,aj,aV];omega
 rw[hn]
 generalize Go.Tab.abL _ _ _ _ _ _=q
 generalize eI _ _ _=q2
 generalize List.all _ ew=q3
 generalize List.all _ abU=q4
 generalize (decide (List.length _=n))=q5
 cases q <;> cases q2 <;> cases q3 <;> cases q4 <;> cases q5 <;> rfl
def aC2(k n:Int)(s tb nm:ByteArray)(di:Bool):G1 116 [.of (.agg [ci 0,ci k,ci n,aG s,aG tb,aG nm,cb di,C.sl [] 0,C.sl [] 0]),.of (.agg [ci 0,ci 0,ci 0,aG {data:=#[]},aG {data:=#[]},aG {data:=#[]},cb false,C.sl [] 0,C.sl [] 0])] (aM (decide (k=0/\n=0/\s={data:=#[]})&&decide (tb={data:=#[]})&&decide (nm={data:=#[]})&&!di)):=by
 have h:=apb (.mk 0 ⟨k,n,s⟩ tb.data.toList nm.data.toList di [] []) (.mk 0 ⟨0,0,{data:=#[]}⟩ [] [] false [] []) (by simp[lsW,Xp.ks,Xp.sb,WL]) (λx hx=>by simp[Xp.ks] at hx) (λx hx=>by simp[Xp.sb] at hx)
 have e1:aK tb.data.toList=tb:=by cases tb;simp[aK]
 have e2:aK nm.data.toList=nm:=by cases nm;simp[aK]
 have e3:∀ b:ByteArray,(b.data.toList=[])=(b={data:=#[]}):=λb=>propext ⟨λh=>by cases b;simp at h;rw[h],λh=>by rw[h]⟩
 have e4:xpC (.mk 0 ⟨k,n,s⟩ tb.data.toList nm.data.toList di [] [])=[ci 0,ci k,ci n,aG s,aG tb,aG nm,cb di,C.sl [] 0,C.sl [] 0]:=by rw[eU];simp only[Xp.op,Xp.v,Xp.tb,Xp.nm,Xp.di,Xp.ks,Xp.sb,e1,e2];rfl
 have e5:xpC (.mk 0 ⟨0,0,{data:=#[]}⟩ [] [] false [] [])=[ci 0,ci 0,ci 0,aG {data:=#[]},aG {data:=#[]},aG {data:=#[]},cb false,C.sl [] 0,C.sl [] 0]:=by rw[eU];rfl
 rw[e4,e5] at h
 simp only[ajo,Xp.op,Xp.v,Xp.tb,Xp.nm,Xp.di,Xp.ks,Xp.sb,e3,← aCC,cM,aak] at h
 have e6:∀ i:Decidable ((k=0/\n=0/\s={data:=#[]})/\tb={data:=#[]}/\nm={data:=#[]}/\di=false),@decide _ i=(decide (k=0/\n=0/\s={data:=#[]})&&decide (tb={data:=#[]})&&decide (nm={data:=#[]})&&!di):=λi=>by
  rw[eY]
  simp only[aV,aj,cV,aja]
 rw[e6] at h
 exact h
def ah5(k n:Int)(s tb nm:ByteArray)(di:Bool)(K:An->Prop):cKp 116 [.of (.agg [ci 0,ci k,ci n,aG s,aG tb,aG nm,cb di,C.sl [] 0,C.sl [] 0]),.of (.agg [ci 0,ci 0,ci 0,aG {data:=#[]},aG {data:=#[]},aG {data:=#[]},cb false,C.sl [] 0,C.sl [] 0])] [] K↔K ⟨false,[aM (decide (k=0/\n=0/\s={data:=#[]})&&decide (tb={data:=#[]})&&decide (nm={data:=#[]})&&!di)],[]⟩:=aH.k (aC2 k n s tb nm di) K
def amg(a:List UInt8):(aK a=({data:=#[99,111,117,110,116]}:ByteArray))=(a=alY):=ct a alY
def acC(n:Nat):((n:Int)=0)=(n=0):=propext aC
def adE(v:V):decide (v=al6)=decide (v.k=0/\v.n=0/\v.s={data:=#[]}):=by
 rw[eY]
 simp only[aV,← aCC]
 exact bf
def aez:=gm (gv @Tryz.f58.eq_1 @zq @a30 @baw @a8a @ay2 @a3Z @aoZ) (gv @av2 @a3Y @a79 @ajF @aE4 @a78 @ak2 @aiG) (gv @bF @aOe @eo @eZ @amW @ayr @P3 @Q3) (gq @P9 @Q9 @P4 @Q4 @zT0 (kf aZc))
def aIf(e:Xp)(hw:xpW e<=WL)(hv:I64 e.v.n)(i1:aky e.ks)(i2:atl e.sb):G1 58 [.of (.agg (xpC e))] (aM (ew e)):=by
 have hw':=aiI e
 simp only[WL] at hw
 have kx:=zX i1 (by simp only[WL];omega)
 have kq:=zQ i2 (by simp only[WL];omega)
 have ls:=azO [.map (ahc 15)] e.op rfl
 refine bB aZc ?_
 cases hs:aiM e.op with
 | none =>
  rw[aG6 hs]
  simp only[↓zA,sevalprocAttr,aez,adh eJ aa7 abV,ls,shX,hs]
 | some p =>
  obtain⟨lo,hi,n⟩:=p
  rw[aG5 hs]
  cases c1:cw e.ks lo hi ew
  .simp only[↓zA,sevalprocAttr,aez,adh eJ aa7 abV,ls,shX,hs,kx,c1]
  .cases c2:cw e.sb n n abU
   .simp only[↓zA,sevalprocAttr,aez,adh eJ aa7 abV,ls,shX,hs,kx,kq,c1,c2]
   .by_cases o1:e.op=1
    .cases r1:acZ e.v
     .simp only[↓zA,sevalprocAttr,aez,adh eJ aa7 abV,ls,shX,hs,kx,kq,c1,c2,akG,hv,Go.Tab.abL,bM,fR,aa o1,r1]
     .by_cases r2:e.v.k=2
      .by_cases r3:0<=e.v.n
       .simp only[↓zA,sevalprocAttr,aez,adh eJ aa7 abV,ls,shX,hs,kx,kq,c1,c2,akG,hv,ah5,Go.Tab.abL,bM,fR,aa o1,r1,aa r2,r3,show ¬e.v.n<0 from by omega]
       .simp only[↓zA,sevalprocAttr,aez,adh eJ aa7 abV,ls,shX,hs,kx,kq,c1,c2,akG,hv,Go.Tab.abL,bM,fR,aa o1,r1,aa r2,r3,show e.v.n<0 from by omega]
      .simp only[↓zA,sevalprocAttr,aez,adh eJ aa7 abV,ls,shX,hs,kx,kq,c1,c2,akG,hv,ah5,Go.Tab.abL,bM,fR,aa o1,r1,r2]
    .by_cases o2:e.op=2
     .cases r1:dq e.nm
      .simp only[↓zA,sevalprocAttr,aez,adh eJ aa7 abV,ls,shX,hs,kx,kq,c1,c2,fP,Go.Tab.abL,adE,bM,o1,aa o2,r1]
      .cases r2:ads e.tb
       .simp only[↓zA,sevalprocAttr,aez,adh eJ aa7 abV,ls,shX,hs,kx,kq,c1,c2,fP,af6,Go.Tab.abL,adE,bM,o1,aa o2,r1,r2]
       .simp only[↓zA,sevalprocAttr,aez,adh eJ aa7 abV,ls,shX,hs,kx,kq,c1,c2,fP,af6,ah5,Go.Tab.abL,adE,bM,o1,aa o2,r1,r2]
     .by_cases o3:e.op=24
      .cases r1:dq e.nm
       .simp only[↓zA,sevalprocAttr,aez,adh eJ aa7 abV,ls,shX,hs,kx,kq,c1,c2,fP,Go.Tab.abL,adE,bM,o1,o2,aa o3,r1]
       .cases r2:aiV e.nm
        .simp only[↓zA,sevalprocAttr,aez,adh eJ aa7 abV,ls,shX,hs,kx,kq,c1,c2,fP,aeJ,ah5,Go.Tab.abL,adE,bM,o1,o2,aa o3,r1,r2]
        .simp only[↓zA,sevalprocAttr,aez,adh eJ aa7 abV,ls,shX,hs,kx,kq,c1,c2,fP,aeJ,Go.Tab.abL,adE,bM,o1,o2,aa o3,r1,r2]
      .by_cases o4:e.op=25
       .cases r1:aiV e.nm
        .simp only[↓zA,sevalprocAttr,aez,adh eJ aa7 abV,ls,shX,hs,kx,kq,c1,c2,aeJ,Go.Tab.abL,adE,bM,o1,o2,o3,aa o4,r1]
        .by_cases r2:e.ks.length=0
         .by_cases r3:e.nm=alY
          .cases r4:e.di
           .simp only[↓zA,sevalprocAttr,aez,adh eJ aa7 abV,ls,shX,hs,kx,kq,c1,c2,aeJ,ah5,Go.Tab.abL,adE,bM,o1,o2,o3,aa o4,r1,r2,amg,aa r3,r4]
           .simp only[↓zA,sevalprocAttr,aez,adh eJ aa7 abV,ls,shX,hs,kx,kq,c1,c2,aeJ,Go.Tab.abL,adE,bM,o1,o2,o3,aa o4,r1,r2,amg,aa r3,r4]
          .simp only[↓zA,sevalprocAttr,aez,adh eJ aa7 abV,ls,shX,hs,kx,kq,c1,c2,aeJ,Go.Tab.abL,adE,bM,o1,o2,o3,aa o4,r1,r2,amg,r3]
         .have r3:e.ks.length=1:=by
           rw[o4] at hs
           simp only[aiM] at hs
           simp at hs
           obtain⟨rfl,rfl,rfl⟩:=hs
           simp only[cw,aj,aV] at c1
           omega
          simp only[↓zA,sevalprocAttr,aez,adh eJ aa7 abV,ls,shX,hs,kx,kq,c1,c2,aeJ,ah5,Go.Tab.abL,adE,bM,Int.reduceEq,o1,o2,o3,aa o4,r1,r3,Nat.reduceEqDiff]
       .simp only[↓zA,sevalprocAttr,aez,adh eJ aa7 abV,ls,shX,hs,kx,kq,c1,c2,ah5,Go.Tab.abL,adE,bM,o1,o2,o3,o4]
def aSJ(i:Im):ah9 i=if i.st then ads i.tb&&aqm i.e&&decide (i.az=[]) else decide (i.tb=[])&&ads i.az&&ew i.e:=by cases i;rw[ah9];rfl
def aq9(f:Fm):aau f=if f.kd=1\/f.kd=2 then 1 else (f.ks.map aau).sum:=by
 have h:∀ l:List Fm,amI l=(l.map aau).sum:=λl=>by
  induction l with
  | nil=>rfl
  | cons x r ih=>rw[amI,ih];simp
 cases f;rw[aau,h];rfl
def aSK(f:Fm):ae9 f=if f.kd=1 then dq f.nm&&ads f.az&&decide (f.sb.length+f.ks.length+f.on.length=0)
  else if f.kd=2 then decide (f.nm=[])&&dq f.az&&cw f.sb 1 1 abU&&decide (f.ks.length+f.on.length=0)
  else if f.kd=3\/f.kd=4\/f.kd=5 then decide (f.nm=[])&&decide (f.az=[])&&decide (f.sb.length=0)&&cw f.ks 2 2 ae9&&cw f.on (if f.kd=3 then 0 else 1) (if f.kd=3 then 0 else 1) ew
  else false:=by
 have h1:cw f.sb 1 1 abU=(eI f.sb.length 1 1&&f.sb.all abU):=gh _ 1 1 _
 have h2:cw f.ks 2 2 ae9=(eI f.ks.length 2 2&&f.ks.all ae9):=gh _ 2 2 _
 have h3:cw f.on (if f.kd=3 then 0 else 1) (if f.kd=3 then 0 else 1) ew=(decide (f.on.length=if f.kd=3 then 0 else 1)&&f.on.all ew):=by
  split
  .rw[show cw f.on 0 0 ew=_ from gh _ 0 0 _]
   congr 1
   rw[eY];simp only[eI,aj,aV];omega
  .rw[show cw f.on 1 1 ew=_ from gh _ 1 1 _]
   congr 1
   rw[eY];simp only[eI,aj,aV];omega
 rw[h1,h2,h3]
 cases f
 rw[ae9]
 simp only[Fm.kd,Fm.nm,Fm.az,Fm.sb,Fm.ks,Fm.on,akQ,akS,anF,afH]
 rfl
def agG(f:Fm):Bool:=ae9 f&&decide (aau f<=8)
def aSI(q:Qy):abU q=(decide (-1<=q.li)&&decide (q.li<=aiQ)&&decide (0<=q.sk)&&decide (q.sk<=aiQ)&&cw q.od 0 64 ai5 &&
  (if q.op=1 then !q.al&&decide (q.ks.length=0)&&cw q.its 1 64 ah9&&cw q.fr 0 1 agG&&cw q.wh 0 1 ew&&cw q.gr 0 64 ew&&cw q.hv 0 1 ew
   else if q.op=2\/q.op=3\/q.op=4 then cw q.ks 2 2 abU&&!q.di&&decide (q.its.length+q.fr.length+q.wh.length+q.gr.length+q.hv.length=0)
   else false)):=by
 have h0:cw q.od 0 64 ai5=_:=gh q.od 0 64 ai5
 have h1:cw q.its 1 64 ah9=_:=gh q.its 1 64 ah9
 have h2:cw q.fr 0 1 agG=_:=gh q.fr 0 1 agG
 have h3:cw q.wh 0 1 ew=_:=gh q.wh 0 1 ew
 have h4:cw q.gr 0 64 ew=_:=gh q.gr 0 64 ew
 have h5:cw q.hv 0 1 ew=_:=gh q.hv 0 1 ew
 have h6:cw q.ks 2 2 abU=_:=gh q.ks 2 2 abU
 have h7:decide (q.ks.length=0)=eI q.ks.length 0 0:=by rw[eY];simp only[eI,aj,aV];omega
 have h8:q.fr.all agG=(q.fr.all ae9&&q.fr.all λf=>decide (aau f<=8)):=by
  induction q.fr with
  | nil=>rfl
  | cons x r ih =>
   simp only[agm,ih,agG]
   cases ae9 x <;> cases decide (aau x<=8) <;> simp
 rw[h0,h1,h2,h3,h4,h5,h6,h7,h8]
 cases q
 rw[abU]
 simp only[Qy.op,Qy.al,Qy.ks,Qy.di,Qy.its,Qy.fr,Qy.wh,Qy.gr,Qy.hv,Qy.od,Qy.li,Qy.sk,akQ,akS,anF,atV,afH]
 rfl
def aL0(n:Nat):∀ f:Fm,fmW f<=n->aau f<=fmW f:=by
 induction n with
 | zero=>intro f h;have:=agb f;omega
 | succ n ih =>
  intro f h
  rw[aq9]
  rw[afN] at h ⊢
  split
  .omega
  .have:∀ l:List Fm,lsW fmW l<=n+1->(l.map aau).sum<=lsW fmW l:=λl=>by
    induction l with
    | nil=>simp
    | cons x r ih2 =>
     intro hl
     have hx:=dC (w:=fmW) (l:=x::r) (x:=x) aT
     have h1:=ih x aC
     simp only[lsW,bc,dF] at hl ih2 ⊢
     have h2:=ih2 aC
     omega
   have:=this f.ks aC
   omega
def a2X(l:List Fm):(l.map aau).sum<=lsW fmW l:=by
 induction l with
 | nil=>simp
 | cons x r ih =>
  have:=aL0 (fmW x) x (ae _)
  simp only[lsW,bc,dF] at ih ⊢
  omega
def aNN(l:List Im):Prop:=∀ x∈l,G1 124 [.of (.agg (imC x))] (aM (ah9 x))
def aNM(l:List Fm):Prop:=∀ x∈l,G1 215 [.of (.agg (fmC x))] (aM (ae9 x))
def aNO(l:List Fm):Prop:=∀ x∈l,G1 126 [.of (.agg (fmC x))] (aM (agG x))
def a0W(l:List Fm):Prop:=∀ x∈l,G1 216 [.of (.agg (fmC x))] (aQ (aau x))
def zI{l:List Im}(h:aNN l)(hw:lsW imW l<=WL)(a b:Int)(K:An->Prop):cKp 123 [.of (slC imC l),.of (ci a),.of (ci b),.of (.fn 124 [])] [] K↔K ⟨false,[aM (cw l a b ah9)],[]⟩:=by
 have h1:=dL imW l λx _=>ajA x
 simp only[WL] at *
 exact aGa l a b ah9 _ [] ⟨by omega,aXC,aUW,h⟩ K
def zS{l:List Fm}(h:aNM l)(hw:lsW fmW l<=WL)(a b:Int)(K:An->Prop):cKp 125 [.of (slC fmC l),.of (ci a),.of (ci b),.of (.fn 215 [])] [] K↔K ⟨false,[aM (cw l a b ae9)],[]⟩:=by
 have h1:=dL fmW l λx _=>agb x
 simp only[WL] at *
 exact atA l a b ae9 _ [] ⟨by omega,aXn,aUH,h⟩ K
def zF{l:List Fm}(h:aNO l)(hw:lsW fmW l<=WL)(a b:Int)(K:An->Prop):cKp 125 [.of (slC fmC l),.of (ci a),.of (ci b),.of (.fn 126 [])] [] K↔K ⟨false,[aM (cw l a b agG)],[]⟩:=by
 have h1:=dL fmW l λx _=>agb x
 simp only[WL] at *
 exact atA l a b agG _ [] ⟨by omega,aXB,aUV,h⟩ K
def zO{l:List Od}(hw:lsW odW l<=WL)(a b:Int)(K:An->Prop):cKp 121 [.of (slC odC l),.of (ci a),.of (ci b),.of (.fn 122 [])] [] K↔K ⟨false,[aM (cw l a b ai5)],[]⟩:=by
 have h1:=dL odW l λx _=>by simp[odW]
 simp only[WL] at *
 exact aCO l a b ai5 _ [] ⟨by omega,aXD,aUX,λx _=>aNj x⟩ K
def a2H:=gq @zq @aoZ @bF @amW @zT0 (kf aQF)
def aK0(l:List Xp)(h:aky l)(hw:lsW xpW l<=WL):G1 127 [.of (slC xpC l)] (aM (cw l 0 1 ew)):=by
 refine bB aQF ?_
 simp only[Tryz.f127,↓zA,sevalprocAttr,a2H,zX h hw]
def a2w:=gq @zq @aoZ @bF @amW @zT0 (kf aQs)
def aJ3(l:List Xp)(h:aky l)(hw:lsW xpW l<=WL):G1 140 [.of (slC xpC l)] (aM (cw l 1 16 ew)):=by
 refine bB aQs ?_
 simp only[Tryz.f140,↓zA,sevalprocAttr,a2w,zX h hw]
def aoi:=ai (gu @Tryz.f124.eq_1 @zq @a3X @aE4 @ak2 @amW @bF) (gu @acb @P4 @Q4 @P9 @Q9 @zT0 (kf aQI))
def aHT(i:Im)(hw:xpW i.e<=WL)(h:G1 58 [.of (.agg (xpC i.e))] (aM (ew i.e))):G1 124 [.of (.agg (imC i))] (aM (ah9 i)):=by
 have kx:=λK=>aH.k h K
 have hz:decide (i.e=aql)=aqm i.e:=by rw[eY,aFX,aV]
 have ez:[ci 0,ci 0,ci 0,aG {data:=#[]},aG {data:=#[]},aG {data:=#[]},cb false,C.sl [] 0,C.sl [] 0]=xpC aql:=by rw[eU];rfl
 rw[aSJ]
 refine bB aQI ?_
 cases s1:i.st
 .by_cases s2:i.tb=[]
  .cases s3:ads i.az
   .simp only[↓zA,sevalprocAttr,aoi,s1,aa s2,s3,af6]
   .simp only[↓zA,sevalprocAttr,aoi,s1,aa s2,s3,af6,kx]
  .simp only[↓zA,sevalprocAttr,aoi,s1,s2]
 .cases s2:ads i.tb
  .simp only[↓zA,sevalprocAttr,aoi,s1,s2,af6]
  .by_cases s3:i.az=[]
   .simp only[↓zA,sevalprocAttr,aoi,s1,s2,aa s3,af6,ez,am5,hw,hz]
   .simp only[↓zA,sevalprocAttr,aoi,s1,s2,s3,af6]
def aog:=ai (gq @Tryz.f216.eq_1 @zq @a4V @a4U @aRe @er) (gp @aci @P3 @Q3 @zT0 (kf aPY))
def azd(f:Fm)(hw:fmW f<=WL)(h:a0W f.ks):G1 216 [.of (.agg (fmC f))] (aQ (aau f)):=by
 have hw2:=hw
 rw[afN] at hw2
 simp only[WL] at hw2
 have hsum:=a2X f.ks
 have hlen:=dL fmW f.ks λx _=>agb x
 rw[aq9]
 refine bB aPY ?_
 by_cases k1:f.kd=1
 .simp only[↓zA,sevalprocAttr,aog,k1]
 .by_cases k2:f.kd=2
  .simp only[↓zA,sevalprocAttr,aog,k2,cG,Int.reduceEq]
  .simp only[↓zA,sevalprocAttr,aog,k1,k2,acz]
   refine abJ f.ks.length (λk s=>∃ a:Nat,s.fr 3=aQ a/\s.fr 15=.of (slC fmC f.ks)/\s.fr 16=aQ f.ks.length/\s.fr 17=aQ k/\s.objs=[]/\a+((f.ks.drop k).map aau).sum=(f.ks.map aau).sum) ?_ ?_
   .refine⟨0,?_⟩
    simp only[↓zA,sevalprocAttr,aog]
    try exact rfl
   .rintro k s hk ⟨a,f3,f15,f16,f17,ho,E⟩
    rcases aA k f.ks.length with c1|c1
    .have hw:=fq k aC
     have hx:=λK=>aH.k (h f.ks[k] (dK c1)) K
     rw[agc c1,bc,dF] at E
     have hw3:IntKind.i64.wrap ((a:Int)+(aau f.ks[k]:Int))=((a+aau f.ks[k]:Nat):Int):=by rw[eu _ aC aC];rfl
     simp only[↓zA,sevalprocAttr,aog,f3,f15,f16,f17,ho,ba,c1,eX c1,hw,hx,hw3]
     exact⟨_,rfl,by omega⟩
    .have e:k=f.ks.length:=by omega
     subst e
     rw[df,bm,bR,abC] at E
     simp only[↓zA,sevalprocAttr,aog,f3,f16,f17,ho,ba,dE,E]
def aOb:=gv @Tryz.f126.eq_1 @zq @a4S @aRf @aRe @er @zT0 (kf aQG)
def aH9(f:Fm)(h1:G1 215 [.of (.agg (fmC f))] (aM (ae9 f)))(h2:G1 216 [.of (.agg (fmC f))] (aQ (aau f))):G1 126 [.of (.agg (fmC f))] (aM (agG f)):=by
 have k1:=λK=>aH.k h1 K
 have k2:=λK=>aH.k h2 K
 have e8:((aau f:Int)<=8)=(aau f<=8):=propext aC
 refine bB aQG ?_
 cases c:ae9 f
 .simp only[↓zA,sevalprocAttr,aOb,k1,c,agG]
 .simp only[↓zA,sevalprocAttr,aOb,k1,k2,c,agG,e8]
def ama(a b:Nat)(h:a+b<=WL):IntKind.i64.wrap ((a:Int)+(b:Int))=((a+b:Nat):Int):=by simp only[WL] at h;rw[eu _ aC aC];rfl
def abP:=gj (gv @Tryz.f215.eq_1 @zq @a4T @ajF @aE4 @av2 @aRl @aoZ) (gv @bF @eo @er @eZ @fC @aci @ayr @aRf) (gu @amW @P3 @Q3 @P9 @Q9 @zT0 (kf aPZ))
def azm(f:Fm)(hw:fmW f<=WL)(h1:atl f.sb)(h2:aNM f.ks)(h3:aky f.on):G1 215 [.of (.agg (fmC f))] (aM (ae9 f)):=by
 have hw2:=hw
 rw[afN] at hw2
 simp only[WL] at hw2
 have n1:=dL qyW f.sb λx _=>aiv x
 have n2:=dL fmW f.ks λx _=>agb x
 have n3:=dL xpW f.on λx _=>af0 x
 have kq:=zQ h1 (by simp only[WL];omega)
 have ks:=zS h2 (by simp only[WL];omega)
 have kx:=zX h3 (by simp only[WL];omega)
 have w1:=ama f.sb.length f.ks.length (by simp only[WL];omega)
 have w2:=ama (f.sb.length+f.ks.length) f.on.length (by simp only[WL];omega)
 have w3:=ama f.ks.length f.on.length (by simp only[WL];omega)
 rw[aSK]
 refine bB aPZ ?_
 by_cases k1:f.kd=1
 .cases c1:dq f.nm
  .simp only[↓zA,sevalprocAttr,abP,aa k1,fP,c1]
  .cases c2:ads f.az
   .simp only[↓zA,sevalprocAttr,abP,aa k1,fP,af6,c1,c2]
   .simp only[↓zA,sevalprocAttr,abP,aa k1,fP,af6,c1,c2,w1,w2,acC]
 .by_cases k2:f.kd=2
  .by_cases c1:f.nm=[]
   .cases c2:dq f.az
    .simp only[↓zA,sevalprocAttr,abP,k1,aa k2,fP,aa c1,c2]
    .cases c3:cw f.sb 1 1 abU
     .simp only[↓zA,sevalprocAttr,abP,k1,aa k2,fP,aa c1,c2,kq,c3]
     .simp only[↓zA,sevalprocAttr,abP,k1,aa k2,fP,aa c1,c2,kq,c3,w3,acC]
   .simp only[↓zA,sevalprocAttr,abP,k1,aa k2,c1]
  .by_cases k3:f.kd=3\/f.kd=4\/f.kd=5
   .by_cases c1:f.nm=[]
    .by_cases c2:f.az=[]
     .by_cases c3:f.sb.length=0
      .cases c4:cw f.ks 2 2 ae9
       .rcases k3 with k3|k3|k3
        .simp only[↓zA,sevalprocAttr,abP,k1,k2,aa k3,aa c1,aa c2,aa c3,ks,c4,acC,true_or]
        .simp only[↓zA,sevalprocAttr,abP,k3,Int.reduceEq,aa c1,aa c2,aa c3,ks,c4,acC,cG]
        .simp only[↓zA,sevalprocAttr,abP,k3,Int.reduceEq,aa c1,aa c2,aa c3,ks,c4,acC,cG]
       .rcases k3 with k3|k3|k3
        .simp only[↓zA,sevalprocAttr,abP,k1,k2,aa k3,aa c1,aa c2,aa c3,ks,kx,c4,acC,true_or]
        .simp only[↓zA,sevalprocAttr,abP,k3,Int.reduceEq,aa c1,aa c2,aa c3,ks,kx,c4,acC,cG]
        .simp only[↓zA,sevalprocAttr,abP,k3,Int.reduceEq,aa c1,aa c2,aa c3,ks,kx,c4,acC,cG]
      .rcases k3 with k3|k3|k3
       .simp only[↓zA,sevalprocAttr,abP,k3,Int.reduceEq,aa c1,aa c2,c3,acC]
       .simp only[↓zA,sevalprocAttr,abP,k3,Int.reduceEq,aa c1,aa c2,c3,acC,cG]
       .simp only[↓zA,sevalprocAttr,abP,k3,Int.reduceEq,aa c1,aa c2,c3,acC,cG]
     .rcases k3 with k3|k3|k3
      .simp only[↓zA,sevalprocAttr,abP,k3,Int.reduceEq,aa c1,c2]
      .simp only[↓zA,sevalprocAttr,abP,k3,Int.reduceEq,aa c1,c2,cG]
      .simp only[↓zA,sevalprocAttr,abP,k3,Int.reduceEq,aa c1,c2,cG]
    .rcases k3 with k3|k3|k3
     .simp only[↓zA,sevalprocAttr,abP,k3,Int.reduceEq,c1]
     .simp only[↓zA,sevalprocAttr,abP,k3,Int.reduceEq,c1,cG]
     .simp only[↓zA,sevalprocAttr,abP,k3,Int.reduceEq,c1,cG]
   .simp only[af9] at k3
    simp only[↓zA,sevalprocAttr,abP,k1,k2,k3,acz]
def aDn(l:List Xp)(h:aky l)(hw:lsW xpW l<=WL)(K:An->Prop):cKp 127 [.of (slC xpC l)] [] K↔K ⟨false,[aM (cw l 0 1 ew)],[]⟩:=aH.k (aK0 l h hw) K
def adA:=gj (gz @Tryz.f60.eq_1 @zq @a4Q @a76 @a75 @aRl @aRk @aoZ @av2) (gz @bF @eo @acb @er @agB @eZ @fC @agP @aci) (gv @amW @ayr @P3 @Q3 @P4 @Q4 @zT0 (kf aZa))
def aC7(q:Qy)(hw:qyW q<=WL)(h1:atl q.ks)(h2:aNN q.its)(h3:aNO q.fr)(h4:aky q.wh)(h5:aky q.gr)(h6:aky q.hv):G1 60 [.of (.agg (qyC q))] (aM (abU q)):=by
 have hw2:=hw
 rw[ahz] at hw2
 simp only[WL] at hw2
 have n2:=dL imW q.its λx _=>ajA x
 have n3:=dL fmW q.fr λx _=>agb x
 have n4:=dL xpW q.wh λx _=>af0 x
 have n5:=dL xpW q.gr λx _=>af0 x
 have n6:=dL xpW q.hv λx _=>af0 x
 have kO:=zO (l:=q.od) (by simp only[WL];omega)
 have k1:=zQ h1 (by simp only[WL];omega)
 have k2:=zI h2 (by simp only[WL];omega)
 have k3:=zF h3 (by simp only[WL];omega)
 have k4:=aDn q.wh h4 (by simp only[WL];omega)
 have k5:=zX h5 (by simp only[WL];omega)
 have k6:=aDn q.hv h6 (by simp only[WL];omega)
 have w1:=ama q.its.length q.fr.length (by simp only[WL];omega)
 have w2:=ama (q.its.length+q.fr.length) q.wh.length (by simp only[WL];omega)
 have w3:=ama (q.its.length+q.fr.length+q.wh.length) q.gr.length (by simp only[WL];omega)
 have w4:=ama (q.its.length+q.fr.length+q.wh.length+q.gr.length) q.hv.length (by simp only[WL];omega)
 rw[aSI]
 simp only[aiQ]
 refine bB aZa ?_
 by_cases a1:-1<=q.li
 rotate_left
 .simp only[↓zA,sevalprocAttr,adA,a1,show q.li < -1 from by omega]
 have a1':¬q.li < -1:=by omega
 by_cases a2:q.li<=1000000000000000
 rotate_left
 .simp only[↓zA,sevalprocAttr,adA,a1',a2,show 1000000000000000<q.li from by omega]
 have a2':¬1000000000000000<q.li:=by omega
 by_cases a3:0<=q.sk
 rotate_left
 .simp only[↓zA,sevalprocAttr,adA,a1',a2',a3,show q.sk<0 from by omega]
 have a3':¬q.sk<0:=by omega
 by_cases a4:q.sk<=1000000000000000
 rotate_left
 .simp only[↓zA,sevalprocAttr,adA,a1',a2',a3',a4,show 1000000000000000<q.sk from by omega]
 have a4':¬1000000000000000<q.sk:=by omega
 cases a5:cw q.od 0 64 ai5
 .simp only[↓zA,sevalprocAttr,adA,kO,a1',a2',a3',a4',a5]
 by_cases o1:q.op=1
 .cases b1:q.al
  rotate_left
  .simp only[↓zA,sevalprocAttr,adA,kO,a1,a2,a3,a4,a1',a2',a3',a4',a5,aa o1,b1]
  by_cases b2:q.ks.length=0
  rotate_left
  .simp only[↓zA,sevalprocAttr,adA,kO,acC,a1,a2,a3,a4,a1',a2',a3',a4',a5,aa o1,b1,b2]
  cases b3:cw q.its 1 64 ah9
  .simp only[↓zA,sevalprocAttr,adA,kO,k2,acC,a1,a2,a3,a4,a1',a2',a3',a4',a5,aa o1,b1,aa b2,b3]
  cases b4:cw q.fr 0 1 agG
  .simp only[↓zA,sevalprocAttr,adA,kO,k2,k3,acC,a1,a2,a3,a4,a1',a2',a3',a4',a5,aa o1,b1,aa b2,b3,b4]
  cases b5:cw q.wh 0 1 ew
  .simp only[↓zA,sevalprocAttr,adA,kO,k2,k3,k4,acC,a1,a2,a3,a4,a1',a2',a3',a4',a5,aa o1,b1,aa b2,b3,b4,b5]
  cases b6:cw q.gr 0 64 ew
  .simp only[↓zA,sevalprocAttr,adA,kO,k2,k3,k4,k5,acC,a1,a2,a3,a4,a1',a2',a3',a4',a5,aa o1,b1,aa b2,b3,b4,b5,b6]
  simp only[↓zA,sevalprocAttr,adA,kO,k2,k3,k4,k5,k6,acC,a1,a2,a3,a4,a1',a2',a3',a4',a5,aa o1,b1,aa b2,b3,b4,b5,b6]
 .by_cases o2:q.op=2\/q.op=3\/q.op=4
  .cases b1:cw q.ks 2 2 abU
   .rcases o2 with o2|o2|o2
    .simp only[↓zA,sevalprocAttr,adA,kO,k1,acz,a1,a2,a3,a4,a1',a2',a3',a4',a5,o2,Int.reduceEq,b1]
    .simp only[↓zA,sevalprocAttr,adA,kO,k1,cG,a1,a2,a3,a4,a1',a2',a3',a4',a5,o2,Int.reduceEq,b1]
    .simp only[↓zA,sevalprocAttr,adA,kO,k1,cG,a1,a2,a3,a4,a1',a2',a3',a4',a5,o2,Int.reduceEq,b1]
   .cases b2:q.di
    .rcases o2 with o2|o2|o2
     .simp only[↓zA,sevalprocAttr,adA,kO,k1,acC,w1,w2,w3,w4,acz,a1,a2,a3,a4,a1',a2',a3',a4',a5,o2,Int.reduceEq,b1,b2]
     .simp only[↓zA,sevalprocAttr,adA,kO,k1,acC,w1,w2,w3,w4,cG,a1,a2,a3,a4,a1',a2',a3',a4',a5,o2,Int.reduceEq,b1,b2]
     .simp only[↓zA,sevalprocAttr,adA,kO,k1,acC,w1,w2,w3,w4,cG,a1,a2,a3,a4,a1',a2',a3',a4',a5,o2,Int.reduceEq,b1,b2]
    .rcases o2 with o2|o2|o2
     .simp only[↓zA,sevalprocAttr,adA,kO,k1,acz,a1,a2,a3,a4,a1',a2',a3',a4',a5,o2,Int.reduceEq,b1,b2]
     .simp only[↓zA,sevalprocAttr,adA,kO,k1,cG,a1,a2,a3,a4,a1',a2',a3',a4',a5,o2,Int.reduceEq,b1,b2]
     .simp only[↓zA,sevalprocAttr,adA,kO,k1,cG,a1,a2,a3,a4,a1',a2',a3',a4',a5,o2,Int.reduceEq,b1,b2]
  .simp only[af9] at o2
   simp only[↓zA,sevalprocAttr,adA,kO,acz,a1,a2,a3,a4,a1',a2',a3',a4',a5,o1,o2]
theorem alG:∀ n,n<=WL->(∀ e,eN e->xpW e<=n->G1 58 [.of (.agg (xpC e))] (aM (ew e)))/\(∀ e,fM e->qyW e<=n->G1 60 [.of (.agg (qyC e))] (aM (abU e)))
  /\ (∀ e,akz e->imW e<=n->G1 124 [.of (.agg (imC e))] (aM (ah9 e)))/\(∀ e,acY e->fmW e<=n->G1 215 [.of (.agg (fmC e))] (aM (ae9 e))/\G1 216 [.of (.agg (fmC e))] (aQ (aau e)))
 | 0,_=>⟨λe _ h=>by have:=af0 e;omega,λe _ h=>by have:=aiv e;omega,λe _ h=>by have:=ajA e;omega,λe _ h=>by have:=agb e;omega⟩
 | n+1,hn=>by
  obtain⟨i1,i2,i3,i4⟩:=alG n aC
  have sX:∀ l:List Xp,lsP eN l->lsW xpW l<=n+1->aky l:=λl g h x hx=>i1 x (g x hx) (by have:=dC (w:=xpW) hx;omega)
  have sQ:∀ l:List Qy,lsP fM l->lsW qyW l<=n+1->atl l:=λl g h x hx=>i2 x (g x hx) (by have:=dC (w:=qyW) hx;omega)
  have sI:∀ l:List Im,lsP akz l->lsW imW l<=n+1->aNN l:=λl g h x hx=>i3 x (g x hx) (by have:=dC (w:=imW) hx;omega)
  have sS:∀ l:List Fm,lsP acY l->lsW fmW l<=n+1->aNM l:=λl g h x hx=>(i4 x (g x hx) (by have:=dC (w:=fmW) hx;omega)).1
  have sT:∀ l:List Fm,lsP acY l->lsW fmW l<=n+1->a0W l:=λl g h x hx=>(i4 x (g x hx) (by have:=dC (w:=fmW) hx;omega)).2
  have sF:∀ l:List Fm,lsP acY l->lsW fmW l<=n+1->aNO l:=λl g h x hx=>aH9 x (sS l g h x hx) (sT l g h x hx)
  refine⟨λe g h=>?_,λe g h=>?_,λe g h=>?_,λe g h=>?_⟩
  .have h':=aiI e
   rw[aU7] at g
   exact aIf e aC g.2.1.2 (sX _ g.2.2.2.2.2.1 aC) (sQ _ g.2.2.2.2.2.2 aC)
  .have h':=ahz e
   rw[aVd] at g
   obtain⟨_,_,g1,_,g2,g3,g4,g5,g6,_⟩:=g
   exact aC7 e aC (sQ _ g1 aC) (sI _ g2 aC) (sF _ g3 aC) (sX _ g4 aC) (sX _ g5 aC) (sX _ g6 aC)
  .have h':=akj e
   rw[aVk] at g
   exact aHT e aC (i1 _ g.2.2.1 aC)
  .have h':=afN e
   rw[aVl] at g
   obtain⟨_,_,_,g1,g2,g3⟩:=g
   exact⟨azm e aC (sQ _ g1 aC) (sS _ g2 aC) (sX _ g3 aC),azd e aC (sT _ g2 aC)⟩
def ay1(l:List Xp)(g:lsP eN l)(h:lsW xpW l<=WL):aky l:=λx hx=>(alG WL (ae _)).1 x (g x hx) (by have:=dC (w:=xpW) hx;omega)
def a1l(l:List Qy)(g:lsP fM l)(h:lsW qyW l<=WL):atl l:=λx hx=>(alG WL (ae _)).2.1 x (g x hx) (by have:=dC (w:=qyW) hx;omega)
def aVB:=gz @Tryz.f22.eq_1 @zq @a4n @an2 @aM9 @amW @bF @zT0 (kf aZr)
def auD(e:Xp)(h:eN e/\xpW e<=WL):G1 22 [.of (.agg (xpC e))] (aM (ahe e)):=by
 have k1:=λK=>aH.k ((ah1 WL (ae _)).1 e h.2) K
 have k2:=λK=>aH.k ((alG WL (ae _)).1 e h.1 h.2) K
 refine bB aZr ?_
 cases c:aiA (eH e)
 .simp only[↓zA,sevalprocAttr,aVB,k1,alW,c,ahe]
 .simp only[↓zA,sevalprocAttr,aVB,k1,k2,alW,c,ahe]
def Z4c{α:Type}(l:List α):(l=[])=(l.length=0):=propext List.length_eq_zero_iff.symm
def aOx{l:List (List Xp)}(hw:lsW (lsW xpW) l<=WL):∀ x∈l,lsW xpW x<=WL:=λx hx=>by have:=dC (w:=lsW xpW) hx;omega
abbrev zSm:List C:=[ci 0,aG {data:=#[]},aG {data:=#[]},C.sl [] 0,C.sl [] 0,cb false,C.sl [] 0,C.sl [] 0,C.sl [] 0,C.sl [] 0,C.sl [] 0,C.sl [] 0,C.sl [] 0]
def aiN(a:Sm){s:Sm}(_:smW s<=WL){xs:List C}{q:Bool}(K:An->Prop)(hw':smW a<=WL)
  (e4:smC a=xs:=by rw[aeT];rfl)
  (e6:∀ i:Decidable (a=Sm.mk 0 [] [] [] [] false [] [] [] [] [] [] []),@decide _ i=q:=by intro i;rw[eY];simp only[aV,aj,cV,aja,aeD,Z4c,cM,aak,and_comm,and_left_comm]) :
  cKp 143 [.of (.agg xs),.of (.agg zSm)] [] K↔K ⟨false,[aM q],[]⟩:=by
 have h:=azs a (.mk 0 [] [] [] [] false [] [] [] [] [] [] []) hw'
 rw[e4,show smC (.mk 0 [] [] [] [] false [] [] [] [] [] [] [])=zSm from by rw[aeT];rfl,e6] at h
 exact aH.k h K
def aWx(s:Sm)(hw:smW s<=WL)(K:An->Prop):cKp 143 [.of (.agg [ci 0,aG {data:=#[]},aG (aK s.nm),C.sl [] 0,slC bU s.ns,cb s.un,C.sl [] 0,C.sl [] 0,C.sl [] 0,slC (lsC xpC) s.rws,slC asC s.sts,slC xpC s.wh,slC qyC s.q]),.of (.agg zSm)] [] K↔K ⟨false,[aM (decide (s.nm=[])&&decide (s.ns=[])&&!s.un&&decide (s.rws.length=0)&&decide (s.sts.length=0)&&decide (s.wh.length=0)&&decide (s.q.length=0))],[]⟩:=aiN (.mk 0 [] s.nm [] s.ns s.un [] [] [] s.rws s.sts s.wh s.q) hw K (hw':=by simp only[smW,fL,WL,dT,lsW,bm,bR,aR] at hw ⊢;omega)
def aWw(s:Sm)(hw:smW s<=WL)(K:An->Prop):cKp 143 [.of (.agg [ci 0,aG {data:=#[]},aG {data:=#[]},slC cdC s.cs,C.sl [] 0,cb false,slC kdC s.kys,slC rdC s.rfs,slC xpC s.chs,slC (lsC xpC) s.rws,slC asC s.sts,slC xpC s.wh,slC qyC s.q]),.of (.agg zSm)] [] K↔K ⟨false,[aM (decide (s.cs.length=0)&&decide (s.kys.length=0)&&decide (s.rfs.length=0)&&decide (s.chs.length=0)&&decide (s.rws.length=0)&&decide (s.sts.length=0)&&decide (s.wh.length=0)&&decide (s.q.length=0))],[]⟩:=aiN (.mk 0 [] [] s.cs [] false s.kys s.rfs s.chs s.rws s.sts s.wh s.q) hw K (hw':=by simp only[smW,fL,WL,dT,lsW,bm,bR,aR] at hw ⊢;omega)
def aWv(s:Sm)(hw:smW s<=WL)(K:An->Prop):cKp 143 [.of (.agg [ci 0,aG {data:=#[]},aG {data:=#[]},slC cdC s.cs,slC bU s.ns,cb s.un,slC kdC s.kys,slC rdC s.rfs,slC xpC s.chs,slC (lsC xpC) s.rws,slC asC s.sts,slC xpC s.wh,slC qyC s.q]),.of (.agg zSm)] [] K↔K ⟨false,[aM (decide (s.cs.length=0)&&decide (s.ns.length=0)&&!s.un&&decide (s.kys.length=0)&&decide (s.rfs.length=0)&&decide (s.chs.length=0)&&decide (s.rws.length=0)&&decide (s.sts.length=0)&&decide (s.wh.length=0)&&decide (s.q.length=0))],[]⟩:=aiN (.mk 0 [] [] s.cs s.ns s.un s.kys s.rfs s.chs s.rws s.sts s.wh s.q) hw K (hw':=by simp only[smW,fL,WL,dT,lsW,aR] at hw ⊢;omega)
def aWu(s:Sm)(hw:smW s<=WL)(K:An->Prop):cKp 143 [.of (.agg [ci 0,aG {data:=#[]},aG (aK s.nm),slC cdC s.cs,C.sl [] 0,cb s.un,slC kdC s.kys,slC rdC s.rfs,slC xpC s.chs,C.sl [] 0,slC asC s.sts,slC xpC s.wh,C.sl [] 0]),.of (.agg zSm)] [] K↔K ⟨false,[aM (decide (s.nm=[])&&decide (s.cs.length=0)&&!s.un&&decide (s.kys.length=0)&&decide (s.rfs.length=0)&&decide (s.chs.length=0)&&decide (s.sts.length=0)&&decide (s.wh.length=0))],[]⟩:=aiN (.mk 0 [] s.nm s.cs [] s.un s.kys s.rfs s.chs [] s.sts s.wh []) hw K (hw':=by simp only[smW,fL,WL,dT,lsW,bm,bR,aR] at hw ⊢;omega)
def aWt(s:Sm)(hw:smW s<=WL)(K:An->Prop):cKp 143 [.of (.agg [ci 0,aG {data:=#[]},aG (aK s.nm),slC cdC s.cs,slC bU s.ns,cb s.un,slC kdC s.kys,slC rdC s.rfs,slC xpC s.chs,slC (lsC xpC) s.rws,C.sl [] 0,C.sl [] 0,slC qyC s.q]),.of (.agg zSm)] [] K↔K ⟨false,[aM (decide (s.nm=[])&&decide (s.cs.length=0)&&decide (s.ns.length=0)&&!s.un&&decide (s.kys.length=0)&&decide (s.rfs.length=0)&&decide (s.chs.length=0)&&decide (s.rws.length=0)&&decide (s.q.length=0))],[]⟩:=aiN (.mk 0 [] s.nm s.cs s.ns s.un s.kys s.rfs s.chs s.rws [] [] s.q) hw K (hw':=by simp only[smW,fL,WL,dT,lsW,bm,bR,aR] at hw ⊢;omega)
def aWs(s:Sm)(hw:smW s<=WL)(K:An->Prop):cKp 143 [.of (.agg [ci 0,aG {data:=#[]},aG (aK s.nm),slC cdC s.cs,slC bU s.ns,cb s.un,slC kdC s.kys,slC rdC s.rfs,slC xpC s.chs,slC (lsC xpC) s.rws,slC asC s.sts,C.sl [] 0,slC qyC s.q]),.of (.agg zSm)] [] K↔K ⟨false,[aM (decide (s.nm=[])&&decide (s.cs.length=0)&&decide (s.ns.length=0)&&!s.un&&decide (s.kys.length=0)&&decide (s.rfs.length=0)&&decide (s.chs.length=0)&&decide (s.rws.length=0)&&decide (s.sts.length=0)&&decide (s.q.length=0))],[]⟩:=aiN (.mk 0 [] s.nm s.cs s.ns s.un s.kys s.rfs s.chs s.rws s.sts [] s.q) hw K (hw':=by simp only[smW,fL,WL,dT,lsW,bm,bR,aR] at hw ⊢;omega)
def aGG(s:Sm)(hw:smW s<=WL)(K:An->Prop):cKp 143 [.of (.agg [ci 0,aG {data:=#[]},aG (aK s.nm),slC cdC s.cs,slC bU s.ns,cb s.un,slC kdC s.kys,slC rdC s.rfs,slC xpC s.chs,slC (lsC xpC) s.rws,slC asC s.sts,slC xpC s.wh,C.sl [] 0]),.of (.agg zSm)] [] K↔K ⟨false,[aM (decide (s.nm=[])&&decide (s.cs.length=0)&&decide (s.ns.length=0)&&!s.un&&decide (s.kys.length=0)&&decide (s.rfs.length=0)&&decide (s.chs.length=0)&&decide (s.rws.length=0)&&decide (s.sts.length=0)&&decide (s.wh.length=0))],[]⟩:=aiN (.mk 0 [] s.nm s.cs s.ns s.un s.kys s.rfs s.chs s.rws s.sts s.wh []) hw K (hw':=by simp only[smW,fL,WL,dT,lsW,bm,bR,aR] at hw ⊢;omega)
def alw(s:Sm)(hw:smW s<=WL)(K:An->Prop):cKp 143 [.of (.agg [ci 0,aG {data:=#[]},aG (aK s.nm),slC cdC s.cs,slC bU s.ns,cb s.un,slC kdC s.kys,slC rdC s.rfs,slC xpC s.chs,slC (lsC xpC) s.rws,slC asC s.sts,slC xpC s.wh,slC qyC s.q]),.of (.agg zSm)] [] K↔K ⟨false,[aM (decide (s.nm=[])&&decide (s.cs.length=0)&&decide (s.ns.length=0)&&!s.un&&decide (s.kys.length=0)&&decide (s.rfs.length=0)&&decide (s.chs.length=0)&&decide (s.rws.length=0)&&decide (s.sts.length=0)&&decide (s.wh.length=0)&&decide (s.q.length=0))],[]⟩:=aiN (.mk 0 [] s.nm s.cs s.ns s.un s.kys s.rfs s.chs s.rws s.sts s.wh s.q) hw K (hw':=by simp only[smW,fL,WL,dT,lsW,aR] at hw ⊢;omega)
def zCd(l:List Cd)(h:l.length<=4611686018427387903)(a b:Int)(K:An->Prop):cKp 132 [.of (slC cdC l),.of (ci a),.of (ci b),.of (.fn 133 [])] [] K↔K ⟨false,[aM (cw l a b ai6)],[]⟩:=azh l a b ai6 _ [] ⟨h,aXy,aUS,λx _=>aM7 x⟩ K
def zKd(l:List Kd)(hw:lsW kdW l<=WL)(a b:Int)(K:An->Prop):cKp 134 [.of (slC kdC l),.of (ci a),.of (ci b),.of (.fn 135 [])] [] K↔K ⟨false,[aM (cw l a b amz)],[]⟩:=by
 have h1:=dL kdW l λx _=>by simp[kdW]
 refine azg l a b amz _ [] ⟨by simp only[WL] at hw;omega,aXx,aUR,λx hx=>aL8 x ?_⟩ K
 have h2:=dC (w:=kdW) hx
 have h3:=dL dT x.ns λx _=>by simp[dT]
 simp only[WL,kdW] at *
 omega
def zRd(l:List Rd)(hw:lsW rdW l<=WL)(a b:Int)(K:An->Prop):cKp 136 [.of (slC rdC l),.of (ci a),.of (ci b),.of (.fn 137 [])] [] K↔K ⟨false,[aM (cw l a b aj8)],[]⟩:=by
 have h1:=dL rdW l λx _=>by simp[rdW]
 refine azf l a b aj8 _ [] ⟨by simp only[WL] at hw;omega,aXw,aUQ,λx hx=>aC5 x ?_⟩ K
 have h2:=dC (w:=rdW) hx
 have h3:=dL dT x.ns λx _=>by simp[dT]
 have h4:=dL dT x.to λx _=>by simp[dT]
 simp only[WL,rdW] at *
 omega
def zR(l:List (List Xp))(g:lsP (lsP eN) l)(hw:lsW (lsW xpW) l<=WL)(a b:Int)(K:An->Prop):cKp 139 [.of (slC (lsC xpC) l),.of (ci a),.of (ci b),.of (.fn 140 [])] [] K↔K ⟨false,[aM (cw l a b λr=>cw r 1 16 ew)],[]⟩:=by
 have h1:=dL (lsW xpW) l λx _=>by simp[lsW]
 exact awE l a b _ _ [] ⟨by simp only[WL] at hw;omega,aXv,aUP,λx hx=>aJ3 x (ay1 x (g x hx) (aOx hw x hx)) (aOx hw x hx)⟩ K
def aOa:=ai (gq @Tryz.f142.eq_1 @zq @a4M @ajF @amW @bF) (gp @afY @P9 @Q9 @zT0 (kf aQq))
def aAv(a:As)(g:eN a.e)(hw:asW a<=WL):G1 142 [.of (.agg (asC a))] (aM (alc a)):=by
 have k1:=λK=>aH.k ((alG WL (ae _)).1 a.e g (by simp only[asW] at hw;omega)) K
 refine bB aQq ?_
 cases c:dq a.nm
 .simp only[↓zA,sevalprocAttr,aOa,fP,c,alc]
 .simp only[↓zA,sevalprocAttr,aOa,fP,c,k1,alc]
def zAs(l:List As)(g:lsP att l)(hw:lsW asW l<=WL)(a b:Int)(K:An->Prop):cKp 141 [.of (slC asC l),.of (ci a),.of (ci b),.of (.fn 142 [])] [] K↔K ⟨false,[aM (cw l a b alc)],[]⟩:=by
 have h1:=dL asW l λx _=>by simp[asW]
 exact azi l a b alc _ [] ⟨by simp only[WL] at hw;omega,aXu,aUO,λx hx=>aAv x (g x hx).2 (by have:=dC (w:=asW) hx;omega)⟩ K
def a82(s:Sm):((eI s.cs.length 1 16&&s.cs.all ai6)=cw s.cs 1 16 ai6)/\((eI s.kys.length 0 64&&s.kys.all amz)=cw s.kys 0 64 amz)/\((eI s.rfs.length 0 64&&s.rfs.all aj8)=cw s.rfs 0 64 aj8)/\((eI s.chs.length 0 64&&s.chs.all ew)=cw s.chs 0 64 ew)/\((eI s.q.length 1 1&&s.q.all abU)=cw s.q 1 1 abU)/\((eI s.rws.length 1 64&&s.rws.all λl=>eI l.length 1 16&&l.all ew)=cw s.rws 1 64 (λr=>cw r 1 16 ew))/\((eI s.sts.length 1 16&&s.sts.all alc)=cw s.sts 1 16 alc)/\((eI s.wh.length 0 1&&s.wh.all ew)=cw s.wh 0 1 ew)/\((eI s.ns.length 1 16&&s.ns.all dq)=cw s.ns 1 16 dq)/\((eI s.ns.length 0 16&&s.ns.all dq)=cw s.ns 0 16 dq):=by
 refine⟨(gh s.cs 1 16 ai6).symm,(gh s.kys 0 64 amz).symm,(gh s.rfs 0 64 aj8).symm,(gh s.chs 0 64 ew).symm,(gh s.q 1 1 abU).symm,?_,(gh s.sts 1 16 alc).symm,(gh s.wh 0 1 ew).symm,(gh s.ns 1 16 dq).symm,(gh s.ns 0 16 dq).symm⟩
 rw[show cw s.rws 1 64 (λr=>cw r 1 16 ew)=_ from gh s.rws 1 64 _]
 congr 2
 funext r
 exact (gh r 1 16 ew).symm
def smB(s:Sm)(hw:smW s<=WL):(s.ns.length<=4611686018427387903/\s.cs.length<=4611686018427387903)/\lsW kdW s.kys<=WL/\lsW rdW s.rfs<=WL/\lsW xpW s.chs<=WL/\lsW (lsW xpW) s.rws<=WL/\lsW asW s.sts<=WL/\lsW xpW s.wh<=WL/\lsW qyW s.q<=WL:=by
 simp only[WL,smW] at *
 have n1:=dL cdW s.cs λx _=>by simp[cdW]
 have n2:=dL dT s.ns λx _=>by simp[dT]
 omega
def smF(s:Sm)(g:aaW s)(hw:smW s<=WL):=ai (a82 s) (ai (smB s hw).1.1 (ai (zCd s.cs (smB s hw).1.2) (ai (zKd s.kys (smB s hw).2.1) (ai (zRd s.rfs (smB s hw).2.2.1) (ai (zX (ay1 s.chs g.2.2.2.2.2.2.2.2.1 (smB s hw).2.2.2.1) (smB s hw).2.2.2.1) (ai (zR s.rws g.2.2.2.2.2.2.2.2.2.1 (smB s hw).2.2.2.2.1) (ai (zAs s.sts g.2.2.2.2.2.2.2.2.2.2.1 (smB s hw).2.2.2.2.2.1) (ai (aDn s.wh (ay1 s.wh g.2.2.2.2.2.2.2.2.2.2.2.1 (smB s hw).2.2.2.2.2.2.1) (smB s hw).2.2.2.2.2.2.1) (zQ (a1l s.q g.2.2.2.2.2.2.2.2.2.2.2.2 (smB s hw).2.2.2.2.2.2.2) (smB s hw).2.2.2.2.2.2.2)))))))))
def zsm:=gz @fP @alI @acC @acz @aD @bh @eG @eA @afH
def eS:=gm (gz @Tryz.f62.eq_1 @zq @a4L @a4K @ajF @a72 @a71 @a70 @aoZ) (gz @aE2 @av2 @a7Z @a7Y @aRk @a7X @eo @aca @aiq) (gz @ad8 @afX @bF @afY @fC @adk @bQ @amW @ayr) (gq @P9 @Q9 @P3 @Q3 @zT0 (kf ago))
def aWd(s:Sm)(g:aaW s)(hw:smW s<=WL)(hk:s.kd=1):G1 62 [.of (.agg (smC s))] (aM (dy s)):=by
 have F:=smF s g hw
 have kS:=aWx s hw
 refine bB ago ?_
 cases b0:dq s.tb
 .simp only[↓zA,sevalprocAttr,eS,dy,hk,b0,abi,zsm,F]
 cases b1:cw s.cs 1 16 ai6
 .simp only[↓zA,sevalprocAttr,eS,dy,hk,b0,b1,abi,zsm,F]
 cases b2:cw s.kys 0 64 amz
 .simp only[↓zA,sevalprocAttr,eS,dy,hk,b0,b1,b2,abi,zsm,F]
 cases b3:cw s.rfs 0 64 aj8
 .simp only[↓zA,sevalprocAttr,eS,dy,hk,b0,b1,b2,b3,abi,zsm,F]
 cases b4:cw s.chs 0 64 ew
 .simp only[↓zA,sevalprocAttr,eS,dy,hk,b0,b1,b2,b3,b4,abi,zsm,F]
 simp only[↓zA,sevalprocAttr,eS,dy,hk,b0,b1,b2,b3,b4,abi,zsm,F,kS]
def aWc(s:Sm)(g:aaW s)(hw:smW s<=WL)(hk:s.kd=2):G1 62 [.of (.agg (smC s))] (aM (dy s)):=by
 have F:=smF s g hw
 have kS:=aWw s hw
 refine bB ago ?_
 cases b0:dq s.tb
 .simp only[↓zA,sevalprocAttr,eS,dy,hk,b0,abc,zsm,F,Int.reduceEq]
 cases b1:dq s.nm
 .simp only[↓zA,sevalprocAttr,eS,dy,hk,b0,b1,abc,zsm,F,Int.reduceEq]
 cases b2:cw s.ns 1 16 dq
 .simp only[↓zA,sevalprocAttr,eS,dy,hk,b0,b1,b2,abc,zsm,F,Int.reduceEq]
 simp only[↓zA,sevalprocAttr,eS,dy,hk,b0,b1,b2,abc,zsm,F,Int.reduceEq,kS]
def aV9(s:Sm)(g:aaW s)(hw:smW s<=WL)(hk:s.kd=5):G1 62 [.of (.agg (smC s))] (aM (dy s)):=by
 have F:=smF s g hw
 have kS:=aWt s hw
 refine bB ago ?_
 cases b0:dq s.tb
 .simp only[↓zA,sevalprocAttr,eS,dy,hk,b0,abi,zsm,F,Int.reduceEq]
 cases b1:cw s.sts 1 16 alc
 .simp only[↓zA,sevalprocAttr,eS,dy,hk,b0,b1,abi,zsm,F,Int.reduceEq]
 cases b2:cw s.wh 0 1 ew
 .simp only[↓zA,sevalprocAttr,eS,dy,hk,b0,b1,b2,abi,zsm,F,Int.reduceEq]
 simp only[↓zA,sevalprocAttr,eS,dy,hk,b0,b1,b2,abi,zsm,F,Int.reduceEq,kS]
def aV8(s:Sm)(g:aaW s)(hw:smW s<=WL)(hk:s.kd=6):G1 62 [.of (.agg (smC s))] (aM (dy s)):=by
 have F:=smF s g hw
 have kS:=aWs s hw
 refine bB ago ?_
 cases b0:dq s.tb
 .simp only[↓zA,sevalprocAttr,eS,dy,hk,b0,abi,zsm,F,Int.reduceEq]
 cases b1:cw s.wh 0 1 ew
 .simp only[↓zA,sevalprocAttr,eS,dy,hk,b0,b1,abi,zsm,F,Int.reduceEq]
 simp only[↓zA,sevalprocAttr,eS,dy,hk,b0,b1,abi,zsm,F,Int.reduceEq,kS]
def aV7(s:Sm)(g:aaW s)(hw:smW s<=WL)(hk:s.kd=7):G1 62 [.of (.agg (smC s))] (aM (dy s)):=by
 have F:=smF s g hw
 have kS:=aGG s hw
 refine bB ago ?_
 by_cases b0:s.tb=[]
 rotate_left
 .simp only[↓zA,sevalprocAttr,eS,dy,hk,b0,zsm,F,Int.reduceEq]
 cases b1:cw s.q 1 1 abU
 .simp only[↓zA,sevalprocAttr,eS,dy,hk,aa b0,b1,zsm,F,Int.reduceEq]
 simp only[↓zA,sevalprocAttr,eS,dy,hk,aa b0,b1,zsm,F,Int.reduceEq,kS]
def aRM(s:Sm)(g:aaW s)(hw:smW s<=WL)(hk:s.kd=11):G1 62 [.of (.agg (smC s))] (aM (dy s)):=by
 have F:=smF s g hw
 have kS:=aGG s hw
 refine bB ago ?_
 by_cases b0:s.tb=[]
 rotate_left
 .simp only[↓zA,sevalprocAttr,eS,dy,hk,cG,b0,zsm,F,Int.reduceEq]
 cases b1:cw s.q 1 1 abU
 .simp only[↓zA,sevalprocAttr,eS,dy,hk,cG,aa b0,b1,zsm,F,Int.reduceEq]
 simp only[↓zA,sevalprocAttr,eS,dy,hk,cG,aa b0,b1,zsm,F,Int.reduceEq,kS]
def aV6(s:Sm)(g:aaW s)(hw:smW s<=WL)(hk:s.kd=8):G1 62 [.of (.agg (smC s))] (aM (dy s)):=by
 have F:=smF s g hw
 have kS:=alw s hw
 refine bB ago ?_
 by_cases b0:s.tb=[]
 rotate_left
 .simp only[↓zA,sevalprocAttr,eS,dy,hk,b0,zsm,Int.reduceEq]
 simp only[↓zA,sevalprocAttr,eS,dy,hk,aa b0,zsm,Int.reduceEq,kS]
def aV5(s:Sm)(g:aaW s)(hw:smW s<=WL)(hk:s.kd=9):G1 62 [.of (.agg (smC s))] (aM (dy s)):=by
 have F:=smF s g hw
 have kS:=alw s hw
 refine bB ago ?_
 by_cases b0:s.tb=[]
 rotate_left
 .simp only[↓zA,sevalprocAttr,eS,dy,hk,cG,b0,zsm,Int.reduceEq]
 simp only[↓zA,sevalprocAttr,eS,dy,hk,cG,aa b0,zsm,Int.reduceEq,kS]
def aRN(s:Sm)(g:aaW s)(hw:smW s<=WL)(hk:s.kd=10):G1 62 [.of (.agg (smC s))] (aM (dy s)):=by
 have F:=smF s g hw
 have kS:=alw s hw
 refine bB ago ?_
 by_cases b0:s.tb=[]
 rotate_left
 .simp only[↓zA,sevalprocAttr,eS,dy,hk,cG,b0,zsm,Int.reduceEq]
 simp only[↓zA,sevalprocAttr,eS,dy,hk,cG,aa b0,zsm,Int.reduceEq,kS]
def aRL(s:Sm)(g:aaW s)(hw:smW s<=WL)(hk:s.kd=12):G1 62 [.of (.agg (smC s))] (aM (dy s)):=by
 have F:=smF s g hw
 have kS:=alw s hw
 refine bB ago ?_
 by_cases b0:s.tb=[]
 rotate_left
 .simp only[↓zA,sevalprocAttr,eS,dy,hk,cG,b0,zsm,Int.reduceEq]
 simp only[↓zA,sevalprocAttr,eS,dy,hk,cG,aa b0,zsm,Int.reduceEq,kS]
def aRK(s:Sm)(g:aaW s)(hw:smW s<=WL)(hk:s.kd=13):G1 62 [.of (.agg (smC s))] (aM (dy s)):=by
 have F:=smF s g hw
 have kS:=alw s hw
 refine bB ago ?_
 by_cases b0:s.tb=[]
 rotate_left
 .simp only[↓zA,sevalprocAttr,eS,dy,hk,cG,b0,zsm,Int.reduceEq]
 simp only[↓zA,sevalprocAttr,eS,dy,hk,cG,aa b0,zsm,Int.reduceEq,kS]
def aRJ(s:Sm)(g:aaW s)(hw:smW s<=WL)(hk:s.kd=14):G1 62 [.of (.agg (smC s))] (aM (dy s)):=by
 have F:=smF s g hw
 have kS:=alw s hw
 refine bB ago ?_
 by_cases b0:s.tb=[]
 rotate_left
 .simp only[↓zA,sevalprocAttr,eS,dy,hk,cG,b0,zsm,Int.reduceEq]
 simp only[↓zA,sevalprocAttr,eS,dy,hk,cG,aa b0,zsm,Int.reduceEq,kS]
def aWb(s:Sm)(g:aaW s)(hw:smW s<=WL)(hk:s.kd=3):G1 62 [.of (.agg (smC s))] (aM (dy s)):=by
 have F:=smF s g hw
 have kS:=aWv s hw
 refine bB ago ?_
 cases b0:dq s.tb
 .by_cases b2:s.tb=[]
  .cases b3:dq s.nm
   .simp only[↓zA,sevalprocAttr,eS,dy,hk,b0,aa b2,b3,zsm,Int.reduceEq]
   .simp only[↓zA,sevalprocAttr,eS,dy,hk,b0,aa b2,b3,zsm,Int.reduceEq,kS]
  .simp only[↓zA,sevalprocAttr,eS,dy,hk,b0,b2,zsm,Int.reduceEq]
 .by_cases b1:s.nm=[]
  .simp only[↓zA,sevalprocAttr,eS,dy,hk,b0,aa b1,zsm,Int.reduceEq,kS]
  .by_cases b2:s.tb=[]
   .cases b3:dq s.nm
    .simp only[↓zA,sevalprocAttr,eS,dy,hk,b0,b1,aa b2,b3,zsm,Int.reduceEq]
    .simp only[↓zA,sevalprocAttr,eS,dy,hk,b0,b1,aa b2,b3,zsm,Int.reduceEq,kS]
   .simp only[↓zA,sevalprocAttr,eS,dy,hk,b0,b1,b2,zsm,Int.reduceEq]
def aWa(s:Sm)(g:aaW s)(hw:smW s<=WL)(hk:s.kd=4):G1 62 [.of (.agg (smC s))] (aM (dy s)):=by
 have F:=smF s g hw
 have kS:=aWu s hw
 refine bB ago ?_
 cases b0:dq s.tb
 .simp only[↓zA,sevalprocAttr,eS,dy,hk,b0,abc,abi,zsm,F,Int.reduceEq]
 cases b1:cw s.ns 0 16 dq
 .simp only[↓zA,sevalprocAttr,eS,dy,hk,b0,b1,abc,abi,zsm,F,Int.reduceEq]
 by_cases b2:s.rws.length=0
 .cases b3:cw s.q 1 1 abU
  .by_cases b4:s.q.length=0
   .cases b5:cw s.rws 1 64 (λr=>cw r 1 16 ew)
    .simp only[↓zA,sevalprocAttr,eS,dy,hk,b0,b1,aa b2,b3,aa b4,b5,abc,abi,zsm,F,Int.reduceEq]
    .simp only[↓zA,sevalprocAttr,eS,dy,hk,b0,b1,aa b2,b3,aa b4,b5,abc,abi,zsm,F,Int.reduceEq,kS]
   .simp only[↓zA,sevalprocAttr,eS,dy,hk,b0,b1,aa b2,b3,b4,abc,abi,zsm,F,Int.reduceEq]
  .simp only[↓zA,sevalprocAttr,eS,dy,hk,b0,b1,aa b2,b3,abc,abi,zsm,F,Int.reduceEq,kS]
 .by_cases b4:s.q.length=0
  .cases b5:cw s.rws 1 64 (λr=>cw r 1 16 ew)
   .simp only[↓zA,sevalprocAttr,eS,dy,hk,b0,b1,b2,aa b4,b5,abc,abi,zsm,F,Int.reduceEq]
   .simp only[↓zA,sevalprocAttr,eS,dy,hk,b0,b1,b2,aa b4,b5,abc,abi,zsm,F,Int.reduceEq,kS]
  .simp only[↓zA,sevalprocAttr,eS,dy,hk,b0,b1,b2,b4,abc,abi,zsm,F,Int.reduceEq]
def aRI(s:Sm)(h:∀ k:Int,1<=k->k<=14->¬s.kd=k):G1 62 [.of (.agg (smC s))] (aM (dy s)):=by
 refine bB ago ?_
 simp only[↓zA,sevalprocAttr,eS,dy,fP,h 1 aI aI,h 2 aI aI,h 3 aI aI,h 4 aI aI,h 5 aI aI,h 6 aI aI,h 7 aI aI,h 8 aI aI,h 9 aI aI,h 10 aI aI,h 11 aI aI,h 12 aI aI,h 13 aI aI,h 14 aI aI,acz]
def aCU(s:Sm)(g:aaW s)(hw:smW s<=WL):G1 62 [.of (.agg (smC s))] (aM (dy s)):=by
 by_cases h:1<=s.kd/\s.kd<=14
 .have hk:s.kd=1\/s.kd=2\/s.kd=3\/s.kd=4\/s.kd=5\/s.kd=6\/s.kd=7\/s.kd=8\/s.kd=9\/s.kd=10\/s.kd=11\/s.kd=12\/s.kd=13\/s.kd=14:=by omega
  rcases hk with hk|hk|hk|hk|hk|hk|hk|hk|hk|hk|hk|hk|hk|hk
  .exact aWd s g hw hk
  .exact aWc s g hw hk
  .exact aWb s g hw hk
  .exact aWa s g hw hk
  .exact aV9 s g hw hk
  .exact aV8 s g hw hk
  .exact aV7 s g hw hk
  .exact aV6 s g hw hk
  .exact aV5 s g hw hk
  .exact aRN s g hw hk
  .exact aRM s g hw hk
  .exact aRL s g hw hk
  .exact aRK s g hw hk
  .exact aRJ s g hw hk
 .exact aRI s λk h1 h2 e=>h aC
def aVz:=gz @Tryz.f24.eq_1 @zq @a4l @bbT @aM9 @bbS @aca @zT0 (kf aZp)
def auA(s:Sm)(h:aaW s/\smW s<=WL):G1 24 [.of (.agg (smC s))] (aM (ajN s)):=by
 have k1:=λK=>aH.k (auM s h.2) K
 have k2:=λK=>aH.k (aCU s h.1 h.2) K
 refine bB aZp ?_
 cases c:aiA (asf s)
 .simp only[↓zA,sevalprocAttr,aVz,k1,alW,c,ajN]
 .simp only[↓zA,sevalprocAttr,aVz,k1,k2,alW,c,ajN]
def aVA:=gz @Tryz.f23.eq_1 @zq @a4m @ays @aM9 @ayr @eo @zT0 (kf aZq)
def aFN(q:Qy)(h:fM q/\qyW q<=WL):G1 23 [.of (.agg (qyC q))] (aM (aoy q)):=by
 have k1:=λK=>aH.k ((ah1 WL (ae _)).2.1 q h.2) K
 have k2:=λK=>aH.k ((alG WL (ae _)).2.1 q h.1 h.2) K
 refine bB aZq ?_
 cases c:aiA (abR q)
 .simp only[↓zA,sevalprocAttr,aVA,k1,alW,c,aoy]
 .simp only[↓zA,sevalprocAttr,aVA,k1,k2,alW,c,aoy]
def a8A:=gj @zq @zT0 (kf aZf)
def awS(x:X):G1 53 [x] (aM true):=by
 refine bB aZf ?_
 simp only[Tryz.f53,↓zA,sevalprocAttr,a8A]
end Go.Proofs.YtghkmcffifpkeaaGreat
namespace Go.Pe
section
variable {P:Program} {pr:Pr} {prim2:Orc}
structure Over (P:Program) (pr:Pr) (prim2:Orc):Prop where
 old:∀ f xs obs an,pr.prim f xs obs=some an->prim2 f xs obs=some an
 new:∀ f xs obs an,pr.prim f xs obs=none->prim2 f xs obs=some an->as5 pr.mt P f=false
theorem anX{T:TT}(h2:Over P pr prim2){a b:Code->S->Option (Ex×S)}(h:∀ c s r,a c s=some r->b c s=some r):En.le (aii P T pr a) (aii P T {pr with prim:=prim2} b) where
 obj:=rfl
 tk:=rfl
 mt:=rfl
 orc:=by
  intro f xs obs an hr
  simp only[aii,aoB] at *
  cases hp:pr.prim f xs obs with
  | some r' =>
   rw[hp] at hr
   rw[h2.old f xs obs r' hp]
   exact hr
  | none =>
   rw[hp] at hr
   dsimp only at hr
   unfold al1 at *
   split at hr
   .rename_i hc
    cases hq:prim2 f xs obs with
    | some r' =>
     have:=h2.new f xs obs r' hp hq
     rw[this] at hc
     cases hc.1
    | none =>
     dsimp only
     rw[au hc]
     split at hr
     .rename_i s1 h1;rw[h _ _ _ h1];exact hr
     .rename_i s1 h1;rw[h _ _ _ h1];exact hr
     .rename_i x s1 h1;rw[h _ _ _ h1];exact hr
     .cases hr
   .cases hr
theorem ax8{T:TT}(h2:Over P pr prim2):∀ (n:Nat) (c:Code) (s:S) (r:Ex×S),evC P T pr n c s=some r->evC P T {pr with prim:=prim2} n c s=some r
 | 0,c,s,r,h=>by simp[evC] at h
 | n+1,c,s,r,h=>by
  have ih:=ax8 (T:=T) h2 n
  cases c with
  | seq a b =>
   rw[ag3] at h ⊢
   split at h
   .rename_i s1 h1;rw[ih _ _ _ h1];exact ih _ _ _ h
   .rename_i hne
    cases h2:evC P T pr n a s with
    | none=>rw[h2] at h;cases h
    | some p =>
     obtain⟨e,s1⟩:=p
     rw[ih _ _ _ h2]
     cases e with
     | normal=>exact (hne s1 h2).elim
     | exit i=>rw[h2] at h;exact h
     | ret=>rw[h2] at h;exact h
     | pan x=>rw[h2] at h;exact h
  | block i c =>
   rw[aeN] at h ⊢
   cases h2:evC P T pr n c s with
   | none=>rw[h2] at h;cases h
   | some p=>rw[ih _ _ _ h2];rw[h2] at h;exact h
  | cond c a b =>
   rw[aiX] at h ⊢
   split at h
   .exact ih _ _ _ h
   .exact ih _ _ _ h
   .cases h
  | loop c =>
   rw[afQ] at h ⊢
   cases h2:evC P T pr n c s with
   | none=>rw[h2] at h;cases h
   | some p =>
    obtain⟨e,s1⟩:=p
    rw[ih _ _ _ h2]
    rw[h2] at h
    cases e with
    | normal=>exact ih _ _ _ h
    | exit i=>exact h
    | ret=>exact h
    | pan x=>exact h
  | region id ops draw =>
   rw[agy] at h ⊢
   split at h
   .rename_i s1 h1
    rw[amS (anX h2 ih) h1]
    exact h
   .rename_i x s1 h1
    rw[amS (anX h2 ih) h1]
    exact h
   .cases h
  | scope c=>simp only[evC] at h ⊢;exact ih _ _ _ h
  | label l=>simpa only [evC] using h
  | skip=>simpa only [evC] using h
  | ret=>simpa only [evC] using h
  | exit i=>simpa only [evC] using h
  | _=>simp[evC] at h
theorem aH.lift(h2:Over P pr prim2){f:Nat}{xs:List X}{obs:List Ob}{an:An}(h:aH P pr f xs obs an):aH P {pr with prim:=prim2} f xs obs an:=by
 obtain⟨n,hn⟩:=h
 exact⟨n,(anX h2 (ax8 h2 n)).orc f xs obs an hn⟩
end
end Go.Pe
namespace Go.Proofs.YtghkmcffifpkeaaGreat
open Pe Tab
def atC(b:ByteArray):aK b.data.toList=b:=rfl
def ahY{s:List UInt8}{l:List Tn}{p e:Int}(h:abv s=some (l,p,e))(he:e=0):ToksOk s l/\s.length<=2000/\p=0:=by
 obtain⟨l',p',e',⟨h1,h2,h3,h4⟩|h1⟩:=ar4 s
 .rw[h] at h1;cases h1;exact⟨h2,h4,h3 he⟩
 .rw[h] at h1;cases h1;cases he
def ahr(s:List UInt8)(o:List (Sm×Nat)):X:=amh (((abv s).getD ([],0,0)).1) o
def aiJ:Orc:=λf xs obs=>match xs,obs with
 | [.of (.lit (.string b)),.of (.fn m []),.of (.fn r [])],[] =>
  if f=30/\m=31/\r=22/\b.size<LB then (adg b.data.toList).map λa=>⟨false,[xpE a.1,aQ a.2.1,aQ a.2.2],[]⟩
  else if f=38/\m=39/\r=23/\b.size<LB then (alA b.data.toList).map λa=>⟨false,[qyE a.1,aQ a.2.1,aQ a.2.2],[]⟩
  else if f=45/\m=46/\r=24/\b.size<LB then (aow b.data.toList).map λa=>⟨false,[smE a.1,aQ a.2.1,aQ a.2.2],[]⟩
  else if f=51/\m=52/\r=53/\b.size<LB then (aiK b.data.toList).map λa=>⟨false,[ahr b.data.toList a.1,aQ a.2.1,aQ a.2.2],[]⟩
  else none
 | _,_=>none
def ac0:Orc:=λf xs obs=>match prims f xs obs with
 | some an=>some an
 | none=>aiJ f xs obs
def pr2:Pr:=⟨ac0,acW,tkF,afl,mtF⟩
def aF1{f:Nat}{xs:List X}{obs:List Ob}{an:An}(h:aiJ f xs obs=some an):f=30\/f=38\/f=45\/f=51:=by
 unfold aiJ at h
 split at h
 .split at h
  .rename_i q;exact .inl q.1
  split at h
  .rename_i q;exact .inr (.inl q.1)
  split at h
  .rename_i q;exact .inr (.inr (.inl q.1))
  split at h
  .rename_i q;exact .inr (.inr (.inr q.1))
  .cases h
 .cases h
def a3E:Over Tryz.prog pr ac0 where
 old f xs obs an h:=by
  have h:prims f xs obs=some an:=h
  unfold ac0;rw[h]
 new f xs obs an h1 h2:=by
  have h1:prims f xs obs=none:=h1
  unfold ac0 at h2
  rw[h1] at h2
  rcases aF1 h2 with rfl|rfl|rfl|rfl <;> decide +kernel
def ahF{f:Nat}{xs:List X}{obs:List Ob}{an:An}(h:aH Tryz.prog pr f xs obs an):aH Tryz.prog pr2 f xs obs an:=h.lift a3E
def a8S{G:Go.Pe.GP}(hpr:PrSound Tryz.prog G pr)(s:List UInt8)(hs:s.length<LB){a}(h:adg s=some a) :
  aa9 Tryz.prog G 30 [.of (aG (aK s)),.of (.fn 31 []),.of (.fn 22 [])] [] ⟨false,[xpE a.1,aQ a.2.1,aQ a.2.2],[]⟩:=by
 unfold adg afg at h
 split at h
 .cases h
 .rename_i l p e ht
  split at h
  .rename_i he
   obtain⟨hok,h20,hp⟩:=ahY ht he
   subst he hp
   have hl:l.length<LB:=by have:=hok.len;unfold LB;omega
   obtain⟨r,hr,q2,q3,q4,q5⟩:=aqT hok h20
   dsimp only at h
   rw[hr] at h
   simp only[aJ,ab] at h
   subst h
   exact awf hpr s hs l 0 ht hl (aob _ hl (aot ht hok) _) r hr _ (λK=>aH.k (auD r.1 ⟨q3,by unfold WL;omega⟩) K) (λh _=>q5 h)
  .rename_i he
   cases h
   exact aDO hpr s hs l p e ht he
def a8V{G:Go.Pe.GP}(hpr:PrSound Tryz.prog G pr)(s:List UInt8)(hs:s.length<LB){a}(h:alA s=some a) :
  aa9 Tryz.prog G 38 [.of (aG (aK s)),.of (.fn 39 []),.of (.fn 23 [])] [] ⟨false,[qyE a.1,aQ a.2.1,aQ a.2.2],[]⟩:=by
 unfold alA afg at h
 split at h
 .cases h
 .rename_i l p e ht
  split at h
  .rename_i he
   obtain⟨hok,h20,hp⟩:=ahY ht he
   subst he hp
   have hl:l.length<LB:=by have:=hok.len;unfold LB;omega
   obtain⟨r,hr,q2,q3,q4,q5⟩:=aWF hok h20
   dsimp only at h
   rw[hr] at h
   simp only[aJ,ab] at h
   subst h
   exact awj hpr s hs l 0 ht hl (aob _ hl (aot ht hok) _) r hr _ (λK=>aH.k (aFN r.1 ⟨q3,by unfold WL;omega⟩) K) (λh _=>q5 h)
  .rename_i he
   cases h
   exact aDR hpr s hs l p e ht he
def a8U{G:Go.Pe.GP}(hpr:PrSound Tryz.prog G pr)(s:List UInt8)(hs:s.length<LB){a}(h:aow s=some a) :
  aa9 Tryz.prog G 45 [.of (aG (aK s)),.of (.fn 46 []),.of (.fn 24 [])] [] ⟨false,[smE a.1,aQ a.2.1,aQ a.2.2],[]⟩:=by
 unfold aow afg at h
 split at h
 .cases h
 .rename_i l p e ht
  split at h
  .rename_i he
   obtain⟨hok,h20,hp⟩:=ahY ht he
   subst he hp
   have hl:l.length<LB:=by have:=hok.len;unfold LB;omega
   obtain⟨r,hr,q1,q2,q3,q4⟩:=aGm hok h20 (aU _)
   dsimp only at h
   rw[hr] at h
   simp only[aJ,ab] at h
   subst h
   exact awi hpr s hs l 0 ht hl (aob _ hl (aot ht hok) _) (ay0 _ _) r hr _ (λK=>aH.k (auA r.1 ⟨q3,by unfold WL;omega⟩) K) (λh _=>Nat.pos_of_ne_zero λhz=>by
    obtain rfl:l=[]:=List.length_eq_zero_iff.1 hz
    have:=aWe (ay0 _ _) hr
    rw[h] at this;cases this)
  .rename_i he
   cases h
   exact aDQ hpr s hs l p e ht he
def a8T{G:Go.Pe.GP}(hpr:PrSound Tryz.prog G pr)(s:List UInt8)(hs:s.length<LB){a}(h:aiK s=some a) :
  aa9 Tryz.prog G 51 [.of (aG (aK s)),.of (.fn 52 []),.of (.fn 53 [])] [] ⟨false,[ahr s a.1,aQ a.2.1,aQ a.2.2],[]⟩:=by
 unfold aiK afg at h
 split at h
 .cases h
 .rename_i l p e ht
  split at h
  .rename_i he
   obtain⟨hok,h20,hp⟩:=ahY ht he
   subst he hp
   have hl:l.length<LB:=by have:=hok.len;unfold LB;omega
   obtain⟨r,hr,q2,q3,q4⟩:=aGF hok h20
   dsimp only at h
   rw[hr] at h
   simp only[aJ,ab] at h
   subst h
   have hst:∀ o,ahr s o=amh l o:=λo=>by unfold ahr;rw[ht];rfl
   rw[hst]
   exact awg hpr s hs l 0 ht hl (aob _ hl (aot ht hok) _) (ay0 _ _) r hr _ (λK=>aH.k (awS _) K) (λ_ h=>by cases h)
  .rename_i he
   cases h
   have hst:∀ o,ahr s o=amh l o:=λo=>by unfold ahr;rw[ht];rfl
   rw[hst]
   exact aDP hpr s hs l p e ht he
def aWg{G:Go.Pe.GP}(hpr:PrSound Tryz.prog G pr):PrSound Tryz.prog G pr2 where
 prim f xs obs an h0:=by
  have h:ac0 f xs obs=some an:=h0
  clear h0
  unfold ac0 at h
  cases hp:prims f xs obs with
  | some r=>rw[hp] at h;cases h;exact hpr.prim f xs obs an hp
  | none =>
   rw[hp] at h
   dsimp only at h
   unfold aiJ at h
   split at h
   .rename_i b m r
    have hb:∀ {g:Prop},(b.data.toList.length<LB->g)->b.size<LB->g:=λk q=>k (by simpa using q)
    split at h
    .rename_i q;obtain⟨rfl,rfl,rfl,q⟩:=q
     obtain⟨a,e,rfl⟩:=ap.1 h
     exact hb (λq=>a8S hpr _ q e) q
    split at h
    .rename_i q;obtain⟨rfl,rfl,rfl,q⟩:=q
     obtain⟨a,e,rfl⟩:=ap.1 h
     exact hb (λq=>a8V hpr _ q e) q
    split at h
    .rename_i q;obtain⟨rfl,rfl,rfl,q⟩:=q
     obtain⟨a,e,rfl⟩:=ap.1 h
     exact hb (λq=>a8U hpr _ q e) q
    split at h
    .rename_i q;obtain⟨rfl,rfl,rfl,q⟩:=q
     obtain⟨a,e,rfl⟩:=ap.1 h
     exact hb (λq=>a8T hpr _ q e) q
    .cases h
   .cases h
def ack(f:Nat):pr2.obj f=acW f:=rfl
def aKh(f:Nat):pr2.keep f=afl f:=rfl
def afA(p:String)(d:Option Nat):pr2.mt p d=mtF p d:=rfl
def afz:pr2.obj=acW:=rfl
abbrev H1(f:Nat)(xs:List X)(x:X):Prop:=aH Tryz.prog pr2 f xs [] ⟨false,[x],[]⟩
abbrev HN(f:Nat)(xs:List X)(rs:List X):Prop:=aH Tryz.prog pr2 f xs [] ⟨false,rs,[]⟩
def aNk{f:Nat}{fn:Func}{xs:List X}{obs:List Ob}{an:An}{kp:Bool}(hp:ac0 f xs obs=none)(hi:FnI Tryz.prog f fn)(hk:afl f=kp)(hl:Nat.ble xs.length fn.ntmps=true)
  (h:WC Tryz.prog pr2 (fn.body.getD .skip) (adQ xs obs) (endQ Tryz.prog kp f obs.length an)):aH Tryz.prog pr2 f xs obs an :=
 aH.of_body hp hi.1 (by unfold ao6;rw[hi.2];exact Nat.le_of_ble_eq_true hl) (by unfold al2;rw[hi.2,aKh,hk];exact h)
def bB2{f:Nat}{fn:Func}{xs:List X}{obs:List Ob}{an:An}(hi:FnI Tryz.prog f fn)(h:WC Tryz.prog pr2 (fn.body.getD .skip) (adQ xs obs) (endQ Tryz.prog false f obs.length an))(hp:ac0 f xs obs=none:=by exact rfl)(hk:afl f=false:=by exact rfl)(hl:Nat.ble xs.length fn.ntmps=true:=by exact rfl):aH Tryz.prog pr2 f xs obs an:=aNk hp hi hk hl h

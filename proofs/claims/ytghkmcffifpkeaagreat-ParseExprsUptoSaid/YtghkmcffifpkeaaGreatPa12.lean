/- A part. Conditions: none. -/
import Derived.Test.YtghkmcffifpkeaaGreatPa11
set_option linter.all false
set_option maxRecDepth 100000
set_option maxHeartbeats 64000000
namespace Go.Tab
open Pe
def atk(d:List UInt8)(c:UInt8):acF (d++[c])=min (10*acF d+(c.toNat-48)) 1000000000000001:=by simp[acF]
def aOr(d:List UInt8):acF d<=1000000000000001:=aE6 d 0 aI
def anF(c:UInt8):bz c=true↔48<=c.toNat/\c.toNat<=57:=by simp[bz]
def aGU(p:UInt8->Bool)(s:List UInt8)(i:Nat){c:UInt8}{r:List UInt8}(h:s.drop i=c::r):(s.drop i).takeWhile p=if p c=true then c::r.takeWhile p else []:=by
 rw[h,dV]
def aBC(l:List UInt8):ago l=aqY l:=by cases l <;> rfl
def aCd(l:List UInt8)(c:UInt8):(Lib.indexByte l c=-1/\l.contains c=false)\/(∃ k:Nat,Lib.indexByte l c=k/\k<l.length/\l.contains c=true/\l.takeWhile (·≠c)=l.take k):=by
 induction l with
 | nil=>exact .inl ⟨rfl,rfl⟩
 | cons x r ih =>
  have hge:=Lib.indexByte_ge r c
  by_cases h:x=c
  .subst h
   refine .inr ⟨0,?_,by simp,by simp,?_⟩
   .simp[Lib.indexByte]
   .rw[dV,aA aT];rfl
  .have hb:(x == c)=false:=by simpa using h
   have hb2:(c == x)=false:=by simpa using bC h
   rcases ih with ⟨h1,h2⟩|⟨k,h1,h2,h3,h4⟩
   .refine .inl ⟨?_,?_⟩
    .simp[Lib.indexByte,hb,h1]
    .rw[aea,hb2,h2];rfl
   .refine .inr ⟨k+1,?_,by simp;omega,?_,?_⟩
    .have:(Lib.indexByte r c == -1)=false:=by rw[h1];simp <;> omega
     simp only[Lib.indexByte,hb,ab,ap,h1]
     rfl
    .rw[aea,h3,aY]
    .rw[dV,aE (by simpa using h),h4,acc]
end Go.Tab
namespace Go.Proofs.YtghkmcffifpkeaaGreat
open Pe Tab
def alE:=hU @Tryz.f148.eq_1 @zq @U3 @T5 @cW @zT0 (kf aM3)
def aup(s:List UInt8)(i:Nat)(hl:s.length<=4000)(hi:i<=s.length):GN 148 [.of (aJ (aM s)),au i] [.of (.agg (tnC (aeK i ((s.drop i).takeWhile bz)).1)),au (aeK i ((s.drop i).takeWhile bz)).2]:=by
 have hlen:=afR bz (s.drop i)
 rw[cU] at hlen
 generalize hw:(s.drop i).takeWhile bz=w at *
 have hsub:IntKind.i64.wrap (((i+w.length:Nat):Int)-(i:Int))=(w.length:Int):=by rw[cj _ aC aC];omega
 have hmx:((1000000000000000:Int)<(acF w:Int))=(1000000000000000<acF w):=propext aC
 refine bB aM3 ?_
 simp only[↓zA,sevalprocAttr,alE]
 refine eT _ _ (λn t=>∃ d:List UInt8,t.fr 0=.of (aJ (aM s))/\t.fr 1=au i/\t.fr 4=.ptr 0 0/\t.fr 6=au (i+d.length:Nat)/\t.fr 7=au (acF d)/\t.objs=[tkZ]/\i+d.length+n=s.length+1/\i+d.length<=s.length/\w=d++(s.drop (i+d.length)).takeWhile bz) ?_ (s.length+1-i) _ ?_
 .rintro n ⟨frn,obn,ckn⟩ ⟨d,f0,f1,f4,f6,f7,fo,hn,hj,E⟩
  dsimp only at f0 f1 f4 f6 f7 fo
  have hwj:=aW (i+d.length) aC
  rcases av (i+d.length) s.length with dk|dk
  .have gx:=bu dk
   have dk':=aa dk
   rw[aGU bz s _ (fu dk)] at E
   generalize s[i+d.length]=c at *
   cases hc:bz c with
   | true =>
    rw[hc,aE rfl] at E
    have h48:=(anF c).1 hc
    have hv:=aOr d
    have w1:IntKind.u8.wrap (((c.toNat:Nat):Int)-48)=((c.toNat-48:Nat):Int):=by rw[IntWalk.u8_in _ aC];omega
    have w2:IntKind.i64.wrap ((c.toNat-48:Nat):Int)=((c.toNat-48:Nat):Int):=cj _ aC aC
    have w3:IntKind.i64.wrap (10*(acF d:Int))=((10*acF d:Nat):Int):=by rw[cj _ aC aC];rfl
    have w4:IntKind.i64.wrap (((10*acF d:Nat):Int)+((c.toNat-48:Nat):Int))=((10*acF d+(c.toNat-48):Nat):Int):=by rw[cj _ aC aC];rfl
    have w5:(if (1000000000000001:Int)<((10*acF d+(c.toNat-48):Nat):Int) then 1000000000000001 else ((10*acF d+(c.toNat-48):Nat):Int))=((acF (d++[c]):Nat):Int):=by
     rw[atk]
     split <;> omega
    have hlen2:(d++[c]).length=d.length+1:=by simp
    have E2:w=(d++[c])++(s.drop (i+(d++[c]).length)).takeWhile bz:=by rw[hlen2,E,eO];rfl
    simp only[↓zA,sevalprocAttr,alE,f0,f1,f4,f6,f7,fo,aK,dk',gx,hwj,ab6,hc,ao8 T5 U3,w1,w2,w3,w4,w5]
    exact⟨n-1,by omega,d++[c],by rw[hlen2,cE],rfl,by rw[hlen2];omega,by rw[hlen2];omega,E2⟩
   | false =>
    rw[hc,aA aI,aU] at E
    subst E
    by_cases hm:1000000000000000<acF w
    .simp only[aeK,hm,ah]
     simp only[↓zA,sevalprocAttr,alE,f0,f1,f4,f6,f7,fo,aK,dk',gx,ab6,hc,hmx,hm,be]
     try rfl
    .simp only[aeK,hm,ap]
     simp only[↓zA,sevalprocAttr,alE,f0,f1,f4,f6,f7,fo,aK,dk',gx,ab6,hc,hmx,hm,hsub,be]
     try rfl
  .have dk':(i+d.length<s.length)=False:=aj aC
   rw[bv dk,abo,aU] at E
   subst E
   by_cases hm:1000000000000000<acF w
   .simp only[aeK,hm,ah]
    simp only[↓zA,sevalprocAttr,alE,f0,f1,f4,f6,f7,fo,aK,dk',hmx,hm,be]
    try rfl
   .simp only[aeK,hm,ap]
    simp only[↓zA,sevalprocAttr,alE,f0,f1,f4,f6,f7,fo,aK,dk',hmx,hm,hsub,be]
    try rfl
 .simp only[↓zA,sevalprocAttr,alE]
  exact⟨[],rfl,rfl,by simp;omega,by simp;omega,hw.symm⟩
def lxE(xs:List X)(obs:List Ob):pr.prim 244 xs obs=lxP xs obs:=rfl
def ank(s:List UInt8)(K:An->Prop):cKp 244 [.of (.lit (.string (aM s)))] [] K↔K ⟨false,[aN (ago s)],[]⟩ :=
 aF.k (aF.of_prim (by rw[lxE,aBC];simp[lxP,aM])) K
def auD:=hJ @Tryz.f149.eq_1 @zq @cW @zT0 (kf ari)
def auo(s:List UInt8)(i:Nat)(hl:s.length<=4000)(hi:i<s.length):GN 149 [.of (aJ (aM s)),au i] [.of (.agg (tnC (ahp i (s.drop (i+1))).1)),au (ahp i (s.drop (i+1))).2]:=by
 have hw:=aW i aC
 have sf:=az6 s (i+1) aC
 have lr:(s.drop (i+1)).length=s.length-(i+1):=cU ..
 rcases aCd (s.drop (i+1)) 34 with ⟨h1,h2⟩|⟨k,h1,h2,h3,h4⟩
 .have h0:((-1:Int)<0)=True:=aa aI
  simp only[ahp,h2,ab,ap]
  refine bB ari ?_
  simp only[↓zA,sevalprocAttr,auD,hw,sf,aq7,h1,h0,be]
  try rfl
 .have h0:((k:Int)<0)=False:=aj aC
  have hw2:IntKind.i64.wrap (((i+1:Nat):Int)+(k:Int))=((i+1+k:Nat):Int):=by rw[cj _ aC aC];rfl
  have hw3:IntKind.i64.wrap ((k:Int)+2)=((k+2:Nat):Int):=by rw[cj _ aC aC];rfl
  have sb:=afT s (i+1) (i+1+k) aC aC
  have et:(s.take (i+1+k)).drop (i+1)=(s.drop (i+1)).take k:=by rw[fX];congr 1;omega
  rw[et] at sb
  have hk:((s.drop (i+1)).take k).length=k:=by rw[abZ];omega
  simp only[ahp,h3,ah,h4]
  generalize (s.drop (i+1)).take k=n at *
  subst hk
  have l20:((20:Int)<(n.length:Int))=(20<n.length):=propext aC
  cases hp:ago n with
  | false =>
   simp only[ct,ah]
   refine bB ari ?_
   simp only[↓zA,sevalprocAttr,auD,hw,sf,aq7,h1,h0,hw2,sb,ank,hp,be]
   try rfl
  | true =>
   by_cases h20:20<n.length
   .simp only[bJ,ab,ap,h20,ah]
    refine bB ari ?_
    simp only[↓zA,sevalprocAttr,auD,hw,sf,aq7,h1,h0,hw2,sb,ank,hp,l20,h20,be]
    try rfl
   .simp only[bJ,ab,ap,h20]
    refine bB ari ?_
    simp only[↓zA,sevalprocAttr,auD,hw,sf,aq7,h1,h0,hw2,hw3,sb,ank,hp,l20,h20,be]
    try rfl
def aKs:=ai (hJ @Tryz.f306.eq_1 @zq @aZ @bi @an6) (hJ @dm @P4 @Q4 @zT0 (kf aLR))
def aBF(t:Th):G1 306 [.of (.agg (thC t))] (xpE t.val):=by
 refine bB aLR ?_
 cases c:t.q with
 | true =>
  rw[show t.val=adK 26 [] t.y from by unfold Th.val;rw[c];rfl]
  simp only[↓zA,sevalprocAttr,aKs,c]
  all_goals exact fz
 | false =>
  rw[show t.val=t.e from by unfold Th.val;rw[c];rfl]
  simp only[↓zA,sevalprocAttr,aKs,c]
  all_goals exact fz
def ah8(t:Th)(K:An->Prop):cKp 306 [.of (.agg (thC t))] [] K↔K ⟨false,[xpE t.val],[]⟩:=aF.k (aBF t) K
def aTK:=hH @zq @cO @zT0 (kf aLN)
def aFG(l:List Tn)(i:Nat)(e:Int)(hl:l.length<LB)(hi:i<=l.length):aF Tryz.prog pr 317 [.ptr 0 0] [pT l i e] ⟨false,[aN (afo l i)],[pT l i e]⟩:=by
 have k:=λK=>aB6 l i e [117,110,105,111,110] [101,120,99,101,112,116] [105,110,116,101,114,115,101,99,116] [111,114,100,101,114] [108,105,109,105,116] [111,102,102,115,101,116] hl hi rfl K
 unfold afo
 refine bB aLN ?_
 simp only[Tryz.f317,↓zA,sevalprocAttr,aTK,k,pT,zBS]
 try rfl
def oB(l:List Tn)(i:Nat)(e:Int)(hl:l.length<LB)(hi:i<=l.length){b:Bool}(c:afo l i=b)(K:An->Prop):cKp 317 [.ptr 0 0] [pT l i e] K↔K ⟨false,[aN b],[pT l i e]⟩:=by
 have:=aF.k (aFG l i e hl hi) K
 rw[c] at this
 exact this
def aTO:=ai (hM @zq @aZ @bi @an6 @cX @dm) (hJ @cO @P4 @Q4 @zT0 (kf aLS))
def azf{l:List Tn}{e:Int}{F:Fs}(hl:l.length<LB)(H:PY l e F)(i:Nat)(r:Th×Nat×Bool)(hi:i<=l.length)(hr:ami F l i=some r):GP 305 [.ptr 0 0] [pT l i e] l e [] thE i r:=by
 refine⟨Pl.at (asl H.fp hi) hr,?_⟩
 rcases eWX l i e [115,101,108,101,99,116] hl with _|_
 rcases eR (F.qy i []) λ_=>H.qy _ _ aC with _|⟨_,_,_⟩|⟨a2,j2,_⟩
 rotate_left 3
 rcases eWX l i e [40] hl with _|_
 rcases eR (F.ins (i+1)) λ_=>H.ins _ _ aC with _|⟨_,_,_⟩|⟨a4,j4,_⟩
 rotate_left 2
 rcases eWX l j4 e [41] hl with _|_
 rcases c6:a4.q with _|_
 rcases e7:F.or (j4+1) [a4.e] with _|⟨a7,j7,_|_⟩
 rotate_left
 obtain⟨⟨u7,v7⟩,k7⟩:=(H.orp _ (a4.e) _ _ rfl aC e7).okA
 have l7:=(H.orp _ (a4.e) _ _ (ch _).symm aC e7).ok
 rotate_left
 obtain⟨⟨u7,v7⟩,k7⟩:=(H.orp _ (a4.e) _ _ rfl aC e7).badA
 have l7:=(H.orp _ (a4.e) _ _ (ch _).symm aC e7).bad
 rotate_left
 rcases c8:afo l (j4+1) with _|_
 have t8:=oB l (j4+1) e hl aC c8
 rcases eWX l (j4+1) e [41] hl with _|_
 rotate_left
 rcases e10:F.or (j4+1) [adK 26 [] a4.y] with _|⟨a10,j10,_|_⟩
 rotate_left
 obtain⟨⟨u10,v10⟩,k10⟩:=(H.orp _ (adK 26 [] a4.y) _ _ rfl aC e10).okA
 have l10:=(H.orp _ (adK 26 [] a4.y) _ _ (ch _).symm aC e10).ok
 rotate_left
 obtain⟨⟨u10,v10⟩,k10⟩:=(H.orp _ (adK 26 [] a4.y) _ _ rfl aC e10).badA
 have l10:=(H.orp _ (adK 26 [] a4.y) _ _ (ch _).symm aC e10).bad
 rotate_left
 have t8:=oB l (j4+1) e hl aC c8
 rcases e11:F.qy (j4+1) [a4.y] with _|⟨a11,j11,_|_⟩
 rotate_left
 obtain⟨⟨u11,v11⟩,k11⟩:=(H.qyp _ (a4.y) _ _ rfl aC e11).okA
 have l11:=(H.qyp _ (a4.y) _ _ (ep _).symm aC e11).ok
 rotate_left
 obtain⟨⟨u11,v11⟩,k11⟩:=(H.qyp _ (a4.y) _ _ rfl aC e11).badA
 have l11:=(H.qyp _ (a4.y) _ _ (ep _).symm aC e11).bad
 rotate_left 2
 rcases eR (F.or i []) λ_=>H.or _ _ aC with _|⟨_,_,_⟩|⟨a12,j12,_⟩
 rotate_left 3
 all_goals (simp only[ami,ah9,Th.val,zRZ,sevalprocAttr,↓reduceIte, *] at hr <;> cases hr <;> (refine bB aLS ?_;simp only[Tryz.f305,↓zA,sevalprocAttr,aTO,bW,pT,zP,aQ,aXA,E26,E25,aSY,aZh,gO,aaS,aNB,aX4,ah8,an9,aoa, *];all_goals exact fz))
theorem aEU{l:List Tn}{i:Nat}:∀ {so:List (List UInt8×Int)} {o:Int},opT l i so=some o->i+1<=l.length
 | [],_,h=>by cases h
 | (w,p)::r,o,h=>by
  unfold opT at h
  split at h
  .rename_i c;exact fe c
  .exact aEU h
theorem ash{l:List Tn}{nx:Nat->List Xp->Rz Xp}{so:List (List UInt8×Int)}(N:∀ i r,i<=l.length->nx i []=some r->i<=r.2.1/\r.2.1<=l.length):∀ n a j r,j<=l.length->afj nx l so n a j=some r->j<=r.2.1/\r.2.1<=l.length
 | 0,a,j,r,hj,h=>by simp only[afj] at h;cases h
 | n+1,a,j,r,hj,h=>by
  unfold afj at h
  cases c:opT l j so with
  | none=>rw[c] at h;cases h;exact⟨am _,hj⟩
  | some o =>
   rw[c] at h
   have hj1:=aEU c
   cases e:nx (j+1) [] with
   | none=>simp only[e,Rz.on] at h;cases h
   | some q =>
    obtain⟨y,m,b⟩:=q
    have g:=N _ _ hj1 e
    dsimp only at g
    cases b with
    | true=>simp only[e,Rz.on] at h;cases h;exact⟨by dsimp only;omega,g.2⟩
    | false =>
     simp only[e,Rz.on] at h
     have:=ash N n _ _ _ g.2 h
     exact⟨by omega,this.2⟩
abbrev xpV(a:Xp):List X:=[.of (ci a.op),.of (ci a.v.k),.of (ci a.v.n),.of (aJ a.v.s),.of (aJ (aM a.tb)),.of (aJ (aM a.nm)),.of (cb a.di),.of (slC xpC a.ks),.of (slC qyC a.sb)]
abbrev xpZ:List X:=[.of (ci 0),.of (ci 0),.of (ci 0),.of (aJ {data:=#[]}),.of (aJ {data:=#[]}),.of (aJ {data:=#[]}),.of (cb false),.nil,.nil]
abbrev xpO(r:Nat)(o:Int)(b c:Xp):List X:=[.of (ci o),.of (ci 0),.of (ci 0),.of (aJ {data:=#[]}),.of (aJ {data:=#[]}),.of (aJ {data:=#[]}),.of (cb false),.own (.cell r 7) 28 9 [ci b.op,ci b.v.k,ci b.v.n,aJ b.v.s,aJ (aM b.tb),aJ (aM b.nm),cb b.di,slC xpC b.ks,slC qyC b.sb,ci c.op,ci c.v.k,ci c.v.n,aJ c.v.s,aJ (aM c.tb),aJ (aM c.nm),cb c.di,slC xpC c.ks,slC qyC c.sb] 2,.nil]
def acZ:=ai (hM @Tryz.f66.eq_1 @zq @aZ @cX @cO @afQ) (hJ @Q9 @P3 @Q3 @zT0 (kf axj))
def aiG{l:List Tn}{e:Int}(hl:l.length<LB)(cl f:Nat)(hf:cl / 2=f)(hm:(cl % 2=0)=False)(ho:ad7 f=true)(hk:tkF f=false)(hc:fh Tryz.prog f=true)(nx:Nat->List Xp->Rz Xp)(so:List (List UInt8×Int))(hn:so.length<=8)
  (N:∀ i r,i<=l.length->nx i []=some r->GP f [.ptr 0 0] [pT l i e] l e [] xpE i r) (i:Nat) (r:Xp×Nat×Bool) (hi:i<=l.length) (hr:agT nx l so i []=some r) :
  GP 66 [.ptr 0 0,.clo cl [.ptr 0 0],.of (slC cM (so.map (·.1))),.of (slC aaB (so.map (·.2)))] [pT l i e] l e [] xpE i r:=by
 unfold agT at hr
 cases e1:nx i [] with
 | none=>simp only[e1,Rz.on] at hr;cases hr
 | some r1 =>
 obtain⟨a,j,q⟩:=r1
 have g:=N i _ hi e1
 obtain⟨u,v⟩:=g.1
 dsimp only at u v
 cases q with
 | true =>
  have k:=g.bad
  simp only[e1,Rz.on,id] at hr
  cases hr
  refine⟨⟨u,v⟩,?_⟩
  refine bB axj ?_
  simp only[↓zA,sevalprocAttr,acZ,bW,pT,zP,hf,hm,ho,hk,hc,zLX,k]
  all_goals exact fz
 | false =>
 have k:=g.ok
 simp only[e1,Rz.on] at hr
 have P:=ash (λi r h1 h2=>(N i r h1 h2).1) _ _ _ _ v hr
 refine⟨⟨by omega,P.2⟩,?_⟩
 have hls:((so.map (·.1)).length:Int)=(so.length:Int):=by rw[bM]
 refine bB axj ?_
 simp only[↓zA,sevalprocAttr,acZ,bW,pT,hf,hm,ho,hk,hc,k]
 refine eT _ _ (λn s=>∃ a j xs,(xs=xpV a\/∃ o b c,a=eF o [b,c]/\xs=xpO 2 o b c)/\s.fr 0=.ptr 0 0/\s.fr 1=.clo cl [.ptr 0 0]/\s.fr 2=.of (slC cM (so.map (·.1)))/\s.fr 3=.of (slC aaB (so.map (·.2)))/\s.fr 8=.ptr 1 0/\s.fr 9=.ptr 2 0/\s.objs=[pT l j e,.var 28 xpZ,.var 28 xs]/\afj nx l so n a j=some r/\j<=l.length) ?_ (l.length+1) _ ?_
 .rintro n ⟨frn,obn,ckn⟩ ⟨a,j,xs,hx',f0,f1,f2,f3,f8,f9,fo,E,hj⟩
  dsimp only at f0 f1 f2 f3 f8 f9 fo
  cases n with
  | zero=>simp only[afj] at E;cases E
  | succ n =>
  unfold afj at E
  simp only[↓zA,sevalprocAttr,acZ,f2,fo]
  refine ew so.length (λk s=>s.fr 0=.ptr 0 0/\s.fr 1=.clo cl [.ptr 0 0]/\s.fr 2=.of (slC cM (so.map (·.1)))/\s.fr 3=.of (slC aaB (so.map (·.2)))/\s.fr 8=.ptr 1 0/\s.fr 9=.ptr 2 0/\s.fr 14=.of (slC cM (so.map (·.1)))/\s.fr 15=au so.length/\s.fr 16=au k/\s.objs=[pT l j e,.var 28 xpZ,.var 28 xs]/\opT l j so=opT l j (so.drop k)) ?_ ?_
  .simp only[↓zA,sevalprocAttr,acZ,f0,f1,f2,f3,f8,f9]
   all_goals exact⟨rfl,rfl⟩
  rintro k ⟨frk,obk,ckk⟩ hk' ⟨g0,g1,g2,g3,g8,g9,g14,g15,g16,go,E2⟩
  dsimp only at g0 g1 g2 g3 g8 g9 g14 g15 g16 go
  have hxt:X.trs some (dz [0] []) xs=xs:=by rcases hx' with hx'|⟨o,b,c,_,hx'⟩ <;> (rw[hx'];rfl)
  rcases av k so.length with dk|dk
  .have hw:=aW k aC
   have gx:aaJ (so.map (·.1)) (k:Int)=some so[k].1:=by rw[bu (by rw[bM];exact dk),aaw]
   have gy:aaJ (so.map (·.2)) (k:Int)=some so[k].2:=by rw[bu (by rw[bM];exact dk),aaw]
   rw[bI dk] at E2
   generalize so[k]=p at *
   obtain⟨w,oo⟩:=p
   dsimp only at gx gy
   simp only[opT] at E2
   have kt:=λK=>aF.k (adU l j e w hl hj) K
   cases c:isT l j w with
   | true =>
    have hj1:=fe c
    rw[c,aE rfl] at E2 kt
    rw[E2] at E
    cases e2:nx (j+1) [] with
    | none=>simp only[e2,Rz.on] at E;cases E
    | some r2 =>
    obtain⟨y,j2,q2⟩:=r2
    have g':=N (j+1) _ hj1 e2
    obtain⟨u2,v2⟩:=g'.1
    dsimp only at u2 v2
    cases q2 with
    | true =>
     have k2:=g'.bad
     simp only[e2,Rz.on] at E
     cases E
     rcases hx' with hx'|⟨o,b,c',hx1,hx'⟩
     .subst hx'
      simp only[↓zA,sevalprocAttr,acZ,pT,zP,hf,hm,ho,hk,hc,zLX,aK,g0,g1,g3,g9,g14,g15,g16,go,dk,gx,gy,kt,k2]
      all_goals exact fz
     .subst hx' hx1
      simp only[↓zA,sevalprocAttr,acZ,pT,zP,hf,hm,ho,hk,hc,zLX,aK,g0,g1,g3,g9,g14,g15,g16,go,dk,gx,gy,kt,k2]
      all_goals exact fz
    | false =>
     have k2:=g'.ok
     simp only[e2,Rz.on] at E
     rcases hx' with hx'|⟨o,b,c',hx1,hx'⟩
     .subst hx'
      simp only[↓zA,sevalprocAttr,acZ,pT,zP,zBS,hf,hm,ho,hk,hc,zLX,aK,g0,g1,g2,g3,g8,g9,g14,g15,g16,go,dk,gx,gy,kt,k2]
      exact⟨n,aD n,eF oo [a,y],j2,_,.inr ⟨oo,a,y,rfl,rfl⟩,rfl,E,v2⟩
     .subst hx' hx1
      simp only[↓zA,sevalprocAttr,acZ,pT,zP,zBS,hf,hm,ho,hk,hc,zLX,aK,g0,g1,g2,g3,g8,g9,g14,g15,g16,go,dk,gx,gy,kt,k2]
      refine⟨n,aD n,eF oo [eF o [b,c'],y],j2,_,.inr ⟨oo,eF o [b,c'],y,rfl,rfl⟩,?_,E,v2⟩
      simp only[xpO]
      simp only[zVW]
      all_goals rfl
   | false =>
    rw[c] at E2 kt
    simp only[ab,ap] at E2 kt
    simp only[↓zA,sevalprocAttr,acZ,pT,aK,g0,g1,g2,g3,g8,g9,g14,g15,g16,go,dk,gx,hw,kt,hxt]
    first|exact E2|exact⟨rfl,E2⟩
  have ek:k=so.length:=by omega
  subst ek
  rw[bf] at E2
  simp only[opT] at E2
  rw[E2] at E
  cases E
  rcases hx' with hx'|⟨o,b,c',hx1,hx'⟩
  .subst hx'
   simp only[↓zA,sevalprocAttr,acZ,pT,zP,zLX,aK,bg,g8,g9,g15,g16,go]
   all_goals exact fz
  .subst hx' hx1
   simp only[↓zA,sevalprocAttr,acZ,pT,zP,zLX,aK,bg,g8,g9,g15,g16,go]
   all_goals exact fz
 .simp only[↓zA,sevalprocAttr,acZ,pT]
  exact⟨a,j,_,.inl rfl,rfl,hr,v⟩
def ahy{l:List Tn}{e:Int}(hl:l.length<LB)(cl f:Nat)(hf:cl / 2=f)(hm:(cl % 2=0)=False)(ho:ad7 f=true)(hk:tkF f=false)(hc:fh Tryz.prog f=true)(nx:Nat->List Xp->Rz Xp)(so:List (List UInt8×Int))(hn:so.length<=8)
  (N:∀ i r,i<=l.length->nx i []=some r->GP f [.ptr 0 0] [pT l i e] l e [] xpE i r) (x:Xp) (cs:List C) (hx:cs=xpC x) (Np:∀ i r,i<=l.length->nx i [x]=some r->GP f [.ptr 0 0] [pTe l i e,.row 28 cs] l e deE xpE i r) (i:Nat) (r:Xp×Nat×Bool) (hi:i<=l.length) (hr:agT nx l so i [x]=some r) :
  GP 66 [.ptr 0 0,.clo cl [.ptr 0 0],.of (slC cM (so.map (·.1))),.of (slC aaB (so.map (·.2)))] [pTe l i e,.row 28 cs] l e deE xpE i r:=by
 have lvx:aej (some (.row 28 cs))=true:=by rw[hx,ch];rfl
 unfold agT at hr
 cases e1:nx i [x] with
 | none=>simp only[e1,Rz.on] at hr;cases hr
 | some r1 =>
 obtain⟨a,j,q⟩:=r1
 have g:=Np i _ hi e1
 obtain⟨u,v⟩:=g.1
 dsimp only at u v
 cases q with
 | true =>
  have k:=g.bad
  simp only[e1,Rz.on,id] at hr
  cases hr
  refine⟨⟨u,v⟩,?_⟩
  refine bB axj ?_
  simp only[↓zA,sevalprocAttr,acZ,bW,pT,pTe,zP,hf,hm,ho,hk,hc,zLX,lvx,k]
  all_goals exact fz
 | false =>
 have k:=g.ok
 simp only[e1,Rz.on] at hr
 have P:=ash (λi r h1 h2=>(N i r h1 h2).1) _ _ _ _ v hr
 refine⟨⟨by omega,P.2⟩,?_⟩
 have hls:((so.map (·.1)).length:Int)=(so.length:Int):=by rw[bM]
 refine bB axj ?_
 simp only[↓zA,sevalprocAttr,acZ,bW,pT,pTe,hf,hm,ho,hk,hc,lvx,k]
 refine eT _ _ (λn s=>∃ a j xs,(xs=xpV a\/∃ o b c,a=eF o [b,c]/\xs=xpO 3 o b c)/\s.fr 0=.ptr 0 0/\s.fr 1=.clo cl [.ptr 0 0]/\s.fr 2=.of (slC cM (so.map (·.1)))/\s.fr 3=.of (slC aaB (so.map (·.2)))/\s.fr 8=.ptr 2 0/\s.fr 9=.ptr 3 0/\s.objs=[pT l j e,.row 28 [],.var 28 xpZ,.var 28 xs]/\afj nx l so n a j=some r/\j<=l.length) ?_ (l.length+1) _ ?_
 .rintro n ⟨frn,obn,ckn⟩ ⟨a,j,xs,hx',f0,f1,f2,f3,f8,f9,fo,E,hj⟩
  dsimp only at f0 f1 f2 f3 f8 f9 fo
  cases n with
  | zero=>simp only[afj] at E;cases E
  | succ n =>
  unfold afj at E
  simp only[↓zA,sevalprocAttr,acZ,f2,fo]
  refine ew so.length (λk s=>s.fr 0=.ptr 0 0/\s.fr 1=.clo cl [.ptr 0 0]/\s.fr 2=.of (slC cM (so.map (·.1)))/\s.fr 3=.of (slC aaB (so.map (·.2)))/\s.fr 8=.ptr 2 0/\s.fr 9=.ptr 3 0/\s.fr 14=.of (slC cM (so.map (·.1)))/\s.fr 15=au so.length/\s.fr 16=au k/\s.objs=[pT l j e,.row 28 [],.var 28 xpZ,.var 28 xs]/\opT l j so=opT l j (so.drop k)) ?_ ?_
  .simp only[↓zA,sevalprocAttr,acZ,f0,f1,f2,f3,f8,f9]
   all_goals exact⟨rfl,rfl⟩
  rintro k ⟨frk,obk,ckk⟩ hk' ⟨g0,g1,g2,g3,g8,g9,g14,g15,g16,go,E2⟩
  dsimp only at g0 g1 g2 g3 g8 g9 g14 g15 g16 go
  have hxt:X.trs some (dz [0] []) xs=xs:=by rcases hx' with hx'|⟨o,b,c,_,hx'⟩ <;> (rw[hx'];rfl)
  rcases av k so.length with dk|dk
  .have hw:=aW k aC
   have gx:aaJ (so.map (·.1)) (k:Int)=some so[k].1:=by rw[bu (by rw[bM];exact dk),aaw]
   have gy:aaJ (so.map (·.2)) (k:Int)=some so[k].2:=by rw[bu (by rw[bM];exact dk),aaw]
   rw[bI dk] at E2
   generalize so[k]=p at *
   obtain⟨w,oo⟩:=p
   dsimp only at gx gy
   simp only[opT] at E2
   have kt:=λK=>aF.k (adU l j e w hl hj) K
   cases c:isT l j w with
   | true =>
    have hj1:=fe c
    rw[c,aE rfl] at E2 kt
    rw[E2] at E
    cases e2:nx (j+1) [] with
    | none=>simp only[e2,Rz.on] at E;cases E
    | some r2 =>
    obtain⟨y,j2,q2⟩:=r2
    have g':=N (j+1) _ hj1 e2
    obtain⟨u2,v2⟩:=g'.1
    dsimp only at u2 v2
    cases q2 with
    | true =>
     have k2:=g'.bad
     simp only[e2,Rz.on] at E
     cases E
     rcases hx' with hx'|⟨o,b,c',hx1,hx'⟩
     .subst hx'
      simp only[↓zA,sevalprocAttr,acZ,pT,zP,hf,hm,ho,hk,hc,zLX,aK,g0,g1,g3,g9,g14,g15,g16,go,dk,gx,gy,kt,k2]
      all_goals exact fz
     .subst hx' hx1
      simp only[↓zA,sevalprocAttr,acZ,pT,zP,hf,hm,ho,hk,hc,zLX,aK,g0,g1,g3,g9,g14,g15,g16,go,dk,gx,gy,kt,k2]
      all_goals exact fz
    | false =>
     have k2:=g'.ok
     simp only[e2,Rz.on] at E
     rcases hx' with hx'|⟨o,b,c',hx1,hx'⟩
     .subst hx'
      simp only[↓zA,sevalprocAttr,acZ,pT,zP,zBS,hf,hm,ho,hk,hc,zLX,aK,g0,g1,g2,g3,g8,g9,g14,g15,g16,go,dk,gx,gy,kt,k2]
      exact⟨n,aD n,eF oo [a,y],j2,_,.inr ⟨oo,a,y,rfl,rfl⟩,rfl,E,v2⟩
     .subst hx' hx1
      simp only[↓zA,sevalprocAttr,acZ,pT,zP,zBS,hf,hm,ho,hk,hc,zLX,aK,g0,g1,g2,g3,g8,g9,g14,g15,g16,go,dk,gx,gy,kt,k2]
      refine⟨n,aD n,eF oo [eF o [b,c'],y],j2,_,.inr ⟨oo,eF o [b,c'],y,rfl,rfl⟩,?_,E,v2⟩
      simp only[xpO]
      simp only[zVW]
      all_goals rfl
   | false =>
    rw[c] at E2 kt
    simp only[ab,ap] at E2 kt
    simp only[↓zA,sevalprocAttr,acZ,pT,aK,g0,g1,g2,g3,g8,g9,g14,g15,g16,go,dk,gx,hw,kt,hxt]
    first|exact E2|exact⟨rfl,E2⟩
  have ek:k=so.length:=by omega
  subst ek
  rw[bf] at E2
  simp only[opT] at E2
  rw[E2] at E
  cases E
  rcases hx' with hx'|⟨o,b,c',hx1,hx'⟩
  .subst hx'
   simp only[↓zA,sevalprocAttr,acZ,pT,zP,zLX,aK,bg,g8,g9,g15,g16,go]
   all_goals exact fz
  .subst hx' hx1
   simp only[↓zA,sevalprocAttr,acZ,pT,zP,zLX,aK,bg,g8,g9,g15,g16,go]
   all_goals exact fz
 .simp only[↓zA,sevalprocAttr,acZ,pT]
  exact⟨a,j,_,.inl rfl,rfl,hr,v⟩
theorem atq{l:List Tn}{F:Fs}(N:∀ i r,i<=l.length->F.or i []=some r->i<=r.2.1/\r.2.1<=l.length):∀ n ks j r,j<=l.length->ac0 F l n ks j=some r->j<=r.2.1/\r.2.1<=l.length
 | 0,a,j,r,hj,h=>by simp only[ac0] at h;cases h
 | n+1,a,j,r,hj,h=>by
  unfold ac0 at h
  cases c:isT l j [44] with
  | false=>rw[c] at h;cases h;exact⟨am _,hj⟩
  | true =>
   have hj1:=fe c
   cases e:F.or (j+1) [] with
   | none=>simp only[c,e,Rz.on,ah] at h;cases h
   | some q =>
    obtain⟨y,m,b⟩:=q
    have g:=N _ _ hj1 e
    dsimp only at g
    cases b with
    | true=>simp only[c,e,Rz.on,ah] at h;cases h;exact⟨by dsimp only;omega,g.2⟩
    | false =>
     simp only[c,e,Rz.on,ah] at h
     have:=atq N n _ _ _ g.2 h
     exact⟨by omega,this.2⟩
def okN{c d:Nat}(x i:Nat)(h:c<d)(af:List Edge):aaQ d af (some (.nm c x i))=true:=Z69 ((Z68 ..).2 h) af
def anb{α:Type}{f:α->List C}{A:List α}{clk c x i e z n:Nat}{cs:List C}(h1:cs=fl f A)(h2:n=A.length)(h:c<clk):∃ c' x' i',c'<clk/\X.own (.nm c x i) e z cs n=X.own (.nm c' x' i') e z (fl f A) A.length:=⟨c,x,i,h,by rw[h1,h2]⟩
def akY{α:Type}{f:α->List C}{A:List α}{y:α}{clk c x i e z n:Nat}{cs:List C}(h1:cs=fl f A++f y)(h2:n=A.length+1)(h:c<clk):∃ c' x' i',c'<clk/\X.own (.nm c x i) e z cs n=X.own (.nm c' x' i') e z (fl f (A++[y])) (A++[y]).length:=⟨c,x,i,h,by rw[h1,h2,alt,agu,bp];rfl⟩
def an1:=hM @Tryz.f185.eq_1 @zq @aZ @cX @zT0 (kf aCI)
def adt{l:List Tn}{e:Int}{F:Fs}(hl:l.length<LB)(H:PY l e F)(i:Nat)(r:List Xp×Nat×Bool)(hi:i<=l.length)(hr:aag F l i=some r):GP 185 [.ptr 0 0] [pT l i e] l e [] xsE i r:=by
 unfold aag at hr
 cases e1:F.or i [] with
 | none=>simp only[e1,Rz.on] at hr;cases hr
 | some r1 =>
 obtain⟨a,j,q⟩:=r1
 have g:=H.or i _ hi e1
 obtain⟨u,v⟩:=g.1
 dsimp only at u v
 cases q with
 | true =>
  have k:=g.bad
  simp only[e1,Rz.on] at hr
  cases hr
  refine⟨⟨u,v⟩,?_⟩
  refine bB aCI ?_
  simp only[↓zA,sevalprocAttr,an1,bW,pT,zP,k]
  all_goals exact fz
 | false =>
 have k:=g.ok
 simp only[e1,Rz.on] at hr
 have P:=atq (λi r h1 h2=>(H.or i r h1 h2).1) _ _ _ _ v hr
 refine⟨⟨by omega,P.2⟩,?_⟩
 refine bB aCI ?_
 simp only[↓zA,sevalprocAttr,an1,bW,pT,k]
 refine eT _ _ (λn s=>∃ ks j,s.fr 0=.ptr 0 0/\(∃ c x i,c<s.clk/\s.fr 3=.own (.nm c x i) 28 9 (fl xpC ks) ks.length)/\s.objs=[pT l j e]/\ac0 F l n ks j=some r/\j<=l.length/\ks.length<=j+1) ?_ (l.length+1) _ ?_
 .rintro n ⟨frn,obn,ckn⟩ ⟨ks,j,f0,⟨c,x,i',hc,f3⟩,fo,E,hj,hk⟩
  dsimp only at f0 hc f3 fo
  cases n with
  | zero=>simp only[ac0] at E;cases E
  | succ n =>
  unfold ac0 at E
  cases c1:isT l j [44] with
  | true =>
   have hj1:=fe c1
   have t1:=wT l j e [44] hl c1
   cases e2:F.or (j+1) [] with
   | none=>simp only[c1,e2,Rz.on,ah] at E;cases E
   | some r2 =>
   obtain⟨y,j2,q2⟩:=r2
   have g':=H.or (j+1) _ hj1 e2
   obtain⟨u2,v2⟩:=g'.1
   dsimp only at u2 v2
   cases q2 with
   | true =>
    have k2:=g'.bad
    simp only[c1,e2,Rz.on,ah] at E
    cases E
    simp only[↓zA,sevalprocAttr,an1,pT,zP,f0,f3,fo,t1,k2]
    all_goals exact fz
   | false =>
    have k2:=g'.ok
    simp only[c1,e2,Rz.on,ah] at E
    simp only[↓zA,sevalprocAttr,an1,pT,zP,f0,f3,fo,t1,k2]
    and_intros
    all_goals first|exact okN _ _ aC _|exact⟨n,aD n,ks++[y],j2,akY (by rw[ch]) rfl aC,rfl,E,v2,by rw[bp];simp only[fZ];omega⟩|(unfold LIM;unfold LB at hl;omega)|rfl
  | false =>
   have t1:=wF l j e [44] hl hj c1
   simp only[c1,ab,ap] at E
   cases E
   simp only[↓zA,sevalprocAttr,an1,pT,zP,f0,f3,fo,t1]
   all_goals exact fz
 .simp only[↓zA,sevalprocAttr,an1,pT]
  exact⟨[a],j,anb (by rw[agu,ch]) rfl aC,rfl,hr,v,by simp only[fZ];omega⟩
end Go.Proofs.YtghkmcffifpkeaaGreat
namespace Go.Tab
open Pe
def aeo(o:List UInt8)(m:Nat)(l:List UInt8):Option (List UInt8×Nat):=(afl l).map λq=>(o++q.1,m+q.2)
def aQi(l:List UInt8):aeo [] 0 l=afl l:=by unfold aeo;cases afl l <;> simp
def avx(o:List UInt8)(m:Nat):aeo o m []=none:=rfl
def aD9(o:List UInt8)(m:Nat)(r:List UInt8)(h:r.head?≠some 39):aeo o m (39::r)=some (o,m+1):=by
 unfold aeo
 cases r with
 | nil=>simp[afl]
 | cons d r =>
  have h:d≠39:=λq=>h (by rw[q];rfl)
  simp[afl,h]
def aEb(o:List UInt8)(m:Nat){c:UInt8}(h:c≠39)(r:List UInt8):aeo o m (c::r)=aeo (o++[c]) (m+1) r:=by
 unfold aeo
 cases r with
 | nil=>simp[afl,h]
 | cons d r=>simp only[afl,h,ap,adX];congr 1;funext q;simp[Function.comp];omega
def aEa(o:List UInt8)(m:Nat)(r:List UInt8):aeo o m (39::39::r)=aeo (o++[39]) (m+2) r:=by
 unfold aeo
 simp only[afl,ah,adX];congr 1;funext q;simp[Function.comp];omega
def aD8(i:Nat)(r:List UInt8):aiP i r=match aeo [] 0 r with
 | none=>(aew i,3)
 | some (w,n)=>if !w.all aa3 then (aew i,2) else if 100<w.length then (aew i,4) else (⟨4,i,n+1,0,w⟩,0):=by rw[aQi];rfl
end Go.Tab
namespace Go.Proofs.YtghkmcffifpkeaaGreat
open Pe Tab
def aCZ(t:Tk)(a:List UInt8)(n:Nat)(hn:a.length=n):ad3 tP 64 9 (.own t 5 1 (byC a) n)=out (ahQ (aM a)) :=
 aut T64 (by rw[T9];rfl) (by rw[T5];rfl) t 1 n a hn
def aFW:ad3 tP 64 9 .nil=out (ahQ (aM [])):=by
 simp only[ad3,adA,ajm,T64,T9,aP]
 rfl
def akJ(tk:Tk)(n:Int):dJ tk 1 (Pe.elemOf tP 64) (some [(0,[.of (.lit (.int .u8 n))])])=out (.own tk 5 1 [.lit (.int .u8 n)] 1):=by rw[E64];rfl
def aDy(tk tk' tk2:Tk)(cs0 cs:List C)(n m e2 z2:Nat):aaG tP tk 64 64 (.own tk' 5 1 cs0 n) (.own tk2 e2 z2 cs m)=if cs.length=m*1/\n+m<=LIM then some (.own tk 5 1 (cs0++cs) (n+m),some tk') else none:=anO E64 aI aI tk tk' cs0 n (.own tk2 e2 z2 cs m) cs m rfl
def aGu(tk tk2:Tk)(cs:List C)(m e2 z2:Nat):aaG tP tk 64 64 .nil (.own tk2 e2 z2 cs m)=if cs.length=m*1/\m<=LIM then some (.own tk 5 1 cs m,none) else none:=aly E64 aI aI tk (.own tk2 e2 z2 cs m) cs m rfl
def aiu{clk c x i n:Nat}{o:List UInt8}(h:c<clk)(h2:n=o.length):∃ c' x' i',c'<clk/\X.own (.nm c x i) 5 1 (byC o) n=X.own (.nm c' x' i') 5 1 (byC o) o.length:=⟨c,x,i,h,by rw[h2]⟩
def aj6(p:UInt8->Bool)(o:List UInt8)(c:UInt8):(o++[c]).all p=(o.all p&&p c):=by simp
def aef:=hU @Tryz.f150.eq_1 @zq @U9 @T64 @cW @zT0 (kf aM2)
def ay6(s:List UInt8)(i:Nat)(hl:s.length<=4000)(hi:i<s.length):GN 150 [.of (aJ (aM s)),au i] [.of (.agg (tnC (aiP i (s.drop (i+1))).1)),au (aiP i (s.drop (i+1))).2]:=by
 rw[aD8]
 have hw:=aW i aC
 refine bB aM2 ?_
 simp only[↓zA,sevalprocAttr,aef,hw]
 refine eT _ _ (λn t=>∃ (o:List UInt8) (m:Nat),t.fr 0=.of (aJ (aM s))/\t.fr 1=au i/\t.fr 4=.ptr 0 0/\t.fr 7=aN (!o.all aa3)/\t.fr 8=au (i+1+m:Nat)/\((t.fr 6=.nil/\o=[])\/∃ c x i',c<t.clk/\t.fr 6=.own (.nm c x i') 5 1 (byC o) o.length)/\t.objs=[tkZ]/\i+1+m+n=s.length+1/\i+1+m<=s.length/\o.length<=m/\aeo [] 0 (s.drop (i+1))=aeo o m (s.drop (i+1+m))) ?_ (s.length-i) _ ?_
 .rintro n ⟨frn,obn,ckn⟩ ⟨o,m,f0,f1,f4,f7,f8,f6,fo,hn,hj,ho,E⟩
  dsimp only at f0 f1 f4 f7 f8 f6 fo
  have hwj:=aW (i+1+m) aC
  have hwj2:=aW (i+1+m+1) aC
  have ll:(o.length+1<=LIM)=True:=aa (by unfold LIM;omega)
  have l1:(1<=LIM)=True:=aa (by unfold LIM;omega)
  have hsub:IntKind.i64.wrap (((i+1+m+1:Nat):Int)-(i:Int))=((m+2:Nat):Int):=by rw[cj _ aC aC];omega
  have l100:((100:Int)<(o.length:Int))=(100<o.length):=propext aC
  rcases av (i+1+m) s.length with dk|dk
  .have gx:=bu dk
   have dk':=aa dk
   have ndk:((s.length:Int)<=((i+1+m:Nat):Int))=False:=aj aC
   rw[fu dk] at E
   have e32:(((s[i+1+m].toNat:Nat):Int)<32)=(s[i+1+m].toNat<32):=propext aC
   have e126:((126:Int)<((s[i+1+m].toNat:Nat):Int))=(126<s[i+1+m].toNat):=propext aC
   have e39:(((s[i+1+m].toNat:Nat):Int)=39)=(s[i+1+m]=39):=dS _ 39 39 rfl
   generalize hc0:s[i+1+m]=c at *
   by_cases hq:c=39
   .subst hq
    have stop:(s.drop (i+1+m+1)).head?≠some 39->aeo [] 0 (s.drop (i+1))=some (o,m+1):=λh=>by rw[E];exact aD9 o m _ h
    rcases av (i+1+m+1) s.length with d1|d1
    .have gd:=bu d1
     have neq:(((i+1+m+1:Nat):Int)=(s.length:Int))=False:=aj aC
     have hd0:=fu d1
     have e39d:(((s[i+1+m+1].toNat:Nat):Int)=39)=(s[i+1+m+1]=39):=dS _ 39 39 rfl
     generalize s[i+1+m+1]=d at *
     by_cases hd:d=39
     .subst hd
      rw[hd0,aEa] at E
      have hall:(!(o++[39]).all aa3)=!o.all aa3:=by rw[aj6];show (!(o.all aa3&&true))=_;rw[ff]
      have hb9:byC o++[C.lit (.int .u8 39)]=byC (o++[39]):=(art o [39]).symm
      rcases f6 with ⟨f6,rfl⟩|⟨a,x,y,hck,f6⟩
      .simp only[↓zA,sevalprocAttr,aef,f0,f1,f4,f6,f7,f8,fo,aK,dk',gx,gd,neq,hwj,hwj2,akJ,aGu,l1,aax]
       exact⟨n-2,by omega,[39],m+2,rfl,rfl,(by first|exact⟨_,_,_,by omega,rfl⟩|exact .inr ⟨_,_,_,by omega,rfl⟩|exact aiu aC (by simp)|exact .inr (aiu aC aT)),by omega,by omega,by simp,E⟩
      .have hne:(a=ckn+1)=False:=aj aC
       cases hb:o.all aa3
       all_goals
        simp only[↓zA,sevalprocAttr,aef,f0,f1,f4,f6,f7,f8,fo,aK,dk',gx,gd,neq,hwj,hwj2,akJ,aDy,ll,hb,hb9]
        refine⟨okN _ _ aC _,n-2,by omega,o++[39],m+2,by rw[hall,hb];rfl,rfl,(by first|exact⟨_,_,_,by omega,rfl⟩|exact .inr ⟨_,_,_,by omega,rfl⟩|exact aiu aC (by simp)|exact .inr (aiu aC aT)),by omega,by omega,by simp;omega,E⟩
     .have hd':(d=39)=False:=aj hd
      have E1:=stop (by rw[hd0];simpa using hd)
      cases hb:o.all aa3 with
      | false =>
       simp only[E1,hb,ct,ah]
       rcases f6 with ⟨f6,rfl⟩|⟨a,x,y,hck,f6⟩
       .cases hb
       .simp only[↓zA,sevalprocAttr,aef,f0,f1,f4,f7,f8,fo,aK,gx,gd,neq,e39d,hd',ndk,hb,be,hwj,dk']
        try rfl
      | true =>
       by_cases h100:100<o.length
       .simp only[E1,hb,bJ,ab,ap,h100,ah]
        rcases f6 with ⟨f6,rfl⟩|⟨a,x,y,hck,f6⟩
        .simp at h100
        .simp only[↓zA,sevalprocAttr,aef,f0,f1,f4,f6,f7,f8,fo,aK,gx,gd,neq,e39d,hd',ndk,hb,be,hwj,dk',l100,h100]
         try rfl
       .simp only[E1,hb,bJ,ab,ap,h100]
        rcases f6 with ⟨f6,rfl⟩|⟨a,x,y,hck,f6⟩
        .simp only[↓zA,sevalprocAttr,aef,f0,f1,f4,f6,f7,f8,fo,aK,gx,gd,neq,e39d,hd',ndk,hb,be,hwj,dk',hsub,aFW]
         try rfl
        .simp only[↓zA,sevalprocAttr,aef,f0,f1,f4,f6,f7,f8,fo,aK,gx,gd,neq,e39d,hd',ndk,hb,be,hwj,dk',l100,h100,hsub,aCZ]
         try rfl
    .have eqq:(((i+1+m+1:Nat):Int)=(s.length:Int))=True:=aa aC
     have E1:=stop (by rw[bv aC];simp)
     cases hb:o.all aa3 with
     | false =>
      simp only[E1,hb,ct,ah]
      rcases f6 with ⟨f6,rfl⟩|⟨a,x,y,hck,f6⟩
      .cases hb
      .simp only[↓zA,sevalprocAttr,aef,f0,f1,f4,f7,f8,fo,aK,gx,eqq,ndk,hb,be,hwj,dk']
       try rfl
     | true =>
      by_cases h100:100<o.length
      .simp only[E1,hb,bJ,ab,ap,h100,ah]
       rcases f6 with ⟨f6,rfl⟩|⟨a,x,y,hck,f6⟩
       .simp at h100
       .simp only[↓zA,sevalprocAttr,aef,f0,f1,f4,f6,f7,f8,fo,aK,gx,eqq,ndk,hb,be,hwj,dk',l100,h100]
        try rfl
      .simp only[E1,hb,bJ,ab,ap,h100]
       rcases f6 with ⟨f6,rfl⟩|⟨a,x,y,hck,f6⟩
       .simp only[↓zA,sevalprocAttr,aef,f0,f1,f4,f6,f7,f8,fo,aK,gx,eqq,ndk,hb,be,hwj,dk',hsub,aFW]
        try rfl
       .simp only[↓zA,sevalprocAttr,aef,f0,f1,f4,f6,f7,f8,fo,aK,gx,eqq,ndk,hb,be,hwj,dk',l100,h100,hsub,aCZ]
        try rfl
   .rw[aEb o m hq] at E
    have hq':(c=39)=False:=aj hq
    have hb9:byC o++[C.lit (.int .u8 (c.toNat:Nat))]=byC (o++[c]):=(art o [c]).symm
    have seen:aa3 c=(!decide (c.toNat<32)&&!decide (126<c.toNat)):=by
     unfold aa3
     by_cases h1:c.toNat<32 <;> by_cases h2:126<c.toNat <;> simp[h1,h2] <;> omega
    cases hb:o.all aa3 with
    | false =>
     have hall:(!(o++[c]).all aa3)=true:=by rw[aj6,hb];rfl
     rcases f6 with ⟨f6,rfl⟩|⟨a,x,y,hck,f6⟩
     .cases hb
     .have hne:(a=ckn+1)=False:=aj aC
      simp only[↓zA,sevalprocAttr,aef,f0,f1,f4,f6,f7,f8,fo,aK,dk',gx,e39,hq',hwj,akJ,aDy,ll,hb,hb9]
      refine⟨okN _ _ aC _,n-1,by omega,o++[c],m+1,by rw[hall],rfl,(by first|exact⟨_,_,_,by omega,rfl⟩|exact .inr ⟨_,_,_,by omega,rfl⟩|exact aiu aC (by simp)|exact .inr (aiu aC aT)),by omega,by omega,by simp;omega,E⟩
    | true =>
     have hall:(!(o++[c]).all aa3)=(decide (c.toNat<32)||decide (126<c.toNat)):=by rw[aj6,hb,seen];cases decide (c.toNat<32) <;> cases decide (126<c.toNat) <;> rfl
     by_cases h1:c.toNat<32
     all_goals first|(have h1':=aa h1;skip)|skip
     all_goals by_cases h2:126<c.toNat
     all_goals
      rcases f6 with ⟨f6,rfl⟩|⟨a,x,y,hck,f6⟩
      .simp only[↓zA,sevalprocAttr,aef,f0,f1,f4,f6,f7,f8,fo,aK,dk',gx,e39,hq',hwj,akJ,aGu,l1,e32,e126,h1,h2,aax]
       exact⟨n-1,by omega,[c],m+1,by simpa [h1,h2] using hall.symm,rfl,(by first|exact⟨_,_,_,by omega,rfl⟩|exact .inr ⟨_,_,_,by omega,rfl⟩|exact aiu aC (by simp)|exact .inr (aiu aC aT)),by omega,by omega,by simp,E⟩
      .have hne:(a=ckn+1)=False:=aj aC
       simp only[↓zA,sevalprocAttr,aef,f0,f1,f4,f6,f7,f8,fo,aK,dk',gx,e39,hq',hwj,akJ,aDy,ll,hb,hb9,e32,e126,h1,h2]
       refine⟨okN _ _ aC _,n-1,by omega,o++[c],m+1,by rw[hall];simp[h1,h2],rfl,(by first|exact⟨_,_,_,by omega,rfl⟩|exact .inr ⟨_,_,_,by omega,rfl⟩|exact aiu aC (by simp)|exact .inr (aiu aC aT)),by omega,by omega,by simp;omega,E⟩
  .have dk':(i+1+m<s.length)=False:=aj aC
   have ndk:((s.length:Int)<=((i+1+m:Nat):Int))=True:=aa aC
   rw[bv dk,avx] at E
   simp only[E]
   rcases f6 with ⟨f6,rfl⟩|⟨a,x,y,hck,f6⟩
   all_goals
    simp only[↓zA,sevalprocAttr,aef,f0,f1,f4,f8,fo,aK,dk',ndk,be]
    try rfl
 .simp only[↓zA,sevalprocAttr,aef]
  first|exact⟨[],0,rfl,rfl,.inl rfl,by omega,by omega,am _,rfl⟩|exact⟨[],0,rfl,rfl,rfl,by omega,by omega,am _,rfl⟩|exact⟨[],0,rfl,rfl,by omega,by omega,am _,rfl⟩
def gZ:=hJ @Tryz.f151.eq_1 @zq @cW @zT0 (kf gQ)
def ay8(s:List UInt8)(i:Nat)(hl:s.length<=4000)(hi:i<s.length):GN 151 [.of (aJ (aM s)),au i] [.of (.agg (tnC (lxG i s[i] (s.drop (i+1)).head?).1)),au (lxG i s[i] (s.drop (i+1)).head?).2]:=by
 have hw:=aW i aC
 have gx:=bu hi
 have hd0:=fu hi
 have s1:=afT s i (i+1) aC aC
 have t1:(s.take (i+1)).drop i=[s[i]]:=by rw[fX,hd0,show i+1-i=1 by omega];rfl
 rw[t1] at s1
 have w2:IntKind.i64.wrap ((i:Int)+2)=((i+2:Nat):Int):=by rw[cj _ aC aC];rfl
 rcases av (i+1) s.length with d1|d1
 .have gd:=bu d1
  have lt:=aa d1
  have hd1:=fu d1
  have s2:=afT s i (i+2) aC aC
  have t2:(s.take (i+2)).drop i=[s[i],s[i+1]]:=by rw[fX,hd0,hd1,show i+2-i=2 by omega];rfl
  rw[t2] at s2
  have eh:(s.drop (i+1)).head?=some s[i+1]:=by rw[hd1];rfl
  rw[eh]
  generalize s[i+1]=d at *
  generalize s[i]=c at *
  by_cases h124:c=124
  .subst h124
   by_cases g124:d=124
   .subst g124
    rw[show lxG i 124 (some 124)=(⟨5,i,2,0,[124,124]⟩,0) from rfl]
    refine bB gQ ?_
    simp only[↓zA,sevalprocAttr,gZ,hw,w2,gx,aK,be,gd,lt,s2]
    try rfl
   .have j124:(((d.toNat:Nat):Int)=124)=False:=aj λq=>g124 (by have:=(dS d 124 124 rfl);exact this.mp q)
    rw[show lxG i 124 (some d)=(aew i,2) from by unfold lxG;simp[g124]]
    refine bB gQ ?_
    simp only[↓zA,sevalprocAttr,gZ,hw,gx,aK,be,gd,lt,j124]
    try rfl
  by_cases h60:c=60
  .subst h60
   by_cases g62:d=62
   .subst g62
    rw[show lxG i 60 (some 62)=(⟨5,i,2,0,[60,62]⟩,0) from rfl]
    refine bB gQ ?_
    simp only[↓zA,sevalprocAttr,gZ,hw,w2,gx,aK,be,gd,lt,s2]
    try rfl
   by_cases g61:d=61
   .subst g61
    rw[show lxG i 60 (some 61)=(⟨5,i,2,0,[60,61]⟩,0) from rfl]
    refine bB gQ ?_
    simp only[↓zA,sevalprocAttr,gZ,hw,w2,gx,aK,be,gd,lt,s2]
    try rfl
   .have j62:(((d.toNat:Nat):Int)=62)=False:=aj λq=>g62 (by have:=(dS d 62 62 rfl);exact this.mp q)
    have j61:(((d.toNat:Nat):Int)=61)=False:=aj λq=>g61 (by have:=(dS d 61 61 rfl);exact this.mp q)
    rw[show lxG i 60 (some d)=(⟨5,i,1,0,[60]⟩,0) from by unfold lxG;simp[g62,g61]]
    refine bB gQ ?_
    simp only[↓zA,sevalprocAttr,gZ,hw,gx,aK,be,s1,gd,lt,j62,j61]
    try rfl
  by_cases h62:c=62
  .subst h62
   by_cases g61:d=61
   .subst g61
    rw[show lxG i 62 (some 61)=(⟨5,i,2,0,[62,61]⟩,0) from rfl]
    refine bB gQ ?_
    simp only[↓zA,sevalprocAttr,gZ,hw,w2,gx,aK,be,gd,lt,s2]
    try rfl
   .have j61:(((d.toNat:Nat):Int)=61)=False:=aj λq=>g61 (by have:=(dS d 61 61 rfl);exact this.mp q)
    rw[show lxG i 62 (some d)=(⟨5,i,1,0,[62]⟩,0) from by unfold lxG;simp[g61]]
    refine bB gQ ?_
    simp only[↓zA,sevalprocAttr,gZ,hw,gx,aK,be,s1,gd,lt,j61]
    try rfl
  by_cases h40:c=40
  .subst h40
   rw[show lxG i 40 (some d)=(⟨5,i,1,0,[40]⟩,0) from by unfold lxG;simp]
   refine bB gQ ?_
   simp only[↓zA,sevalprocAttr,gZ,hw,gx,aK,be,s1,gd,lt]
   try rfl
  by_cases h41:c=41
  .subst h41
   rw[show lxG i 41 (some d)=(⟨5,i,1,0,[41]⟩,0) from by unfold lxG;simp]
   refine bB gQ ?_
   simp only[↓zA,sevalprocAttr,gZ,hw,gx,aK,be,s1,gd,lt]
   try rfl
  by_cases h44:c=44
  .subst h44
   rw[show lxG i 44 (some d)=(⟨5,i,1,0,[44]⟩,0) from by unfold lxG;simp]
   refine bB gQ ?_
   simp only[↓zA,sevalprocAttr,gZ,hw,gx,aK,be,s1,gd,lt]
   try rfl
  by_cases h46:c=46
  .subst h46
   rw[show lxG i 46 (some d)=(⟨5,i,1,0,[46]⟩,0) from by unfold lxG;simp]
   refine bB gQ ?_
   simp only[↓zA,sevalprocAttr,gZ,hw,gx,aK,be,s1,gd,lt]
   try rfl
  by_cases h59:c=59
  .subst h59
   rw[show lxG i 59 (some d)=(⟨5,i,1,0,[59]⟩,0) from by unfold lxG;simp]
   refine bB gQ ?_
   simp only[↓zA,sevalprocAttr,gZ,hw,gx,aK,be,s1,gd,lt]
   try rfl
  by_cases h43:c=43
  .subst h43
   rw[show lxG i 43 (some d)=(⟨5,i,1,0,[43]⟩,0) from by unfold lxG;simp]
   refine bB gQ ?_
   simp only[↓zA,sevalprocAttr,gZ,hw,gx,aK,be,s1,gd,lt]
   try rfl
  by_cases h45:c=45
  .subst h45
   rw[show lxG i 45 (some d)=(⟨5,i,1,0,[45]⟩,0) from by unfold lxG;simp]
   refine bB gQ ?_
   simp only[↓zA,sevalprocAttr,gZ,hw,gx,aK,be,s1,gd,lt]
   try rfl
  by_cases h42:c=42
  .subst h42
   rw[show lxG i 42 (some d)=(⟨5,i,1,0,[42]⟩,0) from by unfold lxG;simp]
   refine bB gQ ?_
   simp only[↓zA,sevalprocAttr,gZ,hw,gx,aK,be,s1,gd,lt]
   try rfl
  by_cases h47:c=47
  .subst h47
   rw[show lxG i 47 (some d)=(⟨5,i,1,0,[47]⟩,0) from by unfold lxG;simp]
   refine bB gQ ?_
   simp only[↓zA,sevalprocAttr,gZ,hw,gx,aK,be,s1,gd,lt]
   try rfl
  by_cases h37:c=37
  .subst h37
   rw[show lxG i 37 (some d)=(⟨5,i,1,0,[37]⟩,0) from by unfold lxG;simp]
   refine bB gQ ?_
   simp only[↓zA,sevalprocAttr,gZ,hw,gx,aK,be,s1,gd,lt]
   try rfl
  by_cases h61:c=61
  .subst h61
   rw[show lxG i 61 (some d)=(⟨5,i,1,0,[61]⟩,0) from by unfold lxG;simp]
   refine bB gQ ?_
   simp only[↓zA,sevalprocAttr,gZ,hw,gx,aK,be,s1,gd,lt]
   try rfl
  have j124:(((c.toNat:Nat):Int)=124)=False:=aj λq=>h124 ((dS c 124 124 rfl).mp q)
  have j60:(((c.toNat:Nat):Int)=60)=False:=aj λq=>h60 ((dS c 60 60 rfl).mp q)
  have j62:(((c.toNat:Nat):Int)=62)=False:=aj λq=>h62 ((dS c 62 62 rfl).mp q)
  have j40:(((c.toNat:Nat):Int)=40)=False:=aj λq=>h40 ((dS c 40 40 rfl).mp q)
  have j41:(((c.toNat:Nat):Int)=41)=False:=aj λq=>h41 ((dS c 41 41 rfl).mp q)
  have j44:(((c.toNat:Nat):Int)=44)=False:=aj λq=>h44 ((dS c 44 44 rfl).mp q)
  have j46:(((c.toNat:Nat):Int)=46)=False:=aj λq=>h46 ((dS c 46 46 rfl).mp q)
  have j59:(((c.toNat:Nat):Int)=59)=False:=aj λq=>h59 ((dS c 59 59 rfl).mp q)
  have j43:(((c.toNat:Nat):Int)=43)=False:=aj λq=>h43 ((dS c 43 43 rfl).mp q)
  have j45:(((c.toNat:Nat):Int)=45)=False:=aj λq=>h45 ((dS c 45 45 rfl).mp q)
  have j42:(((c.toNat:Nat):Int)=42)=False:=aj λq=>h42 ((dS c 42 42 rfl).mp q)
  have j47:(((c.toNat:Nat):Int)=47)=False:=aj λq=>h47 ((dS c 47 47 rfl).mp q)
  have j37:(((c.toNat:Nat):Int)=37)=False:=aj λq=>h37 ((dS c 37 37 rfl).mp q)
  have j61:(((c.toNat:Nat):Int)=61)=False:=aj λq=>h61 ((dS c 61 61 rfl).mp q)
  rw[show lxG i c (some d)=(aew i,2) from by unfold lxG;simp[h124,h60,h62,h40,h41,h44,h46,h59,h43,h45,h42,h47,h37,h61]]
  refine bB gQ ?_
  simp only[↓zA,sevalprocAttr,gZ,hw,gx,aK,be,gd,lt,j124,j60,j62,j40,j41,j44,j46,j59,j43,j45,j42,j47,j37,j61]
  try rfl
 .have lt:(i+1<s.length)=False:=aj aC
  have eh:(s.drop (i+1)).head?=none:=by rw[bv d1];rfl
  rw[eh]
  generalize s[i]=c at *
  by_cases h124:c=124
  .subst h124
   rw[show lxG i 124 none=(aew i,2) from rfl]
   refine bB gQ ?_
   simp only[↓zA,sevalprocAttr,gZ,hw,gx,aK,be,lt]
   try rfl
  by_cases h60:c=60
  .subst h60
   rw[show lxG i 60 none=(⟨5,i,1,0,[60]⟩,0) from rfl]
   refine bB gQ ?_
   simp only[↓zA,sevalprocAttr,gZ,hw,gx,aK,be,s1,lt]
   try rfl
  by_cases h62:c=62
  .subst h62
   rw[show lxG i 62 none=(⟨5,i,1,0,[62]⟩,0) from rfl]
   refine bB gQ ?_
   simp only[↓zA,sevalprocAttr,gZ,hw,gx,aK,be,s1,lt]
   try rfl
  by_cases h40:c=40
  .subst h40
   rw[show lxG i 40 none=(⟨5,i,1,0,[40]⟩,0) from rfl]
   refine bB gQ ?_
   simp only[↓zA,sevalprocAttr,gZ,hw,gx,aK,be,s1,lt]
   try rfl
  by_cases h41:c=41
  .subst h41
   rw[show lxG i 41 none=(⟨5,i,1,0,[41]⟩,0) from rfl]
   refine bB gQ ?_
   simp only[↓zA,sevalprocAttr,gZ,hw,gx,aK,be,s1,lt]
   try rfl
  by_cases h44:c=44
  .subst h44
   rw[show lxG i 44 none=(⟨5,i,1,0,[44]⟩,0) from rfl]
   refine bB gQ ?_
   simp only[↓zA,sevalprocAttr,gZ,hw,gx,aK,be,s1,lt]
   try rfl
  by_cases h46:c=46
  .subst h46
   rw[show lxG i 46 none=(⟨5,i,1,0,[46]⟩,0) from rfl]
   refine bB gQ ?_
   simp only[↓zA,sevalprocAttr,gZ,hw,gx,aK,be,s1,lt]
   try rfl
  by_cases h59:c=59
  .subst h59
   rw[show lxG i 59 none=(⟨5,i,1,0,[59]⟩,0) from rfl]
   refine bB gQ ?_
   simp only[↓zA,sevalprocAttr,gZ,hw,gx,aK,be,s1,lt]
   try rfl
  by_cases h43:c=43
  .subst h43
   rw[show lxG i 43 none=(⟨5,i,1,0,[43]⟩,0) from rfl]
   refine bB gQ ?_
   simp only[↓zA,sevalprocAttr,gZ,hw,gx,aK,be,s1,lt]
   try rfl
  by_cases h45:c=45
  .subst h45
   rw[show lxG i 45 none=(⟨5,i,1,0,[45]⟩,0) from rfl]
   refine bB gQ ?_
   simp only[↓zA,sevalprocAttr,gZ,hw,gx,aK,be,s1,lt]
   try rfl
  by_cases h42:c=42
  .subst h42
   rw[show lxG i 42 none=(⟨5,i,1,0,[42]⟩,0) from rfl]
   refine bB gQ ?_
   simp only[↓zA,sevalprocAttr,gZ,hw,gx,aK,be,s1,lt]
   try rfl
  by_cases h47:c=47
  .subst h47
   rw[show lxG i 47 none=(⟨5,i,1,0,[47]⟩,0) from rfl]
   refine bB gQ ?_
   simp only[↓zA,sevalprocAttr,gZ,hw,gx,aK,be,s1,lt]
   try rfl
  by_cases h37:c=37
  .subst h37
   rw[show lxG i 37 none=(⟨5,i,1,0,[37]⟩,0) from rfl]
   refine bB gQ ?_
   simp only[↓zA,sevalprocAttr,gZ,hw,gx,aK,be,s1,lt]
   try rfl
  by_cases h61:c=61
  .subst h61
   rw[show lxG i 61 none=(⟨5,i,1,0,[61]⟩,0) from rfl]
   refine bB gQ ?_
   simp only[↓zA,sevalprocAttr,gZ,hw,gx,aK,be,s1,lt]
   try rfl
  have j124:(((c.toNat:Nat):Int)=124)=False:=aj λq=>h124 ((dS c 124 124 rfl).mp q)
  have j60:(((c.toNat:Nat):Int)=60)=False:=aj λq=>h60 ((dS c 60 60 rfl).mp q)
  have j62:(((c.toNat:Nat):Int)=62)=False:=aj λq=>h62 ((dS c 62 62 rfl).mp q)
  have j40:(((c.toNat:Nat):Int)=40)=False:=aj λq=>h40 ((dS c 40 40 rfl).mp q)
  have j41:(((c.toNat:Nat):Int)=41)=False:=aj λq=>h41 ((dS c 41 41 rfl).mp q)
  have j44:(((c.toNat:Nat):Int)=44)=False:=aj λq=>h44 ((dS c 44 44 rfl).mp q)
  have j46:(((c.toNat:Nat):Int)=46)=False:=aj λq=>h46 ((dS c 46 46 rfl).mp q)
  have j59:(((c.toNat:Nat):Int)=59)=False:=aj λq=>h59 ((dS c 59 59 rfl).mp q)
  have j43:(((c.toNat:Nat):Int)=43)=False:=aj λq=>h43 ((dS c 43 43 rfl).mp q)
  have j45:(((c.toNat:Nat):Int)=45)=False:=aj λq=>h45 ((dS c 45 45 rfl).mp q)
  have j42:(((c.toNat:Nat):Int)=42)=False:=aj λq=>h42 ((dS c 42 42 rfl).mp q)
  have j47:(((c.toNat:Nat):Int)=47)=False:=aj λq=>h47 ((dS c 47 47 rfl).mp q)
  have j37:(((c.toNat:Nat):Int)=37)=False:=aj λq=>h37 ((dS c 37 37 rfl).mp q)
  have j61:(((c.toNat:Nat):Int)=61)=False:=aj λq=>h61 ((dS c 61 61 rfl).mp q)
  rw[show lxG i c none=(aew i,2) from by unfold lxG;simp[h124,h60,h62,h40,h41,h44,h46,h59,h43,h45,h42,h47,h37,h61]]
  refine bB gQ ?_
  simp only[↓zA,sevalprocAttr,gZ,hw,gx,aK,be,lt,j124,j60,j62,j40,j41,j44,j46,j59,j43,j45,j42,j47,j37,j61]
  try rfl
def arD:=hJ @Tryz.f63.eq_1 @zq @cW @zT0 (kf apV)
def ay9(s:List UInt8)(i:Nat)(hl:s.length<=4000)(hi:i<=s.length):GN 63 [.of (aJ (aM s)),au i] [.of (.agg (tnC (abX s i).1)),au (abX s i).2]:=by
 have hs:=ahW false (s.drop i)
 rw[cU] at hs
 have ks:=λK=>aIP s i (by unfold LB;omega) hi K
 unfold abX
 have h1:((i:Int)<0)=False:=aj aC
 have h2:((s.length:Int)<(i:Int))=False:=aj aC
 generalize hj:i+dY false (s.drop i)=j at *
 rcases av j s.length with dk|dk
 .have h3:((j:Int)=(s.length:Int))=False:=aj aC
  have gx:=bu dk
  have kw:=λh K=>aF.k (ay5 s j hl dk h) K
  have kn:=λK=>aF.k (aup s j hl aC) K
  have kq:=λK=>aF.k (auo s j hl dk) K
  have kt:=λK=>aF.k (ay6 s j hl dk) K
  have kg:=λK=>aF.k (ay8 s j hl dk) K
  have e34:(((s[j].toNat:Nat):Int)=34)=(s[j]=34):=dS _ 34 34 rfl
  have e39:(((s[j].toNat:Nat):Int)=39)=(s[j]=39):=dS _ 39 39 rfl
  have et:aiO j (s.drop j)=if abN s[j] then lxW j ((s.drop j).takeWhile fV) else if bz s[j] then aeK j ((s.drop j).takeWhile bz) else if s[j]=34 then ahp j (s.drop (j+1)) else if s[j]=39 then aiP j (s.drop (j+1)) else lxG j s[j] (s.drop (j+1)).head?:=by
   rw[fu dk];rfl
  rw[et]
  cases c1:abN s[j] with
  | true =>
   have kw:=kw c1
   simp only[ah]
   generalize lxW j ((s.drop j).takeWhile fV)=r at *
   refine bB apV ?_
   simp only[↓zA,sevalprocAttr,arD,h1,h2,h3,ks,gx,abt,c1,kw,be]
   try rfl
  | false =>
   simp only[ab,ap]
   cases c2:bz s[j] with
   | true =>
    simp only[ah]
    generalize aeK j ((s.drop j).takeWhile bz)=r at *
    refine bB apV ?_
    simp only[↓zA,sevalprocAttr,arD,h1,h2,h3,ks,gx,abt,ab6,c1,c2,kn,be]
    try rfl
   | false =>
    simp only[ab,ap]
    by_cases c3:s[j]=34
    .rw[aE c3]
     have c3':=aa c3
     generalize ahp j (s.drop (j+1))=r at *
     refine bB apV ?_
     simp only[↓zA,sevalprocAttr,arD,h1,h2,h3,ks,gx,abt,ab6,c1,c2,e34,c3',kq,be]
     try rfl
    .rw[aA c3]
     have c3':=aj c3
     by_cases c4:s[j]=39
     .rw[aE c4]
      have c4':=aa c4
      generalize aiP j (s.drop (j+1))=r at *
      refine bB apV ?_
      simp only[↓zA,sevalprocAttr,arD,h1,h2,h3,ks,gx,abt,ab6,c1,c2,e34,c3',e39,c4',kt,be]
      try rfl
     .rw[aA c4]
      have c4':=aj c4
      generalize lxG j s[j] (s.drop (j+1)).head?=r at *
      refine bB apV ?_
      simp only[↓zA,sevalprocAttr,arD,h1,h2,h3,ks,gx,abt,ab6,c1,c2,e34,c3',e39,c4',kg,be]
      try rfl
 .have h3:((j:Int)=(s.length:Int))=True:=aa aC
  rw[bv dk]
  refine bB apV ?_
  simp only[↓zA,sevalprocAttr,arD,h1,h2,h3,ks,be,aiO]
  try rfl
def amQ:=hZ @Tryz.f25.eq_1 @zq @cW @fH @P3 @Q3 @zT0 (kf aJu)
def adP(s:List UInt8)(hs:s.length<LB)(r:List Tn×Int×Int)(hr:acq s=some r):GN 25 [.of (aJ (aM s))] [.of (slC tnC r.1),au r.2.1,au r.2.2]:=by
 unfold acq at hr
 by_cases hl:2000<s.length
 .rw[aE hl] at hr
  cases hr
  have h1:((2000:Int)<(s.length:Int))=True:=aa aC
  refine bB aJu ?_
  simp only[↓zA,sevalprocAttr,amQ,h1]
  try rfl
 .rw[aA hl] at hr
  have h1:((2000:Int)<(s.length:Int))=False:=aj aC
  refine bB aJu ?_
  simp only[↓zA,sevalprocAttr,amQ,h1]
  refine eT _ _ (λn t=>∃ (o:List Tn) (j:Nat),((t.fr 5=.nil/\o=[])\/∃ c x i,c<t.clk/\t.fr 5=.own (.nm c x i) 63 5 (fl tnC o) o.length)/\t.fr 0=.of (aJ (aM s))/\t.fr 6=au j/\t.objs=[]/\ahT s n o j=some r/\j<=s.length/\o.length<=j) ?_ (s.length+2) _ ?_
  .rintro n ⟨frn,obn,ckn⟩ ⟨o,j,hK,f0,f6,fo,E,hj,ho⟩
   dsimp only at hK f0 f6 fo
   have hos:(o.length+1<=LIM)=True:=aa (by unfold LIM;omega)
   have l1:(1<=LIM)=True:=aa aI
   cases n with
   | zero=>simp only[ahT] at E;cases E
   | succ n =>
   unfold ahT at E
   have kx:=λK=>aF.k (ay9 s j aC hj) K
   have hok:=λh=>asc hj (t:=(abX s j).1) (by rw[← (show (abX s j).2=0 from h)])
   generalize abX s j=p at *
   obtain⟨t,e⟩:=p
   dsimp only at E kx hok
   by_cases he:e=0
   .have he':=aa he
    rw[aA (by simp[he])] at E
    by_cases hk:t.k=0
    .have hk':=aa hk
     rw[aE hk] at E
     cases E
     rcases hK with ⟨f5,rfl⟩|⟨c,x,i',hc,f5⟩
     .simp only[↓zA,sevalprocAttr,amQ,f0,f5,f6,fo,kx,he',hk',be]
      try rfl
     .have hn0:(c=ckn)=False:=aj aC
      simp only[↓zA,sevalprocAttr,amQ,f0,f5,f6,fo,kx,he',hk',be,hn0]
      try rfl
    .have hk':=aj hk
     rw[aA hk] at E
     rcases hok he with q|⟨a,ha,q⟩
     .exact absurd q hk
     have q1:=q.pl
     have q2:=q.sz
     have hw:IntKind.i64.wrap (t.pl+t.sz)=(((t.pl+t.sz).toNat:Nat):Int):=by rw[cj _ aC aC];omega
     have hb:(t.pl+t.sz).toNat<=s.length:=by omega
     have hb2:j+1<=(t.pl+t.sz).toNat:=by omega
     rcases hK with ⟨f5,rfl⟩|⟨c,x,i',hc,f5⟩
     .simp only[↓zA,sevalprocAttr,amQ,f0,f5,f6,fo,kx,he',hk',be,l1,hw]
      exact⟨n,aD n,[t],(t.pl+t.sz).toNat,by first|exact anb (by rw[agu,be]) rfl (by omega)|exact .inr (anb (by rw[agu,be]) rfl aC),rfl,by simpa using E,hb,by simp only[fZ];omega⟩
     .have hne:(c=ckn+1)=False:=aj aC
      have hn0:(c=ckn)=False:=aj aC
      simp only[↓zA,sevalprocAttr,amQ,f0,f5,f6,fo,kx,he',hk',be,hos,hn0,hw]
      and_intros
      all_goals first|exact okN _ _ aC _|exact⟨n,aD n,o++[t],(t.pl+t.sz).toNat,by first|exact akY (by rw[be]) rfl (by omega)|exact .inr (akY (by rw[be]) rfl aC),rfl,E,hb,by simp only[abQ];omega⟩|rfl|omega
   .have he':=aj he
    rw[aE (by simpa using he)] at E
    cases E
    rcases hK with ⟨f5,rfl⟩|⟨c,x,i',hc,f5⟩
    all_goals
     simp only[↓zA,sevalprocAttr,amQ,f0,f6,fo,kx,he',be]
     try rfl
  .simp only[↓zA,sevalprocAttr,amQ]
   first|exact⟨[],0,.inl rfl,rfl,hr,bn _,am _⟩|exact⟨[],0,rfl,rfl,hr,bn _,am _⟩
abbrev wB(f:Func):Code:=f.body.getD .skip
@[reducible] def ab0:Code->Code
 | .seq a _=>a
 | c=>c
@[reducible] def gj:Code->Code
 | .seq _ b=>b
 | c=>c
abbrev w0S(f:Func):Code:=ab0 (wB f)
abbrev w1S(f:Func):Code:=ab0 (gj (wB f))
abbrev w2S(f:Func):Code:=ab0 (gj (gj (wB f)))
abbrev w4S(f:Func):Code:=ab0 (gj (gj (gj (wB f))))
abbrev w5S(f:Func):Code:=ab0 (gj (gj (gj (gj (wB f)))))
abbrev wBS(f:Func):Code:=gj (gj (gj (gj (gj (wB f)))))
abbrev wDS(f:Func):Code:=gj (gj (wB f))
def atK(c:C):asX tP 114 (.of (.ifc 114 c)) true=out (.of (.tup [c,.lit (.bool true)])):=by
 have:apQ ((tP 114).map (·.und))=true:=by rw[aZk];rfl
 simp only[asX,this,cz,ah]
def plT(s:List UInt8)(l:List Tn)(j:Nat):Int:=if l.length<=j then (s.length:Int) else (bN l j).pl
def gh{α:Type}(z:α)(s:List UInt8)(l:List Tn)(ok:Bool):α×Nat×Bool->α×Int×Int
 | (_,j,true)=>(z,plT s l j,if l.length<=j then 3 else 2)
 | (a,j,false)=>if j<l.length then (z,plT s l j,2) else if ok then (a,0,0) else (z,plT s l 0,4)
abbrev pT3(l:List Tn)(i:Nat)(e:Int):Ob:=.var 112 [.of (slC tnC l),.of (ci i),.of (ci e),.own (.cell 3 3) 28 9 [] 0,.own (.cell 3 4) 38 12 [] 0,.own (.cell 3 5) 140 6 [] 0]
def fr5(f g:Nat):Nat->X:=λj=>match j with
 | 1=>.of (.fn f [])
 | 2=>.of (.fn g [])
 | 6=>.ptr 0 0
 | 7=>.ptr 1 0
 | 8=>.ptr 2 0
 | 12=>.ptr 3 0
 | _=>.of .any
def ey:Tryz.prog.follows .mixedOrders=true:=by decide
theorem bU.skip{G:Go.Pe.GP}(hpr:PrSound Tryz.prog G pr){N:Nat}{s:S}{Φ:Ex->S->Prop}(h:Φ .normal s):bU Tryz.prog G N .skip s Φ :=
 bU.of ey hpr rfl ((Z10 ..).2 h)
theorem bU.ret{G:Go.Pe.GP}(hpr:PrSound Tryz.prog G pr){N:Nat}{s:S}{Φ:Ex->S->Prop}(h:Φ .ret s):bU Tryz.prog G N .ret s Φ :=
 bU.of ey hpr rfl ((Zy ..).2 h)
def aSR(a b:C):amq 0 (.of (.tup [a,b]))=out (.of a):=rfl
def aSQ(a b:C):amq 1 (.of (.tup [a,b]))=out (.of b):=rfl
theorem bU.anyN{P:Program}{G:Go.Pe.GP}{pr:Pr}{N:Nat}{s:S}{Φ:Ex->S->Prop}(hm:P.follows .mixedOrders=true)(hpr:PrSound P G pr){id:Nat}{ops:Array Oper}(hdst:ops.all (ab2 N)=true){E:List (List Nat)}(hE:ops.toList.map alv=E)(hlt:((List.range E.length).all λi=>(E.getD i []).all λd=>decide (d<i))=true)
  (n:Nat) (hn:ops.size=n) (h:WF P pr ops.toList E (λs'=>Φ .normal {s' with clk:=s'.clk+1}) n (List.replicate n false) s):bU P G N (.region id ops true) s Φ:=by
 subst hn;exact bU.any hm hpr hdst hE hlt h
def bxO(d:TD)(xs:List X):aDs (some d) (some xs)=if xs.length=d.size then some xs else none:=rfl
def eB:List (List Nat):=[[],[],[1],[2],[3],[4],[5],[6],[0,0],[7,8,0,1,2,3,4,5,6,7,8],[9,0,1,2,3,4,5,6,7,8,9]]
def eD:List (List Nat):=[[],[],[1],[],[3],[0,0],[2,5,0,1,2,5],[4,6,0,1,2,3,4,5,6]]
set_option maxRecDepth 1000000
def oC(f:Func)(c:Code)(h:aar pr.mt f.ntmps c=true:=by decide +kernel):aar pr.mt f.ntmps c=true:=h
def aLq:=oC Tryz.f30 (w0S Tryz.f30)
def aLp:=oC Tryz.f30 (w1S Tryz.f30)
def aLo:=oC Tryz.f30 (w2S Tryz.f30)
def aLn:=oC Tryz.f30 (w4S Tryz.f30)
def aLm:=oC Tryz.f30 (ab0 (wBS Tryz.f30))
def aUY:=oC Tryz.f30 (ab0 (gj (wBS Tryz.f30)))
def aUX:=oC Tryz.f30 (ab0 (ab0 (gj (gj (wBS Tryz.f30)))))
def aQQ:=oC Tryz.f30 (gj (gj (gj (wBS Tryz.f30))))
def aQP:=oC Tryz.f64 (ab0 (wDS Tryz.f64))
def aQO:=oC Tryz.f64 (ab0 (ab0 (gj (wDS Tryz.f64))))
def aQN:=oC Tryz.f64 (ab0 (gj (gj (wDS Tryz.f64))))
def aRx(cap:Array Value)(w:World):(invoke (.fn (.func 64) cap) #[]).run Tryz.prog w=.ok (.enter 64 cap) w:=by
 show (callFunc 64 (#[]++cap)).run Tryz.prog w=_
 rw[aaF]
 exact enters_of Tryz.func64 aS rfl _ _
def aLD(p6 p7 p8:Value)(w:World):CallsD Tryz.prog 64 #[p6,p7,p8] .returning w λe u' w'=>e=.returned (.tuple #[])/\u'=.returning/\w'=w:=by
 refine callsD_of_wpS Tryz.func64 rfl λc₀ cs hu=>?_
 apply wpS_seq
 apply wpS_region
 simp[wpOpsS,go_sem,recoverD,hu,Tryz.ntmps64,Exit.thenS]
 apply wpS_seq
 apply wpS_seq
 apply wpS_region
 simp[wpOpsS,go_sem,recoverD,hu,Exit.thenS]
 refine wpS_cond (t:=true) (by simp[Act.eval,Array.replicate]) ?_
 simp only[ah]
 refine wpS_of_wp (wp_ret ?_)
 cases c₀
 simp_all [bodyPostS,results,Tryz.results64,Exit.thenS]
def aS8 (t:TypeId) (u p6 p7 p8:Value) (w:World) (R:Ending->FrameMode->World->Prop) (h:∀ (c₀:Frame) (cs:List Frame) (T:Array Value),T.size=Tryz.f64.ntmps->T.getD 0 undef=p6->T.getD 1 undef=p7->T.getD 2 undef=p8->T.getD 3 undef=.iface t u ->
  (wDS Tryz.f64).wp Tryz.prog (λe a w'=>bodyPostS Tryz.prog Tryz.f64 c₀ cs R e a ({c₀ with mode:=.panicking [{v:=.iface t u,recovered:=true}]}::cs) w') ⟨T,[]⟩ w):CallsD Tryz.prog 64 #[p6,p7,p8] (.panicking [{v:=.iface t u,recovered:=false}]) w R:=by
 refine callsD_of_wpS Tryz.func64 rfl λc₀ cs hu=>?_
 apply wpS_seq
 apply wpS_region
 simp[wpOpsS,go_sem,recoverD,hu,Tryz.ntmps64,Exit.thenS]
 apply wpS_seq
 apply wpS_seq
 apply wpS_region
 simp[wpOpsS,go_sem,recoverD,Exit.thenS]
 refine wpS_cond (t:=false) (by simp[Act.eval,Array.replicate]) ?_
 simp only[ab,ap]
 refine wpS_of_wp (wp_skip ?_)
 simp only[Exit.thenS]
 refine wpS_of_wp (h _ _ _ ?_ ?_ ?_ ?_ ?_)
 all_goals simp[Tryz.ntmps64,Array.getD,Array.replicate]
 all_goals rfl
def aSW(tmps:Array Value)(w:World)(X:Act->World->Prop)(Q:Exit->Act->World->Prop)(hz:tmps.size=Tryz.f30.ntmps)(h:∀ cap,cap=#[tmps.getD 6 undef,tmps.getD 7 undef,tmps.getD 8 undef]->X ⟨tmps.setIfInBounds 30 (.func (.func 64) #[] cap),[⟨.fn (.func 64) cap,#[]⟩]⟩ w) :
  (w5S Tryz.f30).wp Tryz.prog (Exit.then X Q) ⟨tmps,[]⟩ w:=by
 have hmf:∀ (fn:Fn) (first cap:Array Value) (w:World),(Instr.makeFunc fn first cap).run Tryz.prog w=.ok (.func fn first cap) w:=λ_ _ _ _=>rfl
 have h':=h _ rfl
 have h30:30<tmps.size:=by rw[hz];decide
 have hg:∀ i:Nat,tmps.getD i undef=tmps[i]?.getD undef:=λi=>by simp
 simp only[hg] at h'
 apply wp_region
 simp[wpOps,go_sem,Exit.then,h30]
 exact .inl (.inl h')
def agM:=ai (hJ @Tryz.f30.eq_1 @zq @T3 @T29 @aZ) (hJ @cW @fH @P3 @Q3 @zT0)
def aAP:=hJ @zq @aZ @P3 @Q3 @zT0
abbrev aPI:List X:=[.of (ci 0),.of (ci 0),.of (ci 0),.of (aJ {data:=#[]}),.of (aJ {data:=#[]}),.of (aJ {data:=#[]}),.of (cb false),.nil,.nil]
def s5X(l:List Tn)(e:Int)(clk:Nat):S:=⟨fr5 31 22,[.var 28 aPI,.var 3 [.of (ci 0)],.var 29 [.of (ci 0)],pT3 l 0 e],clk⟩
def aA9{G:Go.Pe.GP}(hpr:PrSound Tryz.prog G pr)(l:List Tn)(j:Nat)(e q n:Int)(clk:Nat) :
  bU Tryz.prog G Tryz.f64.ntmps (wDS Tryz.f64) (ahJ (.of (.ifc 114 (.agg [ci q,ci n]))) [.var 28 aPI,.var 3 [.of (ci 0)],.var 29 [.of (ci 0)],pT3 l j e] clk) λe s7 =>
   e=.normal/\acI Tryz.prog (pr.keep 30) Tryz.f30 (akQ s7.objs s7.clk)=some ⟨false,[xpE x0,au q,au n],[]⟩:=by
 generalize hΦ:(λ(e:Ex) (s6:S)=>_)=Φ
 refine bU.seq (bU.of ey hpr aQP ?_)
 simp only[Tryz.f64,↓zA,sevalprocAttr,aAP,zWH,atK,amK,aSR,aSQ,pT3]
 refine bU.seq (bU.seq (bU.of ey hpr aQO ?_))
 simp only[↓zA,sevalprocAttr,aAP]
 refine bU.cond (t:=false) rfl ?_
 simp only[ab,ap]
 refine bU.skip hpr ?_
 refine bU.seq (bU.of ey hpr aQN ?_)
 simp only[↓zA,sevalprocAttr,aAP,zWH]
 refine bU.anyN ey hpr (E:=eD) (by decide +kernel) (by decide +kernel) aI 8 (by rfl) ?_
 subst hΦ
 simp only[↓zA,sevalprocAttr,aAP,zWH,↓aoN,↓aj8,↓amA,↓amB,↓aoO,↓aoP,z_eD,List.replicate,acI,Tryz.f30,agM]
 repeat' (first|exact rfl|refine ai ?_ ?_)
def avi{G:Go.Pe.GP}(hpr:PrSound Tryz.prog G pr)(s:List UInt8)(hs:s.length<LB)(l:List Tn)(p:Int)(ht:acq s=some (l,p,0))(hl:l.length<LB){F:Fs}(H:PY l s.length F)(r:Xp×Nat×Bool)(hr:F.or 0 []=some r)(ok:Bool)
  (kR:∀ K,cKp 22 [xpE r.1] [] K↔K ⟨false,[aN ok],[]⟩) (h0:r.2.2=false->ok=false->0<l.length) :
  abu Tryz.prog G 30 [.of (aJ (aM s)),.of (.fn 31 []),.of (.fn 22 [])] [] ⟨false,[xpE (gh x0 s l ok r).1,au (gh x0 s l ok r).2.1,au (gh x0 s l ok r).2.2],[]⟩:=by
 have kt:=λK=>aF.k (adP s hs _ ht) K
 have g:=H.or 0 r (bn _) hr
 obtain⟨a,j,b⟩:=r
 obtain⟨u,v⟩:=g.1
 dsimp only at u v kR h0
 have main:∀ clk,aem Tryz.prog G pr 30 Tryz.f30 Tryz.f30.ntmps Tryz.f64.ntmps (wBS Tryz.f30) (wDS Tryz.f64) ⟨false,[xpE (gh x0 s l ok (a,j,b)).1,au (gh x0 s l ok (a,j,b)).2.1,au (gh x0 s l ok (a,j,b)).2.2],[]⟩ (s5X l s.length clk):=by
  intro clk
  unfold aem
  generalize hΦ:(λ(e:Ex) (s6:S)=>_)=Φ
  refine bU.seq ?_
  cases b with
  | true =>
   have kg:=g.bad
   unfold pT at kg
   simp only[show ((0:Nat):Int)=0 from rfl] at kg
   refine bU.of ey hpr aLm ?_
   simp only[↓zA,sevalprocAttr,agM,s5X,zWH,kg,aLy,aGc,aQh,zP]
   subst hΦ
   refine Or.inr ?_
   by_cases hj:l.length<=j
   .have hf:acT l j s.length=.of (.ifc 114 (.agg [ci s.length,ci 3])):=aE hj
    refine⟨_,_,congrArg Ex.pan hf,rfl,rfl,rfl,?_⟩
    simp only[gh,plT,aE hj]
    exact aA9 hpr l j s.length s.length 3 _
   .have hf:acT l j s.length=.of (.ifc 114 (.agg [ci (bN l j).pl,ci 2])):=aA hj
    refine⟨_,_,congrArg Ex.pan hf,rfl,rfl,rfl,?_⟩
    simp only[gh,plT,aA hj]
    exact aA9 hpr l j s.length (bN l j).pl 2 _
  | false =>
   have kg:=g.ok
   unfold pT at kg
   simp only[show ((0:Nat):Int)=0 from rfl] at kg
   refine bU.of ey hpr aLm ?_
   simp only[↓zA,sevalprocAttr,agM,s5X,zWH,kg,aLy,aGc,aQh]
   refine bU.seq (bU.of ey hpr aUY ?_)
   by_cases hlt:j<l.length
   .have dl:((j:Int)<(l.length:Int))=True:=aa aC
    have kv:=λK=>aF.k (ag7 l j s.length hl v) K
    unfold pT at kv
    simp only[↓zA,sevalprocAttr,agM,zWH,dl,kv,zP]
    subst hΦ
    refine Or.inr ?_
    have hj:¬l.length<=j:=by omega
    have hf:acT l j s.length=.of (.ifc 114 (.agg [ci (bN l j).pl,ci 2])):=aA hj
    refine⟨_,_,congrArg Ex.pan hf,rfl,rfl,rfl,?_⟩
    simp only[gh,plT,aE hlt,aA hj]
    exact aA9 hpr l j s.length (bN l j).pl 2 _
   .have dl:((j:Int)<(l.length:Int))=False:=aj aC
    simp only[↓zA,sevalprocAttr,agM,zWH,dl]
    refine bU.seq (bU.seq (bU.of ey hpr aUX ?_))
    cases ok with
    | true =>
     simp only[↓zA,sevalprocAttr,agM,zWH,aLA,aGe,kR]
     refine bU.cond (t:=false) rfl ?_
     simp only[ab,ap]
     refine bU.skip hpr ?_
     refine bU.of ey hpr aQQ ?_
     simp only[↓zA,sevalprocAttr,agM,zWH]
     subst hΦ
     refine Or.inl ⟨rfl,?_⟩
     simp only[↓zA,sevalprocAttr,agM,zWH,acI,gh,aA hlt]
    | false =>
     simp only[↓zA,sevalprocAttr,agM,zWH,aLA,aGe,kR]
     refine bU.cond (t:=true) rfl ?_
     simp only[ah]
     refine bU.seq (bU.anyN ey hpr (E:=eB) (by decide +kernel) (by decide +kernel) aI 11 (by rfl) ?_)
     have gx:=gL (h0 rfl rfl)
     rw[show ((0:Nat):Int)=0 from rfl] at gx
     have key:∀ s6:S,s6.fr 6=.ptr 0 0->s6.fr 7=.ptr 1 0->s6.fr 8=.ptr 2 0->s6.objs=[.var 28 [.of (ci 0),.of (ci 0),.of (ci 0),.of (aJ {data:=#[]}),.of (aJ {data:=#[]}),.of (aJ {data:=#[]}),.of (cb false),.nil,.nil],.var 3 [.of (ci (bN l 0).pl)],.var 29 [.of (ci 4)],pT3 l j s.length]->Φ .ret s6:=by
      intro s6 h6 h7 h8 ho
      subst hΦ
      refine Or.inl ⟨rfl,?_⟩
      have hj:¬l.length<=0:=by have:=h0 rfl rfl;omega
      simp only[↓zA,sevalprocAttr,agM,acI,gh,plT,aA hlt,aA hj,h6,h7,h8,ho,pT3]
      rfl
     simp only[↓zA,sevalprocAttr,agM,zWH,gx,↓aoN,↓aj8,↓amA,↓amB,↓aoO,↓aoP,z_eB,List.replicate]
     repeat' (first|exact bU.ret hpr (key _ rfl rfl rfl rfl)|refine ai ?_ ?_)
 refine adm ey hpr (fn:=Tryz.f30) (fg:=Tryz.f64) Tryz.func30 rfl rfl rfl aLq aLp aLo aLn aSW aRx aLD aS8 (by show 3<=_;decide) ?_
 generalize hB:aem _ _ _ _ _ _ _ _ _ _=BD
 generalize hF:anV _ _ _ _ _=A2
 simp only[↓zA,sevalprocAttr,agM,kt]
 subst hF
 refine .inr ⟨rfl,?_⟩
 simp only[↓zA,sevalprocAttr,agM,bxO]
 refine⟨rfl,rfl,rfl,rfl,_,rfl,rfl,rfl,rfl,amC.of (fr5 31 22) rfl (λj=>by
  unfold fr5;split <;> first|exact .inr ⟨rfl,λ_=>rfl⟩|exact .inl rfl) (λ_=>rfl) (r:=3) (ty:=112) (A:=[.of (slC tnC l),.of (ci 0),.of (ci s.length)]) rfl 28 9 38 12 140 6 (by rintro o (rfl|rfl|rfl) <;> rfl),?_⟩
 subst hB
 exact main _
def aB0{G:Go.Pe.GP}(hpr:PrSound Tryz.prog G pr)(s:List UInt8)(hs:s.length<LB)(l:List Tn)(p e:Int)(ht:acq s=some (l,p,e))(he:e≠0) :
  abu Tryz.prog G 30 [.of (aJ (aM s)),.of (.fn 31 []),.of (.fn 22 [])] [] ⟨false,[xpE x0,au p,au e],[]⟩:=by
 have kt:=λK=>aF.k (adP s hs _ ht) K
 have he':(e=0)=False:=aj he
 refine adm ey hpr (fn:=Tryz.f30) (fg:=Tryz.f64) Tryz.func30 rfl rfl rfl aLq aLp aLo aLn aSW aRx aLD aS8 (by show 3<=_;decide) ?_
 generalize hB:aem _ _ _ _ _ _ _ _ _ _=BD
 generalize hF:anV _ _ _ _ _=A2
 simp only[↓zA,sevalprocAttr,agM,kt,he']
 subst hF
 refine .inl ⟨rfl,?_⟩
 simp only[↓zA,sevalprocAttr,agM,acI]
 rfl
set_option maxRecDepth 1000000
def aLv:=oC Tryz.f38 (w0S Tryz.f38)
def aLu:=oC Tryz.f38 (w1S Tryz.f38)
def aLt:=oC Tryz.f38 (w2S Tryz.f38)
def aLs:=oC Tryz.f38 (w4S Tryz.f38)
def aLr:=oC Tryz.f38 (ab0 (wBS Tryz.f38))
def aVe:=oC Tryz.f38 (ab0 (gj (wBS Tryz.f38)))
def aVd:=oC Tryz.f38 (ab0 (ab0 (gj (gj (wBS Tryz.f38)))))
def aQW:=oC Tryz.f38 (gj (gj (gj (wBS Tryz.f38))))
def aQV:=oC Tryz.f73 (ab0 (wDS Tryz.f73))
def aQU:=oC Tryz.f73 (ab0 (ab0 (gj (wDS Tryz.f73))))
def aQT:=oC Tryz.f73 (ab0 (gj (gj (wDS Tryz.f73))))
def aRy(cap:Array Value)(w:World):(invoke (.fn (.func 73) cap) #[]).run Tryz.prog w=.ok (.enter 73 cap) w:=by
 show (callFunc 73 (#[]++cap)).run Tryz.prog w=_
 rw[aaF]
 exact enters_of Tryz.func73 aS rfl _ _
def aLE(p6 p7 p8:Value)(w:World):CallsD Tryz.prog 73 #[p6,p7,p8] .returning w λe u' w'=>e=.returned (.tuple #[])/\u'=.returning/\w'=w:=by
 refine callsD_of_wpS Tryz.func73 rfl λc₀ cs hu=>?_
 apply wpS_seq
 apply wpS_region
 simp[wpOpsS,go_sem,recoverD,hu,Tryz.ntmps73,Exit.thenS]
 apply wpS_seq
 apply wpS_seq
 apply wpS_region
 simp[wpOpsS,go_sem,recoverD,hu,Exit.thenS]
 refine wpS_cond (t:=true) (by simp[Act.eval,Array.replicate]) ?_
 simp only[ah]
 refine wpS_of_wp (wp_ret ?_)
 cases c₀
 simp_all [bodyPostS,results,Tryz.results73,Exit.thenS]
def aS9 (t:TypeId) (u p6 p7 p8:Value) (w:World) (R:Ending->FrameMode->World->Prop) (h:∀ (c₀:Frame) (cs:List Frame) (T:Array Value),T.size=Tryz.f73.ntmps->T.getD 0 undef=p6->T.getD 1 undef=p7->T.getD 2 undef=p8->T.getD 3 undef=.iface t u ->
  (wDS Tryz.f73).wp Tryz.prog (λe a w'=>bodyPostS Tryz.prog Tryz.f73 c₀ cs R e a ({c₀ with mode:=.panicking [{v:=.iface t u,recovered:=true}]}::cs) w') ⟨T,[]⟩ w):CallsD Tryz.prog 73 #[p6,p7,p8] (.panicking [{v:=.iface t u,recovered:=false}]) w R:=by
 refine callsD_of_wpS Tryz.func73 rfl λc₀ cs hu=>?_
 apply wpS_seq
 apply wpS_region
 simp[wpOpsS,go_sem,recoverD,hu,Tryz.ntmps73,Exit.thenS]
 apply wpS_seq
 apply wpS_seq
 apply wpS_region
 simp[wpOpsS,go_sem,recoverD,Exit.thenS]
 refine wpS_cond (t:=false) (by simp[Act.eval,Array.replicate]) ?_
 simp only[ab,ap]
 refine wpS_of_wp (wp_skip ?_)
 simp only[Exit.thenS]
 refine wpS_of_wp (h _ _ _ ?_ ?_ ?_ ?_ ?_)
 all_goals simp[Tryz.ntmps73,Array.getD,Array.replicate]
 all_goals rfl
def aSX(tmps:Array Value)(w:World)(X:Act->World->Prop)(Q:Exit->Act->World->Prop)(hz:tmps.size=Tryz.f38.ntmps)(h:∀ cap,cap=#[tmps.getD 6 undef,tmps.getD 7 undef,tmps.getD 8 undef]->X ⟨tmps.setIfInBounds 30 (.func (.func 73) #[] cap),[⟨.fn (.func 73) cap,#[]⟩]⟩ w) :
  (w5S Tryz.f38).wp Tryz.prog (Exit.then X Q) ⟨tmps,[]⟩ w:=by
 have hmf:∀ (fn:Fn) (first cap:Array Value) (w:World),(Instr.makeFunc fn first cap).run Tryz.prog w=.ok (.func fn first cap) w:=λ_ _ _ _=>rfl
 have h':=h _ rfl
 have h30:30<tmps.size:=by rw[hz];decide
 have hg:∀ i:Nat,tmps.getD i undef=tmps[i]?.getD undef:=λi=>by simp
 simp only[hg] at h'
 apply wp_region
 simp[wpOps,go_sem,Exit.then,h30]
 exact .inl (.inl h')
def agL:=ai (hJ @Tryz.f38.eq_1 @zq @T3 @T29 @bi) (hJ @cW @fH @P3 @Q3 @zT0)
def aAM:=hJ @zq @bi @P3 @Q3 @zT0
abbrev aPJ:List X:=[.of (ci 0),.of (cb false),.nil,.of (cb false),.nil,.nil,.nil,.nil,.nil,.nil,.of (ci 0),.of (ci 0)]
def s5Q(l:List Tn)(e:Int)(clk:Nat):S:=⟨fr5 39 23,[.var 38 aPJ,.var 3 [.of (ci 0)],.var 29 [.of (ci 0)],pT3 l 0 e],clk⟩
def aBa{G:Go.Pe.GP}(hpr:PrSound Tryz.prog G pr)(l:List Tn)(j:Nat)(e q n:Int)(clk:Nat) :
  bU Tryz.prog G Tryz.f73.ntmps (wDS Tryz.f73) (ahJ (.of (.ifc 114 (.agg [ci q,ci n]))) [.var 38 aPJ,.var 3 [.of (ci 0)],.var 29 [.of (ci 0)],pT3 l j e] clk) λe s7 =>
   e=.normal/\acI Tryz.prog (pr.keep 38) Tryz.f38 (akQ s7.objs s7.clk)=some ⟨false,[qyE y0,au q,au n],[]⟩:=by
 generalize hΦ:(λ(e:Ex) (s6:S)=>_)=Φ
 refine bU.seq (bU.of ey hpr aQV ?_)
 simp only[Tryz.f73,↓zA,sevalprocAttr,aAM,zWH,atK,amK,aSR,aSQ,pT3]
 refine bU.seq (bU.seq (bU.of ey hpr aQU ?_))
 simp only[↓zA,sevalprocAttr,aAM]
 refine bU.cond (t:=false) rfl ?_
 simp only[ab,ap]
 refine bU.skip hpr ?_
 refine bU.seq (bU.of ey hpr aQT ?_)
 simp only[↓zA,sevalprocAttr,aAM,zWH]
 refine bU.anyN ey hpr (E:=eD) (by decide +kernel) (by decide +kernel) aI 8 (by rfl) ?_
 subst hΦ
 simp only[↓zA,sevalprocAttr,aAM,zWH,↓aoN,↓aj8,↓amA,↓amB,↓aoO,↓aoP,z_eD,List.replicate,acI,Tryz.f38,agL]
 repeat' (first|exact rfl|refine ai ?_ ?_)
def avj{G:Go.Pe.GP}(hpr:PrSound Tryz.prog G pr)(s:List UInt8)(hs:s.length<LB)(l:List Tn)(p:Int)(ht:acq s=some (l,p,0))(hl:l.length<LB){F:Fs}(H:PY l s.length F)(r:Qy×Nat×Bool)(hr:F.qy 0 []=some r)(ok:Bool)
  (kR:∀ K,cKp 23 [qyE r.1] [] K↔K ⟨false,[aN ok],[]⟩) (h0:r.2.2=false->ok=false->0<l.length) :
  abu Tryz.prog G 38 [.of (aJ (aM s)),.of (.fn 39 []),.of (.fn 23 [])] [] ⟨false,[qyE (gh y0 s l ok r).1,au (gh y0 s l ok r).2.1,au (gh y0 s l ok r).2.2],[]⟩:=by
 have kt:=λK=>aF.k (adP s hs _ ht) K
 have g:=H.qy 0 r (bn _) hr
 obtain⟨a,j,b⟩:=r
 obtain⟨u,v⟩:=g.1
 dsimp only at u v kR h0
 have main:∀ clk,aem Tryz.prog G pr 38 Tryz.f38 Tryz.f38.ntmps Tryz.f73.ntmps (wBS Tryz.f38) (wDS Tryz.f73) ⟨false,[qyE (gh y0 s l ok (a,j,b)).1,au (gh y0 s l ok (a,j,b)).2.1,au (gh y0 s l ok (a,j,b)).2.2],[]⟩ (s5Q l s.length clk):=by
  intro clk
  unfold aem
  generalize hΦ:(λ(e:Ex) (s6:S)=>_)=Φ
  refine bU.seq ?_
  cases b with
  | true =>
   have kg:=g.bad
   unfold pT at kg
   simp only[show ((0:Nat):Int)=0 from rfl] at kg
   refine bU.of ey hpr aLr ?_
   simp only[↓zA,sevalprocAttr,agL,s5Q,zWH,kg,aLx,aGb,aQg,zP]
   subst hΦ
   refine Or.inr ?_
   by_cases hj:l.length<=j
   .have hf:acT l j s.length=.of (.ifc 114 (.agg [ci s.length,ci 3])):=aE hj
    refine⟨_,_,congrArg Ex.pan hf,rfl,rfl,rfl,?_⟩
    simp only[gh,plT,aE hj]
    exact aBa hpr l j s.length s.length 3 _
   .have hf:acT l j s.length=.of (.ifc 114 (.agg [ci (bN l j).pl,ci 2])):=aA hj
    refine⟨_,_,congrArg Ex.pan hf,rfl,rfl,rfl,?_⟩
    simp only[gh,plT,aA hj]
    exact aBa hpr l j s.length (bN l j).pl 2 _
  | false =>
   have kg:=g.ok
   unfold pT at kg
   simp only[show ((0:Nat):Int)=0 from rfl] at kg
   refine bU.of ey hpr aLr ?_
   simp only[↓zA,sevalprocAttr,agL,s5Q,zWH,kg,aLx,aGb,aQg]
   refine bU.seq (bU.of ey hpr aVe ?_)
   by_cases hlt:j<l.length
   .have dl:((j:Int)<(l.length:Int))=True:=aa aC
    have kv:=λK=>aF.k (ag7 l j s.length hl v) K
    unfold pT at kv
    simp only[↓zA,sevalprocAttr,agL,zWH,dl,kv,zP]
    subst hΦ
    refine Or.inr ?_
    have hj:¬l.length<=j:=by omega
    have hf:acT l j s.length=.of (.ifc 114 (.agg [ci (bN l j).pl,ci 2])):=aA hj
    refine⟨_,_,congrArg Ex.pan hf,rfl,rfl,rfl,?_⟩
    simp only[gh,plT,aE hlt,aA hj]
    exact aBa hpr l j s.length (bN l j).pl 2 _
   .have dl:((j:Int)<(l.length:Int))=False:=aj aC
    simp only[↓zA,sevalprocAttr,agL,zWH,dl]
    refine bU.seq (bU.seq (bU.of ey hpr aVd ?_))
    cases ok with
    | true =>
     simp only[↓zA,sevalprocAttr,agL,zWH,aLz,aGd,kR]
     refine bU.cond (t:=false) rfl ?_
     simp only[ab,ap]
     refine bU.skip hpr ?_
     refine bU.of ey hpr aQW ?_
     simp only[↓zA,sevalprocAttr,agL,zWH]
     subst hΦ
     refine Or.inl ⟨rfl,?_⟩
     simp only[↓zA,sevalprocAttr,agL,zWH,acI,gh,aA hlt]
    | false =>
     simp only[↓zA,sevalprocAttr,agL,zWH,aLz,aGd,kR]
     refine bU.cond (t:=true) rfl ?_
     simp only[ah]
     refine bU.seq (bU.anyN ey hpr (E:=eB) (by decide +kernel) (by decide +kernel) aI 11 (by rfl) ?_)
     have gx:=gL (h0 rfl rfl)
     rw[show ((0:Nat):Int)=0 from rfl] at gx
     have key:∀ s6:S,s6.fr 6=.ptr 0 0->s6.fr 7=.ptr 1 0->s6.fr 8=.ptr 2 0->s6.objs=[.var 38 [.of (ci 0),.of (cb false),.nil,.of (cb false),.nil,.nil,.nil,.nil,.nil,.nil,.of (ci 0),.of (ci 0)],.var 3 [.of (ci (bN l 0).pl)],.var 29 [.of (ci 4)],pT3 l j s.length]->Φ .ret s6:=by
      intro s6 h6 h7 h8 ho
      subst hΦ
      refine Or.inl ⟨rfl,?_⟩
      have hj:¬l.length<=0:=by have:=h0 rfl rfl;omega
      simp only[↓zA,sevalprocAttr,agL,acI,gh,plT,aA hlt,aA hj,h6,h7,h8,ho,pT3]
      rfl
     simp only[↓zA,sevalprocAttr,agL,zWH,gx,↓aoN,↓aj8,↓amA,↓amB,↓aoO,↓aoP,z_eB,List.replicate]
     repeat' (first|exact bU.ret hpr (key _ rfl rfl rfl rfl)|refine ai ?_ ?_)
 refine adm ey hpr (fn:=Tryz.f38) (fg:=Tryz.f73) Tryz.func38 rfl rfl rfl aLv aLu aLt aLs aSX aRy aLE aS9 (by show 3<=_;decide) ?_
 generalize hB:aem _ _ _ _ _ _ _ _ _ _=BD
 generalize hF:anV _ _ _ _ _=A2
 simp only[↓zA,sevalprocAttr,agL,kt]
 subst hF
 refine .inr ⟨rfl,?_⟩
 simp only[↓zA,sevalprocAttr,agL,bxO]
 refine⟨rfl,rfl,rfl,rfl,_,rfl,rfl,rfl,rfl,amC.of (fr5 39 23) rfl (λj=>by
  unfold fr5;split <;> first|exact .inr ⟨rfl,λ_=>rfl⟩|exact .inl rfl) (λ_=>rfl) (r:=3) (ty:=112) (A:=[.of (slC tnC l),.of (ci 0),.of (ci s.length)]) rfl 28 9 38 12 140 6 (by rintro o (rfl|rfl|rfl) <;> rfl),?_⟩
 subst hB
 exact main _
def aB1{G:Go.Pe.GP}(hpr:PrSound Tryz.prog G pr)(s:List UInt8)(hs:s.length<LB)(l:List Tn)(p e:Int)(ht:acq s=some (l,p,e))(he:e≠0) :
  abu Tryz.prog G 38 [.of (aJ (aM s)),.of (.fn 39 []),.of (.fn 23 [])] [] ⟨false,[qyE y0,au p,au e],[]⟩:=by
 have kt:=λK=>aF.k (adP s hs _ ht) K
 have he':(e=0)=False:=aj he
 refine adm ey hpr (fn:=Tryz.f38) (fg:=Tryz.f73) Tryz.func38 rfl rfl rfl aLv aLu aLt aLs aSX aRy aLE aS9 (by show 3<=_;decide) ?_
 generalize hB:aem _ _ _ _ _ _ _ _ _ _=BD
 generalize hF:anV _ _ _ _ _=A2
 simp only[↓zA,sevalprocAttr,agL,kt,he']
 subst hF
 refine .inl ⟨rfl,?_⟩
 simp only[↓zA,sevalprocAttr,agL,acI]
 rfl
set_option maxRecDepth 1000000
def aVc:=oC Tryz.f45 (w0S Tryz.f45)
def aVb:=oC Tryz.f45 (w1S Tryz.f45)
def aVa:=oC Tryz.f45 (w2S Tryz.f45)
def aU9:=oC Tryz.f45 (w4S Tryz.f45)
def aU8:=oC Tryz.f45 (ab0 (wBS Tryz.f45))
def aU7:=oC Tryz.f45 (ab0 (gj (wBS Tryz.f45)))
def aU6:=oC Tryz.f45 (ab0 (ab0 (gj (gj (wBS Tryz.f45)))))
def aQS:=oC Tryz.f45 (gj (gj (gj (wBS Tryz.f45))))
def aY7(cap:Array Value)(w:World):(invoke (.fn (.func 90) cap) #[]).run Tryz.prog w=.ok (.enter 90 cap) w:=by
 show (callFunc 90 (#[]++cap)).run Tryz.prog w=_
 rw[aaF]
 exact enters_of Tryz.func90 aS rfl _ _
def aXJ(p6 p7 p8:Value)(w:World):CallsD Tryz.prog 90 #[p6,p7,p8] .returning w λe u' w'=>e=.returned (.tuple #[])/\u'=.returning/\w'=w:=by
 refine callsD_of_wpS Tryz.func90 rfl λc₀ cs hu=>?_
 apply wpS_seq
 apply wpS_region
 simp[wpOpsS,go_sem,recoverD,hu,Tryz.ntmps90,Exit.thenS]
 apply wpS_seq
 apply wpS_seq
 apply wpS_region
 simp[wpOpsS,go_sem,recoverD,hu,Exit.thenS]
 refine wpS_cond (t:=true) (by simp[Act.eval,Array.replicate]) ?_
 simp only[ah]
 refine wpS_of_wp (wp_ret ?_)
 cases c₀
 simp_all [bodyPostS,results,Tryz.results90,Exit.thenS]
def aX1 (t:TypeId) (u p6 p7 p8:Value) (w:World) (R:Ending->FrameMode->World->Prop) (h:∀ (c₀:Frame) (cs:List Frame) (T:Array Value),T.size=Tryz.f90.ntmps->T.getD 0 undef=p6->T.getD 1 undef=p7->T.getD 2 undef=p8->T.getD 3 undef=.iface t u ->
  (wDS Tryz.f90).wp Tryz.prog (λe a w'=>bodyPostS Tryz.prog Tryz.f90 c₀ cs R e a ({c₀ with mode:=.panicking [{v:=.iface t u,recovered:=true}]}::cs) w') ⟨T,[]⟩ w):CallsD Tryz.prog 90 #[p6,p7,p8] (.panicking [{v:=.iface t u,recovered:=false}]) w R:=by
 refine callsD_of_wpS Tryz.func90 rfl λc₀ cs hu=>?_
 apply wpS_seq
 apply wpS_region
 simp[wpOpsS,go_sem,recoverD,hu,Tryz.ntmps90,Exit.thenS]
 apply wpS_seq
 apply wpS_seq
 apply wpS_region
 simp[wpOpsS,go_sem,recoverD,Exit.thenS]
 refine wpS_cond (t:=false) (by simp[Act.eval,Array.replicate]) ?_
 simp only[ab,ap]
 refine wpS_of_wp (wp_skip ?_)
 simp only[Exit.thenS]
 refine wpS_of_wp (h _ _ _ ?_ ?_ ?_ ?_ ?_)
 all_goals simp[Tryz.ntmps90,Array.getD,Array.replicate]
 all_goals rfl
def aZf(tmps:Array Value)(w:World)(X:Act->World->Prop)(Q:Exit->Act->World->Prop)(hz:tmps.size=Tryz.f45.ntmps)(h:∀ cap,cap=#[tmps.getD 6 undef,tmps.getD 7 undef,tmps.getD 8 undef]->X ⟨tmps.setIfInBounds 30 (.func (.func 90) #[] cap),[⟨.fn (.func 90) cap,#[]⟩]⟩ w) :
  (w5S Tryz.f45).wp Tryz.prog (Exit.then X Q) ⟨tmps,[]⟩ w:=by
 have hmf:∀ (fn:Fn) (first cap:Array Value) (w:World),(Instr.makeFunc fn first cap).run Tryz.prog w=.ok (.func fn first cap) w:=λ_ _ _ _=>rfl
 have h':=h _ rfl
 have h30:30<tmps.size:=by rw[hz];decide
 have hg:∀ i:Nat,tmps.getD i undef=tmps[i]?.getD undef:=λi=>by simp
 simp only[hg] at h'
 apply wp_region
 simp[wpOps,go_sem,Exit.then,h30]
 exact .inl (.inl h')
def apf:=ib @Tryz.f45.eq_1 @zq @T3 @T29 @cW @fH @P3 @Q3 @zT0
abbrev aYe:List X:=[.of (ci 0),.of (aJ {data:=#[]}),.of (aJ {data:=#[]}),.nil,.nil,.of (cb false),.nil,.nil,.nil,.nil,.nil,.nil,.nil]
def s5S(l:List Tn)(e:Int)(clk:Nat):S:=⟨fr5 46 24,[.var 49 aYe,.var 3 [.of (ci 0)],.var 29 [.of (ci 0)],pT3 l 0 e],clk⟩
def ayn{G:Go.Pe.GP}(hpr:PrSound Tryz.prog G pr)(s:List UInt8)(hs:s.length<LB)(l:List Tn)(p:Int)(ht:acq s=some (l,p,0))(hl:l.length<LB)(a:Sm)
  (kg:∀ K,cKp 46 [.ptr 0 0] [pT l 0 s.length] K↔K ⟨false,[smE a],[pT l l.length s.length]⟩)
  (kR:∀ K,cKp 24 [smE a] [] K↔K ⟨false,[aN true],[]⟩) :
  abu Tryz.prog G 45 [.of (aJ (aM s)),.of (.fn 46 []),.of (.fn 24 [])] [] ⟨false,[smE a,au 0,au 0],[]⟩:=by
 have kt:=λK=>aF.k (adP s hs _ ht) K
 unfold pT at kg
 simp only[show ((0:Nat):Int)=0 from rfl] at kg
 have dl:((l.length:Int)<(l.length:Int))=False:=aj aC
 have main:∀ clk,aem Tryz.prog G pr 45 Tryz.f45 Tryz.f45.ntmps Tryz.f90.ntmps (wBS Tryz.f45) (wDS Tryz.f90) ⟨false,[smE a,au 0,au 0],[]⟩ (s5S l s.length clk):=by
  intro clk
  unfold aem
  generalize hΦ:(λ(e:Ex) (s6:S)=>_)=Φ
  refine bU.seq (bU.of ey hpr aU8 ?_)
  simp only[↓zA,sevalprocAttr,apf,s5S,zWH,kg,aVl,aTh,aYx]
  refine bU.seq (bU.of ey hpr aU7 ?_)
  simp only[↓zA,sevalprocAttr,apf,zWH,dl]
  refine bU.seq (bU.seq (bU.of ey hpr aU6 ?_))
  simp only[↓zA,sevalprocAttr,apf,zWH,aVm,aTi,kR]
  refine bU.cond (t:=false) rfl ?_
  simp only[ab,ap]
  refine bU.skip hpr ?_
  refine bU.of ey hpr aQS ?_
  simp only[↓zA,sevalprocAttr,apf,zWH]
  subst hΦ
  refine Or.inl ⟨rfl,?_⟩
  simp only[↓zA,sevalprocAttr,apf,zWH,acI]
 refine adm ey hpr (fn:=Tryz.f45) (fg:=Tryz.f90) Tryz.func45 rfl rfl rfl aVc aVb aVa aU9 aZf aY7 aXJ aX1 (by show 3<=_;decide) ?_
 generalize hB:aem _ _ _ _ _ _ _ _ _ _=BD
 generalize hF:anV _ _ _ _ _=A2
 simp only[↓zA,sevalprocAttr,apf,kt]
 subst hF
 refine .inr ⟨rfl,?_⟩
 simp only[↓zA,sevalprocAttr,apf,bxO]
 refine⟨rfl,rfl,rfl,rfl,_,rfl,rfl,rfl,rfl,amC.of (fr5 46 24) rfl (λj=>by
  unfold fr5;split <;> first|exact .inr ⟨rfl,λ_=>rfl⟩|exact .inl rfl) (λ_=>rfl) (r:=3) (ty:=112) (A:=[.of (slC tnC l),.of (ci 0),.of (ci s.length)]) rfl 28 9 38 12 140 6 (by rintro o (rfl|rfl|rfl) <;> rfl),?_⟩
 subst hB
 exact main _
end Go.Proofs.YtghkmcffifpkeaaGreat
namespace Go.Tab
deriving instance DecidableEq for Od,Cd
end Go.Tab
namespace Go.Proofs.YtghkmcffifpkeaaGreat
open Pe Tab
def FnB{α:Type}(A:α->C)(g:Nat)(cp:List C)(p:α->Bool)(l:List α):Prop:=ad7 g=false/\fh Tryz.prog g=true/\∀ x∈l,G1 g (.of (A x)::cp.map .of) (aN (p x))
def aTC{α:Type}(A:α->C)(g:Nat)(cp:List C)(p:α->α->Bool)(l:List α)(m:List α):Prop:=ad7 g=false/\fh Tryz.prog g=true/\∀ x∈l,∀ y∈m,G1 g (.of (A x)::.of (A y)::cp.map .of) (aN (p x y))
theorem aAs{α:Type}(p:α->Bool):∀ (l:List α) (k:Nat),aiV p k l=-1/\l.any p=false\/(k:Int)<=aiV p k l/\l.any p=true
 | [],k=>by simp[aiV]
 | x::r,k=>by
  simp only[aiV,ai1]
  cases hp:p x
  .simp only[ab,ap,fC]
   rcases aAs p r (k+1) with h|h
   .exact .inl h
   .exact .inr ⟨by omega,h.2⟩
  .exact .inr ⟨by simp,rfl⟩
def aw8{α:Type}(p:α->Bool)(l:List α):decide (0<=amj p l)=l.any p:=by
 rcases aAs p l 0 with h|h
 .rw[amj,h.1,h.2];rfl
 .rw[h.2];exact cS h.1
def aI1{α:Type}[DecidableEq α](v:α)(l:List α)[Decidable (v∈l)]:decide (0<=amj (λx=>decide (v=x)) l)=decide (v∈l):=by
 rw[aw8,cC]
 simp
def ajf(a b:Nat):((a:Int)=(b:Int))=(a=b):=propext Int.natCast_inj
def eqR{α:Type}(q:α->α->Bool):List α->List α->Bool
 | [],[]=>true
 | x::l,y::m=>q x y&&eqR q l m
 | _,_=>false
theorem axw{α:Type}(q:α->α->Bool):∀ l m:List α,¬l.length=m.length->eqR q l m=false
 | [],[],h=>absurd rfl h
 | [],_::_,_=>rfl
 | _::_,[],_=>rfl
 | x::l,y::m,h=>by
  rw[eqR,axw q l m (λe=>h (by simp[e])),cy]
theorem aFU{α:Type}[DecidableEq α](q:α->α->Bool):∀ l m:List α,(∀ x∈l,∀ y∈m,q x y=decide (x=y))->eqR q l m=decide (l=m)
 | [],[],_=>by simp[eqR]
 | [],_::_,_=>by simp[eqR]
 | _::_,[],_=>by simp[eqR]
 | x::l,y::m,h=>by
  rw[eqR,h x aT y aT,aFU q l m (λa ha b hb=>h a (by simp[ha]) b (by simp[hb])),cC]
  simp
def axv{P:Program}{T:TT}{t:Nat}{u:Option TypeDesc}{cs ds:List C}{b:Bool}(h:af4 P T t cs ds=some b):gJ P T t u .eql (.of (.agg cs)) (.of (.agg ds))=out (aN b)/\gJ P T t u .neq (.of (.agg cs)) (.of (.agg ds))=out (aN (!b)):=by
 constructor
 .simp only[gJ,gG,X.rd,ae7,h]
  rfl
 .simp only[gJ,gG,X.rd,ae7,h]
  rfl
def aA5(a c:V):(a.k=c.k/\a.n=c.n/\a.s=c.s)=(a=c):=by
 apply propext
 constructor
 .rintro⟨h1,h2,h3⟩
  cases a;cases c
  simp only at h1 h2 h3
  rw[h1,h2,h3]
 .rintro rfl;exact⟨rfl,rfl,rfl⟩
def aQY(a c:Od):(a.nm=c.nm/\a.pl=c.pl/\a.dn=c.dn)=(a=c):=by
 apply propext
 constructor
 .rintro⟨h1,h2,h3⟩
  cases a;cases c
  simp only at h1 h2 h3
  rw[h1,h2,h3]
 .rintro rfl;exact⟨rfl,rfl,rfl⟩
def aRF:Tryz.prog.stoodInHeld 24=false:=by kernel_rfl
def aOH:Tryz.prog.eqGuardType Tryz.prog.depth 24=false:=by kernel_rfl
def aOG:Tryz.prog.stoodInHeld 126=false:=by kernel_rfl
def aI8:Tryz.prog.eqGuardType Tryz.prog.depth 126=false:=by kernel_rfl
def atC(x y:V):af4 Tryz.prog tP 24 (aeG x) (aeG y)=some (decide (x=y)):=by
 simp only[af4,T24,aRF,aOH,cz,ah,aeG,aev,T3,T9,aP,amn,akG,← aA5]
 by_cases h1:x.k=y.k
 .by_cases h2:x.n=y.n
  .by_cases h3:x.s=y.s
   .simp[h1,h2,h3]
   .simp[h1,h2,h3]
  .simp[h1,h2]
 .simp[h1]
def aFT(x y:Od):af4 Tryz.prog tP 126 (odC x) (odC y)=some (decide (x=y)):=by
 simp only[af4,ak5,aOG,aI8,cz,ah,ane,aev,T3,T9,T4,aP,amn,akG,← aQY]
 by_cases h1:x.nm=y.nm
 .by_cases h2:x.pl=y.pl
  .by_cases h3:x.dn=y.dn
   .simp[h1,h2,h3]
   .simp[h1,h2,h3]
  .simp[h1,h2]
 .simp[h1,cQ]
def aa1:=λ(u:Option TypeDesc) (x y:V)=>axv (u:=u) (atC x y)
def atB:=λ(u:Option TypeDesc) (x y:Od)=>axv (u:=u) (aFT x y)
def szP(a:Nat×Nat):Sz:=⟨a.1,a.2⟩
def aql(a:Nat×Nat):(szP a).nd=a.1:=rfl
def aqm(a:Nat×Nat):(szP a).dp=a.2:=rfl
def FnS{α:Type}(A:α->C)(g:Nat)(cp:List C)(w:α->Nat×Nat)(l:List α):Prop:=ad7 g=false/\fh Tryz.prog g=true/\∀ x∈l,G1 g (.of (A x)::cp.map .of) (.of (.agg (szC (szP (w x)))))
def alb{α:Type}(w:α->Nat×Nat)(x:α)(r:List α):bj w (x::r)=bm (w x) (bj w r):=rfl
def aTo(a b:Nat×Nat):(bm a b).1=a.1+b.1:=rfl
def cH{α:Type}(l:List α)(a b:Int)(p:α->Bool):Bool:=decide (a<=(l.length:Int))&&decide ((l.length:Int)<=b)&&l.all p
def aPt{α:Type}(p:α->Bool)(l:List α):l.any (λx=>!p x)=!l.all p:=by
 induction l with
 | nil=>rfl
 | cons x r ih=>simp[ai1,agi,ih]
abbrev IFP(f:Nat){α:Type}(enc:α->List C)(e:α->C):Prop:=∀ (l:List α) (p:α->Bool) (g:Nat) (cp:List C),l.length<=4611686018427387903/\FnB e g cp p l->G1 f [.of (slC enc l),.of (.fn g cp)] (au (amj p l))
theorem IFP.k{f:Nat}{α:Type}{enc:α->List C}{e:α->C}(i:IFP f enc e)(l:List α)(p:α->Bool)(g:Nat)(cp:List C)(h:l.length<=4611686018427387903/\FnB e g cp p l)(K:An->Prop):cKp f [.of (slC enc l),.of (.fn g cp)] [] K↔K ⟨false,[au (amj p l)],[]⟩:=aF.k (i l p g cp h) K
def gIF {Z:Prop} {f:Nat} {fn:Func} {α:Type} {enc:α->List C} {e:α->C} (hi:FnI Tryz.prog f fn) (z:Z) (h:Z->FnI Tryz.prog f fn->IFP f enc e:=by
  intro z hi l p g cp h
  obtain⟨hl,ho,hc,hg⟩:=h
  refine ahg (kp:=false) rfl hi rfl rfl ?_
  generalize hX:slC _ l=X
  simp only[↓zA,sevalprocAttr,z,← hX,ho]
  refine ew l.length (λk s=>s.fr 0=.of X/\s.fr 1=.of (.fn g cp)/\s.fr 7=au l.length/\s.fr 8=au k/\s.objs=[]/\amj p l=aiV p k (l.drop k)) ?_ ?_
  .simp only[↓zA,sevalprocAttr,z,← hX]
   exact rfl
  .rintro k s hk ⟨f0,f1,f7,f8,hob,E⟩
   rcases av k l.length with c1|c1
   .have hw:=aW k aC
    have hx:=λK=>aF.k (hg l[k] (bt c1)) K
    rw[aan c1,aiV] at E
    simp only[↓zA,sevalprocAttr,z,← hX,f0,f1,f7,f8,hob,ho,hc,aK,c1,bu c1,hw,hx]
    cases c2:p l[k] <;> (simp only[c2,ah,ab,ap] at E;simp only[↓zA,sevalprocAttr,z,← hX,c2,E])
   .have e:k=l.length:=by omega
    subst e
    rw[bf,aiV] at E
    simp only[↓zA,sevalprocAttr,z,← hX,f0,f1,f7,f8,hob,aK,bg,E]):IFP f enc e:=h z hi
def aT0:=hJ @zq @aZ @cX @zT0 (kf aMb)
def azK:IFP 261 xpC (λx=>.agg (xpC x)):=gIF aMb (ai Tryz.f261.eq_1 aT0)
def aTZ:=hJ @zq @bi @dm @zT0 (kf aMa)
def aye:IFP 262 qyC (λx=>.agg (qyC x)):=gIF aMa (ai Tryz.f262.eq_1 aTZ)
def aTV:=hJ @zq @aeg @aex @zT0 (kf aL3)
def ayf:IFP 270 odC (λx=>.agg (odC x)):=gIF aL3 (ai Tryz.f270.eq_1 aTV)
def aTU:=hJ @zq @gF @ado @zT0 (kf aL2)
def azI:IFP 271 imC (λx=>.agg (imC x)):=gIF aL2 (ai Tryz.f271.eq_1 aTU)
def aTT:=hJ @zq @bG @gH @zT0 (kf aL1)
def azJ:IFP 272 fmC (λx=>.agg (fmC x)):=gIF aL1 (ai Tryz.f272.eq_1 aTT)
abbrev CFP(f:Nat){α:Type}(enc:α->List C)(e:α->C):Prop:=∀ (l:List α) (p:α->Bool) (g:Nat) (cp:List C),l.length<=4611686018427387903/\FnB e g cp p l->G1 f [.of (slC enc l),.of (.fn g cp)] (aN (l.any p))
theorem CFP.k{f:Nat}{α:Type}{enc:α->List C}{e:α->C}(i:CFP f enc e)(l:List α)(p:α->Bool)(g:Nat)(cp:List C)(h:l.length<=4611686018427387903/\FnB e g cp p l)(K:An->Prop):cKp f [.of (slC enc l),.of (.fn g cp)] [] K↔K ⟨false,[aN (l.any p)],[]⟩:=aF.k (i l p g cp h) K
def gCF {Z:Prop} {f f':Nat} {fn:Func} {α:Type} {enc:α->List C} {e:α->C} (hi:FnI Tryz.prog f fn) (I:IFP f' enc e) (z:Z) (h:Z->FnI Tryz.prog f fn->IFP f' enc e->CFP f enc e:=by
  intro z hi I l p g cp h
  refine ahg (kp:=false) rfl hi rfl rfl ?_
  rw[← aw8]
  simp only[↓zA,sevalprocAttr,z,h.2.1,IFP.k I l p g cp h]):CFP f enc e:=h z hi I
def aUg:=hH @zq @aZ @zT0 (kf aMD)
def azQ:CFP 197 xpC (λx=>.agg (xpC x)):=gCF aMD azK (ai Tryz.f197.eq_1 aUg)
def aUe:=hH @zq @bi @zT0 (kf aMB)
def ayj:CFP 199 qyC (λx=>.agg (qyC x)):=gCF aMB aye (ai Tryz.f199.eq_1 aUe)
def aT9:=hH @zq @aeg @zT0 (kf aMt)
def ayk:CFP 209 odC (λx=>.agg (odC x)):=gCF aMt ayf (ai Tryz.f209.eq_1 aT9)
def aT7:=hH @zq @gF @zT0 (kf aMr)
def azO:CFP 211 imC (λx=>.agg (imC x)):=gCF aMr azI (ai Tryz.f211.eq_1 aT7)
def aT5:=hH @zq @bG @zT0 (kf aMp)
def azP:CFP 213 fmC (λx=>.agg (fmC x)):=gCF aMp azJ (ai Tryz.f213.eq_1 aT5)
def auz:=hM @Tryz.f264.eq_1 @zq @cO @Q9 @zT0 (kf aL9)
def auw(l:List (List UInt8))(v:(List UInt8))(hl:l.length<=4611686018427387903):G1 264 [.of (slC cM l),.of (aJ (aM v))] (au (amj (λx=>decide (v=x)) l)):=by
 refine bB aL9 ?_
 simp only[↓zA,sevalprocAttr,auz]
 refine ew l.length (λk s=>s.fr 0=.of (slC cM l)/\s.fr 1=.of (aJ (aM v))/\s.fr 7=au l.length/\s.fr 8=au k/\s.objs=[]/\amj (λx=>decide (v=x)) l=aiV (λx=>decide (v=x)) k (l.drop k)) ?_ ?_
 .simp only[↓zA,sevalprocAttr,auz]
  exact rfl
 .rintro k s hk ⟨f0,f1,f7,f8,hob,E⟩
  rcases av k l.length with c1|c1
  .have hw:=aW k aC
   rw[aan c1,aiV] at E
   simp only[↓zA,sevalprocAttr,auz,f0,f1,f7,f8,hob,aK,c1,bu c1,hw,cQ]
   by_cases c2:v=l[k]
   .simp only[c2,eu,ah] at E
    simp only[sevalprocAttr,c2,E]
   .simp only[c2,ef,ab,ap] at E
    simp only[sevalprocAttr,c2,E]
  .have e:k=l.length:=by omega
   subst e
   rw[bf,aiV] at E
   simp only[↓zA,sevalprocAttr,auz,f7,f8,hob,aK,bg,E]
def aDR(l:List (List UInt8))(v:(List UInt8))(hl:l.length<=4611686018427387903)(K:An->Prop):cKp 264 [.of (slC cM l),.of (aJ (aM v))] [] K↔K ⟨false,[au (amj (λx=>decide (v=x)) l)],[]⟩:=aF.k (auw l v hl) K
def aUc:=hC @zq @zT0 (kf aMx)
def aux(l:List (List UInt8))(v:(List UInt8))(hl:l.length<=4611686018427387903):G1 205 [.of (slC cM l),.of (aJ (aM v))] (aN (decide (v∈l))):=by
 refine bB aMx ?_
 rw[← aI1]
 simp only[Tryz.f205,↓zA,sevalprocAttr,aUc,aDR l v hl]
def aDV(l:List (List UInt8))(v:(List UInt8))(K:An->Prop):cKp 205 [.of (slC cM l),.of (aJ (aM v))] [] K↔ifP (l.length<=4611686018427387903) (K ⟨false,[aN (decide (v∈l))],[]⟩) (agK Tryz.prog pr 205 [.of (slC cM l),.of (aJ (aM v))] K):=ajJ (aux l v) K
abbrev EFP(f:Nat){α:Type}(enc:α->List C)(e:α->C):Prop:=∀ (l m:List α) (q:α->α->Bool) (g:Nat) (cp:List C),l.length<=4611686018427387903/\aTC e g cp q l m->G1 f [.of (slC enc l),.of (slC enc m),.of (.fn g cp)] (aN (eqR q l m))
theorem EFP.k{f:Nat}{α:Type}{enc:α->List C}{e:α->C}(i:EFP f enc e)(l m:List α)(q:α->α->Bool)(g:Nat)(cp:List C)(h:l.length<=4611686018427387903/\aTC e g cp q l m)(K:An->Prop):cKp f [.of (slC enc l),.of (slC enc m),.of (.fn g cp)] [] K↔K ⟨false,[aN (eqR q l m)],[]⟩:=aF.k (i l m q g cp h) K
def gEF {Z:Prop} {f:Nat} {fn:Func} {α:Type} {enc:α->List C} {e:α->C} (hi:FnI Tryz.prog f fn) (z:Z) (h:Z->FnI Tryz.prog f fn->EFP f enc e:=by
  intro z hi l m q g cp h
  obtain⟨hl,ho,hc,hg⟩:=h
  refine ahg (kp:=false) rfl hi rfl rfl ?_
  generalize hX:slC _ l=X
  generalize hY:slC _ m=Y
  by_cases c0:l.length=m.length
  rotate_left
  .rw[axw q l m c0]
   simp only[↓zA,sevalprocAttr,z,← hX,← hY,ho,ajf,c0]
  simp only[↓zA,sevalprocAttr,z,← hX,← hY,ho,ajf,c0]
  refine ew l.length (λk s=>s.fr 1=.of Y/\s.fr 2=.of (.fn g cp)/\s.fr 15=.of X/\s.fr 16=au l.length/\s.fr 17=au k/\s.objs=[]/\eqR q l m=eqR q (l.drop k) (m.drop k)) ?_ ?_
  .simp only[↓zA,sevalprocAttr,z,← hX,← hY,c0]
   try exact rfl
  .rintro k s hk ⟨f1,f2,f15,f16,f17,hob,E⟩
   rcases av k l.length with c1|c1
   .have hw:=aW k aC
    have c1':k<m.length:=by omega
    have hx:=λK=>aF.k (hg l[k] (bt c1) m[k] (bt c1')) K
    rw[aan c1,aan c1',eqR] at E
    simp only[↓zA,sevalprocAttr,z,← hX,← hY,f1,f2,f15,f16,f17,hob,ho,hc,aK,c1,bu c1,bu c1',hw,hx]
    cases c2:q l[k] m[k] <;> (simp only[c2,cm,bR] at E;simp only[↓zA,sevalprocAttr,z,← hX,← hY,c2,E])
   .have e:k=l.length:=by omega
    subst e
    rw[bf,c0,bf,eqR] at E
    simp only[↓zA,sevalprocAttr,z,← hX,← hY,f1,f2,f15,f16,f17,hob,aK,bg,E]):EFP f enc e:=h z hi
def aUb:=hJ @zq @aZ @cX @zT0 (kf aMw)
def azN:EFP 206 xpC (λx=>.agg (xpC x)):=gEF aMw (ai Tryz.f206.eq_1 aUb)
def aKi:=azN.k
def aUa:=hJ @zq @bi @dm @zT0 (kf aMv)
def ayi:EFP 207 qyC (λx=>.agg (qyC x)):=gEF aMv (ai Tryz.f207.eq_1 aUa)
def aGG:=ayi.k
def aTX:=hJ @zq @gF @ado @zT0 (kf aL7)
def azL:EFP 266 imC (λx=>.agg (imC x)):=gEF aL7 (ai Tryz.f266.eq_1 aTX)
def aKg:=azL.k
def aTW:=hJ @zq @bG @gH @zT0 (kf aL5)
def azM:EFP 268 fmC (λx=>.agg (fmC x)):=gEF aL5 (ai Tryz.f268.eq_1 aTW)
def aKh:=azM.k

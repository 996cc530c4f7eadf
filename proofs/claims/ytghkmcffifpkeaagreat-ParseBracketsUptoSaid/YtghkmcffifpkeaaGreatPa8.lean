/- A part. Conditions: none. -/
import Derived.Test.YtghkmcffifpkeaaGreatPa7
import Derived.KernelRfl
import Derived.Tactics2
set_option linter.all false
set_option maxRecDepth 100000
set_option maxHeartbeats 64000000
namespace Go.Proofs.YtghkmcffifpkeaaGreat
open Pe Tab
def aN2:=ai (gq @Tryz.f306.eq_1 @zq @a9U @a9T @bF @eo) (gq @aoj @fC @P4 @Q4 @zT0 (kf aPg))
def aDf(t:Th):G1 306 [.of (.agg (thC t))] (xpE t.val):=by
 refine bB aPg ?_
 cases c:t.q with
 | true =>
  rw[show t.val=afu 26 [] t.y from by unfold Th.val;rw[c];rfl]
  simp only[↓zA,sevalprocAttr,aN2,c]
  all_goals exact fz
 | false =>
  rw[show t.val=t.e from by unfold Th.val;rw[c];rfl]
  simp only[↓zA,sevalprocAttr,aN2,c]
  all_goals exact fz
def ah8(t:Th)(K:An->Prop):cKp 306 [.of (.agg (thC t))] [] K↔K ⟨false,[xpE t.val],[]⟩:=aH.k (aDf t) K
def a1v:=gp @zq @ayp @bQ @zT0 (kf aPf)
def aH8(l:List Tn)(i:Nat)(e:Int)(hl:l.length<LB)(hi:i<=l.length):aH Tryz.prog pr 317 [.ptr 0 0] [pT l i e] ⟨false,[aM (adf l i)],[pT l i e]⟩:=by
 have k:=λK=>aB6 l i e [117,110,105,111,110] [101,120,99,101,112,116] [105,110,116,101,114,115,101,99,116] [111,114,100,101,114] [108,105,109,105,116] [111,102,102,115,101,116] hl hi rfl K
 unfold adf
 refine bB aPf ?_
 simp only[Tryz.f317,↓zA,sevalprocAttr,a1v,k,pT,zBS]
 try rfl
def oB(l:List Tn)(i:Nat)(e:Int)(hl:l.length<LB)(hi:i<=l.length){b:Bool}(c:adf l i=b)(K:An->Prop):cKp 317 [.ptr 0 0] [pT l i e] K↔K ⟨false,[aM b],[pT l i e]⟩:=by
 have:=aH.k (aH8 l i e hl hi) K
 rw[c] at this
 exact this
def a1w:=gm (gz @zq @a9S @alm @aqc @abO @akr @aEX @a9R @aeo) (gz @aQ7 @bba @aSi @acj @ba9 @aKq @aEW @bF @eo) (gz @acu @aaO @aaN @aaM @aaL @aaK @aaJ @aoj @eZ) (gq @fC @bQ @P4 @Q4 @zT0 (kf aPh))
def azT{l:List Tn}{e:Int}{F:Fs}(hl:l.length<LB)(H:PY l e F)(i:Nat)(r:Th×Nat×Bool)(hi:i<=l.length)(hr:ag2 F l i=some r):GP 305 [.ptr 0 0] [pT l i e] l e [] thE i r:=by
 refine⟨Pl.at (aBy H.fp hi) hr,?_⟩
 rcases eWX l i e [115,101,108,101,99,116] hl with _|_
 rcases eR (F.qy i []) λ_=>H.qy _ _ aC with _|⟨_,_,_⟩|⟨a2,j2,_⟩
 rotate_left 3
 rcases eWX l i e [40] hl with _|_
 rcases eR (F.ins (i+1)) λ_=>H.ins _ _ aC with _|⟨_,_,_⟩|⟨a4,j4,_⟩
 rotate_left 2
 rcases eWX l j4 e [41] hl with _|_
 rcases c6:a4.q with _|_
 rcases e7:F.or (j4+1) [a4.e] with _|⟨a7,j7,_|_⟩
 rotate_left
 obtain⟨⟨u7,v7⟩,k7⟩:=(H.orp _ (a4.e) _ _ rfl aC e7).okA
 have l7:=(H.orp _ (a4.e) _ _ (eU _).symm aC e7).ok
 rotate_left
 obtain⟨⟨u7,v7⟩,k7⟩:=(H.orp _ (a4.e) _ _ rfl aC e7).badA
 have l7:=(H.orp _ (a4.e) _ _ (eU _).symm aC e7).bad
 rotate_left
 rcases c8:adf l (j4+1) with _|_
 have t8:=oB l (j4+1) e hl aC c8
 rcases eWX l (j4+1) e [41] hl with _|_
 rotate_left
 rcases e10:F.or (j4+1) [afu 26 [] a4.y] with _|⟨a10,j10,_|_⟩
 rotate_left
 obtain⟨⟨u10,v10⟩,k10⟩:=(H.orp _ (afu 26 [] a4.y) _ _ rfl aC e10).okA
 have l10:=(H.orp _ (afu 26 [] a4.y) _ _ (eU _).symm aC e10).ok
 rotate_left
 obtain⟨⟨u10,v10⟩,k10⟩:=(H.orp _ (afu 26 [] a4.y) _ _ rfl aC e10).badA
 have l10:=(H.orp _ (afu 26 [] a4.y) _ _ (eU _).symm aC e10).bad
 rotate_left
 have t8:=oB l (j4+1) e hl aC c8
 rcases e11:F.qy (j4+1) [a4.y] with _|⟨a11,j11,_|_⟩
 rotate_left
 obtain⟨⟨u11,v11⟩,k11⟩:=(H.qyp _ (a4.y) _ _ rfl aC e11).okA
 have l11:=(H.qyp _ (a4.y) _ _ (adK _).symm aC e11).ok
 rotate_left
 obtain⟨⟨u11,v11⟩,k11⟩:=(H.qyp _ (a4.y) _ _ rfl aC e11).badA
 have l11:=(H.qyp _ (a4.y) _ _ (adK _).symm aC e11).bad
 rotate_left 2
 rcases eR (F.or i []) λ_=>H.or _ _ aC with _|⟨_,_,_⟩|⟨a12,j12,_⟩
 rotate_left 3
 all_goals (simp only[ag2,aeh,Th.val,zRZ,sevalprocAttr,↓reduceIte, *] at hr <;> cases hr <;> (refine bB aPh ?_;simp only[Tryz.f305,↓zA,sevalprocAttr,a1w,bw,pT,zP,be,a5p,E26,E25,aZ9,atd,dV,aaG,aRo,ao1,ah8,avr,avu, *];all_goals exact fz))
theorem aG1{l:List Tn}{i:Nat}:∀ {so:List (List UInt8×Int)} {o:Int},opT l i so=some o->i+1<=l.length
 | [],_,h=>by cases h
 | (w,p)::r,o,h=>by
  unfold opT at h
  split at h
  .rename_i c;exact ft c
  .exact aG1 h
theorem asU{l:List Tn}{nx:Nat->List Xp->Rz Xp}{so:List (List UInt8×Int)}(N:∀ i r,i<=l.length->nx i []=some r->i<=r.2.1/\r.2.1<=l.length):∀ n a j r,j<=l.length->act nx l so n a j=some r->j<=r.2.1/\r.2.1<=l.length
 | 0,a,j,r,hj,h=>by simp only[act] at h;cases h
 | n+1,a,j,r,hj,h=>by
  unfold act at h
  cases c:opT l j so with
  | none=>rw[c] at h;cases h;exact⟨ae _,hj⟩
  | some o =>
   rw[c] at h
   have hj1:=aG1 c
   cases e:nx (j+1) [] with
   | none=>simp only[e,Rz.on] at h;cases h
   | some q =>
    obtain⟨y,m,b⟩:=q
    have g:=N _ _ hj1 e
    dsimp only at g
    cases b with
    | true=>simp only[e,Rz.on] at h;cases h;exact⟨by dsimp only;omega,g.2⟩
    | false =>
     simp only[e,Rz.on] at h
     have:=asU N n _ _ _ g.2 h
     exact⟨by omega,this.2⟩
abbrev xpV(a:Xp):List X:=[.of (ci a.op),.of (ci a.v.k),.of (ci a.v.n),.of (aG a.v.s),.of (aG (aK a.tb)),.of (aG (aK a.nm)),.of (cb a.di),.of (slC xpC a.ks),.of (slC qyC a.sb)]
abbrev xpZ:List X:=[.of (ci 0),.of (ci 0),.of (ci 0),.of (aG {data:=#[]}),.of (aG {data:=#[]}),.of (aG {data:=#[]}),.of (cb false),.nil,.nil]
abbrev xpO(r:Nat)(o:Int)(b c:Xp):List X:=[.of (ci o),.of (ci 0),.of (ci 0),.of (aG {data:=#[]}),.of (aG {data:=#[]}),.of (aG {data:=#[]}),.of (cb false),.own (.cell r 7) 28 9 [ci b.op,ci b.v.k,ci b.v.n,aG b.v.s,aG (aK b.tb),aG (aK b.nm),cb b.di,slC xpC b.ks,slC qyC b.sb,ci c.op,ci c.v.k,ci c.v.n,aG c.v.s,aG (aK c.tb),aG (aK c.nm),cb c.di,slC xpC c.ks,slC qyC c.sb] 2,.nil]
def ac3:=ai (gz @Tryz.f66.eq_1 @zq @bae @bac @abO @mp9 @aWM @acj @bF) (gz @eZ @bQ @afZ @P9 @Q9 @P3 @Q3 @zT0 (kf axZ))
def aiS{l:List Tn}{e:Int}(hl:l.length<LB)(cl f:Nat)(hf:cl / 2=f)(hm:(cl % 2=0)=False)(ho:acW f=true)(hk:tkF f=false)(hc:d9 Tryz.prog f=true)(nx:Nat->List Xp->Rz Xp)(so:List (List UInt8×Int))(hn:so.length<=8)
  (N:∀ i r,i<=l.length->nx i []=some r->GP f [.ptr 0 0] [pT l i e] l e [] xpE i r) (i:Nat) (r:Xp×Nat×Bool) (hi:i<=l.length) (hr:acr nx l so i []=some r) :
  GP 66 [.ptr 0 0,.clo cl [.ptr 0 0],.of (slC bU (so.map (·.1))),.of (slC aa6 (so.map (·.2)))] [pT l i e] l e [] xpE i r:=by
 unfold acr at hr
 cases e1:nx i [] with
 | none=>simp only[e1,Rz.on] at hr;cases hr
 | some r1 =>
 obtain⟨a,j,q⟩:=r1
 have g:=N i _ hi e1
 obtain⟨u,v⟩:=g.1
 dsimp only at u v
 cases q with
 | true =>
  have k:=g.bad
  simp only[e1,Rz.on,id] at hr
  cases hr
  refine⟨⟨u,v⟩,?_⟩
  refine bB axZ ?_
  simp only[↓zA,sevalprocAttr,ac3,bw,pT,zP,hf,hm,ho,hk,hc,zLX,k]
  all_goals exact fz
 | false =>
 have k:=g.ok
 simp only[e1,Rz.on] at hr
 have P:=asU (λi r h1 h2=>(N i r h1 h2).1) _ _ _ _ v hr
 refine⟨⟨by omega,P.2⟩,?_⟩
 have hls:((so.map (·.1)).length:Int)=(so.length:Int):=by rw[cN]
 refine bB axZ ?_
 simp only[↓zA,sevalprocAttr,ac3,bw,pT,hf,hm,ho,hk,hc,k]
 refine fX _ _ (λn s=>∃ a j xs,(xs=xpV a\/∃ o b c,a=cR o [b,c]/\xs=xpO 2 o b c)/\s.fr 0=.ptr 0 0/\s.fr 1=.clo cl [.ptr 0 0]/\s.fr 2=.of (slC bU (so.map (·.1)))/\s.fr 3=.of (slC aa6 (so.map (·.2)))/\s.fr 8=.ptr 1 0/\s.fr 9=.ptr 2 0/\s.objs=[pT l j e,.var 28 xpZ,.var 28 xs]/\act nx l so n a j=some r/\j<=l.length) ?_ (l.length+1) _ ?_
 .rintro n ⟨frn,obn,ckn⟩ ⟨a,j,xs,hx',f0,f1,f2,f3,f8,f9,fo,E,hj⟩
  dsimp only at f0 f1 f2 f3 f8 f9 fo
  cases n with
  | zero=>simp only[act] at E;cases E
  | succ n =>
  unfold act at E
  simp only[↓zA,sevalprocAttr,ac3,f2,fo]
  refine abJ so.length (λk s=>s.fr 0=.ptr 0 0/\s.fr 1=.clo cl [.ptr 0 0]/\s.fr 2=.of (slC bU (so.map (·.1)))/\s.fr 3=.of (slC aa6 (so.map (·.2)))/\s.fr 8=.ptr 1 0/\s.fr 9=.ptr 2 0/\s.fr 14=.of (slC bU (so.map (·.1)))/\s.fr 15=aQ so.length/\s.fr 16=aQ k/\s.objs=[pT l j e,.var 28 xpZ,.var 28 xs]/\opT l j so=opT l j (so.drop k)) ?_ ?_
  .simp only[↓zA,sevalprocAttr,ac3,f0,f1,f2,f3,f8,f9]
   all_goals exact⟨rfl,rfl⟩
  rintro k ⟨frk,obk,ckk⟩ hk' ⟨g0,g1,g2,g3,g8,g9,g14,g15,g16,go,E2⟩
  dsimp only at g0 g1 g2 g3 g8 g9 g14 g15 g16 go
  have hxt:X.trs some (cf [0] []) xs=xs:=by rcases hx' with hx'|⟨o,b,c,_,hx'⟩ <;> (rw[hx'];rfl)
  rcases aA k so.length with dk|dk
  .have hw:=fq k aC
   have gx:aaA (so.map (·.1)) (k:Int)=some so[k].1:=by rw[eX (by rw[cN];exact dk),ac9]
   have gy:aaA (so.map (·.2)) (k:Int)=some so[k].2:=by rw[eX (by rw[cN];exact dk),ac9]
   rw[co dk] at E2
   generalize so[k]=p at *
   obtain⟨w,oo⟩:=p
   dsimp only at gx gy
   simp only[opT] at E2
   have kt:=λK=>aH.k (acI l j e w hl hj) K
   cases c:isT l j w with
   | true =>
    have hj1:=ft c
    rw[c,au rfl] at E2 kt
    rw[E2] at E
    cases e2:nx (j+1) [] with
    | none=>simp only[e2,Rz.on] at E;cases E
    | some r2 =>
    obtain⟨y,j2,q2⟩:=r2
    have g':=N (j+1) _ hj1 e2
    obtain⟨u2,v2⟩:=g'.1
    dsimp only at u2 v2
    cases q2 with
    | true =>
     have k2:=g'.bad
     simp only[e2,Rz.on] at E
     cases E
     rcases hx' with hx'|⟨o,b,c',hx1,hx'⟩
     .subst hx'
      simp only[↓zA,sevalprocAttr,ac3,pT,zP,hf,hm,ho,hk,hc,zLX,ba,g0,g1,g3,g9,g14,g15,g16,go,dk,gx,gy,kt,k2]
      all_goals exact fz
     .subst hx' hx1
      simp only[↓zA,sevalprocAttr,ac3,pT,zP,hf,hm,ho,hk,hc,zLX,ba,g0,g1,g3,g9,g14,g15,g16,go,dk,gx,gy,kt,k2]
      all_goals exact fz
    | false =>
     have k2:=g'.ok
     simp only[e2,Rz.on] at E
     rcases hx' with hx'|⟨o,b,c',hx1,hx'⟩
     .subst hx'
      simp only[↓zA,sevalprocAttr,ac3,pT,zP,zBS,hf,hm,ho,hk,hc,zLX,ba,g0,g1,g2,g3,g8,g9,g14,g15,g16,go,dk,gx,gy,kt,k2]
      exact⟨n,aO n,cR oo [a,y],j2,_,.inr ⟨oo,a,y,rfl,rfl⟩,rfl,E,v2⟩
     .subst hx' hx1
      simp only[↓zA,sevalprocAttr,ac3,pT,zP,zBS,hf,hm,ho,hk,hc,zLX,ba,g0,g1,g2,g3,g8,g9,g14,g15,g16,go,dk,gx,gy,kt,k2]
      refine⟨n,aO n,cR oo [cR o [b,c'],y],j2,_,.inr ⟨oo,cR o [b,c'],y,rfl,rfl⟩,?_,E,v2⟩
      simp only[xpO]
      simp only[zVW]
      all_goals rfl
   | false =>
    rw[c] at E2 kt
    simp only[ah,av] at E2 kt
    simp only[↓zA,sevalprocAttr,ac3,pT,ba,g0,g1,g2,g3,g8,g9,g14,g15,g16,go,dk,gx,hw,kt,hxt]
    first|exact E2|exact⟨rfl,E2⟩
  have ek:k=so.length:=by omega
  subst ek
  rw[df] at E2
  simp only[opT] at E2
  rw[E2] at E
  cases E
  rcases hx' with hx'|⟨o,b,c',hx1,hx'⟩
  .subst hx'
   simp only[↓zA,sevalprocAttr,ac3,pT,zP,zLX,ba,dE,g8,g9,g15,g16,go]
   all_goals exact fz
  .subst hx' hx1
   simp only[↓zA,sevalprocAttr,ac3,pT,zP,zLX,ba,dE,g8,g9,g15,g16,go]
   all_goals exact fz
 .simp only[↓zA,sevalprocAttr,ac3,pT]
  exact⟨a,j,_,.inl rfl,rfl,hr,v⟩
def ahJ{l:List Tn}{e:Int}(hl:l.length<LB)(cl f:Nat)(hf:cl / 2=f)(hm:(cl % 2=0)=False)(ho:acW f=true)(hk:tkF f=false)(hc:d9 Tryz.prog f=true)(nx:Nat->List Xp->Rz Xp)(so:List (List UInt8×Int))(hn:so.length<=8)
  (N:∀ i r,i<=l.length->nx i []=some r->GP f [.ptr 0 0] [pT l i e] l e [] xpE i r) (x:Xp) (cs:List C) (hx:cs=xpC x) (Np:∀ i r,i<=l.length->nx i [x]=some r->GP f [.ptr 0 0] [pTe l i e,.row 28 cs] l e deE xpE i r) (i:Nat) (r:Xp×Nat×Bool) (hi:i<=l.length) (hr:acr nx l so i [x]=some r) :
  GP 66 [.ptr 0 0,.clo cl [.ptr 0 0],.of (slC bU (so.map (·.1))),.of (slC aa6 (so.map (·.2)))] [pTe l i e,.row 28 cs] l e deE xpE i r:=by
 have lvx:ac5 (some (.row 28 cs))=true:=by rw[hx,eU];rfl
 unfold acr at hr
 cases e1:nx i [x] with
 | none=>simp only[e1,Rz.on] at hr;cases hr
 | some r1 =>
 obtain⟨a,j,q⟩:=r1
 have g:=Np i _ hi e1
 obtain⟨u,v⟩:=g.1
 dsimp only at u v
 cases q with
 | true =>
  have k:=g.bad
  simp only[e1,Rz.on,id] at hr
  cases hr
  refine⟨⟨u,v⟩,?_⟩
  refine bB axZ ?_
  simp only[↓zA,sevalprocAttr,ac3,bw,pT,pTe,zP,hf,hm,ho,hk,hc,zLX,lvx,k]
  all_goals exact fz
 | false =>
 have k:=g.ok
 simp only[e1,Rz.on] at hr
 have P:=asU (λi r h1 h2=>(N i r h1 h2).1) _ _ _ _ v hr
 refine⟨⟨by omega,P.2⟩,?_⟩
 have hls:((so.map (·.1)).length:Int)=(so.length:Int):=by rw[cN]
 refine bB axZ ?_
 simp only[↓zA,sevalprocAttr,ac3,bw,pT,pTe,hf,hm,ho,hk,hc,lvx,k]
 refine fX _ _ (λn s=>∃ a j xs,(xs=xpV a\/∃ o b c,a=cR o [b,c]/\xs=xpO 3 o b c)/\s.fr 0=.ptr 0 0/\s.fr 1=.clo cl [.ptr 0 0]/\s.fr 2=.of (slC bU (so.map (·.1)))/\s.fr 3=.of (slC aa6 (so.map (·.2)))/\s.fr 8=.ptr 2 0/\s.fr 9=.ptr 3 0/\s.objs=[pT l j e,.row 28 [],.var 28 xpZ,.var 28 xs]/\act nx l so n a j=some r/\j<=l.length) ?_ (l.length+1) _ ?_
 .rintro n ⟨frn,obn,ckn⟩ ⟨a,j,xs,hx',f0,f1,f2,f3,f8,f9,fo,E,hj⟩
  dsimp only at f0 f1 f2 f3 f8 f9 fo
  cases n with
  | zero=>simp only[act] at E;cases E
  | succ n =>
  unfold act at E
  simp only[↓zA,sevalprocAttr,ac3,f2,fo]
  refine abJ so.length (λk s=>s.fr 0=.ptr 0 0/\s.fr 1=.clo cl [.ptr 0 0]/\s.fr 2=.of (slC bU (so.map (·.1)))/\s.fr 3=.of (slC aa6 (so.map (·.2)))/\s.fr 8=.ptr 2 0/\s.fr 9=.ptr 3 0/\s.fr 14=.of (slC bU (so.map (·.1)))/\s.fr 15=aQ so.length/\s.fr 16=aQ k/\s.objs=[pT l j e,.row 28 [],.var 28 xpZ,.var 28 xs]/\opT l j so=opT l j (so.drop k)) ?_ ?_
  .simp only[↓zA,sevalprocAttr,ac3,f0,f1,f2,f3,f8,f9]
   all_goals exact⟨rfl,rfl⟩
  rintro k ⟨frk,obk,ckk⟩ hk' ⟨g0,g1,g2,g3,g8,g9,g14,g15,g16,go,E2⟩
  dsimp only at g0 g1 g2 g3 g8 g9 g14 g15 g16 go
  have hxt:X.trs some (cf [0] []) xs=xs:=by rcases hx' with hx'|⟨o,b,c,_,hx'⟩ <;> (rw[hx'];rfl)
  rcases aA k so.length with dk|dk
  .have hw:=fq k aC
   have gx:aaA (so.map (·.1)) (k:Int)=some so[k].1:=by rw[eX (by rw[cN];exact dk),ac9]
   have gy:aaA (so.map (·.2)) (k:Int)=some so[k].2:=by rw[eX (by rw[cN];exact dk),ac9]
   rw[co dk] at E2
   generalize so[k]=p at *
   obtain⟨w,oo⟩:=p
   dsimp only at gx gy
   simp only[opT] at E2
   have kt:=λK=>aH.k (acI l j e w hl hj) K
   cases c:isT l j w with
   | true =>
    have hj1:=ft c
    rw[c,au rfl] at E2 kt
    rw[E2] at E
    cases e2:nx (j+1) [] with
    | none=>simp only[e2,Rz.on] at E;cases E
    | some r2 =>
    obtain⟨y,j2,q2⟩:=r2
    have g':=N (j+1) _ hj1 e2
    obtain⟨u2,v2⟩:=g'.1
    dsimp only at u2 v2
    cases q2 with
    | true =>
     have k2:=g'.bad
     simp only[e2,Rz.on] at E
     cases E
     rcases hx' with hx'|⟨o,b,c',hx1,hx'⟩
     .subst hx'
      simp only[↓zA,sevalprocAttr,ac3,pT,zP,hf,hm,ho,hk,hc,zLX,ba,g0,g1,g3,g9,g14,g15,g16,go,dk,gx,gy,kt,k2]
      all_goals exact fz
     .subst hx' hx1
      simp only[↓zA,sevalprocAttr,ac3,pT,zP,hf,hm,ho,hk,hc,zLX,ba,g0,g1,g3,g9,g14,g15,g16,go,dk,gx,gy,kt,k2]
      all_goals exact fz
    | false =>
     have k2:=g'.ok
     simp only[e2,Rz.on] at E
     rcases hx' with hx'|⟨o,b,c',hx1,hx'⟩
     .subst hx'
      simp only[↓zA,sevalprocAttr,ac3,pT,zP,zBS,hf,hm,ho,hk,hc,zLX,ba,g0,g1,g2,g3,g8,g9,g14,g15,g16,go,dk,gx,gy,kt,k2]
      exact⟨n,aO n,cR oo [a,y],j2,_,.inr ⟨oo,a,y,rfl,rfl⟩,rfl,E,v2⟩
     .subst hx' hx1
      simp only[↓zA,sevalprocAttr,ac3,pT,zP,zBS,hf,hm,ho,hk,hc,zLX,ba,g0,g1,g2,g3,g8,g9,g14,g15,g16,go,dk,gx,gy,kt,k2]
      refine⟨n,aO n,cR oo [cR o [b,c'],y],j2,_,.inr ⟨oo,cR o [b,c'],y,rfl,rfl⟩,?_,E,v2⟩
      simp only[xpO]
      simp only[zVW]
      all_goals rfl
   | false =>
    rw[c] at E2 kt
    simp only[ah,av] at E2 kt
    simp only[↓zA,sevalprocAttr,ac3,pT,ba,g0,g1,g2,g3,g8,g9,g14,g15,g16,go,dk,gx,hw,kt,hxt]
    first|exact E2|exact⟨rfl,E2⟩
  have ek:k=so.length:=by omega
  subst ek
  rw[df] at E2
  simp only[opT] at E2
  rw[E2] at E
  cases E
  rcases hx' with hx'|⟨o,b,c',hx1,hx'⟩
  .subst hx'
   simp only[↓zA,sevalprocAttr,ac3,pT,zP,zLX,ba,dE,g8,g9,g15,g16,go]
   all_goals exact fz
  .subst hx' hx1
   simp only[↓zA,sevalprocAttr,ac3,pT,zP,zLX,ba,dE,g8,g9,g15,g16,go]
   all_goals exact fz
 .simp only[↓zA,sevalprocAttr,ac3,pT]
  exact⟨a,j,_,.inl rfl,rfl,hr,v⟩
theorem aic{l:List Tn}{F:Fs}(N:∀ i r,i<=l.length->F.or i []=some r->i<=r.2.1/\r.2.1<=l.length):∀ n ks j r,j<=l.length->acy F l n ks j=some r->j<=r.2.1/\r.2.1<=l.length
 | 0,a,j,r,hj,h=>by simp only[acy] at h;cases h
 | n+1,a,j,r,hj,h=>by
  unfold acy at h
  cases c:isT l j [44] with
  | false=>rw[c] at h;cases h;exact⟨ae _,hj⟩
  | true =>
   have hj1:=ft c
   cases e:F.or (j+1) [] with
   | none=>simp only[c,e,Rz.on,am] at h;cases h
   | some q =>
    obtain⟨y,m,b⟩:=q
    have g:=N _ _ hj1 e
    dsimp only at g
    cases b with
    | true=>simp only[c,e,Rz.on,am] at h;cases h;exact⟨by dsimp only;omega,g.2⟩
    | false =>
     simp only[c,e,Rz.on,am] at h
     have:=aic N n _ _ _ g.2 h
     exact⟨by omega,this.2⟩
def okN{c d:Nat}(x i:Nat)(h:c<d)(af:List Edge):aae d af (some (.nm c x i))=true:=Z69 ((Z68 ..).2 h) af
def asI{α:Type}{f:α->List C}{A:List α}{clk c x i e z n:Nat}{cs:List C}(h1:cs=fl f A)(h2:n=A.length)(h:c<clk):∃ c' x' i',c'<clk/\X.own (.nm c x i) e z cs n=X.own (.nm c' x' i') e z (fl f A) A.length:=⟨c,x,i,h,by rw[h1,h2]⟩
def asH{α:Type}{f:α->List C}{A:List α}{y:α}{clk c x i e z n:Nat}{cs:List C}(h1:cs=fl f A++f y)(h2:n=A.length+1)(h:c<clk):∃ c' x' i',c'<clk/\X.own (.nm c x i) e z cs n=X.own (.nm c' x' i') e z (fl f (A++[y])) (A++[y]).length:=⟨c,x,i,h,by rw[h1,h2,axU,akl,bg];rfl⟩
def aoh:=gv @Tryz.f185.eq_1 @zq @akr @abO @bF @eZ @zT0 (kf aEt)
def acl{l:List Tn}{e:Int}{F:Fs}(hl:l.length<LB)(H:PY l e F)(i:Nat)(r:List Xp×Nat×Bool)(hi:i<=l.length)(hr:aaE F l i=some r):GP 185 [.ptr 0 0] [pT l i e] l e [] xsE i r:=by
 unfold aaE at hr
 cases e1:F.or i [] with
 | none=>simp only[e1,Rz.on] at hr;cases hr
 | some r1 =>
 obtain⟨a,j,q⟩:=r1
 have g:=H.or i _ hi e1
 obtain⟨u,v⟩:=g.1
 dsimp only at u v
 cases q with
 | true =>
  have k:=g.bad
  simp only[e1,Rz.on] at hr
  cases hr
  refine⟨⟨u,v⟩,?_⟩
  refine bB aEt ?_
  simp only[↓zA,sevalprocAttr,aoh,bw,pT,zP,k]
  all_goals exact fz
 | false =>
 have k:=g.ok
 simp only[e1,Rz.on] at hr
 have P:=aic (λi r h1 h2=>(H.or i r h1 h2).1) _ _ _ _ v hr
 refine⟨⟨by omega,P.2⟩,?_⟩
 refine bB aEt ?_
 simp only[↓zA,sevalprocAttr,aoh,bw,pT,k]
 refine fX _ _ (λn s=>∃ ks j,s.fr 0=.ptr 0 0/\(∃ c x i,c<s.clk/\s.fr 3=.own (.nm c x i) 28 9 (fl xpC ks) ks.length)/\s.objs=[pT l j e]/\acy F l n ks j=some r/\j<=l.length/\ks.length<=j+1) ?_ (l.length+1) _ ?_
 .rintro n ⟨frn,obn,ckn⟩ ⟨ks,j,f0,⟨c,x,i',hc,f3⟩,fo,E,hj,hk⟩
  dsimp only at f0 hc f3 fo
  cases n with
  | zero=>simp only[acy] at E;cases E
  | succ n =>
  unfold acy at E
  cases c1:isT l j [44] with
  | true =>
   have hj1:=ft c1
   have t1:=wT l j e [44] hl c1
   cases e2:F.or (j+1) [] with
   | none=>simp only[c1,e2,Rz.on,am] at E;cases E
   | some r2 =>
   obtain⟨y,j2,q2⟩:=r2
   have g':=H.or (j+1) _ hj1 e2
   obtain⟨u2,v2⟩:=g'.1
   dsimp only at u2 v2
   cases q2 with
   | true =>
    have k2:=g'.bad
    simp only[c1,e2,Rz.on,am] at E
    cases E
    simp only[↓zA,sevalprocAttr,aoh,pT,zP,f0,f3,fo,t1,k2]
    all_goals exact fz
   | false =>
    have k2:=g'.ok
    simp only[c1,e2,Rz.on,am] at E
    simp only[↓zA,sevalprocAttr,aoh,pT,zP,f0,f3,fo,t1,k2]
    and_intros
    all_goals first|exact okN _ _ aC _|exact⟨n,aO n,ks++[y],j2,asH (by rw[eU]) rfl aC,rfl,E,v2,by rw[bg];simp only[abf];omega⟩|(unfold LIM;unfold LB at hl;omega)|rfl
  | false =>
   have t1:=wF l j e [44] hl hj c1
   simp only[c1,ah,av] at E
   cases E
   simp only[↓zA,sevalprocAttr,aoh,pT,zP,f0,f3,fo,t1]
   all_goals exact fz
 .simp only[↓zA,sevalprocAttr,aoh,pT]
  exact⟨[a],j,asI (by rw[akl,eU]) rfl aC,rfl,hr,v,by simp only[abf];omega⟩
end Go.Proofs.YtghkmcffifpkeaaGreat
namespace Go.Tab
open Pe
def agS(o:List UInt8)(m:Nat)(l:List UInt8):Option (List UInt8×Nat):=(acc l).map λq=>(o++q.1,m+q.2)
def aV1(l:List UInt8):agS [] 0 l=acc l:=by unfold agS;cases acc l <;> simp
def aJO(o:List UInt8)(m:Nat):agS o m []=none:=rfl
def aVY(o:List UInt8)(m:Nat)(r:List UInt8)(h:r.head?≠some 39):agS o m (39::r)=some (o,m+1):=by
 unfold agS
 cases r with
 | nil=>simp[acc]
 | cons d r =>
  have h:d≠39:=λq=>h (by rw[q];rfl)
  simp[acc,h]
def aV0(o:List UInt8)(m:Nat){c:UInt8}(h:c≠39)(r:List UInt8):agS o m (c::r)=agS (o++[c]) (m+1) r:=by
 unfold agS
 cases r with
 | nil=>simp[acc,h]
 | cons d r=>simp only[acc,h,av,adL];congr 1;funext q;simp[Function.comp];omega
def aVZ(o:List UInt8)(m:Nat)(r:List UInt8):agS o m (39::39::r)=agS (o++[39]) (m+2) r:=by
 unfold agS
 simp only[acc,am,adL];congr 1;funext q;simp[Function.comp];omega
def aVX(i:Nat)(r:List UInt8):ak8 i r=match agS [] 0 r with
 | none=>(ad4 i,3)
 | some (w,n)=>if !w.all aff then (ad4 i,2) else if 100<w.length then (ad4 i,4) else (⟨4,i,n+1,0,w⟩,0):=by rw[aV1];rfl
end Go.Tab
namespace Go.Proofs.YtghkmcffifpkeaaGreat
open Pe Tab
def aQ3(t:Tk)(a:List UInt8)(n:Nat)(hn:a.length=n):aed tP 64 9 (.own t 5 1 (byC a) n)=out (agi (aK a)) :=
 auY T64 (by rw[T9];rfl) (by rw[T5];rfl) t 1 n a hn
def aIt:aed tP 64 9 .nil=out (agi (aK [])):=by
 simp only[aed,adv,ajD,T64,T9,aJ]
 rfl
def arN(tk:Tk)(n:Int):bW tk 1 (Pe.elemOf tP 64) (some [(0,[.of (.lit (.int .u8 n))])])=out (.own tk 5 1 [.lit (.int .u8 n)] 1):=by rw[E64];rfl
def aFs(tk tk' tk2:Tk)(cs0 cs:List C)(n m e2 z2:Nat):dP tP tk 64 64 (.own tk' 5 1 cs0 n) (.own tk2 e2 z2 cs m)=if cs.length=m*1/\n+m<=LIM then some (.own tk 5 1 (cs0++cs) (n+m),some tk') else none:=adX E64 aI aI tk tk' cs0 n (.own tk2 e2 z2 cs m) cs m rfl
def aJb(tk tk2:Tk)(cs:List C)(m e2 z2:Nat):dP tP tk 64 64 .nil (.own tk2 e2 z2 cs m)=if cs.length=m*1/\m<=LIM then some (.own tk 5 1 cs m,none) else none:=ae5 E64 aI aI tk (.own tk2 e2 z2 cs m) cs m rfl
def abL{clk c x i n:Nat}{o:List UInt8}(h:c<clk)(h2:n=o.length):∃ c' x' i',c'<clk/\X.own (.nm c x i) 5 1 (byC o) n=X.own (.nm c' x' i') 5 1 (byC o) o.length:=⟨c,x,i,h,by rw[h2]⟩
def aqi(p:UInt8->Bool)(o:List UInt8)(c:UInt8):(o++[c]).all p=(o.all p&&p c):=by simp
def ad6:=gv @Tryz.f150.eq_1 @zq @bam @U9 @T64 @ab9 @zT0 (kf aQj)
def azK(s:List UInt8)(i:Nat)(hl:s.length<=4000)(hi:i<s.length):GN 150 [.of (aG (aK s)),aQ i] [.of (.agg (tnC (ak8 i (s.drop (i+1))).1)),aQ (ak8 i (s.drop (i+1))).2]:=by
 rw[aVX]
 have hw:=fq i aC
 refine bB aQj ?_
 simp only[↓zA,sevalprocAttr,ad6,hw]
 refine fX _ _ (λn t=>∃ (o:List UInt8) (m:Nat),t.fr 0=.of (aG (aK s))/\t.fr 1=aQ i/\t.fr 4=.ptr 0 0/\t.fr 7=aM (!o.all aff)/\t.fr 8=aQ (i+1+m:Nat)/\((t.fr 6=.nil/\o=[])\/∃ c x i',c<t.clk/\t.fr 6=.own (.nm c x i') 5 1 (byC o) o.length)/\t.objs=[tkZ]/\i+1+m+n=s.length+1/\i+1+m<=s.length/\o.length<=m/\agS [] 0 (s.drop (i+1))=agS o m (s.drop (i+1+m))) ?_ (s.length-i) _ ?_
 .rintro n ⟨frn,obn,ckn⟩ ⟨o,m,f0,f1,f4,f7,f8,f6,fo,hn,hj,ho,E⟩
  dsimp only at f0 f1 f4 f7 f8 f6 fo
  have hwj:=fq (i+1+m) aC
  have hwj2:=fq (i+1+m+1) aC
  have ll:(o.length+1<=LIM)=True:=aa (by unfold LIM;omega)
  have l1:(1<=LIM)=True:=aa (by unfold LIM;omega)
  have hsub:IntKind.i64.wrap (((i+1+m+1:Nat):Int)-(i:Int))=((m+2:Nat):Int):=by rw[eu _ aC aC];omega
  have l100:((100:Int)<(o.length:Int))=(100<o.length):=propext aC
  rcases aA (i+1+m) s.length with dk|dk
  .have gx:=eX dk
   have dk':=aa dk
   have ndk:((s.length:Int)<=((i+1+m:Nat):Int))=False:=aF aC
   rw[adV dk] at E
   have e32:(((s[i+1+m].toNat:Nat):Int)<32)=(s[i+1+m].toNat<32):=propext aC
   have e126:((126:Int)<((s[i+1+m].toNat:Nat):Int))=(126<s[i+1+m].toNat):=propext aC
   have e39:(((s[i+1+m].toNat:Nat):Int)=39)=(s[i+1+m]=39):=eO _ 39 39 rfl
   generalize hc0:s[i+1+m]=c at *
   by_cases hq:c=39
   .subst hq
    have stop:(s.drop (i+1+m+1)).head?≠some 39->agS [] 0 (s.drop (i+1))=some (o,m+1):=λh=>by rw[E];exact aVY o m _ h
    rcases aA (i+1+m+1) s.length with d1|d1
    .have gd:=eX d1
     have neq:(((i+1+m+1:Nat):Int)=(s.length:Int))=False:=aF aC
     have hd0:=adV d1
     have e39d:(((s[i+1+m+1].toNat:Nat):Int)=39)=(s[i+1+m+1]=39):=eO _ 39 39 rfl
     generalize s[i+1+m+1]=d at *
     by_cases hd:d=39
     .subst hd
      rw[hd0,aVZ] at E
      have hall:(!(o++[39]).all aff)=!o.all aff:=by rw[aqi];show (!(o.all aff&&true))=_;rw[aag]
      have hb9:byC o++[C.lit (.int .u8 39)]=byC (o++[39]):=(arM o [39]).symm
      rcases f6 with ⟨f6,rfl⟩|⟨a,x,y,hck,f6⟩
      .simp only[↓zA,sevalprocAttr,ad6,f0,f1,f4,f6,f7,f8,fo,ba,dk',gx,gd,neq,hwj,hwj2,arN,aJb,l1,agZ]
       exact⟨n-2,by omega,[39],m+2,rfl,rfl,(by first|exact⟨_,_,_,by omega,rfl⟩|exact .inr ⟨_,_,_,by omega,rfl⟩|exact abL aC (by simp)|exact .inr (abL aC aT)),by omega,by omega,by simp,E⟩
      .have hne:(a=ckn+1)=False:=aF aC
       cases hb:o.all aff
       all_goals
        simp only[↓zA,sevalprocAttr,ad6,f0,f1,f4,f6,f7,f8,fo,ba,dk',gx,gd,neq,hwj,hwj2,arN,aFs,ll,hb,hb9]
        refine⟨okN _ _ aC _,n-2,by omega,o++[39],m+2,by rw[hall,hb];rfl,rfl,(by first|exact⟨_,_,_,by omega,rfl⟩|exact .inr ⟨_,_,_,by omega,rfl⟩|exact abL aC (by simp)|exact .inr (abL aC aT)),by omega,by omega,by simp;omega,E⟩
     .have hd':(d=39)=False:=aF hd
      have E1:=stop (by rw[hd0];simpa using hd)
      cases hb:o.all aff with
      | false =>
       simp only[E1,hb,dH,am]
       rcases f6 with ⟨f6,rfl⟩|⟨a,x,y,hck,f6⟩
       .cases hb
       .simp only[↓zA,sevalprocAttr,ad6,f0,f1,f4,f7,f8,fo,ba,gx,gd,neq,e39d,hd',ndk,hb,bC,hwj,dk']
        try rfl
      | true =>
       by_cases h100:100<o.length
       .simp only[E1,hb,cX,ah,av,h100,am]
        rcases f6 with ⟨f6,rfl⟩|⟨a,x,y,hck,f6⟩
        .simp at h100
        .simp only[↓zA,sevalprocAttr,ad6,f0,f1,f4,f6,f7,f8,fo,ba,gx,gd,neq,e39d,hd',ndk,hb,bC,hwj,dk',l100,h100]
         try rfl
       .simp only[E1,hb,cX,ah,av,h100]
        rcases f6 with ⟨f6,rfl⟩|⟨a,x,y,hck,f6⟩
        .simp only[↓zA,sevalprocAttr,ad6,f0,f1,f4,f6,f7,f8,fo,ba,gx,gd,neq,e39d,hd',ndk,hb,bC,hwj,dk',hsub,aIt]
         try rfl
        .simp only[↓zA,sevalprocAttr,ad6,f0,f1,f4,f6,f7,f8,fo,ba,gx,gd,neq,e39d,hd',ndk,hb,bC,hwj,dk',l100,h100,hsub,aQ3]
         try rfl
    .have eqq:(((i+1+m+1:Nat):Int)=(s.length:Int))=True:=aa aC
     have E1:=stop (by rw[dv aC];simp)
     cases hb:o.all aff with
     | false =>
      simp only[E1,hb,dH,am]
      rcases f6 with ⟨f6,rfl⟩|⟨a,x,y,hck,f6⟩
      .cases hb
      .simp only[↓zA,sevalprocAttr,ad6,f0,f1,f4,f7,f8,fo,ba,gx,eqq,ndk,hb,bC,hwj,dk']
       try rfl
     | true =>
      by_cases h100:100<o.length
      .simp only[E1,hb,cX,ah,av,h100,am]
       rcases f6 with ⟨f6,rfl⟩|⟨a,x,y,hck,f6⟩
       .simp at h100
       .simp only[↓zA,sevalprocAttr,ad6,f0,f1,f4,f6,f7,f8,fo,ba,gx,eqq,ndk,hb,bC,hwj,dk',l100,h100]
        try rfl
      .simp only[E1,hb,cX,ah,av,h100]
       rcases f6 with ⟨f6,rfl⟩|⟨a,x,y,hck,f6⟩
       .simp only[↓zA,sevalprocAttr,ad6,f0,f1,f4,f6,f7,f8,fo,ba,gx,eqq,ndk,hb,bC,hwj,dk',hsub,aIt]
        try rfl
       .simp only[↓zA,sevalprocAttr,ad6,f0,f1,f4,f6,f7,f8,fo,ba,gx,eqq,ndk,hb,bC,hwj,dk',l100,h100,hsub,aQ3]
        try rfl
   .rw[aV0 o m hq] at E
    have hq':(c=39)=False:=aF hq
    have hb9:byC o++[C.lit (.int .u8 (c.toNat:Nat))]=byC (o++[c]):=(arM o [c]).symm
    have seen:aff c=(!decide (c.toNat<32)&&!decide (126<c.toNat)):=by
     unfold aff
     by_cases h1:c.toNat<32 <;> by_cases h2:126<c.toNat <;> simp[h1,h2] <;> omega
    cases hb:o.all aff with
    | false =>
     have hall:(!(o++[c]).all aff)=true:=by rw[aqi,hb];rfl
     rcases f6 with ⟨f6,rfl⟩|⟨a,x,y,hck,f6⟩
     .cases hb
     .have hne:(a=ckn+1)=False:=aF aC
      simp only[↓zA,sevalprocAttr,ad6,f0,f1,f4,f6,f7,f8,fo,ba,dk',gx,e39,hq',hwj,arN,aFs,ll,hb,hb9]
      refine⟨okN _ _ aC _,n-1,by omega,o++[c],m+1,by rw[hall],rfl,(by first|exact⟨_,_,_,by omega,rfl⟩|exact .inr ⟨_,_,_,by omega,rfl⟩|exact abL aC (by simp)|exact .inr (abL aC aT)),by omega,by omega,by simp;omega,E⟩
    | true =>
     have hall:(!(o++[c]).all aff)=(decide (c.toNat<32)||decide (126<c.toNat)):=by rw[aqi,hb,seen];cases decide (c.toNat<32) <;> cases decide (126<c.toNat) <;> rfl
     by_cases h1:c.toNat<32
     all_goals first|(have h1':=aa h1;skip)|skip
     all_goals by_cases h2:126<c.toNat
     all_goals
      rcases f6 with ⟨f6,rfl⟩|⟨a,x,y,hck,f6⟩
      .simp only[↓zA,sevalprocAttr,ad6,f0,f1,f4,f6,f7,f8,fo,ba,dk',gx,e39,hq',hwj,arN,aJb,l1,e32,e126,h1,h2,agZ]
       exact⟨n-1,by omega,[c],m+1,by simpa [h1,h2] using hall.symm,rfl,(by first|exact⟨_,_,_,by omega,rfl⟩|exact .inr ⟨_,_,_,by omega,rfl⟩|exact abL aC (by simp)|exact .inr (abL aC aT)),by omega,by omega,by simp,E⟩
      .have hne:(a=ckn+1)=False:=aF aC
       simp only[↓zA,sevalprocAttr,ad6,f0,f1,f4,f6,f7,f8,fo,ba,dk',gx,e39,hq',hwj,arN,aFs,ll,hb,hb9,e32,e126,h1,h2]
       refine⟨okN _ _ aC _,n-1,by omega,o++[c],m+1,by rw[hall];simp[h1,h2],rfl,(by first|exact⟨_,_,_,by omega,rfl⟩|exact .inr ⟨_,_,_,by omega,rfl⟩|exact abL aC (by simp)|exact .inr (abL aC aT)),by omega,by omega,by simp;omega,E⟩
  .have dk':(i+1+m<s.length)=False:=aF aC
   have ndk:((s.length:Int)<=((i+1+m:Nat):Int))=True:=aa aC
   rw[dv dk,aJO] at E
   simp only[E]
   rcases f6 with ⟨f6,rfl⟩|⟨a,x,y,hck,f6⟩
   all_goals
    simp only[↓zA,sevalprocAttr,ad6,f0,f1,f4,f8,fo,ba,dk',ndk,bC]
    try rfl
 .simp only[↓zA,sevalprocAttr,ad6]
  first|exact⟨[],0,rfl,rfl,.inl rfl,by omega,by omega,ae _,rfl⟩|exact⟨[],0,rfl,rfl,rfl,by omega,by omega,ae _,rfl⟩|exact⟨[],0,rfl,rfl,by omega,by omega,ae _,rfl⟩
def fZ:=gq @Tryz.f151.eq_1 @zq @bal @ab9 @zT0 (kf fW)
def azM(s:List UInt8)(i:Nat)(hl:s.length<=4000)(hi:i<s.length):GN 151 [.of (aG (aK s)),aQ i] [.of (.agg (tnC (lxG i s[i] (s.drop (i+1)).head?).1)),aQ (lxG i s[i] (s.drop (i+1)).head?).2]:=by
 have hw:=fq i aC
 have gx:=eX hi
 have hd0:=adV hi
 have s1:=asl s i (i+1) aC aC
 have t1:(s.take (i+1)).drop i=[s[i]]:=by rw[adO,hd0,show i+1-i=1 by omega];rfl
 rw[t1] at s1
 have w2:IntKind.i64.wrap ((i:Int)+2)=((i+2:Nat):Int):=by rw[eu _ aC aC];rfl
 rcases aA (i+1) s.length with d1|d1
 .have gd:=eX d1
  have lt:=aa d1
  have hd1:=adV d1
  have s2:=asl s i (i+2) aC aC
  have t2:(s.take (i+2)).drop i=[s[i],s[i+1]]:=by rw[adO,hd0,hd1,show i+2-i=2 by omega];rfl
  rw[t2] at s2
  have eh:(s.drop (i+1)).head?=some s[i+1]:=by rw[hd1];rfl
  rw[eh]
  generalize s[i+1]=d at *
  generalize s[i]=c at *
  by_cases h124:c=124
  .subst h124
   by_cases g124:d=124
   .subst g124
    rw[show lxG i 124 (some 124)=(⟨5,i,2,0,[124,124]⟩,0) from rfl]
    refine bB fW ?_
    simp only[↓zA,sevalprocAttr,fZ,hw,w2,gx,ba,bC,gd,lt,s2]
    try rfl
   .have j124:(((d.toNat:Nat):Int)=124)=False:=aF λq=>g124 (by have:=(eO d 124 124 rfl);exact this.mp q)
    rw[show lxG i 124 (some d)=(ad4 i,2) from by unfold lxG;simp[g124]]
    refine bB fW ?_
    simp only[↓zA,sevalprocAttr,fZ,hw,gx,ba,bC,gd,lt,j124]
    try rfl
  by_cases h60:c=60
  .subst h60
   by_cases g62:d=62
   .subst g62
    rw[show lxG i 60 (some 62)=(⟨5,i,2,0,[60,62]⟩,0) from rfl]
    refine bB fW ?_
    simp only[↓zA,sevalprocAttr,fZ,hw,w2,gx,ba,bC,gd,lt,s2]
    try rfl
   by_cases g61:d=61
   .subst g61
    rw[show lxG i 60 (some 61)=(⟨5,i,2,0,[60,61]⟩,0) from rfl]
    refine bB fW ?_
    simp only[↓zA,sevalprocAttr,fZ,hw,w2,gx,ba,bC,gd,lt,s2]
    try rfl
   .have j62:(((d.toNat:Nat):Int)=62)=False:=aF λq=>g62 (by have:=(eO d 62 62 rfl);exact this.mp q)
    have j61:(((d.toNat:Nat):Int)=61)=False:=aF λq=>g61 (by have:=(eO d 61 61 rfl);exact this.mp q)
    rw[show lxG i 60 (some d)=(⟨5,i,1,0,[60]⟩,0) from by unfold lxG;simp[g62,g61]]
    refine bB fW ?_
    simp only[↓zA,sevalprocAttr,fZ,hw,gx,ba,bC,s1,gd,lt,j62,j61]
    try rfl
  by_cases h62:c=62
  .subst h62
   by_cases g61:d=61
   .subst g61
    rw[show lxG i 62 (some 61)=(⟨5,i,2,0,[62,61]⟩,0) from rfl]
    refine bB fW ?_
    simp only[↓zA,sevalprocAttr,fZ,hw,w2,gx,ba,bC,gd,lt,s2]
    try rfl
   .have j61:(((d.toNat:Nat):Int)=61)=False:=aF λq=>g61 (by have:=(eO d 61 61 rfl);exact this.mp q)
    rw[show lxG i 62 (some d)=(⟨5,i,1,0,[62]⟩,0) from by unfold lxG;simp[g61]]
    refine bB fW ?_
    simp only[↓zA,sevalprocAttr,fZ,hw,gx,ba,bC,s1,gd,lt,j61]
    try rfl
  by_cases h40:c=40
  .subst h40
   rw[show lxG i 40 (some d)=(⟨5,i,1,0,[40]⟩,0) from by unfold lxG;simp]
   refine bB fW ?_
   simp only[↓zA,sevalprocAttr,fZ,hw,gx,ba,bC,s1,gd,lt]
   try rfl
  by_cases h41:c=41
  .subst h41
   rw[show lxG i 41 (some d)=(⟨5,i,1,0,[41]⟩,0) from by unfold lxG;simp]
   refine bB fW ?_
   simp only[↓zA,sevalprocAttr,fZ,hw,gx,ba,bC,s1,gd,lt]
   try rfl
  by_cases h44:c=44
  .subst h44
   rw[show lxG i 44 (some d)=(⟨5,i,1,0,[44]⟩,0) from by unfold lxG;simp]
   refine bB fW ?_
   simp only[↓zA,sevalprocAttr,fZ,hw,gx,ba,bC,s1,gd,lt]
   try rfl
  by_cases h46:c=46
  .subst h46
   rw[show lxG i 46 (some d)=(⟨5,i,1,0,[46]⟩,0) from by unfold lxG;simp]
   refine bB fW ?_
   simp only[↓zA,sevalprocAttr,fZ,hw,gx,ba,bC,s1,gd,lt]
   try rfl
  by_cases h59:c=59
  .subst h59
   rw[show lxG i 59 (some d)=(⟨5,i,1,0,[59]⟩,0) from by unfold lxG;simp]
   refine bB fW ?_
   simp only[↓zA,sevalprocAttr,fZ,hw,gx,ba,bC,s1,gd,lt]
   try rfl
  by_cases h43:c=43
  .subst h43
   rw[show lxG i 43 (some d)=(⟨5,i,1,0,[43]⟩,0) from by unfold lxG;simp]
   refine bB fW ?_
   simp only[↓zA,sevalprocAttr,fZ,hw,gx,ba,bC,s1,gd,lt]
   try rfl
  by_cases h45:c=45
  .subst h45
   rw[show lxG i 45 (some d)=(⟨5,i,1,0,[45]⟩,0) from by unfold lxG;simp]
   refine bB fW ?_
   simp only[↓zA,sevalprocAttr,fZ,hw,gx,ba,bC,s1,gd,lt]
   try rfl
  by_cases h42:c=42
  .subst h42
   rw[show lxG i 42 (some d)=(⟨5,i,1,0,[42]⟩,0) from by unfold lxG;simp]
   refine bB fW ?_
   simp only[↓zA,sevalprocAttr,fZ,hw,gx,ba,bC,s1,gd,lt]
   try rfl
  by_cases h47:c=47
  .subst h47
   rw[show lxG i 47 (some d)=(⟨5,i,1,0,[47]⟩,0) from by unfold lxG;simp]
   refine bB fW ?_
   simp only[↓zA,sevalprocAttr,fZ,hw,gx,ba,bC,s1,gd,lt]
   try rfl
  by_cases h37:c=37
  .subst h37
   rw[show lxG i 37 (some d)=(⟨5,i,1,0,[37]⟩,0) from by unfold lxG;simp]
   refine bB fW ?_
   simp only[↓zA,sevalprocAttr,fZ,hw,gx,ba,bC,s1,gd,lt]
   try rfl
  by_cases h61:c=61
  .subst h61
   rw[show lxG i 61 (some d)=(⟨5,i,1,0,[61]⟩,0) from by unfold lxG;simp]
   refine bB fW ?_
   simp only[↓zA,sevalprocAttr,fZ,hw,gx,ba,bC,s1,gd,lt]
   try rfl
  have j124:(((c.toNat:Nat):Int)=124)=False:=aF λq=>h124 ((eO c 124 124 rfl).mp q)
  have j60:(((c.toNat:Nat):Int)=60)=False:=aF λq=>h60 ((eO c 60 60 rfl).mp q)
  have j62:(((c.toNat:Nat):Int)=62)=False:=aF λq=>h62 ((eO c 62 62 rfl).mp q)
  have j40:(((c.toNat:Nat):Int)=40)=False:=aF λq=>h40 ((eO c 40 40 rfl).mp q)
  have j41:(((c.toNat:Nat):Int)=41)=False:=aF λq=>h41 ((eO c 41 41 rfl).mp q)
  have j44:(((c.toNat:Nat):Int)=44)=False:=aF λq=>h44 ((eO c 44 44 rfl).mp q)
  have j46:(((c.toNat:Nat):Int)=46)=False:=aF λq=>h46 ((eO c 46 46 rfl).mp q)
  have j59:(((c.toNat:Nat):Int)=59)=False:=aF λq=>h59 ((eO c 59 59 rfl).mp q)
  have j43:(((c.toNat:Nat):Int)=43)=False:=aF λq=>h43 ((eO c 43 43 rfl).mp q)
  have j45:(((c.toNat:Nat):Int)=45)=False:=aF λq=>h45 ((eO c 45 45 rfl).mp q)
  have j42:(((c.toNat:Nat):Int)=42)=False:=aF λq=>h42 ((eO c 42 42 rfl).mp q)
  have j47:(((c.toNat:Nat):Int)=47)=False:=aF λq=>h47 ((eO c 47 47 rfl).mp q)
  have j37:(((c.toNat:Nat):Int)=37)=False:=aF λq=>h37 ((eO c 37 37 rfl).mp q)
  have j61:(((c.toNat:Nat):Int)=61)=False:=aF λq=>h61 ((eO c 61 61 rfl).mp q)
  rw[show lxG i c (some d)=(ad4 i,2) from by unfold lxG;simp[h124,h60,h62,h40,h41,h44,h46,h59,h43,h45,h42,h47,h37,h61]]
  refine bB fW ?_
  simp only[↓zA,sevalprocAttr,fZ,hw,gx,ba,bC,gd,lt,j124,j60,j62,j40,j41,j44,j46,j59,j43,j45,j42,j47,j37,j61]
  try rfl
 .have lt:(i+1<s.length)=False:=aF aC
  have eh:(s.drop (i+1)).head?=none:=by rw[dv d1];rfl
  rw[eh]
  generalize s[i]=c at *
  by_cases h124:c=124
  .subst h124
   rw[show lxG i 124 none=(ad4 i,2) from rfl]
   refine bB fW ?_
   simp only[↓zA,sevalprocAttr,fZ,hw,gx,ba,bC,lt]
   try rfl
  by_cases h60:c=60
  .subst h60
   rw[show lxG i 60 none=(⟨5,i,1,0,[60]⟩,0) from rfl]
   refine bB fW ?_
   simp only[↓zA,sevalprocAttr,fZ,hw,gx,ba,bC,s1,lt]
   try rfl
  by_cases h62:c=62
  .subst h62
   rw[show lxG i 62 none=(⟨5,i,1,0,[62]⟩,0) from rfl]
   refine bB fW ?_
   simp only[↓zA,sevalprocAttr,fZ,hw,gx,ba,bC,s1,lt]
   try rfl
  by_cases h40:c=40
  .subst h40
   rw[show lxG i 40 none=(⟨5,i,1,0,[40]⟩,0) from rfl]
   refine bB fW ?_
   simp only[↓zA,sevalprocAttr,fZ,hw,gx,ba,bC,s1,lt]
   try rfl
  by_cases h41:c=41
  .subst h41
   rw[show lxG i 41 none=(⟨5,i,1,0,[41]⟩,0) from rfl]
   refine bB fW ?_
   simp only[↓zA,sevalprocAttr,fZ,hw,gx,ba,bC,s1,lt]
   try rfl
  by_cases h44:c=44
  .subst h44
   rw[show lxG i 44 none=(⟨5,i,1,0,[44]⟩,0) from rfl]
   refine bB fW ?_
   simp only[↓zA,sevalprocAttr,fZ,hw,gx,ba,bC,s1,lt]
   try rfl
  by_cases h46:c=46
  .subst h46
   rw[show lxG i 46 none=(⟨5,i,1,0,[46]⟩,0) from rfl]
   refine bB fW ?_
   simp only[↓zA,sevalprocAttr,fZ,hw,gx,ba,bC,s1,lt]
   try rfl
  by_cases h59:c=59
  .subst h59
   rw[show lxG i 59 none=(⟨5,i,1,0,[59]⟩,0) from rfl]
   refine bB fW ?_
   simp only[↓zA,sevalprocAttr,fZ,hw,gx,ba,bC,s1,lt]
   try rfl
  by_cases h43:c=43
  .subst h43
   rw[show lxG i 43 none=(⟨5,i,1,0,[43]⟩,0) from rfl]
   refine bB fW ?_
   simp only[↓zA,sevalprocAttr,fZ,hw,gx,ba,bC,s1,lt]
   try rfl
  by_cases h45:c=45
  .subst h45
   rw[show lxG i 45 none=(⟨5,i,1,0,[45]⟩,0) from rfl]
   refine bB fW ?_
   simp only[↓zA,sevalprocAttr,fZ,hw,gx,ba,bC,s1,lt]
   try rfl
  by_cases h42:c=42
  .subst h42
   rw[show lxG i 42 none=(⟨5,i,1,0,[42]⟩,0) from rfl]
   refine bB fW ?_
   simp only[↓zA,sevalprocAttr,fZ,hw,gx,ba,bC,s1,lt]
   try rfl
  by_cases h47:c=47
  .subst h47
   rw[show lxG i 47 none=(⟨5,i,1,0,[47]⟩,0) from rfl]
   refine bB fW ?_
   simp only[↓zA,sevalprocAttr,fZ,hw,gx,ba,bC,s1,lt]
   try rfl
  by_cases h37:c=37
  .subst h37
   rw[show lxG i 37 none=(⟨5,i,1,0,[37]⟩,0) from rfl]
   refine bB fW ?_
   simp only[↓zA,sevalprocAttr,fZ,hw,gx,ba,bC,s1,lt]
   try rfl
  by_cases h61:c=61
  .subst h61
   rw[show lxG i 61 none=(⟨5,i,1,0,[61]⟩,0) from rfl]
   refine bB fW ?_
   simp only[↓zA,sevalprocAttr,fZ,hw,gx,ba,bC,s1,lt]
   try rfl
  have j124:(((c.toNat:Nat):Int)=124)=False:=aF λq=>h124 ((eO c 124 124 rfl).mp q)
  have j60:(((c.toNat:Nat):Int)=60)=False:=aF λq=>h60 ((eO c 60 60 rfl).mp q)
  have j62:(((c.toNat:Nat):Int)=62)=False:=aF λq=>h62 ((eO c 62 62 rfl).mp q)
  have j40:(((c.toNat:Nat):Int)=40)=False:=aF λq=>h40 ((eO c 40 40 rfl).mp q)
  have j41:(((c.toNat:Nat):Int)=41)=False:=aF λq=>h41 ((eO c 41 41 rfl).mp q)
  have j44:(((c.toNat:Nat):Int)=44)=False:=aF λq=>h44 ((eO c 44 44 rfl).mp q)
  have j46:(((c.toNat:Nat):Int)=46)=False:=aF λq=>h46 ((eO c 46 46 rfl).mp q)
  have j59:(((c.toNat:Nat):Int)=59)=False:=aF λq=>h59 ((eO c 59 59 rfl).mp q)
  have j43:(((c.toNat:Nat):Int)=43)=False:=aF λq=>h43 ((eO c 43 43 rfl).mp q)
  have j45:(((c.toNat:Nat):Int)=45)=False:=aF λq=>h45 ((eO c 45 45 rfl).mp q)
  have j42:(((c.toNat:Nat):Int)=42)=False:=aF λq=>h42 ((eO c 42 42 rfl).mp q)
  have j47:(((c.toNat:Nat):Int)=47)=False:=aF λq=>h47 ((eO c 47 47 rfl).mp q)
  have j37:(((c.toNat:Nat):Int)=37)=False:=aF λq=>h37 ((eO c 37 37 rfl).mp q)
  have j61:(((c.toNat:Nat):Int)=61)=False:=aF λq=>h61 ((eO c 61 61 rfl).mp q)
  rw[show lxG i c none=(ad4 i,2) from by unfold lxG;simp[h124,h60,h62,h40,h41,h44,h46,h59,h43,h45,h42,h47,h37,h61]]
  refine bB fW ?_
  simp only[↓zA,sevalprocAttr,fZ,hw,gx,ba,bC,lt,j124,j60,j62,j40,j41,j44,j46,j59,j43,j45,j42,j47,j37,j61]
  try rfl
def arX:=ai (gu @Tryz.f63.eq_1 @zq @bak @a7W @aRj @a7V @aE1) (gu @a7U @a7T @a7S @a7R @ab9 @zT0 (kf ap7))
def azN(s:List UInt8)(i:Nat)(hl:s.length<=4000)(hi:i<=s.length):GN 63 [.of (aG (aK s)),aQ i] [.of (.agg (tnC (fm s i).1)),aQ (fm s i).2]:=by
 have hs:=ahZ false (s.drop i)
 rw[cP] at hs
 have ks:=λK=>aLS s i (by unfold LB;omega) hi K
 unfold fm
 have h1:((i:Int)<0)=False:=aF aC
 have h2:((s.length:Int)<(i:Int))=False:=aF aC
 generalize hj:i+cU false (s.drop i)=j at *
 rcases aA j s.length with dk|dk
 .have h3:((j:Int)=(s.length:Int))=False:=aF aC
  have gx:=eX dk
  have kw:=λh K=>aH.k (azJ s j hl dk h) K
  have kn:=λK=>aH.k (auU s j hl aC) K
  have kq:=λK=>aH.k (auT s j hl dk) K
  have kt:=λK=>aH.k (azK s j hl dk) K
  have kg:=λK=>aH.k (azM s j hl dk) K
  have e34:(((s[j].toNat:Nat):Int)=34)=(s[j]=34):=eO _ 34 34 rfl
  have e39:(((s[j].toNat:Nat):Int)=39)=(s[j]=39):=eO _ 39 39 rfl
  have et:acH j (s.drop j)=if acX s[j] then lxW j ((s.drop j).takeWhile acv) else if cJ s[j] then ai7 j ((s.drop j).takeWhile cJ) else if s[j]=34 then aj4 j (s.drop (j+1)) else if s[j]=39 then ak8 j (s.drop (j+1)) else lxG j s[j] (s.drop (j+1)).head?:=by
   rw[adV dk];rfl
  rw[et]
  cases c1:acX s[j] with
  | true =>
   have kw:=kw c1
   simp only[am]
   generalize lxW j ((s.drop j).takeWhile acv)=r at *
   refine bB ap7 ?_
   simp only[↓zA,sevalprocAttr,arX,h1,h2,h3,ks,gx,abw,c1,kw,bC]
   try rfl
  | false =>
   simp only[ah,av]
   cases c2:cJ s[j] with
   | true =>
    simp only[am]
    generalize ai7 j ((s.drop j).takeWhile cJ)=r at *
    refine bB ap7 ?_
    simp only[↓zA,sevalprocAttr,arX,h1,h2,h3,ks,gx,abw,ab3,c1,c2,kn,bC]
    try rfl
   | false =>
    simp only[ah,av]
    by_cases c3:s[j]=34
    .rw[au c3]
     have c3':=aa c3
     generalize aj4 j (s.drop (j+1))=r at *
     refine bB ap7 ?_
     simp only[↓zA,sevalprocAttr,arX,h1,h2,h3,ks,gx,abw,ab3,c1,c2,e34,c3',kq,bC]
     try rfl
    .rw[ar c3]
     have c3':=aF c3
     by_cases c4:s[j]=39
     .rw[au c4]
      have c4':=aa c4
      generalize ak8 j (s.drop (j+1))=r at *
      refine bB ap7 ?_
      simp only[↓zA,sevalprocAttr,arX,h1,h2,h3,ks,gx,abw,ab3,c1,c2,e34,c3',e39,c4',kt,bC]
      try rfl
     .rw[ar c4]
      have c4':=aF c4
      generalize lxG j s[j] (s.drop (j+1)).head?=r at *
      refine bB ap7 ?_
      simp only[↓zA,sevalprocAttr,arX,h1,h2,h3,ks,gx,abw,ab3,c1,c2,e34,c3',e39,c4',kg,bC]
      try rfl
 .have h3:((j:Int)=(s.length:Int))=True:=aa aC
  rw[dv dk]
  refine bB ap7 ?_
  simp only[↓zA,sevalprocAttr,arX,h1,h2,h3,ks,bC,acH]
  try rfl
def ana:=ai (gq @Tryz.f25.eq_1 @zq @bbR @baj @mp8 @ab9) (gp @acG @P3 @Q3 @zT0 (kf aML))
def ab4(s:List UInt8)(hs:s.length<LB)(r:List Tn×Int×Int)(hr:abv s=some r):GN 25 [.of (aG (aK s))] [.of (slC tnC r.1),aQ r.2.1,aQ r.2.2]:=by
 unfold abv at hr
 by_cases hl:2000<s.length
 .rw[au hl] at hr
  cases hr
  have h1:((2000:Int)<(s.length:Int))=True:=aa aC
  refine bB aML ?_
  simp only[↓zA,sevalprocAttr,ana,h1]
  try rfl
 .rw[ar hl] at hr
  have h1:((2000:Int)<(s.length:Int))=False:=aF aC
  refine bB aML ?_
  simp only[↓zA,sevalprocAttr,ana,h1]
  refine fX _ _ (λn t=>∃ (o:List Tn) (j:Nat),((t.fr 5=.nil/\o=[])\/∃ c x i,c<t.clk/\t.fr 5=.own (.nm c x i) 63 5 (fl tnC o) o.length)/\t.fr 0=.of (aG (aK s))/\t.fr 6=aQ j/\t.objs=[]/\agR s n o j=some r/\j<=s.length/\o.length<=j) ?_ (s.length+2) _ ?_
  .rintro n ⟨frn,obn,ckn⟩ ⟨o,j,hK,f0,f6,fo,E,hj,ho⟩
   dsimp only at hK f0 f6 fo
   have hos:(o.length+1<=LIM)=True:=aa (by unfold LIM;omega)
   have l1:(1<=LIM)=True:=aa aI
   cases n with
   | zero=>simp only[agR] at E;cases E
   | succ n =>
   unfold agR at E
   have kx:=λK=>aH.k (azN s j aC hj) K
   have hok:=λh=>alH hj (t:=(fm s j).1) (by rw[← (show (fm s j).2=0 from h)])
   generalize fm s j=p at *
   obtain⟨t,e⟩:=p
   dsimp only at E kx hok
   by_cases he:e=0
   .have he':=aa he
    rw[ar (by simp[he])] at E
    by_cases hk:t.k=0
    .have hk':=aa hk
     rw[au hk] at E
     cases E
     rcases hK with ⟨f5,rfl⟩|⟨c,x,i',hc,f5⟩
     .simp only[↓zA,sevalprocAttr,ana,f0,f5,f6,fo,kx,he',hk',bC]
      try rfl
     .have hn0:(c=ckn)=False:=aF aC
      simp only[↓zA,sevalprocAttr,ana,f0,f5,f6,fo,kx,he',hk',bC,hn0]
      try rfl
    .have hk':=aF hk
     rw[ar hk] at E
     rcases hok he with q|⟨a,ha,q⟩
     .exact absurd q hk
     have q1:=q.pl
     have q2:=q.sz
     have hw:IntKind.i64.wrap (t.pl+t.sz)=(((t.pl+t.sz).toNat:Nat):Int):=by rw[eu _ aC aC];omega
     have hb:(t.pl+t.sz).toNat<=s.length:=by omega
     have hb2:j+1<=(t.pl+t.sz).toNat:=by omega
     rcases hK with ⟨f5,rfl⟩|⟨c,x,i',hc,f5⟩
     .simp only[↓zA,sevalprocAttr,ana,f0,f5,f6,fo,kx,he',hk',bC,l1,hw]
      exact⟨n,aO n,[t],(t.pl+t.sz).toNat,by first|exact asI (by rw[akl,bC]) rfl (by omega)|exact .inr (asI (by rw[akl,bC]) rfl aC),rfl,by simpa using E,hb,by simp only[abf];omega⟩
     .have hne:(c=ckn+1)=False:=aF aC
      have hn0:(c=ckn)=False:=aF aC
      simp only[↓zA,sevalprocAttr,ana,f0,f5,f6,fo,kx,he',hk',bC,hos,hn0,hw]
      and_intros
      all_goals first|exact okN _ _ aC _|exact⟨n,aO n,o++[t],(t.pl+t.sz).toNat,by first|exact asH (by rw[bC]) rfl (by omega)|exact .inr (asH (by rw[bC]) rfl aC),rfl,E,hb,by simp only[aey];omega⟩|rfl|omega
   .have he':=aF he
    rw[au (by simpa using he)] at E
    cases E
    rcases hK with ⟨f5,rfl⟩|⟨c,x,i',hc,f5⟩
    all_goals
     simp only[↓zA,sevalprocAttr,ana,f0,f6,fo,kx,he',bC]
     try rfl
  .simp only[↓zA,sevalprocAttr,ana]
   first|exact⟨[],0,.inl rfl,rfl,hr,aU _,ae _⟩|exact⟨[],0,rfl,rfl,hr,aU _,ae _⟩
abbrev wB(f:Func):Code:=f.body.getD .skip
@[reducible] def aaR:Code->Code
 | .seq a _=>a
 | c=>c
@[reducible] def eK:Code->Code
 | .seq _ b=>b
 | c=>c
abbrev w0S(f:Func):Code:=aaR (wB f)
abbrev w1S(f:Func):Code:=aaR (eK (wB f))
abbrev w2S(f:Func):Code:=aaR (eK (eK (wB f)))
abbrev w4S(f:Func):Code:=aaR (eK (eK (eK (wB f))))
abbrev w5S(f:Func):Code:=aaR (eK (eK (eK (eK (wB f)))))
abbrev wBS(f:Func):Code:=eK (eK (eK (eK (eK (wB f)))))
abbrev wDS(f:Func):Code:=eK (eK (wB f))
def ak5(c:C):asX tP 114 (.of (.ifc 114 c)) true=out (.of (.tup [c,.lit (.bool true)])):=by
 have:amL ((tP 114).map (·.und))=true:=by rw[an7];rfl
 simp only[asX,this,bM,am]
def plT(s:List UInt8)(l:List Tn)(j:Nat):Int:=if l.length<=j then (s.length:Int) else (bN l j).pl
def cS{α:Type}(z:α)(s:List UInt8)(l:List Tn)(ok:Bool):α×Nat×Bool->α×Int×Int
 | (_,j,true)=>(z,plT s l j,if l.length<=j then 3 else 2)
 | (a,j,false)=>if j<l.length then (z,plT s l j,2) else if ok then (a,0,0) else (z,plT s l 0,4)
abbrev pT3(l:List Tn)(i:Nat)(e:Int):Ob:=.var 112 [.of (slC tnC l),.of (ci i),.of (ci e),.own (.cell 3 3) 28 9 [] 0,.own (.cell 3 4) 38 12 [] 0,.own (.cell 3 5) 140 6 [] 0]
def fr5(f g:Nat):Nat->X:=λj=>match j with
 | 1=>.of (.fn f [])
 | 2=>.of (.fn g [])
 | 6=>.ptr 0 0
 | 7=>.ptr 1 0
 | 8=>.ptr 2 0
 | 12=>.ptr 3 0
 | _=>.of .any
def cy:Tryz.prog.follows .mixedOrders=true:=by decide
def a5J(f g:Nat):fr5 f g 1=.of (.fn f []):=rfl
def a5I(f g:Nat):fr5 f g 2=.of (.fn g []):=rfl
def a5H(f g:Nat):fr5 f g 6=.ptr 0 0:=rfl
def a5G(f g:Nat):fr5 f g 7=.ptr 1 0:=rfl
def a5F(f g:Nat):fr5 f g 8=.ptr 2 0:=rfl
def aYx(f g:Nat):fr5 f g 12=.ptr 3 0:=rfl
def bcc(x:X)(o:List Ob)(c:Nat):(acN x o c).fr 0=.ptr 0 0:=rfl
def bcb(x:X)(o:List Ob)(c:Nat):(acN x o c).fr 1=.ptr 1 0:=rfl
def bca(x:X)(o:List Ob)(c:Nat):(acN x o c).fr 2=.ptr 2 0:=rfl
def bb9(x:X)(o:List Ob)(c:Nat):(acN x o c).fr 3=x:=rfl
def bb7(x:X)(o:List Ob)(c:Nat):(acN x o c).objs=o:=rfl
def bb8(x:X)(o:List Ob)(c:Nat):(acN x o c).clk=c:=rfl
def a9a(o:List Ob)(c:Nat):(agl o c).fr 6=.ptr 0 0:=rfl
def a89(o:List Ob)(c:Nat):(agl o c).fr 7=.ptr 1 0:=rfl
def a88(o:List Ob)(c:Nat):(agl o c).fr 8=.ptr 2 0:=rfl
def a87(o:List Ob)(c:Nat):(agl o c).objs=o:=rfl
def zWH:=ai (gv @a5J @a5I @a5H @a5G @a5F @aYx @bcc @bcb) (gv @bca @bb9 @bb7 @bb8 @a9a @a89 @a88 @a87)
theorem bt.skip{G:Go.Pe.GP}(hpr:PrSound Tryz.prog G pr){N:Nat}{s:S}{Φ:Ex->S->Prop}(h:Φ .normal s):bt Tryz.prog G N .skip s Φ :=
 bt.of cy hpr rfl ((Z10 ..).2 h)
theorem bt.ret{G:Go.Pe.GP}(hpr:PrSound Tryz.prog G pr){N:Nat}{s:S}{Φ:Ex->S->Prop}(h:Φ .ret s):bt Tryz.prog G N .ret s Φ :=
 bt.of cy hpr rfl ((Zy ..).2 h)
def aEx(a b:C):amP 0 (.of (.tup [a,b]))=out (.of a):=rfl
def aEw(a b:C):amP 1 (.of (.tup [a,b]))=out (.of b):=rfl
theorem bt.anyN{P:Program}{G:Go.Pe.GP}{pr:Pr}{N:Nat}{s:S}{Φ:Ex->S->Prop}(hm:P.follows .mixedOrders=true)(hpr:PrSound P G pr){id:Nat}{ops:Array Oper}(hdst:ops.all (abZ N)=true){E:List (List Nat)}(hE:ops.toList.map alX=E)(hlt:((List.range E.length).all λi=>(E.getD i []).all λd=>decide (d<i))=true)
  (n:Nat) (hn:ops.size=n) (h:WF P pr ops.toList E (λs'=>Φ .normal {s' with clk:=s'.clk+1}) n (List.replicate n false) s):bt P G N (.region id ops true) s Φ:=by
 subst hn;exact bt.any hm hpr hdst hE hlt h
def bxO(d:TD)(xs:List X):aFk (some d) (some xs)=if xs.length=d.size then some xs else none:=rfl
def eB:List (List Nat):=[[],[],[1],[2],[3],[4],[5],[6],[0,0],[7,8,0,1,2,3,4,5,6,7,8],[9,0,1,2,3,4,5,6,7,8,9]]
def bbK:dU eB [false,false,false,false,false,false,false,false,false,false,false]=[0,1]:=by decide
def bbJ:dU eB [false,true,false,false,false,false,false,false,false,false,false]=[0,2]:=by decide
def bbI:dU eB [false,true,true,false,false,false,false,false,false,false,false]=[0,3]:=by decide
def bbH:dU eB [false,true,true,true,false,false,false,false,false,false,false]=[0,4]:=by decide
def bbG:dU eB [false,true,true,true,true,false,false,false,false,false,false]=[0,5]:=by decide
def bbF:dU eB [false,true,true,true,true,true,false,false,false,false,false]=[0,6]:=by decide
def bbE:dU eB [false,true,true,true,true,true,true,false,false,false,false]=[0,7]:=by decide
def bbD:dU eB [false,true,true,true,true,true,true,true,false,false,false]=[0]:=by decide
def bbC:dU eB [true,false,false,false,false,false,false,false,false,false,false]=[1,8]:=by decide
def bbB:dU eB [true,false,false,false,false,false,false,false,true,false,false]=[1]:=by decide
def a6K:dU eB [true,true,false,false,false,false,false,false,false,false,false]=[2,8]:=by decide
def a6J:dU eB [true,true,false,false,false,false,false,false,true,false,false]=[2]:=by decide
def a6I:dU eB [true,true,true,false,false,false,false,false,false,false,false]=[3,8]:=by decide
def a6H:dU eB [true,true,true,false,false,false,false,false,true,false,false]=[3]:=by decide
def a6G:dU eB [true,true,true,true,false,false,false,false,false,false,false]=[4,8]:=by decide
def a6F:dU eB [true,true,true,true,false,false,false,false,true,false,false]=[4]:=by decide
def a6E:dU eB [true,true,true,true,true,false,false,false,false,false,false]=[5,8]:=by decide
def a6D:dU eB [true,true,true,true,true,false,false,false,true,false,false]=[5]:=by decide
def a6C:dU eB [true,true,true,true,true,true,false,false,false,false,false]=[6,8]:=by decide
def a6B:dU eB [true,true,true,true,true,true,false,false,true,false,false]=[6]:=by decide
def a6A:dU eB [true,true,true,true,true,true,true,false,false,false,false]=[7,8]:=by decide
def a6z:dU eB [true,true,true,true,true,true,true,false,true,false,false]=[7]:=by decide
def a6y:dU eB [true,true,true,true,true,true,true,true,false,false,false]=[8]:=by decide
def a6x:dU eB [true,true,true,true,true,true,true,true,true,false,false]=[9]:=by decide
def a6w:dU eB [true,true,true,true,true,true,true,true,true,true,false]=[10]:=by decide
def aCy:=gj (gz @bbK @bbJ @bbI @bbH @bbG @bbF @bbE @bbD @bbC) (gz @bbB @a6K @a6J @a6I @a6H @a6G @a6F @a6E @a6D) (gu @a6C @a6B @a6A @a6z @a6y @a6x @a6w)
def eD:List (List Nat):=[[],[],[1],[],[3],[0,0],[2,5,0,1,2,5],[4,6,0,1,2,3,4,5,6]]
def bbA:dU eD [false,false,false,false,false,false,false,false]=[0,1,3]:=by decide
def bbz:dU eD [false,false,false,true,false,false,false,false]=[0,1,4]:=by decide
def bby:dU eD [false,false,false,true,true,false,false,false]=[0,1]:=by decide
def bbx:dU eD [false,true,false,false,false,false,false,false]=[0,2,3]:=by decide
def bbw:dU eD [false,true,false,true,false,false,false,false]=[0,2,4]:=by decide
def bbv:dU eD [false,true,false,true,true,false,false,false]=[0,2]:=by decide
def bbu:dU eD [false,true,true,false,false,false,false,false]=[0,3]:=by decide
def bbt:dU eD [false,true,true,true,false,false,false,false]=[0,4]:=by decide
def bbs:dU eD [false,true,true,true,true,false,false,false]=[0]:=by decide
def bbr:dU eD [true,false,false,false,false,false,false,false]=[1,3,5]:=by decide
def a6v:dU eD [true,false,false,false,false,true,false,false]=[1,3]:=by decide
def a6u:dU eD [true,false,false,true,false,false,false,false]=[1,4,5]:=by decide
def a6t:dU eD [true,false,false,true,false,true,false,false]=[1,4]:=by decide
def a6s:dU eD [true,false,false,true,true,false,false,false]=[1,5]:=by decide
def a6r:dU eD [true,false,false,true,true,true,false,false]=[1]:=by decide
def a6q:dU eD [true,true,false,false,false,false,false,false]=[2,3,5]:=by decide
def a6p:dU eD [true,true,false,false,false,true,false,false]=[2,3]:=by decide
def a6o:dU eD [true,true,false,true,false,false,false,false]=[2,4,5]:=by decide
def a6n:dU eD [true,true,false,true,false,true,false,false]=[2,4]:=by decide
def a6m:dU eD [true,true,false,true,true,false,false,false]=[2,5]:=by decide
def a6l:dU eD [true,true,false,true,true,true,false,false]=[2]:=by decide
def a6k:dU eD [true,true,true,false,false,false,false,false]=[3,5]:=by decide
def a6j:dU eD [true,true,true,false,false,true,false,false]=[3,6]:=by decide
def a6i:dU eD [true,true,true,false,false,true,true,false]=[3]:=by decide
def a6h:dU eD [true,true,true,true,false,false,false,false]=[4,5]:=by decide
def a6g:dU eD [true,true,true,true,false,true,false,false]=[4,6]:=by decide
def a6f:dU eD [true,true,true,true,false,true,true,false]=[4]:=by decide
def a6e:dU eD [true,true,true,true,true,false,false,false]=[5]:=by decide
def a6d:dU eD [true,true,true,true,true,true,false,false]=[6]:=by decide
def a6c:dU eD [true,true,true,true,true,true,true,false]=[7]:=by decide
def aCx:=gm (gv @bbA @bbz @bby @bbx @bbw @bbv @bbu @bbt) (gv @bbs @bbr @a6v @a6u @a6t @a6s @a6r @a6q) (gv @a6p @a6o @a6n @a6m @a6l @a6k @a6j @a6i) (gq @a6h @a6g @a6f @a6e @a6d @a6c)
set_option maxRecDepth 1000000
def oC(f:Func)(c:Code)(h:aa3 pr.mt f.ntmps c=true:=by decide +kernel):aa3 pr.mt f.ntmps c=true:=h
def aOG:=oC Tryz.f30 (w0S Tryz.f30)
def aOF:=oC Tryz.f30 (w1S Tryz.f30)
def aOE:=oC Tryz.f30 (w2S Tryz.f30)
def aOD:=oC Tryz.f30 (w4S Tryz.f30)
def aOC:=oC Tryz.f30 (aaR (wBS Tryz.f30))
def a3I:=oC Tryz.f30 (aaR (eK (wBS Tryz.f30)))
def a3H:=oC Tryz.f30 (aaR (aaR (eK (eK (wBS Tryz.f30)))))
def aWW:=oC Tryz.f30 (eK (eK (eK (wBS Tryz.f30))))
def aWV:=oC Tryz.f64 (aaR (wDS Tryz.f64))
def aWU:=oC Tryz.f64 (aaR (aaR (eK (wDS Tryz.f64))))
def aWT:=oC Tryz.f64 (aaR (eK (eK (wDS Tryz.f64))))
def aX9(cap:Array Value)(w:World):(invoke (.fn (.func 64) cap) #[]).run Tryz.prog w=.ok (.enter 64 cap) w:=by
 show (callFunc 64 (#[]++cap)).run Tryz.prog w=_
 rw[aaI]
 exact enters_of Tryz.func64 aS rfl _ _
def aO8(p6 p7 p8:Value)(w:World):CallsD Tryz.prog 64 #[p6,p7,p8] .returning w λe u' w'=>e=.returned (.tuple #[])/\u'=.returning/\w'=w:=by
 refine callsD_of_wpS Tryz.func64 rfl λc₀ cs hu=>?_
 apply wpS_seq
 apply wpS_region
 simp[wpOpsS,go_sem,recoverD,hu,Tryz.ntmps64,Exit.thenS]
 apply wpS_seq
 apply wpS_seq
 apply wpS_region
 simp[wpOpsS,go_sem,recoverD,hu,Exit.thenS]
 refine wpS_cond (t:=true) (by simp[Act.eval,Array.replicate]) ?_
 simp only[am]
 refine wpS_of_wp (wp_ret ?_)
 cases c₀
 simp_all [bodyPostS,results,Tryz.results64,Exit.thenS]
def a0v (t:TypeId) (u p6 p7 p8:Value) (w:World) (R:Ending->FrameMode->World->Prop) (h:∀ (c₀:Frame) (cs:List Frame) (T:Array Value),T.size=Tryz.f64.ntmps->T.getD 0 undef=p6->T.getD 1 undef=p7->T.getD 2 undef=p8->T.getD 3 undef=.iface t u ->
  (wDS Tryz.f64).wp Tryz.prog (λe a w'=>bodyPostS Tryz.prog Tryz.f64 c₀ cs R e a ({c₀ with mode:=.panicking [{v:=.iface t u,recovered:=true}]}::cs) w') ⟨T,[]⟩ w):CallsD Tryz.prog 64 #[p6,p7,p8] (.panicking [{v:=.iface t u,recovered:=false}]) w R:=by
 refine callsD_of_wpS Tryz.func64 rfl λc₀ cs hu=>?_
 apply wpS_seq
 apply wpS_region
 simp[wpOpsS,go_sem,recoverD,hu,Tryz.ntmps64,Exit.thenS]
 apply wpS_seq
 apply wpS_seq
 apply wpS_region
 simp[wpOpsS,go_sem,recoverD,Exit.thenS]
 refine wpS_cond (t:=false) (by simp[Act.eval,Array.replicate]) ?_
 simp only[ah,av]
 refine wpS_of_wp (wp_skip ?_)
 simp only[Exit.thenS]
 refine wpS_of_wp (h _ _ _ ?_ ?_ ?_ ?_ ?_)
 all_goals simp[Tryz.ntmps64,Array.getD,Array.replicate]
 all_goals rfl
def aZ5(tmps:Array Value)(w:World)(X:Act->World->Prop)(Q:Exit->Act->World->Prop)(hz:tmps.size=Tryz.f30.ntmps)(h:∀ cap,cap=#[tmps.getD 6 undef,tmps.getD 7 undef,tmps.getD 8 undef]->X ⟨tmps.setIfInBounds 30 (.func (.func 64) #[] cap),[⟨.fn (.func 64) cap,#[]⟩]⟩ w) :
  (w5S Tryz.f30).wp Tryz.prog (Exit.then X Q) ⟨tmps,[]⟩ w:=by
 have hmf:∀ (fn:Fn) (first cap:Array Value) (w:World),(Instr.makeFunc fn first cap).run Tryz.prog w=.ok (.func fn first cap) w:=λ_ _ _ _=>rfl
 have h':=h _ rfl
 have h30:30<tmps.size:=by rw[hz];decide
 have hg:∀ i:Nat,tmps.getD i undef=tmps[i]?.getD undef:=λi=>by simp
 simp only[hg] at h'
 apply wp_region
 simp[wpOps,go_sem,Exit.then,h30]
 exact .inl (.inl h')
def agO:=gm (gu @Tryz.f30.eq_1 @zq @avM @avL @T3 @avK @T29) (gu @aEY @avJ @aDw @aDy @akq @bF @ab9) (gu @acu @aaO @aaN @aaM @aaL @aaK @aaJ) (gu @acG @P3 @Q3 @P29 @Q29 @zT0 @aX3)
def aCk:=ai (gq @zq @avI @aDx @bF @an7 @alV) (gq @alU @P3 @Q3 @P29 @Q29 @zT0)
abbrev aVo:List X:=[.of (ci 0),.of (ci 0),.of (ci 0),.of (aG {data:=#[]}),.of (aG {data:=#[]}),.of (aG {data:=#[]}),.of (cb false),.nil,.nil]
def s5X(l:List Tn)(e:Int)(clk:Nat):S:=⟨fr5 31 22,[.var 28 aVo,.var 3 [.of (ci 0)],.var 29 [.of (ci 0)],pT3 l 0 e],clk⟩
def aCI{G:Go.Pe.GP}(hpr:PrSound Tryz.prog G pr)(l:List Tn)(j:Nat)(e q n:Int)(clk:Nat) :
  bt Tryz.prog G Tryz.f64.ntmps (wDS Tryz.f64) (acN (.of (.ifc 114 (.agg [ci q,ci n]))) [.var 28 aVo,.var 3 [.of (ci 0)],.var 29 [.of (ci 0)],pT3 l j e] clk) λe s7 =>
   e=.normal/\aaC Tryz.prog (pr.keep 30) Tryz.f30 (agl s7.objs s7.clk)=some ⟨false,[xpE x0,aQ q,aQ n],[]⟩:=by
 generalize hΦ:(λ(e:Ex) (s6:S)=>_)=Φ
 refine bt.seq (bt.of cy hpr aWV ?_)
 simp only[Tryz.f64,↓zA,sevalprocAttr,aCk,zWH,ak5,agJ,aEx,aEw,pT3]
 refine bt.seq (bt.seq (bt.of cy hpr aWU ?_))
 simp only[↓zA,sevalprocAttr,aCk]
 refine bt.cond (t:=false) rfl ?_
 simp only[ah,av]
 refine bt.skip hpr ?_
 refine bt.seq (bt.of cy hpr aWT ?_)
 simp only[↓zA,sevalprocAttr,aCk,zWH]
 refine bt.anyN cy hpr (E:=eD) (by decide +kernel) (by decide +kernel) aI 8 (by rfl) ?_
 subst hΦ
 simp only[↓zA,sevalprocAttr,aCk,zWH,↓ahk,↓aeR,↓afT,↓afU,↓ahl,↓ahm,aCx,List.replicate,aaC,Tryz.f30,agO]
 repeat' (first|exact rfl|refine ai ?_ ?_)
def awf{G:Go.Pe.GP}(hpr:PrSound Tryz.prog G pr)(s:List UInt8)(hs:s.length<LB)(l:List Tn)(p:Int)(ht:abv s=some (l,p,0))(hl:l.length<LB){F:Fs}(H:PY l s.length F)(r:Xp×Nat×Bool)(hr:F.or 0 []=some r)(ok:Bool)
  (kR:∀ K,cKp 22 [xpE r.1] [] K↔K ⟨false,[aM ok],[]⟩) (h0:r.2.2=false->ok=false->0<l.length) :
  aa9 Tryz.prog G 30 [.of (aG (aK s)),.of (.fn 31 []),.of (.fn 22 [])] [] ⟨false,[xpE (cS x0 s l ok r).1,aQ (cS x0 s l ok r).2.1,aQ (cS x0 s l ok r).2.2],[]⟩:=by
 have kt:=λK=>aH.k (ab4 s hs _ ht) K
 have g:=H.or 0 r (aU _) hr
 obtain⟨a,j,b⟩:=r
 obtain⟨u,v⟩:=g.1
 dsimp only at u v kR h0
 have main:∀ clk,adz Tryz.prog G pr 30 Tryz.f30 Tryz.f30.ntmps Tryz.f64.ntmps (wBS Tryz.f30) (wDS Tryz.f64) ⟨false,[xpE (cS x0 s l ok (a,j,b)).1,aQ (cS x0 s l ok (a,j,b)).2.1,aQ (cS x0 s l ok (a,j,b)).2.2],[]⟩ (s5X l s.length clk):=by
  intro clk
  unfold adz
  generalize hΦ:(λ(e:Ex) (s6:S)=>_)=Φ
  refine bt.seq ?_
  cases b with
  | true =>
   have kg:=g.bad
   unfold pT at kg
   simp only[show ((0:Nat):Int)=0 from rfl] at kg
   refine bt.of cy hpr aOC ?_
   simp only[↓zA,sevalprocAttr,agO,s5X,zWH,kg,aO1,aIQ,aVW,zP]
   subst hΦ
   refine Or.inr ?_
   by_cases hj:l.length<=j
   .have hf:aaq l j s.length=.of (.ifc 114 (.agg [ci s.length,ci 3])):=au hj
    refine⟨_,_,congrArg Ex.pan hf,rfl,rfl,rfl,?_⟩
    simp only[cS,plT,au hj]
    exact aCI hpr l j s.length s.length 3 _
   .have hf:aaq l j s.length=.of (.ifc 114 (.agg [ci (bN l j).pl,ci 2])):=ar hj
    refine⟨_,_,congrArg Ex.pan hf,rfl,rfl,rfl,?_⟩
    simp only[cS,plT,ar hj]
    exact aCI hpr l j s.length (bN l j).pl 2 _
  | false =>
   have kg:=g.ok
   unfold pT at kg
   simp only[show ((0:Nat):Int)=0 from rfl] at kg
   refine bt.of cy hpr aOC ?_
   simp only[↓zA,sevalprocAttr,agO,s5X,zWH,kg,aO1,aIQ,aVW]
   refine bt.seq (bt.of cy hpr a3I ?_)
   by_cases hlt:j<l.length
   .have dl:((j:Int)<(l.length:Int))=True:=aa aC
    have kv:=λK=>aH.k (aeu l j s.length hl v) K
    unfold pT at kv
    simp only[↓zA,sevalprocAttr,agO,zWH,dl,kv,zP]
    subst hΦ
    refine Or.inr ?_
    have hj:¬l.length<=j:=by omega
    have hf:aaq l j s.length=.of (.ifc 114 (.agg [ci (bN l j).pl,ci 2])):=ar hj
    refine⟨_,_,congrArg Ex.pan hf,rfl,rfl,rfl,?_⟩
    simp only[cS,plT,au hlt,ar hj]
    exact aCI hpr l j s.length (bN l j).pl 2 _
   .have dl:((j:Int)<(l.length:Int))=False:=aF aC
    simp only[↓zA,sevalprocAttr,agO,zWH,dl]
    refine bt.seq (bt.seq (bt.of cy hpr a3H ?_))
    cases ok with
    | true =>
     simp only[↓zA,sevalprocAttr,agO,zWH,aO4,aIT,kR]
     refine bt.cond (t:=false) rfl ?_
     simp only[ah,av]
     refine bt.skip hpr ?_
     refine bt.of cy hpr aWW ?_
     simp only[↓zA,sevalprocAttr,agO,zWH]
     subst hΦ
     refine Or.inl ⟨rfl,?_⟩
     simp only[↓zA,sevalprocAttr,agO,zWH,aaC,cS,ar hlt]
    | false =>
     simp only[↓zA,sevalprocAttr,agO,zWH,aO4,aIT,kR]
     refine bt.cond (t:=true) rfl ?_
     simp only[am]
     refine bt.seq (bt.anyN cy hpr (E:=eB) (by decide +kernel) (by decide +kernel) aI 11 (by rfl) ?_)
     have gx:=ae3 (h0 rfl rfl)
     rw[show ((0:Nat):Int)=0 from rfl] at gx
     have key:∀ s6:S,s6.fr 6=.ptr 0 0->s6.fr 7=.ptr 1 0->s6.fr 8=.ptr 2 0->s6.objs=[.var 28 [.of (ci 0),.of (ci 0),.of (ci 0),.of (aG {data:=#[]}),.of (aG {data:=#[]}),.of (aG {data:=#[]}),.of (cb false),.nil,.nil],.var 3 [.of (ci (bN l 0).pl)],.var 29 [.of (ci 4)],pT3 l j s.length]->Φ .ret s6:=by
      intro s6 h6 h7 h8 ho
      subst hΦ
      refine Or.inl ⟨rfl,?_⟩
      have hj:¬l.length<=0:=by have:=h0 rfl rfl;omega
      simp only[↓zA,sevalprocAttr,agO,aaC,cS,plT,ar hlt,ar hj,h6,h7,h8,ho,pT3]
      rfl
     simp only[↓zA,sevalprocAttr,agO,zWH,gx,↓ahk,↓aeR,↓afT,↓afU,↓ahl,↓ahm,aCy,List.replicate]
     repeat' (first|exact bt.ret hpr (key _ rfl rfl rfl rfl)|refine ai ?_ ?_)
 refine abH cy hpr (fn:=Tryz.f30) (fg:=Tryz.f64) Tryz.func30 rfl rfl rfl aOG aOF aOE aOD aZ5 aX9 aO8 a0v (by show 3<=_;decide) ?_
 generalize hB:adz _ _ _ _ _ _ _ _ _ _=BD
 generalize hF:alq _ _ _ _ _=A2
 simp only[↓zA,sevalprocAttr,agO,kt]
 subst hF
 refine .inr ⟨rfl,?_⟩
 simp only[↓zA,sevalprocAttr,agO,bxO]
 refine⟨rfl,rfl,rfl,rfl,_,rfl,rfl,rfl,rfl,am1.of (fr5 31 22) rfl (λj=>by
  unfold fr5;split <;> first|exact .inr ⟨rfl,λ_=>rfl⟩|exact .inl rfl) (λ_=>rfl) (r:=3) (ty:=112) (A:=[.of (slC tnC l),.of (ci 0),.of (ci s.length)]) rfl 28 9 38 12 140 6 (by rintro o (rfl|rfl|rfl) <;> rfl),?_⟩
 subst hB
 exact main _
def aDO{G:Go.Pe.GP}(hpr:PrSound Tryz.prog G pr)(s:List UInt8)(hs:s.length<LB)(l:List Tn)(p e:Int)(ht:abv s=some (l,p,e))(he:e≠0) :
  aa9 Tryz.prog G 30 [.of (aG (aK s)),.of (.fn 31 []),.of (.fn 22 [])] [] ⟨false,[xpE x0,aQ p,aQ e],[]⟩:=by
 have kt:=λK=>aH.k (ab4 s hs _ ht) K
 have he':(e=0)=False:=aF he
 refine abH cy hpr (fn:=Tryz.f30) (fg:=Tryz.f64) Tryz.func30 rfl rfl rfl aOG aOF aOE aOD aZ5 aX9 aO8 a0v (by show 3<=_;decide) ?_
 generalize hB:adz _ _ _ _ _ _ _ _ _ _=BD
 generalize hF:alq _ _ _ _ _=A2
 simp only[↓zA,sevalprocAttr,agO,kt,he']
 subst hF
 refine .inl ⟨rfl,?_⟩
 simp only[↓zA,sevalprocAttr,agO,aaC]
 rfl
set_option maxRecDepth 1000000
def aOV:=oC Tryz.f38 (w0S Tryz.f38)
def aOU:=oC Tryz.f38 (w1S Tryz.f38)
def aOT:=oC Tryz.f38 (w2S Tryz.f38)
def aOS:=oC Tryz.f38 (w4S Tryz.f38)
def aOR:=oC Tryz.f38 (aaR (wBS Tryz.f38))
def a3O:=oC Tryz.f38 (aaR (eK (wBS Tryz.f38)))
def a3N:=oC Tryz.f38 (aaR (aaR (eK (eK (wBS Tryz.f38)))))
def aW8:=oC Tryz.f38 (eK (eK (eK (wBS Tryz.f38))))
def aW7:=oC Tryz.f73 (aaR (wDS Tryz.f73))
def aW6:=oC Tryz.f73 (aaR (aaR (eK (wDS Tryz.f73))))
def aW5:=oC Tryz.f73 (aaR (eK (eK (wDS Tryz.f73))))
def aYc(cap:Array Value)(w:World):(invoke (.fn (.func 73) cap) #[]).run Tryz.prog w=.ok (.enter 73 cap) w:=by
 show (callFunc 73 (#[]++cap)).run Tryz.prog w=_
 rw[aaI]
 exact enters_of Tryz.func73 aS rfl _ _
def aPb(p6 p7 p8:Value)(w:World):CallsD Tryz.prog 73 #[p6,p7,p8] .returning w λe u' w'=>e=.returned (.tuple #[])/\u'=.returning/\w'=w:=by
 refine callsD_of_wpS Tryz.func73 rfl λc₀ cs hu=>?_
 apply wpS_seq
 apply wpS_region
 simp[wpOpsS,go_sem,recoverD,hu,Tryz.ntmps73,Exit.thenS]
 apply wpS_seq
 apply wpS_seq
 apply wpS_region
 simp[wpOpsS,go_sem,recoverD,hu,Exit.thenS]
 refine wpS_cond (t:=true) (by simp[Act.eval,Array.replicate]) ?_
 simp only[am]
 refine wpS_of_wp (wp_ret ?_)
 cases c₀
 simp_all [bodyPostS,results,Tryz.results73,Exit.thenS]
def a0x (t:TypeId) (u p6 p7 p8:Value) (w:World) (R:Ending->FrameMode->World->Prop) (h:∀ (c₀:Frame) (cs:List Frame) (T:Array Value),T.size=Tryz.f73.ntmps->T.getD 0 undef=p6->T.getD 1 undef=p7->T.getD 2 undef=p8->T.getD 3 undef=.iface t u ->
  (wDS Tryz.f73).wp Tryz.prog (λe a w'=>bodyPostS Tryz.prog Tryz.f73 c₀ cs R e a ({c₀ with mode:=.panicking [{v:=.iface t u,recovered:=true}]}::cs) w') ⟨T,[]⟩ w):CallsD Tryz.prog 73 #[p6,p7,p8] (.panicking [{v:=.iface t u,recovered:=false}]) w R:=by
 refine callsD_of_wpS Tryz.func73 rfl λc₀ cs hu=>?_
 apply wpS_seq
 apply wpS_region
 simp[wpOpsS,go_sem,recoverD,hu,Tryz.ntmps73,Exit.thenS]
 apply wpS_seq
 apply wpS_seq
 apply wpS_region
 simp[wpOpsS,go_sem,recoverD,Exit.thenS]
 refine wpS_cond (t:=false) (by simp[Act.eval,Array.replicate]) ?_
 simp only[ah,av]
 refine wpS_of_wp (wp_skip ?_)
 simp only[Exit.thenS]
 refine wpS_of_wp (h _ _ _ ?_ ?_ ?_ ?_ ?_)
 all_goals simp[Tryz.ntmps73,Array.getD,Array.replicate]
 all_goals rfl
def aZ8(tmps:Array Value)(w:World)(X:Act->World->Prop)(Q:Exit->Act->World->Prop)(hz:tmps.size=Tryz.f38.ntmps)(h:∀ cap,cap=#[tmps.getD 6 undef,tmps.getD 7 undef,tmps.getD 8 undef]->X ⟨tmps.setIfInBounds 30 (.func (.func 73) #[] cap),[⟨.fn (.func 73) cap,#[]⟩]⟩ w) :
  (w5S Tryz.f38).wp Tryz.prog (Exit.then X Q) ⟨tmps,[]⟩ w:=by
 have hmf:∀ (fn:Fn) (first cap:Array Value) (w:World),(Instr.makeFunc fn first cap).run Tryz.prog w=.ok (.func fn first cap) w:=λ_ _ _ _=>rfl
 have h':=h _ rfl
 have h30:30<tmps.size:=by rw[hz];decide
 have hg:∀ i:Nat,tmps.getD i undef=tmps[i]?.getD undef:=λi=>by simp
 simp only[hg] at h'
 apply wp_region
 simp[wpOps,go_sem,Exit.then,h30]
 exact .inl (.inl h')
def agN:=gm (gu @Tryz.f38.eq_1 @zq @avM @avL @T3 @avK @T29) (gu @aEY @avJ @aDw @aDy @akq @eo @ab9) (gu @acu @aaO @aaN @aaM @aaL @aaK @aaJ) (gu @acG @P3 @Q3 @P29 @Q29 @zT0 @aX2)
def aCj:=ai (gq @zq @avI @aDx @eo @an7 @alV) (gq @alU @P3 @Q3 @P29 @Q29 @zT0)
abbrev aVr:List X:=[.of (ci 0),.of (cb false),.nil,.of (cb false),.nil,.nil,.nil,.nil,.nil,.nil,.of (ci 0),.of (ci 0)]
def s5Q(l:List Tn)(e:Int)(clk:Nat):S:=⟨fr5 39 23,[.var 38 aVr,.var 3 [.of (ci 0)],.var 29 [.of (ci 0)],pT3 l 0 e],clk⟩
def aCL{G:Go.Pe.GP}(hpr:PrSound Tryz.prog G pr)(l:List Tn)(j:Nat)(e q n:Int)(clk:Nat) :
  bt Tryz.prog G Tryz.f73.ntmps (wDS Tryz.f73) (acN (.of (.ifc 114 (.agg [ci q,ci n]))) [.var 38 aVr,.var 3 [.of (ci 0)],.var 29 [.of (ci 0)],pT3 l j e] clk) λe s7 =>
   e=.normal/\aaC Tryz.prog (pr.keep 38) Tryz.f38 (agl s7.objs s7.clk)=some ⟨false,[qyE y0,aQ q,aQ n],[]⟩:=by
 generalize hΦ:(λ(e:Ex) (s6:S)=>_)=Φ
 refine bt.seq (bt.of cy hpr aW7 ?_)
 simp only[Tryz.f73,↓zA,sevalprocAttr,aCj,zWH,ak5,agJ,aEx,aEw,pT3]
 refine bt.seq (bt.seq (bt.of cy hpr aW6 ?_))
 simp only[↓zA,sevalprocAttr,aCj]
 refine bt.cond (t:=false) rfl ?_
 simp only[ah,av]
 refine bt.skip hpr ?_
 refine bt.seq (bt.of cy hpr aW5 ?_)
 simp only[↓zA,sevalprocAttr,aCj,zWH]
 refine bt.anyN cy hpr (E:=eD) (by decide +kernel) (by decide +kernel) aI 8 (by rfl) ?_
 subst hΦ
 simp only[↓zA,sevalprocAttr,aCj,zWH,↓ahk,↓aeR,↓afT,↓afU,↓ahl,↓ahm,aCx,List.replicate,aaC,Tryz.f38,agN]
 repeat' (first|exact rfl|refine ai ?_ ?_)
def awj{G:Go.Pe.GP}(hpr:PrSound Tryz.prog G pr)(s:List UInt8)(hs:s.length<LB)(l:List Tn)(p:Int)(ht:abv s=some (l,p,0))(hl:l.length<LB){F:Fs}(H:PY l s.length F)(r:Qy×Nat×Bool)(hr:F.qy 0 []=some r)(ok:Bool)
  (kR:∀ K,cKp 23 [qyE r.1] [] K↔K ⟨false,[aM ok],[]⟩) (h0:r.2.2=false->ok=false->0<l.length) :
  aa9 Tryz.prog G 38 [.of (aG (aK s)),.of (.fn 39 []),.of (.fn 23 [])] [] ⟨false,[qyE (cS y0 s l ok r).1,aQ (cS y0 s l ok r).2.1,aQ (cS y0 s l ok r).2.2],[]⟩:=by
 have kt:=λK=>aH.k (ab4 s hs _ ht) K
 have g:=H.qy 0 r (aU _) hr
 obtain⟨a,j,b⟩:=r
 obtain⟨u,v⟩:=g.1
 dsimp only at u v kR h0
 have main:∀ clk,adz Tryz.prog G pr 38 Tryz.f38 Tryz.f38.ntmps Tryz.f73.ntmps (wBS Tryz.f38) (wDS Tryz.f73) ⟨false,[qyE (cS y0 s l ok (a,j,b)).1,aQ (cS y0 s l ok (a,j,b)).2.1,aQ (cS y0 s l ok (a,j,b)).2.2],[]⟩ (s5Q l s.length clk):=by
  intro clk
  unfold adz
  generalize hΦ:(λ(e:Ex) (s6:S)=>_)=Φ
  refine bt.seq ?_
  cases b with
  | true =>
   have kg:=g.bad
   unfold pT at kg
   simp only[show ((0:Nat):Int)=0 from rfl] at kg
   refine bt.of cy hpr aOR ?_
   simp only[↓zA,sevalprocAttr,agN,s5Q,zWH,kg,aO0,aIP,aVV,zP]
   subst hΦ
   refine Or.inr ?_
   by_cases hj:l.length<=j
   .have hf:aaq l j s.length=.of (.ifc 114 (.agg [ci s.length,ci 3])):=au hj
    refine⟨_,_,congrArg Ex.pan hf,rfl,rfl,rfl,?_⟩
    simp only[cS,plT,au hj]
    exact aCL hpr l j s.length s.length 3 _
   .have hf:aaq l j s.length=.of (.ifc 114 (.agg [ci (bN l j).pl,ci 2])):=ar hj
    refine⟨_,_,congrArg Ex.pan hf,rfl,rfl,rfl,?_⟩
    simp only[cS,plT,ar hj]
    exact aCL hpr l j s.length (bN l j).pl 2 _
  | false =>
   have kg:=g.ok
   unfold pT at kg
   simp only[show ((0:Nat):Int)=0 from rfl] at kg
   refine bt.of cy hpr aOR ?_
   simp only[↓zA,sevalprocAttr,agN,s5Q,zWH,kg,aO0,aIP,aVV]
   refine bt.seq (bt.of cy hpr a3O ?_)
   by_cases hlt:j<l.length
   .have dl:((j:Int)<(l.length:Int))=True:=aa aC
    have kv:=λK=>aH.k (aeu l j s.length hl v) K
    unfold pT at kv
    simp only[↓zA,sevalprocAttr,agN,zWH,dl,kv,zP]
    subst hΦ
    refine Or.inr ?_
    have hj:¬l.length<=j:=by omega
    have hf:aaq l j s.length=.of (.ifc 114 (.agg [ci (bN l j).pl,ci 2])):=ar hj
    refine⟨_,_,congrArg Ex.pan hf,rfl,rfl,rfl,?_⟩
    simp only[cS,plT,au hlt,ar hj]
    exact aCL hpr l j s.length (bN l j).pl 2 _
   .have dl:((j:Int)<(l.length:Int))=False:=aF aC
    simp only[↓zA,sevalprocAttr,agN,zWH,dl]
    refine bt.seq (bt.seq (bt.of cy hpr a3N ?_))
    cases ok with
    | true =>
     simp only[↓zA,sevalprocAttr,agN,zWH,aO3,aIS,kR]
     refine bt.cond (t:=false) rfl ?_
     simp only[ah,av]
     refine bt.skip hpr ?_
     refine bt.of cy hpr aW8 ?_
     simp only[↓zA,sevalprocAttr,agN,zWH]
     subst hΦ
     refine Or.inl ⟨rfl,?_⟩
     simp only[↓zA,sevalprocAttr,agN,zWH,aaC,cS,ar hlt]
    | false =>
     simp only[↓zA,sevalprocAttr,agN,zWH,aO3,aIS,kR]
     refine bt.cond (t:=true) rfl ?_
     simp only[am]
     refine bt.seq (bt.anyN cy hpr (E:=eB) (by decide +kernel) (by decide +kernel) aI 11 (by rfl) ?_)
     have gx:=ae3 (h0 rfl rfl)
     rw[show ((0:Nat):Int)=0 from rfl] at gx
     have key:∀ s6:S,s6.fr 6=.ptr 0 0->s6.fr 7=.ptr 1 0->s6.fr 8=.ptr 2 0->s6.objs=[.var 38 [.of (ci 0),.of (cb false),.nil,.of (cb false),.nil,.nil,.nil,.nil,.nil,.nil,.of (ci 0),.of (ci 0)],.var 3 [.of (ci (bN l 0).pl)],.var 29 [.of (ci 4)],pT3 l j s.length]->Φ .ret s6:=by
      intro s6 h6 h7 h8 ho
      subst hΦ
      refine Or.inl ⟨rfl,?_⟩
      have hj:¬l.length<=0:=by have:=h0 rfl rfl;omega
      simp only[↓zA,sevalprocAttr,agN,aaC,cS,plT,ar hlt,ar hj,h6,h7,h8,ho,pT3]
      rfl
     simp only[↓zA,sevalprocAttr,agN,zWH,gx,↓ahk,↓aeR,↓afT,↓afU,↓ahl,↓ahm,aCy,List.replicate]
     repeat' (first|exact bt.ret hpr (key _ rfl rfl rfl rfl)|refine ai ?_ ?_)
 refine abH cy hpr (fn:=Tryz.f38) (fg:=Tryz.f73) Tryz.func38 rfl rfl rfl aOV aOU aOT aOS aZ8 aYc aPb a0x (by show 3<=_;decide) ?_
 generalize hB:adz _ _ _ _ _ _ _ _ _ _=BD
 generalize hF:alq _ _ _ _ _=A2
 simp only[↓zA,sevalprocAttr,agN,kt]
 subst hF
 refine .inr ⟨rfl,?_⟩
 simp only[↓zA,sevalprocAttr,agN,bxO]
 refine⟨rfl,rfl,rfl,rfl,_,rfl,rfl,rfl,rfl,am1.of (fr5 39 23) rfl (λj=>by
  unfold fr5;split <;> first|exact .inr ⟨rfl,λ_=>rfl⟩|exact .inl rfl) (λ_=>rfl) (r:=3) (ty:=112) (A:=[.of (slC tnC l),.of (ci 0),.of (ci s.length)]) rfl 28 9 38 12 140 6 (by rintro o (rfl|rfl|rfl) <;> rfl),?_⟩
 subst hB
 exact main _
def aDR{G:Go.Pe.GP}(hpr:PrSound Tryz.prog G pr)(s:List UInt8)(hs:s.length<LB)(l:List Tn)(p e:Int)(ht:abv s=some (l,p,e))(he:e≠0) :
  aa9 Tryz.prog G 38 [.of (aG (aK s)),.of (.fn 39 []),.of (.fn 23 [])] [] ⟨false,[qyE y0,aQ p,aQ e],[]⟩:=by
 have kt:=λK=>aH.k (ab4 s hs _ ht) K
 have he':(e=0)=False:=aF he
 refine abH cy hpr (fn:=Tryz.f38) (fg:=Tryz.f73) Tryz.func38 rfl rfl rfl aOV aOU aOT aOS aZ8 aYc aPb a0x (by show 3<=_;decide) ?_
 generalize hB:adz _ _ _ _ _ _ _ _ _ _=BD
 generalize hF:alq _ _ _ _ _=A2
 simp only[↓zA,sevalprocAttr,agN,kt,he']
 subst hF
 refine .inl ⟨rfl,?_⟩
 simp only[↓zA,sevalprocAttr,agN,aaC]
 rfl
theorem ail{l:List Tn}{F:Fs}(N:∀ i r,i<=l.length->F.or i []=some r->i<=r.2.1/\r.2.1<=l.length):∀ n ks j r,j<=l.length->adW F l n ks j=some r->j<=r.2.1/\r.2.1<=l.length
 | 0,a,j,r,hj,h=>by simp only[adW] at h;cases h
 | n+1,a,j,r,hj,h=>by
  unfold adW at h
  have en:∀ ks j r,j<=l.length->afn l ks j=some r->j<=r.2.1/\r.2.1<=l.length:=by
   intro ks j r hj h
   unfold afn wantE bG at h
   cases c:isT l j [101,110,100] with
   | false=>rw[c] at h;cases h;exact⟨ae _,hj⟩
   | true=>rw[c] at h;have:=ft c;cases h;exact⟨by show j<=j+1;omega,this⟩
  cases c:isT l j [119,104,101,110] with
  | false =>
   simp only[c,ah,av,agH] at h
   cases c2:isT l j [101,108,115,101] with
   | false=>simp only[c2,ah,av] at h;exact en _ _ _ hj h
   | true =>
    have hj1:=ft c2
    cases e:F.or (j+1) [] with
    | none=>simp only[c2,e,Rz.on,am] at h;cases h
    | some q =>
     obtain⟨y,m,b⟩:=q
     have g:=N _ _ hj1 e
     dsimp only at g
     cases b with
     | true=>simp only[c2,e,Rz.on,am] at h;cases h;exact⟨by dsimp only;omega,g.2⟩
     | false=>simp only[c2,e,Rz.on,am] at h;have:=en _ _ _ g.2 h;exact⟨by omega,this.2⟩
  | true =>
   have hj1:=ft c
   cases e:F.or (j+1) [] with
   | none=>simp only[c,e,Rz.on,am] at h;cases h
   | some q =>
    obtain⟨y,m,b⟩:=q
    have g:=N _ _ hj1 e
    dsimp only at g
    cases b with
    | true=>simp only[c,e,Rz.on,am] at h;cases h;exact⟨by dsimp only;omega,g.2⟩
    | false =>
     cases c3:isT l m [116,104,101,110] with
     | false=>simp only[c,e,c3,Rz.on,wantR,bG,ah,av,am] at h;cases h;exact⟨by dsimp only;omega,g.2⟩
     | true =>
      have hm1:=ft c3
      cases e2:F.or (m+1) [] with
      | none=>simp only[c,e,e2,c3,Rz.on,wantR,bG,am] at h;cases h
      | some q2 =>
       obtain⟨z,p,b2⟩:=q2
       have g2:=N _ _ hm1 e2
       dsimp only at g2
       cases b2 with
       | true=>simp only[c,e,e2,c3,Rz.on,wantR,bG,am] at h;cases h;exact⟨by dsimp only;omega,g2.2⟩
       | false =>
        simp only[c,e,e2,c3,Rz.on,wantR,bG,am] at h
        have:=ail N n _ _ _ g2.2 h
        exact⟨by omega,this.2⟩
abbrev caV(K:X):List X:=[.of (ci 23),.of (ci 0),.of (ci 0),.of (aG {data:=#[]}),.of (aG {data:=#[]}),.of (aG {data:=#[]}),.of (cb false),K,.nil]
def CaK(K:X)(ks:List Xp):Prop:=(K=.nil/\ks=[])\/K=.own (.cell 2 7) 28 9 (fl xpC ks) ks.length
def ab8:=gj (gu @Tryz.f335.eq_1 @zq @a9G @a9F @aeo @ba6 @aSg) (gu @acj @akr @ba5 @aSf @alm @abO @ba4) (gq @aKl @bF @eZ @bQ @zT0 (kf aEi))
def aE7{l:List Tn}{e:Int}{F:Fs}(hl:l.length<LB)(H:PY l e F)(i:Nat)(r:Xp×Nat×Bool)(hi:i<=l.length)(hr:afm F l i=some r):GP 335 [.ptr 0 0] [pT l i e] l e [] xpE i r:=by
 unfold afm at hr
 cases c0:isT l i [119,104,101,110] with
 | false =>
  have t0:=wF l i e [119,104,101,110] hl hi c0
  simp only[c0,ah,av] at hr
  cases hr
  refine⟨⟨ae _,hi⟩,?_⟩
  refine bB aEi ?_
  simp only[↓zA,sevalprocAttr,ab8,pT]
  rw[aCd]
  simp only[↓zA,sevalprocAttr,ab8,pT,zP,bw,t0]
  all_goals exact fz
 | true =>
 simp only[c0,am] at hr
 have P:=ail (λi r h1 h2=>(H.or i r h1 h2).1) _ _ _ _ hi hr
 refine⟨⟨by omega,P.2⟩,?_⟩
 refine bB aEi ?_
 simp only[↓zA,sevalprocAttr,ab8,pT]
 refine fX _ _ (λn s=>∃ ks j K,CaK K ks/\s.fr 0=.ptr 0 0/\s.fr 2=.ptr 1 0/\s.fr 3=.ptr 2 0/\s.fr 4=aM (isT l j [119,104,101,110])/\s.objs=[pT l j e,.var 28 xpZ,.var 28 (caV K)]/\adW F l n ks j=some r/\j<=l.length/\ks.length<=j) ?_ (l.length+1) _ ?_
 .rintro n ⟨frn,obn,ckn⟩ ⟨ks,j,K,hK,f0,f2,f3,f4,fo,E,hj,hk⟩
  dsimp only at f0 f2 f3 f4 fo
  cases n with
  | zero=>simp only[adW] at E;cases E
  | succ n =>
  unfold adW at E
  have hk1:(ks.length+1<=LIM)=True:=aa (by unfold LIM;unfold LB at hl;omega)
  cases c1:isT l j [119,104,101,110] with
  | true =>
   have hj1:=ft c1
   have hk2:(ks.length+1+1<=LIM)=True:=aa (by unfold LIM;unfold LB at hl;omega)
   have t1:=wT l j e [119,104,101,110] hl c1
   rw[c1] at f4
   cases e2:F.or (j+1) [] with
   | none=>simp only[c1,e2,Rz.on,am] at E;cases E
   | some r2 =>
   obtain⟨y,j2,q2⟩:=r2
   have g':=H.or (j+1) _ hj1 e2
   obtain⟨u2,v2⟩:=g'.1
   dsimp only at u2 v2
   cases q2 with
   | true =>
    have k2:=g'.bad
    simp only[c1,e2,Rz.on,am] at E
    cases E
    rcases hK with ⟨hK,hK'⟩|hK
    .subst hK
     simp only[↓zA,sevalprocAttr,ab8,zLX,bw,pT,zP,f0,f3,f4,fo,t1,k2]
     all_goals exact fz
    .subst hK
     simp only[↓zA,sevalprocAttr,ab8,zLX,bw,pT,zP,f0,f3,f4,fo,t1,k2]
     all_goals exact fz
   | false =>
    have k2:=g'.ok
    cases c3:isT l j2 [116,104,101,110] with
    | false =>
     have t3:=wF l j2 e [116,104,101,110] hl v2 c3
     simp only[c1,e2,c3,Rz.on,wantR,bG,ah,av,am] at E
     cases E
     rcases hK with ⟨hK,hK'⟩|hK
     .subst hK hK'
      simp only[↓zA,sevalprocAttr,ab8,zLX,bw,pT,zP,f0,f3,f4,fo,aaG,t1,k2,t3]
      all_goals exact fz
     .subst hK
      simp only[↓zA,sevalprocAttr,ab8,zLX,bw,pT,zP,f0,f3,f4,fo,dV,hk1,t1,k2,t3]
      all_goals exact fz
    | true =>
     have hj2:=ft c3
     have t3:=wT l j2 e [116,104,101,110] hl c3
     cases e4:F.or (j2+1) [] with
     | none=>simp only[c1,e2,c3,e4,Rz.on,wantR,bG,am] at E;cases E
     | some r4 =>
     obtain⟨z,j4,q4⟩:=r4
     have g4:=H.or (j2+1) _ hj2 e4
     obtain⟨u4,v4⟩:=g4.1
     dsimp only at u4 v4
     cases q4 with
     | true =>
      have k4:=g4.bad
      simp only[c1,e2,c3,e4,Rz.on,wantR,bG,am] at E
      cases E
      rcases hK with ⟨hK,hK'⟩|hK
      .subst hK hK'
       simp only[↓zA,sevalprocAttr,ab8,zLX,bw,pT,zP,f0,f3,f4,fo,aaG,t1,k2,t3,k4]
       all_goals exact fz
      .subst hK
       simp only[↓zA,sevalprocAttr,ab8,zLX,bw,pT,zP,f0,f3,f4,fo,dV,hk1,t1,k2,t3,k4]
       all_goals exact fz
     | false =>
      have k4:=g4.ok
      simp only[c1,e2,c3,e4,Rz.on,wantR,bG,am] at E
      have t5:=sK l j4 e [119,104,101,110] hl v4
      rcases hK with ⟨hK,hK'⟩|hK
      .subst hK hK'
       simp only[↓zA,sevalprocAttr,ab8,zLX,bw,pT,zP,f0,f2,f3,f4,fo,dV,aaG,aRt,t1,k2,t3,k4,t5]
       refine⟨n,aO n,[y,z],j4,.own (.cell 2 7) 28 9 (fl xpC [y,z]) 2,.inr rfl,rfl,?_,E,v4,by simp only[abf];omega⟩
       simp only[caV,xpZ,ajT,ars,eU,av7,cZ]
       try rfl
      .subst hK
       simp only[↓zA,sevalprocAttr,ab8,zLX,bw,pT,zP,f0,f2,f3,f4,fo,dV,hk1,hk2,t1,k2,t3,k4,t5]
       refine⟨n,aO n,ks++[y,z],j4,.own (.cell 2 7) 28 9 (fl xpC (ks++[y,z])) (ks++[y,z]).length,.inr rfl,rfl,?_,E,v4,by simp only[aey];omega⟩
       simp only[caV,xpZ,axU,ajT,ars,eU,aey,av7,cZ]
       try rfl
  | false =>
   have t1:=wF l j e [119,104,101,110] hl hj c1
   rw[c1] at f4
   simp only[c1,ah,av,agH] at E
   cases c2:isT l j [101,108,115,101] with
   | false =>
    have t2:=wF l j e [101,108,115,101] hl hj c2
    simp only[c2,ah,av,afn,wantE,bG] at E
    cases c3:isT l j [101,110,100] with
    | false =>
     have t3:=wF l j e [101,110,100] hl hj c3
     simp only[c3,ah,av] at E
     cases E
     rcases hK with ⟨hK,hK'⟩|hK
     .subst hK hK'
      simp only[↓zA,sevalprocAttr,ab8,zLX,bw,pT,zP,f0,f4,fo,t2,t3]
      all_goals exact fz
     .subst hK
      simp only[↓zA,sevalprocAttr,ab8,zLX,bw,pT,zP,f0,f4,fo,t2,t3]
      all_goals exact fz
    | true =>
     have t3:=wT l j e [101,110,100] hl c3
     simp only[c3,am] at E
     cases E
     rcases hK with ⟨hK,hK'⟩|hK
     .subst hK hK'
      simp only[↓zA,sevalprocAttr,ab8,zLX,bw,pT,zP,f0,f2,f3,f4,fo,t2,t3]
      all_goals exact fz
     .subst hK
      simp only[↓zA,sevalprocAttr,ab8,zLX,bw,pT,zP,f0,f2,f3,f4,fo,t2,t3]
      all_goals exact fz
   | true =>
    have hj1:=ft c2
    have t2:=wT l j e [101,108,115,101] hl c2
    cases e2:F.or (j+1) [] with
    | none=>simp only[c2,e2,Rz.on,am] at E;cases E
    | some r2 =>
    obtain⟨y,j2,q2⟩:=r2
    have g':=H.or (j+1) _ hj1 e2
    obtain⟨u2,v2⟩:=g'.1
    dsimp only at u2 v2
    cases q2 with
    | true =>
     have k2:=g'.bad
     simp only[c2,e2,Rz.on,am] at E
     cases E
     rcases hK with ⟨hK,hK'⟩|hK
     .subst hK hK'
      simp only[↓zA,sevalprocAttr,ab8,zLX,bw,pT,zP,f0,f3,f4,fo,t2,k2]
      all_goals exact fz
     .subst hK
      simp only[↓zA,sevalprocAttr,ab8,zLX,bw,pT,zP,f0,f3,f4,fo,t2,k2]
      all_goals exact fz
    | false =>
     have k2:=g'.ok
     simp only[c2,e2,Rz.on,am,afn,wantE,bG] at E
     cases c3:isT l j2 [101,110,100] with
     | false =>
      have t3:=wF l j2 e [101,110,100] hl v2 c3
      simp only[c3,ah,av] at E
      cases E
      rcases hK with ⟨hK,hK'⟩|hK
      .subst hK hK'
       simp only[↓zA,sevalprocAttr,ab8,zLX,bw,pT,zP,f0,f3,f4,fo,aaG,t2,t3,k2]
       all_goals exact fz
      .subst hK
       simp only[↓zA,sevalprocAttr,ab8,zLX,bw,pT,zP,f0,f3,f4,fo,dV,hk1,t2,t3,k2]
       all_goals exact fz
     | true =>
      have t3:=wT l j2 e [101,110,100] hl c3
      simp only[c3,am] at E
      cases E
      rcases hK with ⟨hK,hK'⟩|hK
      .subst hK hK'
       simp only[↓zA,sevalprocAttr,ab8,zLX,bw,pT,zP,f0,f2,f3,f4,fo,aaG,t2,t3,k2]
       all_goals exact fz
      .subst hK
       simp only[↓zA,sevalprocAttr,ab8,zLX,bw,pT,zP,f0,f2,f3,f4,fo,dV,hk1,t2,t3,k2]
       all_goals exact fz
 .simp only[↓zA,sevalprocAttr,ab8,pT]
  exact⟨[],i,_,.inl ⟨rfl,rfl⟩,by rw[c0],rfl,hr,hi,aU _⟩
def alJ(F:Fs)(l:List Tn)(i:Nat):Rz Xp :=
 if isT l (i+1) [40] then callS F l (i+2) (txT l i)
 else if isT l (i+1) [46] then some (aij (txT l i) (bT l (i+2)).1,(bT l (i+2)).2.1,(bT l (i+2)).2.2)
 else some (aij [] (txT l i),i+1,false)
def aHp{l:List Tn}{F:Fs}(H:FP l F){i:Nat}(hi:i+1<=l.length):Pl l i (alJ F l i):=by
 unfold alJ
 refine .fT (λ_=>.mono (ayv H aC) aC) ?_
 refine .fT (λ_=>?_) (.so aC aC)
 have:=agW (l:=l) (j:=i+2) aC
 exact .so aC this.2
def aKf(F:Fs)(l:List Tn)(i:Nat):ac4 F l i=match abe l i with
 | some v=>some (.mk 1 v [] [] false [] [],i+1,false)
 | none =>
  if isT l i [40] then (aeh F l i).to Th.val
  else if isT l i [99,97,115,101] then afm F l (i+1)
  else if isT l i [101,120,105,115,116,115] then afP F l i
  else if bq l i 2 then alJ F l i
  else some (x0,i,true):=rfl
def a1t:=ai (gv @zq @a9O @a9N @aiG @bF @acu @aaO @aaN) (gv @aaM @aaL @aaK @aaJ @P3 @Q3 @zT0 (kf aPd))
def au0(l:List Tn)(i:Nat)(e:Int)(k n:Int)(s:ByteArray)(hl:l.length<LB)(hi:i<l.length):aH Tryz.prog pr 333 [.ptr 0 0,.agg [.of (ci k),.of (ci n),.of (aG s)]] [pT l i e] ⟨false,[xpE (.mk 1 ⟨k,n,s⟩ [] [] false [] [])],[pT l (i+1) e]⟩:=by
 have hw:IntKind.i64.wrap ((i:Int)+1)=((i+1:Nat):Int):=fq i (by unfold LB at hl;omega)
 refine bB aPd ?_
 simp only[Tryz.f333,↓zA,sevalprocAttr,a1t,pT,hw]
 all_goals exact fz
def cK(l:List Tn)(i:Nat)(e:Int)(hl:l.length<LB)(hi:i<l.length)(k n:Int)(s:ByteArray)(K:An->Prop):cKp 333 [.ptr 0 0,.agg [.of (.lit (.int .i64 k)),.of (.lit (.int .i64 n)),.of (.lit (.string s))]] [pT l i e] K↔K ⟨false,[xpE (.mk 1 ⟨k,n,s⟩ [] [] false [] [])],[pT l (i+1) e]⟩:=aH.k (au0 l i e k n s hl hi) K
def a1u:=ai (gu @zq @a9Q @a9P @bF @acu @aaO @aaN) (gu @aaM @aaL @aaK @aaJ @eZ @zT0 (kf aPe))
def aEb(l:List Tn)(i:Nat)(e:Int)(x:Xp)(cs:List C)(hx:cs=xpC x):aH Tryz.prog pr 332 [.ptr 0 0] [pTe l i e,.row 28 cs] ⟨false,[xpE x],[pT l i e,.row 28 []]⟩:=by
 subst hx
 have hw:IntKind.i64.wrap (1-1)=0:=by decide
 refine bB aPe ?_
 simp only[Tryz.f332,↓zA,sevalprocAttr,a1u,pT,pTe,awd,a5E,a5t,a5y,E25]
 all_goals exact fz
def a1s:=ai (gu @zq @a9I @akp @abO @a9H @akr @alm) (gu @av1 @aeo @bF @eZ @bQ @zT0 (kf aPc))
def aAc{l:List Tn}{e:Int}{F:Fs}(hl:l.length<LB)(H:PY l e F)(i:Nat)(r:Xp×Nat×Bool)(hi:i<=l.length)(c0:bq l i 2=true)(hr:alJ F l i=some r):GP 334 [.ptr 0 0] [pT l i e] l e [] xpE i r:=by
 refine⟨Pl.at (aHp H.fp (aay c0)) hr,?_⟩
 have t0:=nT l i e hl c0
 have b0:=aay c0
 have hcount:(aK (txT l i)=({data:=#[99,111,117,110,116]}:ByteArray))=(txT l i=[99,111,117,110,116]):=ct _ _
 have hsum:(aK (txT l i)=({data:=#[115,117,109]}:ByteArray))=(txT l i=[115,117,109]):=ct _ _
 have hmin:(aK (txT l i)=({data:=#[109,105,110]}:ByteArray))=(txT l i=[109,105,110]):=ct _ _
 have hmax:(aK (txT l i)=({data:=#[109,97,120]}:ByteArray))=(txT l i=[109,97,120]):=ct _ _
 rcases eWX l (i+1) e [46] hl with _|_
 rcases aeP l (i+2) e hl with _|_
 rotate_left 2
 rcases eWX l (i+1) e [40] hl with _|_
 rcases cd (txT l i=[99,111,117,110,116]) with d4|d4
 rcases eWX l (i+2) e [42] hl with _|_
 rcases eWX l (i+3) e [41] hl with _|_
 rotate_left 2
 rcases eWX l (i+2) e [100,105,115,116,105,110,99,116] hl with _|_
 rcases eR (F.or (i+3) []) λ_=>H.or _ _ aC with _|⟨_,_,_⟩|⟨a8,j8,_⟩
 rotate_left 2
 rcases eWX l j8 e [41] hl with _|_
 rotate_left 2
 rcases eR (F.or (i+2) []) λ_=>H.or _ _ aC with _|⟨_,_,_⟩|⟨a10,j10,_⟩
 rotate_left 2
 rcases eWX l j10 e [41] hl with _|_
 rotate_left 2
 rcases cd (txT l i=[115,117,109]) with d12|d12
 rcases eWX l (i+2) e [100,105,115,116,105,110,99,116] hl with _|_
 rcases eR (F.or (i+3) []) λ_=>H.or _ _ aC with _|⟨_,_,_⟩|⟨a14,j14,_⟩
 rotate_left 2
 rcases eWX l j14 e [41] hl with _|_
 rotate_left 2
 rcases eR (F.or (i+2) []) λ_=>H.or _ _ aC with _|⟨_,_,_⟩|⟨a16,j16,_⟩
 rotate_left 2
 rcases eWX l j16 e [41] hl with _|_
 rotate_left 2
 rcases cd (txT l i=[109,105,110]) with d18|d18
 rcases eWX l (i+2) e [100,105,115,116,105,110,99,116] hl with _|_
 rcases eR (F.or (i+3) []) λ_=>H.or _ _ aC with _|⟨_,_,_⟩|⟨a20,j20,_⟩
 rotate_left 2
 rcases eWX l j20 e [41] hl with _|_
 rotate_left 2
 rcases eR (F.or (i+2) []) λ_=>H.or _ _ aC with _|⟨_,_,_⟩|⟨a22,j22,_⟩
 rotate_left 2
 rcases eWX l j22 e [41] hl with _|_
 rotate_left 2
 rcases cd (txT l i=[109,97,120]) with d24|d24
 rcases eWX l (i+2) e [100,105,115,116,105,110,99,116] hl with _|_
 rcases eR (F.or (i+3) []) λ_=>H.or _ _ aC with _|⟨_,_,_⟩|⟨a26,j26,_⟩
 rotate_left 2
 rcases eWX l j26 e [41] hl with _|_
 rotate_left 2
 rcases eR (F.or (i+2) []) λ_=>H.or _ _ aC with _|⟨_,_,_⟩|⟨a28,j28,_⟩
 rotate_left 2
 rcases eWX l j28 e [41] hl with _|_
 rotate_left 2
 rcases eWX l (i+2) e [41] hl with _|_
 rotate_left
 rcases eR (aaE F l (i+2)) λ_=>acl hl H _ _ aC with _|⟨_,_,_⟩|⟨a31,j31,_⟩
 rotate_left 2
 rcases eWX l j31 e [41] hl with _|_
 rotate_left 3
 all_goals (simp only[alJ,Go.Tab.callS,akv,a0L,bT,bh,eA,aD,zRZ,sevalprocAttr,↓reduceIte, *] at hr <;> cases hr <;> (refine bB aPc ?_;simp only[Tryz.f334,↓zA,sevalprocAttr,a1s,bw,pT,zP,be, *];all_goals exact fz))
def aNV:=gp (gv @Tryz.f330.eq_1 @zq @a9M @a6P @amX @a9L @a6O @alm) (gv @aoY @a6N @abO @a6M @aeo @aqc @a9K @aEX) (gv @a9J @aEW @aiG @bF @eo @ab9 @acu @aaO) (gv @aaN @aaM @aaL @aaK @aaJ @aoj @eZ @fC) (gu @bQ @P3 @Q3 @P9 @Q9 @zT0 (kf aEj))
def aGO{l:List Tn}{e:Int}{F:Fs}(hl:l.length<LB)(H:PY l e F)(i:Nat)(r:Xp×Nat×Bool)(hi:i<=l.length)(hr:ac4 F l i=some r):GP 330 [.ptr 0 0] [pT l i e] l e [] xpE i r:=by
 refine⟨Pl.at (aw2 H.fp hi) hr,?_⟩
 have p0:=pK l i e hl hi
 rcases aZ3 l i e hl with ⟨c1,b1,t1,x1,xq1,q1⟩|⟨c1,t1,q1⟩
 have n0:=cK l i e hl aC
 rotate_left
 rcases bbq l i e hl with ⟨c2,b2,t2,x2,xq2,q2⟩|⟨c2,t2,q2⟩
 have n0:=cK l i e hl aC
 rotate_left
 rcases eWQ l i e [116,114,117,101] hl with ⟨c3,b3,t3,x3,xq3⟩|⟨c3,t3⟩
 have n0:=cK l i e hl aC
 rotate_left
 rcases eWQ l i e [102,97,108,115,101] hl with ⟨c4,b4,t4,x4,xq4⟩|⟨c4,t4⟩
 have n0:=cK l i e hl aC
 rotate_left
 rcases eWQ l i e [110,117,108,108] hl with ⟨c5,b5,t5,x5,xq5⟩|⟨c5,t5⟩
 have n0:=cK l i e hl aC
 rotate_left
 rcases eWQ l i e [40] hl with ⟨c6,b6,t6,x6,xq6⟩|⟨c6,t6⟩
 rcases eR (F.ins (i+1)) λ_=>H.ins _ _ aC with e7|⟨_,_,_,_,_⟩|⟨a7,j7,e7,⟨u7,v7⟩,k7⟩
 rotate_left 2
 rcases eWQ l j7 e [41] hl with ⟨c8,b8,t8,x8,xq8⟩|⟨c8,t8⟩
 rotate_left 2
 rcases eWQ l i e [99,97,115,101] hl with ⟨c9,b9,t9,x9,xq9⟩|⟨c9,t9⟩
 rcases eR (afm F l (i+1)) λ_=>aE7 hl H _ _ aC with e10|⟨_,_,_,_,_⟩|⟨a10,j10,e10,⟨u10,v10⟩,k10⟩
 rotate_left 3
 rcases eWQ l i e [101,120,105,115,116,115] hl with ⟨c11,b11,t11,x11,xq11⟩|⟨c11,t11⟩
 rcases eWQ l (i+1) e [40] hl with ⟨c12,b12,t12,x12,xq12⟩|⟨c12,t12⟩
 rcases eR (F.qy (i+2) []) λ_=>H.qy _ _ aC with e13|⟨_,_,_,_,_⟩|⟨a13,j13,e13,⟨u13,v13⟩,k13⟩
 rotate_left 2
 rcases eWQ l j13 e [41] hl with ⟨c14,b14,t14,x14,xq14⟩|⟨c14,t14⟩
 rotate_left 3
 rcases aMV l i e hl with ⟨c15,b15,t15,x15,xq15,q15⟩|⟨c15,t15,q15⟩
 rcases eR (alJ F l i) λ_=>aAc hl H _ _ aC (by assumption) with e16|⟨_,_,_,_,_⟩|⟨a16,j16,e16,⟨u16,v16⟩,k16⟩
 rotate_left 4
 all_goals (simp only[aKf,abe,aeh,afP,zRZ,sevalprocAttr,↓reduceIte, *] at hr <;> cases hr <;> (refine bB aEj ?_;simp only[↓zA,sevalprocAttr,aNV,bw,pT,zP,be,ah8,aqw,axh,uL, *];all_goals exact fz))
def aKe(l:List Tn)(i:Nat)(e:Int)(x:Xp)(cs:List C)(hx:cs=xpC x):aH Tryz.prog pr 330 [.ptr 0 0] [pTe l i e,.row 28 cs] ⟨false,[xpE x],[pT l i e,.row 28 []]⟩:=by
 have k:=λK=>aH.k (aEb l i e x cs hx) K
 have lv:ac5 (some (.row 28 cs))=true:=by rw[hx,eU];rfl
 refine bB aEj ?_
 simp only[↓zA,sevalprocAttr,aNV,pT,pTe,k,lv]
 all_goals exact fz
def aNX:=ai (gz @Tryz.f325.eq_1 @zq @a93 @abO @aQ6 @a6Q @bF @acu @aaO) (gv @aaN @aaM @aaL @aaK @aaJ @eZ @zT0 (kf aEl))
def aRs(l:List Tn)(i:Nat)(e:Int)(x:Xp)(cs:List C)(hx:cs=xpC x):aH Tryz.prog pr 325 [.ptr 0 0] [pTe l i e,.row 28 cs] ⟨false,[xpE x],[pT l i e,.row 28 []]⟩:=by
 have k:=λK=>aH.k (aKe l i e x cs hx) K
 have lv:ac5 (some (.row 28 cs))=true:=by rw[hx,eU];rfl
 refine bB aEl ?_
 simp only[↓zA,sevalprocAttr,aNX,pT,pTe,k,lv]
 all_goals exact fz
def aJE(F:Fs)(l:List Tn)(i:Nat):abz F l i []=if isT l i [45] then (F.un (i+1)).to (λa=>cR 3 [a]) else ac4 F l i:=rfl
def apB{l:List Tn}{e:Int}{F:Fs}(hl:l.length<LB)(H:PY l e F)(i:Nat)(r:Xp×Nat×Bool)(hi:i<=l.length)(hr:abz F l i []=some r):GP 325 [.ptr 0 0] [pT l i e] l e [] xpE i r:=by
 refine⟨Pl.at (aoq H.fp hi) hr,?_⟩
 rcases eW l i e [45] hl with _|_
 rcases eR (F.un (i+1)) λ_=>H.un _ _ aC with _|⟨_,_,_⟩|⟨a2,j2,_⟩
 rotate_left 3
 rcases eR (ac4 F l i) λ_=>aGO hl H _ _ aC with _|⟨_,_,_⟩|⟨a3,j3,_⟩
 rotate_left 3
 all_goals (simp only[aJE,zRZ,sevalprocAttr,↓reduceIte, *] at hr <;> cases hr <;> (refine bB aEl ?_;simp only[↓zA,sevalprocAttr,aNX,bw,pT,zP,be, *];all_goals exact fz))
def aF3{l:List Tn}{e:Int}{F:Fs}(H:PY l e F)(i:Nat)(x:Xp)(cs:List C)(hx:cs=xpC x)(r:Xp×Nat×Bool)(hi:i<=l.length)(hr:abz F l i [x]=some r):GP 325 [.ptr 0 0] [pTe l i e,.row 28 cs] l e deE xpE i r:=by
 cases hr
 exact⟨⟨ae _,hi⟩,aRs l i e x cs hx⟩
def aN0:=ai (gp @Tryz.f316.eq_1 @zq @a97 @ayq @bF) (gp @bQ @afZ @aQ6 @zT0 (kf aEn))
def axo{l:List Tn}{e:Int}{F:Fs}(hl:l.length<LB)(H:PY l e F)(i:Nat)(r:Xp×Nat×Bool)(hi:i<=l.length)(hr:agX F l i []=some r):GP 316 [.ptr 0 0] [pT l i e] l e [] xpE i r:=by
 have g:=aiS (e:=e) hl 651 325 aI (aF aI) aG9 aOl aBV (abz F l) [([42],7),([47],8),([37],9)] aI (λi r h1 h2=>apB hl H i r h1 h2) i r hi hr
 refine⟨g.1,?_⟩
 have k:∀ K,cKp 66 [.ptr 0 0,.clo 651 [.ptr 0 0],.of (.sl [.lit (.string (ByteArray.mk (List.toArray [42]))),.lit (.string (ByteArray.mk (List.toArray [47]))),.lit (.string (ByteArray.mk (List.toArray [37])))] 3),.of (.sl [ci 7,ci 8,ci 9] 3)] [pT l i e] K↔K (bw l e xpE r []):=λK=>aH.k g.2 K
 refine bB aEn ?_
 obtain⟨a,j,b⟩:=r
 cases b <;> (simp only[↓zA,sevalprocAttr,aN0,bw,pT,zP,zBS,k];all_goals exact fz)
def aHq{l:List Tn}{e:Int}{F:Fs}(hl:l.length<LB)(H:PY l e F)(i:Nat)(x:Xp)(cs:List C)(hx:cs=xpC x)(r:Xp×Nat×Bool)(hi:i<=l.length)(hr:agX F l i [x]=some r):GP 316 [.ptr 0 0] [pTe l i e,.row 28 cs] l e deE xpE i r:=by
 have g:=ahJ (e:=e) hl 651 325 aI (aF aI) aG9 aOl aBV (abz F l) [([42],7),([47],8),([37],9)] aI (λi r h1 h2=>apB hl H i r h1 h2) x cs hx (λi r h1 h2=>aF3 H i x cs hx r h1 h2) i r hi hr
 refine⟨g.1,?_⟩
 have k:∀ K,cKp 66 [.ptr 0 0,.clo 651 [.ptr 0 0],.of (.sl [.lit (.string (ByteArray.mk (List.toArray [42]))),.lit (.string (ByteArray.mk (List.toArray [47]))),.lit (.string (ByteArray.mk (List.toArray [37])))] 3),.of (.sl [ci 7,ci 8,ci 9] 3)] [pTe l i e,.row 28 cs] K↔K (bw l e xpE r deE):=λK=>aH.k g.2 K
 have lv:ac5 (some (.row 28 cs))=true:=by rw[hx,eU];rfl
 refine bB aEn ?_
 obtain⟨a,j,b⟩:=r
 cases b <;> (simp only[↓zA,sevalprocAttr,aN0,bw,pT,pTe,zP,zBS,k,lv];all_goals exact fz)
def aN3:=gz @Tryz.f304.eq_1 @zq @a98 @ayq @bF @bQ @afZ @zT0 (kf aEp)
def ayS{l:List Tn}{e:Int}{F:Fs}(hl:l.length<LB)(H:PY l e F)(i:Nat)(r:Xp×Nat×Bool)(hi:i<=l.length)(hr:ag6 F l i []=some r):GP 304 [.ptr 0 0] [pT l i e] l e [] xpE i r:=by
 have g:=aiS (e:=e) hl 633 316 aI (aF aI) aHa aOm aBW (agX F l) [([43],5),([45],6)] aI (λi r h1 h2=>axo hl H i r h1 h2) i r hi hr
 refine⟨g.1,?_⟩
 have k:∀ K,cKp 66 [.ptr 0 0,.clo 633 [.ptr 0 0],.of (.sl [.lit (.string (ByteArray.mk (List.toArray [43]))),.lit (.string (ByteArray.mk (List.toArray [45])))] 2),.of (.sl [ci 5,ci 6] 2)] [pT l i e] K↔K (bw l e xpE r []):=λK=>aH.k g.2 K
 refine bB aEp ?_
 obtain⟨a,j,b⟩:=r
 cases b <;> (simp only[↓zA,sevalprocAttr,aN3,bw,pT,zP,zBS,k];all_goals exact fz)
def aJk{l:List Tn}{e:Int}{F:Fs}(hl:l.length<LB)(H:PY l e F)(i:Nat)(x:Xp)(cs:List C)(hx:cs=xpC x)(r:Xp×Nat×Bool)(hi:i<=l.length)(hr:ag6 F l i [x]=some r):GP 304 [.ptr 0 0] [pTe l i e,.row 28 cs] l e deE xpE i r:=by
 have g:=ahJ (e:=e) hl 633 316 aI (aF aI) aHa aOm aBW (agX F l) [([43],5),([45],6)] aI (λi r h1 h2=>axo hl H i r h1 h2) x cs hx (λi r h1 h2=>aHq hl H i x cs hx r h1 h2) i r hi hr
 refine⟨g.1,?_⟩
 have k:∀ K,cKp 66 [.ptr 0 0,.clo 633 [.ptr 0 0],.of (.sl [.lit (.string (ByteArray.mk (List.toArray [43]))),.lit (.string (ByteArray.mk (List.toArray [45])))] 2),.of (.sl [ci 5,ci 6] 2)] [pTe l i e,.row 28 cs] K↔K (bw l e xpE r deE):=λK=>aH.k g.2 K
 have lv:ac5 (some (.row 28 cs))=true:=by rw[hx,eU];rfl
 refine bB aEp ?_
 obtain⟨a,j,b⟩:=r
 cases b <;> (simp only[↓zA,sevalprocAttr,aN3,bw,pT,pTe,zP,zBS,k,lv];all_goals exact fz)
def aN4:=gz @Tryz.f284.eq_1 @zq @a99 @ayq @bF @bQ @afZ @zT0 (kf aEq)
def aik{l:List Tn}{e:Int}{F:Fs}(hl:l.length<LB)(H:PY l e F)(i:Nat)(r:Xp×Nat×Bool)(hi:i<=l.length)(hr:aan F l i []=some r):GP 284 [.ptr 0 0] [pT l i e] l e [] xpE i r:=by
 have g:=aiS (e:=e) hl 609 304 aI (aF aI) aHb aOn aBX (ag6 F l) [([124,124],10)] aI (λi r h1 h2=>ayS hl H i r h1 h2) i r hi hr
 refine⟨g.1,?_⟩
 have k:∀ K,cKp 66 [.ptr 0 0,.clo 609 [.ptr 0 0],.of (.sl [.lit (.string (ByteArray.mk (List.toArray [124,124])))] 1),.of (.sl [ci 10] 1)] [pT l i e] K↔K (bw l e xpE r []):=λK=>aH.k g.2 K
 refine bB aEq ?_
 obtain⟨a,j,b⟩:=r
 cases b <;> (simp only[↓zA,sevalprocAttr,aN4,bw,pT,zP,k];all_goals exact fz)
def aII{l:List Tn}{e:Int}{F:Fs}(hl:l.length<LB)(H:PY l e F)(i:Nat)(x:Xp)(cs:List C)(hx:cs=xpC x)(r:Xp×Nat×Bool)(hi:i<=l.length)(hr:aan F l i [x]=some r):GP 284 [.ptr 0 0] [pTe l i e,.row 28 cs] l e deE xpE i r:=by
 have g:=ahJ (e:=e) hl 609 304 aI (aF aI) aHb aOn aBX (ag6 F l) [([124,124],10)] aI (λi r h1 h2=>ayS hl H i r h1 h2) x cs hx (λi r h1 h2=>aJk hl H i x cs hx r h1 h2) i r hi hr
 refine⟨g.1,?_⟩
 have k:∀ K,cKp 66 [.ptr 0 0,.clo 609 [.ptr 0 0],.of (.sl [.lit (.string (ByteArray.mk (List.toArray [124,124])))] 1),.of (.sl [ci 10] 1)] [pTe l i e,.row 28 cs] K↔K (bw l e xpE r deE):=λK=>aH.k g.2 K
 have lv:ac5 (some (.row 28 cs))=true:=by rw[hx,eU];rfl
 refine bB aEq ?_
 obtain⟨a,j,b⟩:=r
 cases b <;> (simp only[↓zA,sevalprocAttr,aN4,bw,pT,pTe,zP,k,lv];all_goals exact fz)
def akK(F:Fs)(l:List Tn)(i:Nat)(a:Xp):Rz Xp :=
 if isT l i [108,105,107,101] then (aan F l (i+1) []).to λb=>cR 20 [a,b]
 else if isT l i [98,101,116,119,101,101,110] then (aan F l (i+1) []).on (λ_=>a) λb j=>wantR (bG l j [97,110,100]) a λj'=>(aan F l j' []).to λc=>cR 22 [a,b,c]
 else if isT l i [105,110] then inS F l (i+1) a
 else some (a,i,true)
def aJP{l:List Tn}{F:Fs}(H:FP l F){a:Xp}{i:Nat}(hi:i<=l.length):Pl l i (akK F l i a):=by
 unfold akK
 refine .fT (λ_=>.to (aep H aC) aC) (.fT (λ_=>.on (aep H aC) aC λ_ _ _ _=>.wR aC aC λ_=>.to (aep H aC) aC) (.fT (λ_=>.mono (arl H aC) aC) (.so aC hi)))
def aet{l:List Tn}{F:Fs}{no:Bool}{i:Nat}{a:Xp}{r:Xp×Nat×Bool}(h:abx F l no i a=some r)(c:no=true\/ca l i [[108,105,107,101],[98,101,116,119,101,101,110],[105,110]]=true) :
  ∃ b,akK F l i a=some (b,r.2.1,r.2.2)/\(r.2.2=false->r.1=ai8 no b):=by
 unfold abx at h
 unfold akK
 split at h
 .rename_i c1;rw[au c1]
  cases e:aan F l (i+1) [] with
  | none=>rw[e] at h;cases h
  | some q=>obtain⟨b,j,q⟩:=q;rw[e] at h;cases h;exact⟨_,rfl,λ_=>rfl⟩
 rename_i c1;rw[ar c1]
 split at h
 .rename_i c2;rw[au c2]
  cases e:aan F l (i+1) [] with
  | none=>rw[e] at h;cases h
  | some q =>
   obtain⟨b,j,q⟩:=q
   rw[e] at h
   cases q with
   | true=>cases h;exact⟨_,rfl,λh=>by cases h⟩
   | false =>
    simp only[Rz.on] at h ⊢
    unfold wantR at h ⊢
    split at h
    .cases h;exact⟨_,rfl,λh=>by cases h⟩
    .rename_i m e2
     simp only at h ⊢
     cases e3:aan F l m [] with
     | none=>rw[e3] at h;cases h
     | some q=>obtain⟨b,j,q⟩:=q;rw[e3] at h;cases h;exact⟨_,rfl,λ_=>rfl⟩
 rename_i c2;rw[ar c2]
 split at h
 .rename_i c3;rw[au c3]
  cases e:inS F l (i+1) a with
  | none=>rw[e] at h;cases h
  | some q=>obtain⟨b,j,q⟩:=q;rw[e] at h;cases h;exact⟨_,rfl,λ_=>rfl⟩
 rename_i c3;rw[ar c3]
 cases h
 have hn:no=true:=by
  rcases c with c|c
  .exact c
  .simp only[ca,c1,c2,c3,aD] at c;simp_all
 exact⟨a,by rw[hn],λh=>by simp only[hn] at h;cases h⟩
theorem ap3{l:List Tn}{F:Fs}{a:Xp}:∀ (n1 n2:Nat) (ks L:List Xp) (j:Nat) (r:Xp×Nat×Bool),n1<=n2->inL F l a n1 (ks++L) j=some r ->
  ∃ r',acy F l n2 L j=some r'/\(r'.2.2=true->r.2=r'.2)/\(r'.2.2=false->wantE (bG l r'.2.1 [41]) (cR 21 (ks++r'.1))=some r)
 | 0,_,_,_,_,_,_,h=>by cases h
 | n+1,0,_,_,_,_,h0,_=>by omega
 | n+1,m+1,ks,L,j,r,h0,h=>by
  unfold inL at h
  unfold acy
  split at h
  .rename_i c
   rw[au c]
   cases e:F.or (j+1) [] with
   | none=>rw[e] at h;cases h
   | some q =>
    obtain⟨y,p,q⟩:=q
    rw[e] at h
    cases q with
    | true=>cases h;exact⟨_,rfl,(λ_=>rfl),(λh=>by cases h)⟩
    | false =>
     simp only[Rz.on] at h ⊢
     rw[fH] at h
     exact ap3 n m ks (L++[y]) p r aC h
  .rename_i c
   rw[ar c]
   exact⟨_,rfl,(λh=>by cases h),λ_=>h⟩
theorem at5{l:List Tn}{F:Fs}(N:FP l F):∀ n ks j r,j<=l.length->acy F l n ks j=some r->r.1.length+j<=ks.length+r.2.1
 | 0,_,_,_,_,h=>by cases h
 | n+1,ks,j,r,hj,h=>by
  unfold acy at h
  split at h
  .rename_i c
   have hj1:=ft c
   cases e:F.or (j+1) [] with
   | none=>rw[e] at h;cases h
   | some q =>
    obtain⟨y,m,b⟩:=q
    have g:=Pl.at (N.or hj1) e
    dsimp only at g
    rw[e] at h
    cases b with
    | true=>cases h;simp only[aey];omega
    | false =>
     have:=at5 N n _ _ _ g.2 h
     simp only[aey] at this
     omega
  .cases h;exact ae _
def at4{l:List Tn}{e:Int}{F:Fs}(H:PY l e F){i:Nat}{r:List Xp×Nat×Bool}(hr:aaE F l i=some r)(hi:i<=l.length:=by omega):r.1.length+i<=1+r.2.1:=by
 unfold aaE at hr
 cases e:F.or i [] with
 | none=>rw[e] at hr;cases hr
 | some q =>
  obtain⟨y,m,b⟩:=q
  have g:=Pl.at (H.fp.or hi) e
  dsimp only at g
  rw[e] at hr
  cases b with
  | true=>cases hr;simp only[abf];omega
  | false =>
   have:=at5 H.fp _ _ _ _ g.2 hr
   simp only[abf] at this
   omega
def aN5:=gv @Tryz.f245.eq_1 @zq @a96 @a95 @bF @eZ @zT0 (kf aEr)
def axm(a:Xp):G1 245 [xpE a] (xpE (cR 4 [a])):=by
 refine bB aEr ?_
 simp only[↓zA,sevalprocAttr,aN5]
 all_goals exact fz
def atZ(a:Xp)(K:An->Prop):cKp 245 [xpE a] [] K↔K ⟨false,[xpE (cR 4 [a])],[]⟩:=aH.k (axm a) K
def aHn(c1 c2 c3 c4 c5 c6 c7 c8 c9:C):G1 245 [.of (.agg [c1,c2,c3,c4,c5,c6,c7,c8,c9])] (.of (.agg [ci 4,ci 0,ci 0,aG {data:=#[]},aG {data:=#[]},aG {data:=#[]},cb false,.sl [c1,c2,c3,c4,c5,c6,c7,c8,c9] 1,.sl [] 0])):=by
 refine bB aEr ?_
 simp only[↓zA,sevalprocAttr,aN5]
 all_goals exact fz
def avi:=gv @Tryz.f285.eq_1 @zq @a90 @a9Z @aRb @bF @zT0 (kf avT)
def aDr(a:Xp)(no:Bool):G1 285 [xpE a,aM no] (xpE (ai8 no a)):=by
 refine bB avT ?_
 cases no with
 | true =>
  simp only[↓zA,sevalprocAttr,avi,atZ]
  all_goals exact fz
 | false =>
  simp only[↓zA,sevalprocAttr,avi]
  all_goals exact fz
def aLd(c1 c2 c3 c4 c5 c6 c7 c8 c9:C):G1 285 [.of (.agg [c1,c2,c3,c4,c5,c6,c7,c8,c9]),aM true] (.of (.agg [ci 4,ci 0,ci 0,aG {data:=#[]},aG {data:=#[]},aG {data:=#[]},cb false,.sl [c1,c2,c3,c4,c5,c6,c7,c8,c9] 1,.sl [] 0])):=by
 have k:=λK=>aH.k (aHn c1 c2 c3 c4 c5 c6 c7 c8 c9) K
 refine bB avT ?_
 simp only[↓zA,sevalprocAttr,avi,k]
 all_goals exact fz
def aLe(c1 c2 c3 c4 c5 c6 c7 c8 c9:C):G1 285 [.of (.agg [c1,c2,c3,c4,c5,c6,c7,c8,c9]),aM false] (.of (.agg [c1,c2,c3,c4,c5,c6,c7,c8,c9])):=by
 refine bB avT ?_
 simp only[↓zA,sevalprocAttr,avi]
 all_goals exact fz
def axj(c1 c2 c3 c4 c5 c6 c7 c8 c9:C)(K:An->Prop):cKp 285 [.of (.agg [c1,c2,c3,c4,c5,c6,c7,c8,c9]),.of (.lit (.bool true))] [] K↔K ⟨false,[.of (.agg [ci 4,ci 0,ci 0,aG {data:=#[]},aG {data:=#[]},aG {data:=#[]},cb false,.sl [c1,c2,c3,c4,c5,c6,c7,c8,c9] 1,.sl [] 0])],[]⟩:=aH.k (aLd c1 c2 c3 c4 c5 c6 c7 c8 c9) K
def axk(c1 c2 c3 c4 c5 c6 c7 c8 c9:C)(K:An->Prop):cKp 285 [.of (.agg [c1,c2,c3,c4,c5,c6,c7,c8,c9]),.of (.lit (.bool false))] [] K↔K ⟨false,[.of (.agg [c1,c2,c3,c4,c5,c6,c7,c8,c9])],[]⟩:=aH.k (aLe c1 c2 c3 c4 c5 c6 c7 c8 c9) K
def ahf(a:Xp)(no:Bool)(K:An->Prop):cKp 285 [xpE a,.of (cb no)] [] K↔K ⟨false,[xpE (ai8 no a)],[]⟩:=aH.k (aDr a no) K
def aqn:=gm (gu @Tryz.f286.eq_1 @zq @a9Y @a9X @abO @bbd @aSl) (gu @acj @aQ9 @a9W @aeo @bbc @aSk @aEX) (gu @a9V @bbb @aEW @av1 @bF @eo @aoj) (gu @eZ @fC @bQ @P4 @Q4 @zT0 (kf aoU))
def aes{l:List Tn}{e:Int}{F:Fs}(hl:l.length<LB)(H:PY l e F)(a:Xp)(i:Nat)(r:Xp×Nat×Bool)(hi:i<=l.length)(hr:akK F l i a=some r):GP 286 [.ptr 0 0,xpE a] [pT l i e] l e [] xpE i r:=by
 refine⟨Pl.at (aJP H.fp hi) hr,?_⟩
 rcases eWX l i e [108,105,107,101] hl with ⟨c1,b1,t1,x1⟩|⟨c1,t1⟩
 rcases eR (aan F l (i+1) []) λ_=>aik hl H _ _ aC with _|⟨_,_,_⟩|⟨a2,j2,_⟩
 rotate_left 3
 rcases eWX l i e [98,101,116,119,101,101,110] hl with ⟨c3,b3,t3,x3⟩|⟨c3,t3⟩
 rcases eR (aan F l (i+1) []) λ_=>aik hl H _ _ aC with _|⟨_,_,_⟩|⟨a4,j4,_⟩
 rotate_left 2
 rcases eWX l j4 e [97,110,100] hl with _|_
 rcases eR (aan F l (j4+1) []) λ_=>aik hl H _ _ aC with _|⟨_,_,_⟩|⟨a6,j6,_⟩
 rotate_left 4
 rcases eWX l i e [105,110] hl with ⟨c7,b7,t7,x7⟩|⟨c7,t7⟩
 rcases eWX l (i+1) e [40] hl with ⟨c8,b8,t8,x8⟩|⟨c8,t8⟩
 have m2:=mB2 l i e [105,110] [40] hl hi (j:=i+2) (by simp only[dG,c7,c8,sevalprocAttr])
 rcases eR (F.ins (i+2)) λ_=>H.ins _ _ aC with e9|⟨_,_,_⟩|⟨a9,j9,e9,⟨u9,v9⟩,k9⟩
 rotate_left 2
 rcases c10:a9.q with _|_
 have vv:a9.val=a9.e:=by simp only[Th.val,c10,av,ah]
 rcases eWX l j9 e [44] hl with ⟨c11,b11,t11,x11⟩|⟨c11,t11⟩
 .have y12:∃ r',aaE F l (j9+1)=some r'/\(r'.2.2=true->r.2=r'.2)/\(r'.2.2=false->wantE (bG l r'.2.1 [41]) (cR 21 ([a,a9.val]++r'.1))=some r):=by
   simp only[akK,inS,zRZ,sevalprocAttr,↓reduceIte,c1,c3,c7,c8,e9,c10] at hr
   unfold inL at hr
   simp only[c11,am] at hr
   unfold aaE
   cases ee:F.or (j9+1) [] with
   | none=>rw[ee] at hr;cases hr
   | some q =>
    obtain⟨y,p,q⟩:=q
    rw[ee] at hr
    cases q with
    | true=>cases hr;exact⟨_,rfl,(λ_=>rfl),(λh=>by cases h)⟩
    | false =>
     simp only[Rz.on] at hr ⊢
     exact ap3 l.length (l.length+1) [a,a9.val] [y] p r aC hr
  obtain⟨⟨ks,jk,qk⟩,y12a,y12b,y12c⟩:=y12
  have gk:=acl hl H _ _ aC y12a
  obtain⟨uk,vk⟩:=gk.1
  dsimp only at uk vk y12b y12c
  cases qk with
  | true =>
   have kk:=gk.bad
   obtain⟨ra,rj⟩:=r
   have:=y12b rfl
   subst this
   refine bB aoU ?_
   simp only[↓zA,sevalprocAttr,aqn,bw,pT,zP,zBS,be,zLX,ah8,avu, *]
   all_goals exact fz
  | false =>
   have kk:=gk.ok
   have hz:=y12c rfl
   have hle:=at4 H y12a
   have hll:(2+ks.length<=LIM)=True:=aa (by dsimp only at hle;unfold LIM;unfold LB at hl;omega)
   rcases eWX l jk e [41] hl with _|_
   rotate_left 2
   all_goals (simp only[wantE,bG,am,ah,av, *] at hz <;> cases hz <;> (refine bB aoU ?_;simp only[↓zA,sevalprocAttr,aqn,bw,pT,zP,zBS,be,zLX,ah8,avu, *];all_goals (try simp only[ey 2 ks.length]);all_goals exact fz))
 rcases eWX l j9 e [41] hl with _|_
 rotate_left 2
 rcases c15:a9.w with _|_
 rcases eWX l j9 e [41] hl with _|_
 rotate_left 2
 have vv:a9.val=afu 26 [] a9.y:=by simp only[Th.val,c10,am]
 rcases eWX l j9 e [44] hl with ⟨c17,b17,t17,x17⟩|⟨c17,t17⟩
 .have y18:∃ r',aaE F l (j9+1)=some r'/\(r'.2.2=true->r.2=r'.2)/\(r'.2.2=false->wantE (bG l r'.2.1 [41]) (cR 21 ([a,a9.val]++r'.1))=some r):=by
   simp only[akK,inS,cX,zRZ,sevalprocAttr,↓reduceIte,c1,c3,c7,c8,e9,c10,c15] at hr
   unfold inL at hr
   simp only[c17,am] at hr
   unfold aaE
   cases ee:F.or (j9+1) [] with
   | none=>rw[ee] at hr;cases hr
   | some q =>
    obtain⟨y,p,q⟩:=q
    rw[ee] at hr
    cases q with
    | true=>cases hr;exact⟨_,rfl,(λ_=>rfl),(λh=>by cases h)⟩
    | false =>
     simp only[Rz.on] at hr ⊢
     exact ap3 l.length (l.length+1) [a,a9.val] [y] p r aC hr
  obtain⟨⟨ks,jk,qk⟩,y18a,y18b,y18c⟩:=y18
  have gk:=acl hl H _ _ aC y18a
  obtain⟨uk,vk⟩:=gk.1
  dsimp only at uk vk y18b y18c
  cases qk with
  | true =>
   have kk:=gk.bad
   obtain⟨ra,rj⟩:=r
   have:=y18b rfl
   subst this
   refine bB aoU ?_
   simp only[↓zA,sevalprocAttr,aqn,bw,pT,zP,zBS,be,zLX,ah8,avr, *]
   all_goals exact fz
  | false =>
   have kk:=gk.ok
   have hz:=y18c rfl
   have hle:=at4 H y18a
   have hll:(2+ks.length<=LIM)=True:=aa (by dsimp only at hle;unfold LIM;unfold LB at hl;omega)
   rcases eWX l jk e [41] hl with _|_
   rotate_left 2
   all_goals (simp only[wantE,bG,am,ah,av, *] at hz <;> cases hz <;> (refine bB aoU ?_;simp only[↓zA,sevalprocAttr,aqn,bw,pT,zP,zBS,be,zLX,ah8,avr, *];all_goals (try simp only[ey 2 ks.length]);all_goals exact fz))
 rcases eWX l j9 e [41] hl with _|_
 rotate_left 2
 have m2:=aXR l i e [105,110] [40] hl hi (j:=i+1) (by simp only[dG,c7,c8,sevalprocAttr,ah])
 rotate_left
 have m2:=aXR l i e [105,110] [40] hl hi (j:=i) (by simp only[dG,c7,sevalprocAttr,ah])
 rotate_left
 all_goals (simp only[akK,inS,cX,dH,zRZ,sevalprocAttr,↓reduceIte,inL, *] at hr <;> cases hr <;> (refine bB aoU ?_;simp only[↓zA,sevalprocAttr,aqn,bw,pT,zP,zBS,be,zLX,ah8,avr,avu, *];all_goals exact fz))
def an0(F:Fs)(l:List Tn)(i:Nat)(pre:List Xp):Rz Xp:=(aan F l i pre).on id λa j=>abN F l j a
def aBQ{l:List Tn}{F:Fs}(H:FP l F){p:List Xp}{i:Nat}(hi:i<=l.length):Pl l i (an0 F l i p):=.on (aep H hi) (ae _) λ_ _ _ h=>.mono (aBP H h) aC
def aXL(F:Fs)(l:List Tn)(i:Nat):ab6 F l i []=if isT l i [110,111,116] then (F.no (i+1)).to (λa=>cR 4 [a]) else an0 F l i []:=by
 unfold ab6
 rw[show decide (([]:List Xp)=[])=true from by simp,cO]
 rfl
def aXK(F:Fs)(l:List Tn)(i:Nat)(x:Xp):ab6 F l i [x]=an0 F l i [x]:=by
 unfold ab6
 rw[show decide (([x]:List Xp)=[])=false from by simp,cY]
 rfl
abbrev xpL(a:Xp):List C:=[ci a.op,ci a.v.k,ci a.v.n,aG a.v.s,aG (aK a.tb),aG (aK a.nm),cb a.di,slC xpC a.ks,slC qyC a.sb]
def anZ:List (List UInt8):=[[61],[60,62],[60],[60,61],[62],[62,61]]
def axO(tk:Tk)(e z:Nat)(l:List (List UInt8))(n:Nat)(hn:n=l.length)(i:Int):bz tP 43 (.own tk e z (fl bU l) n) (.of (.lit (.int .i64 i)))=bz tP 43 (.of (slC bU l)) (.of (.lit (.int .i64 i))):=by
 subst hn
 rw[abY E43 _ _ i _ rfl,abY E43 _ _ i _ rfl]
def ajS(tk:Tk)(e z:Nat)(i:Int):bz tP 43 (.own tk e z (fl bU anZ) 6) (.of (.lit (.int .i64 i)))=bz tP 43 (.of (slC bU anZ)) (.of (.lit (.int .i64 i))):=axO tk e z anZ 6 rfl i
def aBO(k:Nat)(h:k<6):∃ w,anZ[k]?=some w/\agp.drop k=(w,11+(k:Int))::agp.drop (k+1):=by
 rcases k with _|_|_|_|_|_|k
 .exact⟨_,rfl,rfl⟩
 .exact⟨_,rfl,rfl⟩
 .exact⟨_,rfl,rfl⟩
 .exact⟨_,rfl,rfl⟩
 .exact⟨_,rfl,rfl⟩
 .exact⟨_,rfl,rfl⟩
 .omega
def aaD:=gj (gu @Tryz.f246.eq_1 @zq @a92 @aQ9 @a91 @abO @bbe) (gu @aSn @acj @aeo @a6W @ayp @a6V @bF) (gq @eZ @bQ @P9 @Q9 @zT0 (kf arv))
def aM8{l:List Tn}{e:Int}{F:Fs}(hl:l.length<LB)(H:PY l e F)(i:Nat)(r:Xp×Nat×Bool)(hi:i<=l.length)(hr:an0 F l i []=some r):GP 246 [.ptr 0 0] [pT l i e] l e [] xpE i r:=by
 refine⟨Pl.at (aBQ H.fp hi) hr,?_⟩
 unfold an0 at hr
 cases e1:aan F l i [] with
 | none=>rw[e1] at hr;cases hr
 | some q =>
 obtain⟨a,j,q⟩:=q
 have g:=aik hl H i _ hi e1
 obtain⟨u,v⟩:=g.1
 dsimp only at u v
 rw[e1] at hr
 cases q with
 | true =>
  have k:=g.bad
  cases hr
  refine bB arv ?_
  simp only[↓zA,sevalprocAttr,aaD,bw,pT,zP,k]
  all_goals exact fz
 | false =>
 have k:=g.ok
 simp only[Rz.on] at hr
 refine bB arv ?_
 simp only[↓zA,sevalprocAttr,aaD,bw,pT,zBS,k]
 refine abJ 6 (λk s=>s.fr 0=.ptr 0 0/\s.fr 2=.ptr 1 0/\s.fr 3=.of (.ref (xpL a))/\(∃ c x i,s.fr 12=.own (.nm c x i) 9 1 (fl bU anZ) 6)/\s.fr 13=.of (.lit (.int .i64 6))/\s.fr 14=aQ k/\s.objs=[pT l j e,.var 28 xpZ]/\opT l j agp=opT l j (agp.drop k)) ?_ ?_
 .and_intros
  all_goals (simp only[↓zA,sevalprocAttr,aaD,pT];try exact⟨_,_,_,rfl⟩)
 rintro k' ⟨frk,obk,ckk⟩ hk ⟨f0,f2,f3,⟨tc,tx,ti,f12⟩,f13,f14,fo,E⟩
 dsimp only at f0 f2 f3 f12 f13 f14 fo
 rcases aA k' 6 with dk|dk
 .have hw:=fq k' aC
  have dk6:((k':Int)<6)=True:=aa aC
  obtain⟨w,gw,gd⟩:=aBO k' dk
  have gx:aaA anZ (k':Int)=some w:=by rw[akk];exact gw
  have hw2:IntKind.i64.wrap (11+(k':Int))=11+(k':Int):=eu _ aC aC
  rw[gd] at E
  simp only[opT] at E
  cases c:isT l j w with
  | false =>
   have kt:=λK=>aH.k (acI l j e w hl v) K
   rw[c] at E kt
   simp only[ah,av] at E kt
   simp only[↓zA,sevalprocAttr,aaD,pT,ajS,f0,f2,f3,f12,f13,f14,fo,dk6,gx,hw,kt]
   exact⟨dk,⟨_,_,_,rfl⟩,E⟩
  | true =>
   have hj1:=ft c
   have kt:=λK=>aH.k (acI l j e w hl v) K
   rw[c,au rfl] at E kt
   unfold abN at hr
   rw[E] at hr
   simp only at hr
   cases e2:aan F l (j+1) [] with
   | none=>rw[e2] at hr;cases hr
   | some q =>
    obtain⟨y,m,q⟩:=q
    have g2:=aik hl H (j+1) _ hj1 e2
    rw[e2] at hr
    cases hr
    cases q with
    | true =>
     have k2:=g2.bad
     simp only[↓zA,sevalprocAttr,aaD,zLX,pT,zP,ajS,f0,f3,f12,f13,f14,fo,dk6,gx,hw2,kt,k2]
     all_goals exact fz
    | false =>
     have k2:=g2.ok
     simp only[↓zA,sevalprocAttr,aaD,zLX,pT,zP,zBS,ajS,f0,f2,f3,f12,f13,f14,fo,dk6,gx,hw2,kt,k2]
     all_goals exact fz
 have ek:k'=6:=by omega
 subst ek
 rw[show agp.drop 6=[] from rfl] at E
 simp only[opT] at E
 rcases eWX l j e [105,115] hl with ⟨c1,b1,t1,x1⟩|⟨c1,t1⟩
 rcases eWX l (j+1) e [110,111,116] hl with _|_
 rcases eWX l (j+2) e [110,117,108,108] hl with _|_
 rotate_left 2
 rcases eWX l (j+1) e [110,117,108,108] hl with _|_
 rotate_left 2
 rcases eWX l j e [110,111,116] hl with ⟨c5,b5,t5,x5⟩|⟨c5,t5⟩
 .have z6:=aB4 l (j) e [110,111,116] [108,105,107,101] [98,101,116,119,101,101,110] [105,110] hl aC (b:=true) (by simp only[ca,c5,x5,uL,sevalprocAttr,cI,aD])
  have y7:abx F l true (j+1) a=some r:=by simp only[abN,zRZ,sevalprocAttr,↓reduceIte,E,c1,c5] at hr;exact hr
  obtain⟨b7,y7a,y7b⟩:=aet y7 (.inl rfl)
  have g7:=aes hl H a _ _ aC y7a
  obtain⟨ra,rj,rq⟩:=r
  dsimp only at g7 y7b
  cases rq with
  | true =>
   have k7:=g7.bad
   simp only[↓zA,sevalprocAttr,aaD,pT,zP,zBS,be,zLX, *]
   all_goals exact fz
  | false =>
   have k7:=g7.ok
   have e7:=y7b rfl
   subst e7
   clear y7b
   simp only[↓zA,sevalprocAttr,aaD,pT,zP,zBS,be,zLX,ahf, *]
   all_goals exact fz
 rcases eWX l j e [108,105,107,101] hl with ⟨c8,b8,t8,x8⟩|⟨c8,t8⟩
 .have z9:=aB4 l (j) e [110,111,116] [108,105,107,101] [98,101,116,119,101,101,110] [105,110] hl aC (b:=true) (by simp only[ca,c5,c8,x8,uL,sevalprocAttr,cI,aD,bh])
  have y10:abx F l false (j) a=some r:=by simp only[abN,zRZ,sevalprocAttr,↓reduceIte,E,c1,c5] at hr;exact hr
  obtain⟨b10,y10a,y10b⟩:=aet y10 (.inr (by simp only[ca,c8,x8,uL,sevalprocAttr,cI,aD]))
  have g10:=aes hl H a _ _ aC y10a
  obtain⟨ra,rj,rq⟩:=r
  dsimp only at g10 y10b
  cases rq with
  | true =>
   have k10:=g10.bad
   simp only[↓zA,sevalprocAttr,aaD,pT,zP,zBS,be,zLX, *]
   all_goals exact fz
  | false =>
   have k10:=g10.ok
   have e10:=y10b rfl
   subst e10
   clear y10b
   simp only[↓zA,sevalprocAttr,aaD,pT,zP,zBS,be,zLX,ahf, *]
   all_goals exact fz
 rcases eWX l j e [98,101,116,119,101,101,110] hl with ⟨c11,b11,t11,x11⟩|⟨c11,t11⟩
 .have z12:=aB4 l (j) e [110,111,116] [108,105,107,101] [98,101,116,119,101,101,110] [105,110] hl aC (b:=true) (by simp only[ca,c5,c8,c11,x11,uL,sevalprocAttr,cI,aD,bh])
  have y13:abx F l false (j) a=some r:=by simp only[abN,zRZ,sevalprocAttr,↓reduceIte,E,c1,c5] at hr;exact hr
  obtain⟨b13,y13a,y13b⟩:=aet y13 (.inr (by simp only[ca,c8,c11,x11,uL,sevalprocAttr,cI,aD,bh]))
  have g13:=aes hl H a _ _ aC y13a
  obtain⟨ra,rj,rq⟩:=r
  dsimp only at g13 y13b
  cases rq with
  | true =>
   have k13:=g13.bad
   simp only[↓zA,sevalprocAttr,aaD,pT,zP,zBS,be,zLX, *]
   all_goals exact fz
  | false =>
   have k13:=g13.ok
   have e13:=y13b rfl
   subst e13
   clear y13b
   simp only[↓zA,sevalprocAttr,aaD,pT,zP,zBS,be,zLX,ahf, *]
   all_goals exact fz
 rcases eWX l j e [105,110] hl with ⟨c14,b14,t14,x14⟩|⟨c14,t14⟩
 .have z15:=aB4 l (j) e [110,111,116] [108,105,107,101] [98,101,116,119,101,101,110] [105,110] hl aC (b:=true) (by simp only[ca,c5,c8,c11,c14,sevalprocAttr,aD,bh])
  have y16:abx F l false (j) a=some r:=by simp only[abN,zRZ,sevalprocAttr,↓reduceIte,E,c1,c5] at hr;exact hr
  obtain⟨b16,y16a,y16b⟩:=aet y16 (.inr (by simp only[ca,c8,c11,c14,sevalprocAttr,aD,bh]))
  have g16:=aes hl H a _ _ aC y16a
  obtain⟨ra,rj,rq⟩:=r
  dsimp only at g16 y16b
  cases rq with
  | true =>
   have k16:=g16.bad
   simp only[↓zA,sevalprocAttr,aaD,pT,zP,zBS,be,zLX, *]
   all_goals exact fz
  | false =>
   have k16:=g16.ok
   have e16:=y16b rfl
   subst e16
   clear y16b
   simp only[↓zA,sevalprocAttr,aaD,pT,zP,zBS,be,zLX,ahf, *]
   all_goals exact fz
 have z17:=aB4 l (j) e [110,111,116] [108,105,107,101] [98,101,116,119,101,101,110] [105,110] hl aC (b:=false) (by simp only[ca,c5,c8,c11,c14,sevalprocAttr,aD])
 rotate_left
 all_goals (simp only[abN,isS,zRZ,sevalprocAttr,↓reduceIte,abx, *] at hr <;> cases hr <;> (simp only[↓zA,sevalprocAttr,aaD,pT,zP,zBS,be,zLX,axj,axk, *];all_goals exact fz))
def aIA{l:List Tn}{e:Int}{F:Fs}(hl:l.length<LB)(H:PY l e F)(i:Nat)(x:Xp)(cs:List C)(hx:cs=xpC x)(r:Xp×Nat×Bool)(hi:i<=l.length)(hr:an0 F l i [x]=some r):GP 246 [.ptr 0 0] [pTe l i e,.row 28 cs] l e deE xpE i r:=by
 refine⟨Pl.at (aBQ H.fp hi) hr,?_⟩
 unfold an0 at hr
 cases e1:aan F l i [x] with
 | none=>rw[e1] at hr;cases hr
 | some q =>
 obtain⟨a,j,q⟩:=q
 have g:=aII hl H i x cs hx _ hi e1
 obtain⟨u,v⟩:=g.1
 dsimp only at u v
 rw[e1] at hr
 have lv:ac5 (some (.row 28 cs))=true:=by rw[hx,eU];rfl
 cases q with
 | true =>
  have k:=g.bad
  cases hr
  refine bB arv ?_
  simp only[↓zA,sevalprocAttr,aaD,bw,pT,pTe,zP,k,lv]
  all_goals exact fz
 | false =>
 have k:=g.ok
 simp only[Rz.on] at hr
 refine bB arv ?_
 simp only[↓zA,sevalprocAttr,aaD,bw,pT,pTe,zBS,k,lv]
 refine abJ 6 (λk s=>s.fr 0=.ptr 0 0/\s.fr 2=.ptr 2 0/\s.fr 3=.of (.ref (xpL a))/\(∃ c x i,s.fr 12=.own (.nm c x i) 9 1 (fl bU anZ) 6)/\s.fr 13=.of (.lit (.int .i64 6))/\s.fr 14=aQ k/\s.objs=[pT l j e,.row 28 [],.var 28 xpZ]/\opT l j agp=opT l j (agp.drop k)) ?_ ?_
 .and_intros
  all_goals (simp only[↓zA,sevalprocAttr,aaD,pT];try exact⟨_,_,_,rfl⟩)
 rintro k' ⟨frk,obk,ckk⟩ hk ⟨f0,f2,f3,⟨tc,tx,ti,f12⟩,f13,f14,fo,E⟩
 dsimp only at f0 f2 f3 f12 f13 f14 fo
 rcases aA k' 6 with dk|dk
 .have hw:=fq k' aC
  have dk6:((k':Int)<6)=True:=aa aC
  obtain⟨w,gw,gd⟩:=aBO k' dk
  have gx:aaA anZ (k':Int)=some w:=by rw[akk];exact gw
  have hw2:IntKind.i64.wrap (11+(k':Int))=11+(k':Int):=eu _ aC aC
  rw[gd] at E
  simp only[opT] at E
  cases c:isT l j w with
  | false =>
   have kt:=λK=>aH.k (acI l j e w hl v) K
   rw[c] at E kt
   simp only[ah,av] at E kt
   simp only[↓zA,sevalprocAttr,aaD,pT,ajS,f0,f2,f3,f12,f13,f14,fo,dk6,gx,hw,kt]
   exact⟨dk,⟨_,_,_,rfl⟩,E⟩
  | true =>
   have hj1:=ft c
   have kt:=λK=>aH.k (acI l j e w hl v) K
   rw[c,au rfl] at E kt
   unfold abN at hr
   rw[E] at hr
   simp only at hr
   cases e2:aan F l (j+1) [] with
   | none=>rw[e2] at hr;cases hr
   | some q =>
    obtain⟨y,m,q⟩:=q
    have g2:=aik hl H (j+1) _ hj1 e2
    rw[e2] at hr
    cases hr
    cases q with
    | true =>
     have k2:=g2.bad
     simp only[↓zA,sevalprocAttr,aaD,zLX,pT,zP,ajS,f0,f3,f12,f13,f14,fo,dk6,gx,hw2,kt,k2]
     all_goals exact fz
    | false =>
     have k2:=g2.ok
     simp only[↓zA,sevalprocAttr,aaD,zLX,pT,zP,zBS,ajS,f0,f2,f3,f12,f13,f14,fo,dk6,gx,hw2,kt,k2]
     all_goals exact fz
 have ek:k'=6:=by omega
 subst ek
 rw[show agp.drop 6=[] from rfl] at E
 simp only[opT] at E
 rcases eWX l j e [105,115] hl with ⟨c1,b1,t1,x1⟩|⟨c1,t1⟩
 rcases eWX l (j+1) e [110,111,116] hl with _|_
 rcases eWX l (j+2) e [110,117,108,108] hl with _|_
 rotate_left 2
 rcases eWX l (j+1) e [110,117,108,108] hl with _|_
 rotate_left 2
 rcases eWX l j e [110,111,116] hl with ⟨c5,b5,t5,x5⟩|⟨c5,t5⟩
 .have z6:=aB4 l (j) e [110,111,116] [108,105,107,101] [98,101,116,119,101,101,110] [105,110] hl aC (b:=true) (by simp only[ca,c5,x5,uL,sevalprocAttr,cI,aD])
  have y7:abx F l true (j+1) a=some r:=by simp only[abN,zRZ,sevalprocAttr,↓reduceIte,E,c1,c5] at hr;exact hr
  obtain⟨b7,y7a,y7b⟩:=aet y7 (.inl rfl)
  have g7:=aes hl H a _ _ aC y7a
  obtain⟨ra,rj,rq⟩:=r
  dsimp only at g7 y7b
  cases rq with
  | true =>
   have k7:=g7.bad
   simp only[↓zA,sevalprocAttr,aaD,pT,zP,zBS,be,zLX, *]
   all_goals exact fz
  | false =>
   have k7:=g7.ok
   have e7:=y7b rfl
   subst e7
   clear y7b
   simp only[↓zA,sevalprocAttr,aaD,pT,zP,zBS,be,zLX,ahf, *]
   all_goals exact fz
 rcases eWX l j e [108,105,107,101] hl with ⟨c8,b8,t8,x8⟩|⟨c8,t8⟩
 .have z9:=aB4 l (j) e [110,111,116] [108,105,107,101] [98,101,116,119,101,101,110] [105,110] hl aC (b:=true) (by simp only[ca,c5,c8,x8,uL,sevalprocAttr,cI,aD,bh])
  have y10:abx F l false (j) a=some r:=by simp only[abN,zRZ,sevalprocAttr,↓reduceIte,E,c1,c5] at hr;exact hr
  obtain⟨b10,y10a,y10b⟩:=aet y10 (.inr (by simp only[ca,c8,x8,uL,sevalprocAttr,cI,aD]))
  have g10:=aes hl H a _ _ aC y10a
  obtain⟨ra,rj,rq⟩:=r
  dsimp only at g10 y10b
  cases rq with
  | true =>
   have k10:=g10.bad
   simp only[↓zA,sevalprocAttr,aaD,pT,zP,zBS,be,zLX, *]
   all_goals exact fz
  | false =>
   have k10:=g10.ok
   have e10:=y10b rfl
   subst e10
   clear y10b
   simp only[↓zA,sevalprocAttr,aaD,pT,zP,zBS,be,zLX,ahf, *]
   all_goals exact fz
 rcases eWX l j e [98,101,116,119,101,101,110] hl with ⟨c11,b11,t11,x11⟩|⟨c11,t11⟩
 .have z12:=aB4 l (j) e [110,111,116] [108,105,107,101] [98,101,116,119,101,101,110] [105,110] hl aC (b:=true) (by simp only[ca,c5,c8,c11,x11,uL,sevalprocAttr,cI,aD,bh])
  have y13:abx F l false (j) a=some r:=by simp only[abN,zRZ,sevalprocAttr,↓reduceIte,E,c1,c5] at hr;exact hr
  obtain⟨b13,y13a,y13b⟩:=aet y13 (.inr (by simp only[ca,c8,c11,x11,uL,sevalprocAttr,cI,aD,bh]))
  have g13:=aes hl H a _ _ aC y13a
  obtain⟨ra,rj,rq⟩:=r
  dsimp only at g13 y13b
  cases rq with
  | true =>
   have k13:=g13.bad
   simp only[↓zA,sevalprocAttr,aaD,pT,zP,zBS,be,zLX, *]
   all_goals exact fz
  | false =>
   have k13:=g13.ok
   have e13:=y13b rfl
   subst e13
   clear y13b
   simp only[↓zA,sevalprocAttr,aaD,pT,zP,zBS,be,zLX,ahf, *]
   all_goals exact fz
 rcases eWX l j e [105,110] hl with ⟨c14,b14,t14,x14⟩|⟨c14,t14⟩
 .have z15:=aB4 l (j) e [110,111,116] [108,105,107,101] [98,101,116,119,101,101,110] [105,110] hl aC (b:=true) (by simp only[ca,c5,c8,c11,c14,sevalprocAttr,aD,bh])
  have y16:abx F l false (j) a=some r:=by simp only[abN,zRZ,sevalprocAttr,↓reduceIte,E,c1,c5] at hr;exact hr
  obtain⟨b16,y16a,y16b⟩:=aet y16 (.inr (by simp only[ca,c8,c11,c14,sevalprocAttr,aD,bh]))
  have g16:=aes hl H a _ _ aC y16a
  obtain⟨ra,rj,rq⟩:=r
  dsimp only at g16 y16b
  cases rq with
  | true =>
   have k16:=g16.bad
   simp only[↓zA,sevalprocAttr,aaD,pT,zP,zBS,be,zLX, *]
   all_goals exact fz
  | false =>
   have k16:=g16.ok
   have e16:=y16b rfl
   subst e16
   clear y16b
   simp only[↓zA,sevalprocAttr,aaD,pT,zP,zBS,be,zLX,ahf, *]
   all_goals exact fz
 have z17:=aB4 l (j) e [110,111,116] [108,105,107,101] [98,101,116,119,101,101,110] [105,110] hl aC (b:=false) (by simp only[ca,c5,c8,c11,c14,sevalprocAttr,aD])
 rotate_left
 all_goals (simp only[abN,isS,zRZ,sevalprocAttr,↓reduceIte,abx, *] at hr <;> cases hr <;> (simp only[↓zA,sevalprocAttr,aaD,pT,zP,zBS,be,zLX,axj,axk, *];all_goals exact fz))
def aCu:=ai (gz @Tryz.f152.eq_1 @zq @a94 @abO @aRi @aRb @a7e @bF @acu) (gz @aaO @aaN @aaM @aaL @aaK @aaJ @eZ @zT0 (kf aEv))
def apP{l:List Tn}{e:Int}{F:Fs}(hl:l.length<LB)(H:PY l e F)(i:Nat)(r:Xp×Nat×Bool)(hi:i<=l.length)(hr:ab6 F l i []=some r):GP 152 [.ptr 0 0] [pT l i e] l e [] xpE i r:=by
 refine⟨Pl.at (aoH H.fp hi) hr,?_⟩
 rcases eW l i e [110,111,116] hl with _|_
 rcases eR (F.no (i+1)) λ_=>H.no _ _ aC with _|⟨_,_,_⟩|⟨a2,j2,_⟩
 rotate_left 3
 rcases eR (an0 F l i []) λ_=>aM8 hl H _ _ aC with _|⟨_,_,_⟩|⟨a3,j3,_⟩
 rotate_left 3
 all_goals (simp only[aXL,zRZ,sevalprocAttr,↓reduceIte, *] at hr <;> cases hr <;> (refine bB aEv ?_;simp only[↓zA,sevalprocAttr,aCu,bw,pT,zP,be,atZ, *];all_goals exact fz))
def aHh{l:List Tn}{e:Int}{F:Fs}(hl:l.length<LB)(H:PY l e F)(i:Nat)(x:Xp)(cs:List C)(hx:cs=xpC x)(r:Xp×Nat×Bool)(hi:i<=l.length)(hr:ab6 F l i [x]=some r):GP 152 [.ptr 0 0] [pTe l i e,.row 28 cs] l e deE xpE i r:=by
 rw[aXK] at hr
 have g:=aIA hl H i x cs hx r hi hr
 have lv:ac5 (some (.row 28 cs))=true:=by rw[hx,eU];rfl
 refine⟨g.1,?_⟩
 obtain⟨a,j,q⟩:=r
 refine bB aEv ?_
 cases q with
 | true =>
  have k:=g.bad
  simp only[↓zA,sevalprocAttr,aCu,bw,pT,pTe,zP,k,lv]
  all_goals exact fz
 | false =>
  have k:=g.ok
  simp only[↓zA,sevalprocAttr,aCu,bw,pT,pTe,zP,k,lv]
  all_goals exact fz
def aVv:=ai (gp @Tryz.f67.eq_1 @zq @baa @ayq @bF) (gp @bQ @afZ @aRi @zT0 (kf aMH))
def ayQ{l:List Tn}{e:Int}{F:Fs}(hl:l.length<LB)(H:PY l e F)(i:Nat)(r:Xp×Nat×Bool)(hi:i<=l.length)(hr:ain F l i []=some r):GP 67 [.ptr 0 0] [pT l i e] l e [] xpE i r:=by
 have g:=aiS (e:=e) hl 305 152 aI (aF aI) aHd aOp aBZ (ab6 F l) [([97,110,100],17)] aI (λi r h1 h2=>apP hl H i r h1 h2) i r hi hr
 refine⟨g.1,?_⟩
 have k:∀ K,cKp 66 [.ptr 0 0,.clo 305 [.ptr 0 0],.of (.sl [.lit (.string (ByteArray.mk (List.toArray [97,110,100])))] 1),.of (.sl [ci 17] 1)] [pT l i e] K↔K (bw l e xpE r []):=λK=>aH.k g.2 K
 refine bB aMH ?_
 obtain⟨a,j,b⟩:=r
 cases b <;> (simp only[↓zA,sevalprocAttr,aVv,bw,pT,zP,k];all_goals exact fz)
def aJf{l:List Tn}{e:Int}{F:Fs}(hl:l.length<LB)(H:PY l e F)(i:Nat)(x:Xp)(cs:List C)(hx:cs=xpC x)(r:Xp×Nat×Bool)(hi:i<=l.length)(hr:ain F l i [x]=some r):GP 67 [.ptr 0 0] [pTe l i e,.row 28 cs] l e deE xpE i r:=by
 have g:=ahJ (e:=e) hl 305 152 aI (aF aI) aHd aOp aBZ (ab6 F l) [([97,110,100],17)] aI (λi r h1 h2=>apP hl H i r h1 h2) x cs hx (λi r h1 h2=>aHh hl H i x cs hx r h1 h2) i r hi hr
 refine⟨g.1,?_⟩
 have k:∀ K,cKp 66 [.ptr 0 0,.clo 305 [.ptr 0 0],.of (.sl [.lit (.string (ByteArray.mk (List.toArray [97,110,100])))] 1),.of (.sl [ci 17] 1)] [pTe l i e,.row 28 cs] K↔K (bw l e xpE r deE):=λK=>aH.k g.2 K
 have lv:ac5 (some (.row 28 cs))=true:=by rw[hx,eU];rfl
 refine bB aMH ?_
 obtain⟨a,j,b⟩:=r
 cases b <;> (simp only[↓zA,sevalprocAttr,aVv,bw,pT,pTe,zP,k,lv];all_goals exact fz)
def aVy:=gz @Tryz.f31.eq_1 @zq @bab @ayq @bF @bQ @afZ @zT0 (kf aMK)
def aSy{l:List Tn}{e:Int}{F:Fs}(hl:l.length<LB)(H:PY l e F)(i:Nat)(r:Xp×Nat×Bool)(hi:i<=l.length)(hr:orS F l i []=some r):GP 31 [.ptr 0 0] [pT l i e] l e [] xpE i r:=by
 have g:=aiS (e:=e) hl 135 67 aI (aF aI) aOW aVR aIL (ain F l) [([111,114],18)] aI (λi r h1 h2=>ayQ hl H i r h1 h2) i r hi hr
 refine⟨g.1,?_⟩
 have k:∀ K,cKp 66 [.ptr 0 0,.clo 135 [.ptr 0 0],.of (.sl [.lit (.string (ByteArray.mk (List.toArray [111,114])))] 1),.of (.sl [ci 18] 1)] [pT l i e] K↔K (bw l e xpE r []):=λK=>aH.k g.2 K
 refine bB aMK ?_
 obtain⟨a,j,b⟩:=r
 cases b <;> (simp only[↓zA,sevalprocAttr,aVy,bw,pT,zP,k];all_goals exact fz)
def aKY{l:List Tn}{e:Int}{F:Fs}(hl:l.length<LB)(H:PY l e F)(i:Nat)(x:Xp)(cs:List C)(hx:cs=xpC x)(r:Xp×Nat×Bool)(hi:i<=l.length)(hr:orS F l i [x]=some r):GP 31 [.ptr 0 0] [pTe l i e,.row 28 cs] l e deE xpE i r:=by
 have g:=ahJ (e:=e) hl 135 67 aI (aF aI) aOW aVR aIL (ain F l) [([111,114],18)] aI (λi r h1 h2=>ayQ hl H i r h1 h2) x cs hx (λi r h1 h2=>aJf hl H i x cs hx r h1 h2) i r hi hr
 refine⟨g.1,?_⟩
 have k:∀ K,cKp 66 [.ptr 0 0,.clo 135 [.ptr 0 0],.of (.sl [.lit (.string (ByteArray.mk (List.toArray [111,114])))] 1),.of (.sl [ci 18] 1)] [pTe l i e,.row 28 cs] K↔K (bw l e xpE r deE):=λK=>aH.k g.2 K
 have lv:ac5 (some (.row 28 cs))=true:=by rw[hx,eU];rfl
 refine bB aMK ?_
 obtain⟨a,j,b⟩:=r
 cases b <;> (simp only[↓zA,sevalprocAttr,aVy,bw,pT,pTe,zP,k,lv];all_goals exact fz)
abbrev stE(s:List UInt8):X:=.of (aG (aK s))
def aNB{l:List Tn}{i:Nat}(hi:i<=l.length):Pl l i (some (eF l i)):=λa j b h=>by
 have:=ak7 hi
 rw[ay h] at this
 exact this
def asT(l:List Tn)(i:Nat):List UInt8×Nat×Bool:=if isT l i [97,115] then bT l (i+1) else bT l i
def a8f{l:List Tn}{i:Nat}(hi:i<=l.length):Pl l i (some (asT l i)):=λa j b h=>by
 have h:=ay h
 unfold asT at h
 split at h
 .rename_i c;have:=agW (dA c);rw[h] at this;exact⟨by have:=this.1;dsimp only at this;omega,this.2⟩
 .have:=agW hi;rw[h] at this;exact this
def aN1:=gu @Tryz.f311.eq_1 @zq @abO @aoY @akp @zT0 (kf aEo)
def aa4{l:List Tn}(e:Int)(hl:l.length<LB)  (i:Nat) (r:List UInt8×Nat×Bool) (hi:i<=l.length) (hr:some (eF l i)=some r):GP 311 [.ptr 0 0,.of (.lit (.bool false))] [pT l i e] l e [] stE i r:=by
 refine⟨Pl.at (aNB hi) hr,?_⟩
 rcases eWX l i e [97,115] hl with _|_
 rcases aeP l (i+1) e hl with _|_
 rotate_left 2
 rcases aeP l i e hl with _|_
 rotate_left 2
 all_goals (simp only[eF,bT,zRZ,sevalprocAttr,↓reduceIte, *] at hr <;> cases hr <;> (refine bB aEo ?_;simp only[↓zA,sevalprocAttr,aN1,bw,pT,zP,be, *];all_goals exact fz))
def aiD{l:List Tn}(e:Int)(hl:l.length<LB)  (i:Nat) (r:List UInt8×Nat×Bool) (hi:i<=l.length) (hr:some (asT l i)=some r):GP 311 [.ptr 0 0,.of (.lit (.bool true))] [pT l i e] l e [] stE i r:=by
 refine⟨Pl.at (a8f hi) hr,?_⟩
 rcases eWX l i e [97,115] hl with _|_
 rcases aeP l (i+1) e hl with _|_
 rotate_left 2
 rcases aeP l i e hl with _|_
 rotate_left 2
 all_goals (simp only[asT,bT,zRZ,sevalprocAttr,↓reduceIte, *] at hr <;> cases hr <;> (refine bB aEo ?_;simp only[↓zA,sevalprocAttr,aN1,bw,pT,zP,be, *];all_goals exact fz))
def aZ4{l:List Tn}(T:TL l)(i:Nat):isT l i [46]=(decide ((bN l i).k=5)&&decide ((bN l i).s=[46])):=by
 rw[isT_at]
 by_cases h:(bN l i).k=1
 .rcases aA i l.length with g|g
  .have:=(T.w _ (akI g) h).1
   rw[bd this,cj,cj]
  .rw[ag8 g] at h;cases h
 .rw[bd h,eG]
def aRO{l:List Tn}(T:TL l)(i:Nat):isT l i [42]=(decide ((bN l i).k=5)&&decide ((bN l i).s=[42])):=by
 rw[isT_at]
 by_cases h:(bN l i).k=1
 .rcases aA i l.length with g|g
  .have:=(T.w _ (akI g) h).2
   rw[bd this,cj,cj]
  .rw[ag8 g] at h;cases h
 .rw[bd h,eG]
def a1y:=gj (gz @zq @a9p @abO @amX @a9o @a9n @aoY @baY @akr) (gz @a9m @aEV @ab9 @acu @aaO @aaN @aaM @aaL @aaK) (gz @aaJ @acb @acG @P3 @Q3 @P9 @Q9 @zT0 (kf aPj))
def akY{l:List Tn}{e:Int}{F:Fs}(hl:l.length<LB)(H:PY l e F)(i:Nat)(r:Im×Nat×Bool)(hi:i<=l.length)(hr:adP F l i=some r):GP 296 [.ptr 0 0] [pT l i e] l e [] imE i r:=by
 refine⟨Pl.at (akh H.fp hi) hr,?_⟩
 have p0:=pK l i e hl hi
 have hd:=aZ4 H.tl (i+1)
 have hs:=aRO H.tl (i+2)
 have hl1:(aK (bN l (i+1)).s=({data:=#[46]}:ByteArray))=((bN l (i+1)).s=[46]):=ct _ _
 have hl2:(aK (bN l (i+2)).s=({data:=#[42]}:ByteArray))=((bN l (i+2)).s=[42]):=ct _ _
 rcases eWX l i e [42] hl with _|_
 rotate_left
 rcases aeP l i e hl with _|_
 rcases cd ((bN l (i+1)).k=5) with d3|d3
 rcases cd ((bN l (i+1)).s=[46]) with d4|d4
 rcases cd ((bN l (i+2)).k=5) with d5|d5
 rcases cd ((bN l (i+2)).s=[42]) with d6|d6
 have hb:i+2<l.length:=by
  rcases aA (i+2) l.length with g|g
  .exact g
  .have cc:=of_eq_true d5;rw[ag8 g] at cc;cases cc
 have hw3:IntKind.i64.wrap ((i:Int)+3)=((i+3:Nat):Int):=by rw[eu _ aC (by unfold LB at hl;omega)];rfl
 have hw4:IntKind.i64.wrap (((i+3:Nat):Int)-3)=(i:Int):=by rw[eu _ aC (by unfold LB at hl;omega)];omega
 have gx:=ae3 (l:=l) (i:=i) aC
 rotate_left
 rcases eR (F.or i []) λ_=>H.or _ _ aC with _|⟨_,_,_⟩|⟨a7,j7,_⟩
 rotate_left 2
 rcases e8:eF l j7 with ⟨a8,j8,_|_⟩
 obtain⟨⟨u8,v8⟩,k8⟩:=(aa4 e hl _ _ aC (congrArg some e8)).okA
 rotate_left
 obtain⟨⟨u8,v8⟩,k8⟩:=(aa4 e hl _ _ aC (congrArg some e8)).badA
 rotate_left
 rcases eR (F.or i []) λ_=>H.or _ _ aC with _|⟨_,_,_⟩|⟨a9,j9,_⟩
 rotate_left 2
 rcases e10:eF l j9 with ⟨a10,j10,_|_⟩
 obtain⟨⟨u10,v10⟩,k10⟩:=(aa4 e hl _ _ aC (congrArg some e10)).okA
 rotate_left
 obtain⟨⟨u10,v10⟩,k10⟩:=(aa4 e hl _ _ aC (congrArg some e10)).badA
 rotate_left
 rcases eR (F.or i []) λ_=>H.or _ _ aC with _|⟨_,_,_⟩|⟨a11,j11,_⟩
 rotate_left 2
 rcases e12:eF l j11 with ⟨a12,j12,_|_⟩
 obtain⟨⟨u12,v12⟩,k12⟩:=(aa4 e hl _ _ aC (congrArg some e12)).okA
 rotate_left
 obtain⟨⟨u12,v12⟩,k12⟩:=(aa4 e hl _ _ aC (congrArg some e12)).badA
 rotate_left
 rcases eR (F.or i []) λ_=>H.or _ _ aC with _|⟨_,_,_⟩|⟨a13,j13,_⟩
 rotate_left 2
 rcases e14:eF l j13 with ⟨a14,j14,_|_⟩
 obtain⟨⟨u14,v14⟩,k14⟩:=(aa4 e hl _ _ aC (congrArg some e14)).okA
 rotate_left
 obtain⟨⟨u14,v14⟩,k14⟩:=(aa4 e hl _ _ aC (congrArg some e14)).badA
 rotate_left
 rcases eR (F.or i []) λ_=>H.or _ _ aC with _|⟨_,_,_⟩|⟨a15,j15,_⟩
 rotate_left 2
 rcases e16:eF l j15 with ⟨a16,j16,_|_⟩
 obtain⟨⟨u16,v16⟩,k16⟩:=(aa4 e hl _ _ aC (congrArg some e16)).okA
 rotate_left
 obtain⟨⟨u16,v16⟩,k16⟩:=(aa4 e hl _ _ aC (congrArg some e16)).badA
 rotate_left
 all_goals (simp only[adP,zRZ,sevalprocAttr,↓reduceIte, *] at hr <;> cases hr <;> (refine bB aPj ?_;simp only[Tryz.f296,↓zA,sevalprocAttr,a1y,bw,pT,zP,be,bF,aqw, *];all_goals exact fz))
def byR(l:List Tn)(i:Nat):Rz Od:=if bq l i 2||(bq l i 3&&decide (0<nuT l i)) then
  some (⟨if bq l i 2 then txT l i else [],if bq l i 2 then 0 else nuT l i,isT l (i+1) [100,101,115,99]⟩,(if isT l (i+1) [97,115,99]||isT l (i+1) [100,101,115,99] then i+2 else i+1),false)
 else some (⟨[],0,false⟩,i,true)
def a0E{l:List Tn}{i:Nat}(hi:i<=l.length):Pl l i (byR l i):=by
 unfold byR
 split
 .rename_i c
  have h1:i+1<=l.length:=by
   rw[bk,aj] at c
   rcases c with c|c
   .exact fh c
   .exact fh c.1
  have h2:i<=(if (isT l (i+1) [97,115,99]||isT l (i+1) [100,101,115,99])=true then i+2 else i+1)/\(if (isT l (i+1) [97,115,99]||isT l (i+1) [100,101,115,99])=true then i+2 else i+1)<=l.length:=by
   split
   .rename_i c2
    rw[bk] at c2
    rcases c2 with c2|c2
    .have:=dA c2;omega
    .have:=dA c2;omega
   .omega
  exact .so h2.1 h2.2
 .exact .so (ae _) hi
def a8w:=ai (gu @zq @a9z @a9y @aoY @akp @amX @akq) (gq @a0m @abO @ab9 @agB @zT0 (kf aY5))
def ao0{l:List Tn}(e:Int)(hl:l.length<LB)(TT0:TL l)(i:Nat)(r:Od×Nat×Bool)(hi:i<=l.length)(hr:byR l i=some r):GP 80 [.ptr 0 0] [pT l i e] l e [] odE i r:=by
 refine⟨Pl.at (a0E hi) hr,?_⟩
 have p0:=pK l i e hl hi
 have hn:0<=(bN l i).n:=by
  rcases aA i l.length with g|g
  .exact TT0.n _ (akI g)
  .rw[ag8 g];exact ahI _
 have pt:=avC (bN l i)
 rcases aMV l i e hl with _|_
 rcases eWQ l (i+1) e [97,115,99] hl with _|_
 rotate_left
 rcases eWQ l (i+1) e [100,101,115,99] hl with _|_
 rotate_left 2
 rcases aZ3 l i e hl with _|_
 have gk:=gK l i e hl hi
 rcases eP (0<(bN l i).n) with ⟨c5,d5⟩|⟨c5,d5⟩
 have hz:((bN l i).n=0)=False:=aF aC
 rcases eWQ l (i+1) e [97,115,99] hl with _|_
 rotate_left
 rcases eWQ l (i+1) e [100,101,115,99] hl with _|_
 rotate_left 2
 have hz:((bN l i).n=0)=True:=aa aC
 rotate_left 2
 all_goals (simp only[byR,axh,aD,bh,zRZ,sevalprocAttr,↓reduceIte, *] at hr <;> cases hr <;> (refine bB aY5 ?_;simp only[Tryz.f80,↓zA,sevalprocAttr,a8w,bw,pT,zP,be,axh, *];all_goals exact fz))
abbrev qyL(a:Qy):List C:=[ci a.op,cb a.al,slC qyC a.ks,cb a.di,slC imC a.its,slC fmC a.fr,slC xpC a.wh,slC xpC a.gr,slC xpC a.hv,slC odC a.od,ci a.li,ci a.sk]
abbrev qyV(a:Qy):List X:=[.of (ci a.op),.of (cb a.al),.of (slC qyC a.ks),.of (cb a.di),.of (slC imC a.its),.of (slC fmC a.fr),.of (slC xpC a.wh),.of (slC xpC a.gr),.of (slC xpC a.hv),.of (slC odC a.od),.of (ci a.li),.of (ci a.sk)]
abbrev qyZ:List X:=[.of (ci 0),.of (cb false),.nil,.of (cb false),.nil,.nil,.nil,.nil,.nil,.nil,.of (ci 0),.of (ci 0)]
abbrev a84(o:Int)(al:Bool)(cs:List C)(y:Qy):X:=.of (.agg [ci o,cb al,.sl (cs++qyL y) 2,cb false,.sl [] 0,.sl [] 0,.sl [] 0,.sl [] 0,.sl [] 0,.sl [] 0,ci (-1),ci 0])
def aCi:=ai (gq @Tryz.f77.eq_1 @zq @a9D @a9C @abO @ba3) (gq @aWL @acj @eo @fC @zT0 (kf aMG))
def ah3{l:List Tn}{e:Int}(hl:l.length<LB)(cl f:Nat)(hf:cl / 2=f)(hm:(cl % 2=0)=False)(ho:acW f=true)(hk:tkF f=false)(hc:d9 Tryz.prog f=true)(nx:Nat->List Qy->Rz Qy)
  (N:∀ i r,i<=l.length->nx i []=some r->GP f [.ptr 0 0] [pT l i e] l e [] qyE i r) (op:Int) (c1 c2 c3 c4 c5 c6 c7 c8 c9 c10 c11 c12:C) (i:Nat) (r:Qy×Nat×Bool) (hi:i<=l.length) (hr:nx (if isT l i [97,108,108]=true then i+1 else i) []=some r) :
  GP 77 [.ptr 0 0,.of (ci op),.agg [.of c1,.of c2,.of c3,.of c4,.of c5,.of c6,.of c7,.of c8,.of c9,.of c10,.of c11,.of c12],.clo cl [.ptr 0 0]] [pT l i e] l e [] (a84 op (isT l i [97,108,108]) [c1,c2,c3,c4,c5,c6,c7,c8,c9,c10,c11,c12]) i r:=by
 cases c:isT l i [97,108,108] with
 | true =>
  have hi1:=ft c
  have t:=wT l i e [97,108,108] hl c
  rw[c,au rfl] at hr
  have g:=N _ _ hi1 hr
  obtain⟨⟨u,v⟩,g2⟩:=g
  refine⟨⟨by omega,v⟩,?_⟩
  obtain⟨y,j,q⟩:=r
  refine bB aMG ?_
  cases q with
  | true =>
   have k:∀ K,cKp f [.ptr 0 0] [pT l (i+1) e] K↔K ⟨true,[aaq l j e],[pT l j e]⟩:=λK=>aH.k g2 K
   simp only[↓zA,sevalprocAttr,aCi,bw,zLX,pT,zP,hf,hm,ho,hk,hc,t,k]
   all_goals exact fz
  | false =>
   have k:∀ K,cKp f [.ptr 0 0] [pT l (i+1) e] K↔K ⟨false,[qyE y],[pT l j e]⟩:=λK=>aH.k g2 K
   simp only[↓zA,sevalprocAttr,aCi,bw,zLX,pT,zP,zBS,hf,hm,ho,hk,hc,t,k]
   all_goals exact fz
 | false =>
  have t:=wF l i e [97,108,108] hl hi c
  rw[c] at hr
  simp only[ah,av] at hr
  have g:=N _ _ hi hr
  obtain⟨⟨u,v⟩,g2⟩:=g
  refine⟨⟨u,v⟩,?_⟩
  obtain⟨y,j,q⟩:=r
  refine bB aMG ?_
  cases q with
  | true =>
   have k:∀ K,cKp f [.ptr 0 0] [pT l i e] K↔K ⟨true,[aaq l j e],[pT l j e]⟩:=λK=>aH.k g2 K
   simp only[↓zA,sevalprocAttr,aCi,bw,zLX,pT,zP,hf,hm,ho,hk,hc,t,k]
   all_goals exact fz
  | false =>
   have k:∀ K,cKp f [.ptr 0 0] [pT l i e] K↔K ⟨false,[qyE y],[pT l j e]⟩:=λK=>aH.k g2 K
   simp only[↓zA,sevalprocAttr,aCi,bw,zLX,pT,zP,zBS,hf,hm,ho,hk,hc,t,k]
   all_goals exact fz
def alZ(F:Fs)(l:List Tn)(i:Nat):Rz Qy:=wantR (bG l i [115,101,108,101,99,116]) y0 λj=>ai3 F l j
def aET{l:List Tn}{F:Fs}(H:FP l F){i:Nat}(hi:i<=l.length):Pl l i (alZ F l i):=.wR aC aC λ_=>.mono (aA7 H aC) aC
abbrev asp(di:Bool)(its:List Im):List X:=[.of (ci 1),.of (cb false),.nil,.of (cb di),.own (.cell 2 4) 138 12 (fl imC its) its.length,.nil,.nil,.nil,.nil,.nil,.of (ci (-1)),.of (ci 0)]
def amm(F:Fs)(l:List Tn)(di:Bool)(n:Nat)(its:List Im)(j:Nat):Rz Qy:=if isT l j [44] then afx F l di n its (j+1) else agT F l di its j
def aqL(F:Fs)(l:List Tn)(di:Bool)(n:Nat)(its:List Im)(i:Nat):afx F l di (n+1) its i=(adP F l i).on (λ_=>ah4 di its [] [] [] []) λx j=>amm F l di n (its++[x]) j:=rfl
def afV:=gj (gv @Tryz.f257.eq_1 @zq @a9s @aeo @abO @a9r @a6U @baZ) (gv @aSm @acj @aQ8 @akr @av1 @bF @eo @acb) (gu @er @eZ @agP @aci @bQ @zT0 (kf aoV))
def az8{l:List Tn}{e:Int}{F:Fs}(hl:l.length<LB)(H:PY l e F)(i:Nat)(r:Qy×Nat×Bool)(hi:i<=l.length)(c1:isT l i [115,101,108,101,99,116]=true)(c2:isT l (i+1) [100,105,115,116,105,110,99,116]=true)(hr:afx F l true (l.length+1) [] (i+2)=some r):aH Tryz.prog pr 257 [.ptr 0 0] [pT l i e] (bw l e qyE r []):=by
 have b1:=ft c1
 have t1:=wT l i e [115,101,108,101,99,116] hl c1
 have t2:=wT l (i+1) e [100,105,115,116,105,110,99,116] hl c2
 have b2:=ft c2
 rw[aqL] at hr
 cases e1:adP F l (i+2) with
 | none=>rw[e1] at hr;cases hr
 | some q =>
 obtain⟨a,j,q⟩:=q
 have g:=akY hl H _ _ aC e1
 obtain⟨u,v⟩:=g.1
 dsimp only at u v
 rw[e1] at hr
 cases q with
 | true =>
  have k:=g.bad
  cases hr
  refine bB aoV ?_
  simp only[↓zA,sevalprocAttr,afV,bw,pT,zP,be,t1,t2,k]
  all_goals exact fz
 | false =>
 have k:=g.ok
 simp only[Rz.on,ch] at hr
 refine bB aoV ?_
 simp only[↓zA,sevalprocAttr,afV,bw,pT,be,t1,t2,k,acb]
 refine fX _ _ (λn s=>∃ its j,s.fr 0=.ptr 0 0/\s.fr 2=.ptr 1 0/\s.fr 3=.ptr 2 0/\s.objs=[pT l j e,.var 38 qyZ,.var 38 (asp true its)]/\amm F l true n its j=some r/\j<=l.length/\its.length<=j) ?_ l.length _ ?_
 .rintro n ⟨frn,obn,ckn⟩ ⟨its,j,f0,f2,f3,fo,E,hj,hk⟩
  dsimp only at f0 f2 f3 fo
  have hL:its.length+1<=LIM:=by unfold LIM;unfold LB at hl;omega
  have hit:(its.length+1<=LIM)=True:=aa hL
  rcases eW l j e [44] hl with ⟨c1,b1,t1⟩|⟨c1,t1⟩
  .cases n with
   | zero=>simp only[amm,c1,am,afx] at E;cases E
   | succ m =>
   simp only[amm,c1,am,aqL] at E
   rcases eR (adP F l (j+1)) λ_=>akY hl H _ _ aC with e2|⟨a2,j2,e2,⟨u2,v2⟩,k2⟩|⟨a2,j2,e2,⟨u2,v2⟩,k2⟩
   rotate_left
   .simp only[zRZ,sevalprocAttr,e2] at E
    cases E
    simp only[↓zA,sevalprocAttr,afV,pT,zP,be,zLX,acb, *]
    all_goals exact fz
   .simp only[zRZ,sevalprocAttr,e2] at E
    simp only[↓zA,sevalprocAttr,afV,pT,zP,be,zLX,bF,er,acb,dV, *]
    refine⟨m,aO m,its++[a2],j2,?_,E,v2,by simp only[aey];omega⟩
    simp only[asp]
    simp only[zVW]
    all_goals rfl
   all_goals (simp only[agT,ahu,ahx,ahw,aav,zRZ,sevalprocAttr, *] at E <;> cases E)
  rcases eW l j e [102,114,111,109] hl with _|_
  rcases eR (F.fr (j+1) []) λ_=>H.fr _ _ aC with _|⟨_,_,_⟩|⟨a4,j4,_⟩
  rotate_left 2
  rcases eW l j4 e [119,104,101,114,101] hl with _|_
  rcases eR (F.or (j4+1) []) λ_=>H.or _ _ aC with _|⟨_,_,_⟩|⟨a6,j6,_⟩
  rotate_left 2
  rcases eW l j6 e [103,114,111,117,112] hl with _|_
  rcases eW l (j6+1) e [98,121] hl with _|_
  rcases eR (aaE F l (j6+2)) λ_=>acl hl H _ _ aC with _|⟨_,_,_⟩|⟨a9,j9,_⟩
  rotate_left 2
  rcases eW l j9 e [104,97,118,105,110,103] hl with _|_
  rcases eR (F.or (j9+1) []) λ_=>H.or _ _ aC with _|⟨_,_,_⟩|⟨a11,j11,_⟩
  rotate_left 5
  rcases eW l j6 e [104,97,118,105,110,103] hl with _|_
  rcases eR (F.or (j6+1) []) λ_=>H.or _ _ aC with _|⟨_,_,_⟩|⟨a13,j13,_⟩
  rotate_left 4
  rcases eW l j4 e [103,114,111,117,112] hl with _|_
  rcases eW l (j4+1) e [98,121] hl with _|_
  rcases eR (aaE F l (j4+2)) λ_=>acl hl H _ _ aC with _|⟨_,_,_⟩|⟨a16,j16,_⟩
  rotate_left 2
  rcases eW l j16 e [104,97,118,105,110,103] hl with _|_
  rcases eR (F.or (j16+1) []) λ_=>H.or _ _ aC with _|⟨_,_,_⟩|⟨a18,j18,_⟩
  rotate_left 5
  rcases eW l j4 e [104,97,118,105,110,103] hl with _|_
  rcases eR (F.or (j4+1) []) λ_=>H.or _ _ aC with _|⟨_,_,_⟩|⟨a20,j20,_⟩
  rotate_left 4
  rcases eW l j e [119,104,101,114,101] hl with _|_
  rcases eR (F.or (j+1) []) λ_=>H.or _ _ aC with _|⟨_,_,_⟩|⟨a22,j22,_⟩
  rotate_left 2
  rcases eW l j22 e [103,114,111,117,112] hl with _|_
  rcases eW l (j22+1) e [98,121] hl with _|_
  rcases eR (aaE F l (j22+2)) λ_=>acl hl H _ _ aC with _|⟨_,_,_⟩|⟨a25,j25,_⟩
  rotate_left 2
  rcases eW l j25 e [104,97,118,105,110,103] hl with _|_
  rcases eR (F.or (j25+1) []) λ_=>H.or _ _ aC with _|⟨_,_,_⟩|⟨a27,j27,_⟩
  rotate_left 5
  rcases eW l j22 e [104,97,118,105,110,103] hl with _|_
  rcases eR (F.or (j22+1) []) λ_=>H.or _ _ aC with _|⟨_,_,_⟩|⟨a29,j29,_⟩
  rotate_left 4
  rcases eW l j e [103,114,111,117,112] hl with _|_
  rcases eW l (j+1) e [98,121] hl with _|_
  rcases eR (aaE F l (j+2)) λ_=>acl hl H _ _ aC with _|⟨_,_,_⟩|⟨a32,j32,_⟩
  rotate_left 2
  rcases eW l j32 e [104,97,118,105,110,103] hl with _|_
  rcases eR (F.or (j32+1) []) λ_=>H.or _ _ aC with _|⟨_,_,_⟩|⟨a34,j34,_⟩
  rotate_left 5
  rcases eW l j e [104,97,118,105,110,103] hl with _|_
  rcases eR (F.or (j+1) []) λ_=>H.or _ _ aC with _|⟨_,_,_⟩|⟨a36,j36,_⟩
  rotate_left 4
  all_goals (simp only[amm,agT,ahu,ahx,ahw,aav,zRZ,sevalprocAttr,↓reduceIte, *] at E <;> cases E <;> (simp only[↓zA,sevalprocAttr,afV,pT,zP,be,zLX,bF,er, *];all_goals exact fz))
 .simp only[↓zA,sevalprocAttr,afV,pT]
  refine⟨[a],j,?_,hr,v,by simp only[abf];omega⟩
  simp only[asp]
  simp only[zVW]
  all_goals rfl
def ayo{l:List Tn}{e:Int}{F:Fs}(hl:l.length<LB)(H:PY l e F)(i:Nat)(r:Qy×Nat×Bool)(hi:i<=l.length)(c1:isT l i [115,101,108,101,99,116]=true)(c2:isT l (i+1) [100,105,115,116,105,110,99,116]=false)(hr:afx F l false (l.length+1) [] (i+1)=some r):aH Tryz.prog pr 257 [.ptr 0 0] [pT l i e] (bw l e qyE r []):=by
 have b1:=ft c1
 have t1:=wT l i e [115,101,108,101,99,116] hl c1
 have t2:=wF l (i+1) e [100,105,115,116,105,110,99,116] hl aC c2
 rw[aqL] at hr
 cases e1:adP F l (i+1) with
 | none=>rw[e1] at hr;cases hr
 | some q =>
 obtain⟨a,j,q⟩:=q
 have g:=akY hl H _ _ aC e1
 obtain⟨u,v⟩:=g.1
 dsimp only at u v
 rw[e1] at hr
 cases q with
 | true =>
  have k:=g.bad
  cases hr
  refine bB aoV ?_
  simp only[↓zA,sevalprocAttr,afV,bw,pT,zP,be,t1,t2,k]
  all_goals exact fz
 | false =>
 have k:=g.ok
 simp only[Rz.on,ch] at hr
 refine bB aoV ?_
 simp only[↓zA,sevalprocAttr,afV,bw,pT,be,t1,t2,k,acb]
 refine fX _ _ (λn s=>∃ its j,s.fr 0=.ptr 0 0/\s.fr 2=.ptr 1 0/\s.fr 3=.ptr 2 0/\s.objs=[pT l j e,.var 38 qyZ,.var 38 (asp false its)]/\amm F l false n its j=some r/\j<=l.length/\its.length<=j) ?_ l.length _ ?_
 .rintro n ⟨frn,obn,ckn⟩ ⟨its,j,f0,f2,f3,fo,E,hj,hk⟩
  dsimp only at f0 f2 f3 fo
  have hL:its.length+1<=LIM:=by unfold LIM;unfold LB at hl;omega
  have hit:(its.length+1<=LIM)=True:=aa hL
  rcases eW l j e [44] hl with ⟨c1,b1,t1⟩|⟨c1,t1⟩
  .cases n with
   | zero=>simp only[amm,c1,am,afx] at E;cases E
   | succ m =>
   simp only[amm,c1,am,aqL] at E
   rcases eR (adP F l (j+1)) λ_=>akY hl H _ _ aC with e2|⟨a2,j2,e2,⟨u2,v2⟩,k2⟩|⟨a2,j2,e2,⟨u2,v2⟩,k2⟩
   rotate_left
   .simp only[zRZ,sevalprocAttr,e2] at E
    cases E
    simp only[↓zA,sevalprocAttr,afV,pT,zP,be,zLX,acb, *]
    all_goals exact fz
   .simp only[zRZ,sevalprocAttr,e2] at E
    simp only[↓zA,sevalprocAttr,afV,pT,zP,be,zLX,bF,er,acb,dV, *]
    refine⟨m,aO m,its++[a2],j2,?_,E,v2,by simp only[aey];omega⟩
    simp only[asp]
    simp only[zVW]
    all_goals rfl
   all_goals (simp only[agT,ahu,ahx,ahw,aav,zRZ,sevalprocAttr, *] at E <;> cases E)
  rcases eW l j e [102,114,111,109] hl with _|_
  rcases eR (F.fr (j+1) []) λ_=>H.fr _ _ aC with _|⟨_,_,_⟩|⟨a4,j4,_⟩
  rotate_left 2
  rcases eW l j4 e [119,104,101,114,101] hl with _|_
  rcases eR (F.or (j4+1) []) λ_=>H.or _ _ aC with _|⟨_,_,_⟩|⟨a6,j6,_⟩
  rotate_left 2
  rcases eW l j6 e [103,114,111,117,112] hl with _|_
  rcases eW l (j6+1) e [98,121] hl with _|_
  rcases eR (aaE F l (j6+2)) λ_=>acl hl H _ _ aC with _|⟨_,_,_⟩|⟨a9,j9,_⟩
  rotate_left 2
  rcases eW l j9 e [104,97,118,105,110,103] hl with _|_
  rcases eR (F.or (j9+1) []) λ_=>H.or _ _ aC with _|⟨_,_,_⟩|⟨a11,j11,_⟩
  rotate_left 5
  rcases eW l j6 e [104,97,118,105,110,103] hl with _|_
  rcases eR (F.or (j6+1) []) λ_=>H.or _ _ aC with _|⟨_,_,_⟩|⟨a13,j13,_⟩
  rotate_left 4
  rcases eW l j4 e [103,114,111,117,112] hl with _|_
  rcases eW l (j4+1) e [98,121] hl with _|_
  rcases eR (aaE F l (j4+2)) λ_=>acl hl H _ _ aC with _|⟨_,_,_⟩|⟨a16,j16,_⟩
  rotate_left 2
  rcases eW l j16 e [104,97,118,105,110,103] hl with _|_
  rcases eR (F.or (j16+1) []) λ_=>H.or _ _ aC with _|⟨_,_,_⟩|⟨a18,j18,_⟩
  rotate_left 5
  rcases eW l j4 e [104,97,118,105,110,103] hl with _|_
  rcases eR (F.or (j4+1) []) λ_=>H.or _ _ aC with _|⟨_,_,_⟩|⟨a20,j20,_⟩
  rotate_left 4
  rcases eW l j e [119,104,101,114,101] hl with _|_
  rcases eR (F.or (j+1) []) λ_=>H.or _ _ aC with _|⟨_,_,_⟩|⟨a22,j22,_⟩
  rotate_left 2
  rcases eW l j22 e [103,114,111,117,112] hl with _|_
  rcases eW l (j22+1) e [98,121] hl with _|_
  rcases eR (aaE F l (j22+2)) λ_=>acl hl H _ _ aC with _|⟨_,_,_⟩|⟨a25,j25,_⟩
  rotate_left 2
  rcases eW l j25 e [104,97,118,105,110,103] hl with _|_
  rcases eR (F.or (j25+1) []) λ_=>H.or _ _ aC with _|⟨_,_,_⟩|⟨a27,j27,_⟩
  rotate_left 5
  rcases eW l j22 e [104,97,118,105,110,103] hl with _|_
  rcases eR (F.or (j22+1) []) λ_=>H.or _ _ aC with _|⟨_,_,_⟩|⟨a29,j29,_⟩
  rotate_left 4
  rcases eW l j e [103,114,111,117,112] hl with _|_
  rcases eW l (j+1) e [98,121] hl with _|_
  rcases eR (aaE F l (j+2)) λ_=>acl hl H _ _ aC with _|⟨_,_,_⟩|⟨a32,j32,_⟩
  rotate_left 2
  rcases eW l j32 e [104,97,118,105,110,103] hl with _|_
  rcases eR (F.or (j32+1) []) λ_=>H.or _ _ aC with _|⟨_,_,_⟩|⟨a34,j34,_⟩
  rotate_left 5
  rcases eW l j e [104,97,118,105,110,103] hl with _|_
  rcases eR (F.or (j+1) []) λ_=>H.or _ _ aC with _|⟨_,_,_⟩|⟨a36,j36,_⟩
  rotate_left 4
  all_goals (simp only[amm,agT,ahu,ahx,ahw,aav,zRZ,sevalprocAttr,↓reduceIte, *] at E <;> cases E <;> (simp only[↓zA,sevalprocAttr,afV,pT,zP,be,zLX,bF,er, *];all_goals exact fz))
 .simp only[↓zA,sevalprocAttr,afV,pT]
  refine⟨[a],j,?_,hr,v,by simp only[abf];omega⟩
  simp only[asp]
  simp only[zVW]
  all_goals rfl
def az9{l:List Tn}{e:Int}{F:Fs}(hl:l.length<LB)(H:PY l e F)(i:Nat)(r:Qy×Nat×Bool)(hi:i<=l.length)(hr:alZ F l i=some r):GP 257 [.ptr 0 0] [pT l i e] l e [] qyE i r:=by
 refine⟨Pl.at (aET H.fp hi) hr,?_⟩
 unfold alZ bG at hr
 cases c1:isT l i [115,101,108,101,99,116] with
 | false =>
  have t1:=wF l i e [115,101,108,101,99,116] hl hi c1
  rw[c1] at hr
  cases hr
  refine bB aoV ?_
  simp only[↓zA,sevalprocAttr,afV,bw,pT,zP,t1]
  all_goals exact fz
 | true =>
  rw[c1] at hr
  simp only[am,wantR,ai3] at hr
  cases c2:isT l (i+1) [100,105,115,116,105,110,99,116] with
  | true =>
   rw[c2] at hr
   exact az8 hl H i r hi c1 c2 hr
  | false =>
   rw[c2] at hr
   exact ayo hl H i r hi c1 c2 hr
def aGX(F:Fs)(l:List Tn)(i:Nat):acd F l i []=if isT l i [40] then (F.qy (i+1) []).on id (λq j=>wantE (bG l j [41]) q) else alZ F l i:=rfl
def anE{l:List Tn}{e:Int}{F:Fs}(hl:l.length<LB)(H:PY l e F)(i:Nat)(r:Qy×Nat×Bool)(hi:i<=l.length)(hr:acd F l i []=some r):GP 172 [.ptr 0 0] [pT l i e] l e [] qyE i r:=by
 refine⟨Pl.at (apO H.fp hi) hr,?_⟩
 rcases eW l i e [40] hl with _|_
 rcases eR (F.qy (i+1) []) λ_=>H.qy _ _ aC with _|⟨_,_,_⟩|⟨a2,j2,_⟩
 rotate_left 2
 rcases eW l j2 e [41] hl with _|_
 rotate_left 2
 rcases eR (alZ F l i) λ_=>az9 hl H _ _ aC with _|⟨_,_,_⟩|⟨a4,j4,_⟩
 rotate_left 3
 all_goals (simp only[aGX,zRZ,sevalprocAttr,↓reduceIte, *] at hr <;> cases hr <;> (refine bB aEu ?_;simp only[Tryz.f172,↓zA,sevalprocAttr,aN8,bw,pT,zP,be, *];all_goals exact fz))
def aDi{l:List Tn}{e:Int}{F:Fs}(i:Nat)(x:Qy)(cs:List C)(hx:cs=qyC x)(r:Qy×Nat×Bool)(hi:i<=l.length)(hr:acd F l i [x]=some r):GP 172 [.ptr 0 0] [pTq l i e,.row 38 cs] l e deQ qyE i r:=by
 cases hr
 subst hx
 exact⟨⟨ae _,hi⟩,aKU l i e x⟩
def ai1:=ai (gp @Tryz.f74.eq_1 @zq @a9x @a7Q @a9w) (gp @abO @a0n @eo @zT0 (kf axY))
def ahL{l:List Tn}{e:Int}{F:Fs}(hl:l.length<LB)(H:PY l e F)(i:Nat)(r:Qy×Nat×Bool)(hi:i<=l.length)(hr:aam F l i []=some r):GP 74 [.ptr 0 0] [pT l i e] l e [] qyE i r:=by
 refine⟨Pl.at (akZ H.fp hi) hr,?_⟩
 unfold aam ahs at hr
 cases e1:acd F l i [] with
 | none=>rw[e1] at hr;cases hr
 | some q =>
 obtain⟨a,j,q⟩:=q
 have g:=anE hl H i _ hi e1
 obtain⟨u,v⟩:=g.1
 dsimp only at u v
 rw[e1] at hr
 cases q with
 | true =>
  have k:=g.bad
  cases hr
  refine bB axY ?_
  simp only[↓zA,sevalprocAttr,ai1,bw,pT,zP,k]
  all_goals exact fz
 | false =>
 have k:=g.ok
 simp only[Rz.on] at hr
 refine bB axY ?_
 simp only[↓zA,sevalprocAttr,ai1,bw,pT,k]
 refine fX _ _ (λn s=>∃ q j,s.fr 0=.ptr 0 0/\s.fr 2=.ptr 1 0/\s.fr 3=.ptr 2 0/\s.objs=[pT l j e,.var 38 qyZ,.var 38 (qyV q)]/\acU (acd F l) l [([105,110,116,101,114,115,101,99,116],3)] n q j=some r/\j<=l.length) ?_ (l.length+1) _ ?_
 .rintro n ⟨frn,obn,ckn⟩ ⟨q,j,f0,f2,f3,fo,E,hj⟩
  dsimp only at f0 f2 f3 fo
  cases n with
  | zero=>simp only[acU] at E;cases E
  | succ n =>
  simp only[acU,opT] at E
  cases c:isT l j [105,110,116,101,114,115,101,99,116] with
  | false =>
   have t:=wF l j e [105,110,116,101,114,115,101,99,116] hl hj c
   rw[c] at E
   simp only[ah,av] at E
   cases E
   simp only[↓zA,sevalprocAttr,ai1,pT,zP,f0,f2,f3,fo,t]
   all_goals exact fz
  | true =>
   have hj1:=ft c
   have t:=wT l j e [105,110,116,101,114,115,101,99,116] hl c
   rw[c] at E
   simp only[am] at E
   cases e2:acd F l (if isT l (j+1) [97,108,108]=true then j+2 else j+1) [] with
   | none=>rw[e2] at E;cases E
   | some r2 =>
   have g2:=ah3 (e:=e) hl 345 172 aI (aF aI) aHc aOo aBY (acd F l) (λi r h1 h2=>anE hl H i r h1 h2) 3 (ci q.op) (cb q.al) (slC qyC q.ks) (cb q.di) (slC imC q.its) (slC fmC q.fr) (slC xpC q.wh) (slC xpC q.gr) (slC xpC q.hv) (slC odC q.od) (ci q.li) (ci q.sk) (j+1) r2 aC e2
   obtain⟨y,j2,q2⟩:=r2
   obtain⟨u2,v2⟩:=g2.1
   dsimp only at u2 v2
   rw[e2] at E
   cases q2 with
   | true =>
    have k2:=g2.bad
    cases E
    simp only[↓zA,sevalprocAttr,ai1,pT,zP,f0,f3,fo,t,k2]
    all_goals exact fz
   | false =>
    have k2:=g2.ok
    simp only[Rz.on] at E
    simp only[↓zA,sevalprocAttr,ai1,pT,f0,f2,f3,fo,t,k2]
    refine⟨n,aO n,_,j2,?_,E,v2⟩
    simp only[qyV,qyL]
    simp only[zVW]
    all_goals rfl
 .simp only[↓zA,sevalprocAttr,ai1,pT]
  exact⟨a,j,rfl,hr,v⟩
def azS{l:List Tn}{e:Int}{F:Fs}(hl:l.length<LB)(H:PY l e F)(i:Nat)(x:Qy)(cs:List C)(hx:cs=qyC x)(r:Qy×Nat×Bool)(hi:i<=l.length)(hr:aam F l i [x]=some r):GP 74 [.ptr 0 0] [pTq l i e,.row 38 cs] l e deQ qyE i r:=by
 refine⟨Pl.at (akZ H.fp hi) hr,?_⟩
 unfold aam ahs at hr
 have lv:ac5 (some (.row 38 cs))=true:=by rw[hx,adK];rfl
 cases e1:acd F l i [x] with
 | none=>rw[e1] at hr;cases hr
 | some q =>
 obtain⟨a,j,q⟩:=q
 have g:=aDi (e:=e) (F:=F) i x cs hx _ hi e1
 obtain⟨u,v⟩:=g.1
 dsimp only at u v
 rw[e1] at hr
 cases q with
 | true =>
  have k:=g.bad
  cases hr
  refine bB axY ?_
  simp only[↓zA,sevalprocAttr,ai1,bw,pT,pTq,zP,k,lv]
  all_goals exact fz
 | false =>
 have k:=g.ok
 simp only[Rz.on] at hr
 refine bB axY ?_
 simp only[↓zA,sevalprocAttr,ai1,bw,pT,pTq,k,lv]
 refine fX _ _ (λn s=>∃ q j,s.fr 0=.ptr 0 0/\s.fr 2=.ptr 2 0/\s.fr 3=.ptr 3 0/\s.objs=[pT l j e,.row 38 [],.var 38 qyZ,.var 38 (qyV q)]/\acU (acd F l) l [([105,110,116,101,114,115,101,99,116],3)] n q j=some r/\j<=l.length) ?_ (l.length+1) _ ?_
 .rintro n ⟨frn,obn,ckn⟩ ⟨q,j,f0,f2,f3,fo,E,hj⟩
  dsimp only at f0 f2 f3 fo
  cases n with
  | zero=>simp only[acU] at E;cases E
  | succ n =>
  simp only[acU,opT] at E
  cases c:isT l j [105,110,116,101,114,115,101,99,116] with
  | false =>
   have t:=wF l j e [105,110,116,101,114,115,101,99,116] hl hj c
   rw[c] at E
   simp only[ah,av] at E
   cases E
   simp only[↓zA,sevalprocAttr,ai1,pT,zP,f0,f2,f3,fo,t]
   all_goals exact fz
  | true =>
   have hj1:=ft c
   have t:=wT l j e [105,110,116,101,114,115,101,99,116] hl c
   rw[c] at E
   simp only[am] at E
   cases e2:acd F l (if isT l (j+1) [97,108,108]=true then j+2 else j+1) [] with
   | none=>rw[e2] at E;cases E
   | some r2 =>
   have g2:=ah3 (e:=e) hl 345 172 aI (aF aI) aHc aOo aBY (acd F l) (λi r h1 h2=>anE hl H i r h1 h2) 3 (ci q.op) (cb q.al) (slC qyC q.ks) (cb q.di) (slC imC q.its) (slC fmC q.fr) (slC xpC q.wh) (slC xpC q.gr) (slC xpC q.hv) (slC odC q.od) (ci q.li) (ci q.sk) (j+1) r2 aC e2
   obtain⟨y,j2,q2⟩:=r2
   obtain⟨u2,v2⟩:=g2.1
   dsimp only at u2 v2
   rw[e2] at E
   cases q2 with
   | true =>
    have k2:=g2.bad
    cases E
    simp only[↓zA,sevalprocAttr,ai1,pT,zP,f0,f3,fo,t,k2]
    all_goals exact fz
   | false =>
    have k2:=g2.ok
    simp only[Rz.on] at E
    simp only[↓zA,sevalprocAttr,ai1,pT,f0,f2,f3,fo,t,k2]
    refine⟨n,aO n,_,j2,?_,E,v2⟩
    simp only[qyV,qyL]
    simp only[zVW]
    all_goals rfl
 .simp only[↓zA,sevalprocAttr,ai1,pT]
  exact⟨a,j,rfl,hr,v⟩

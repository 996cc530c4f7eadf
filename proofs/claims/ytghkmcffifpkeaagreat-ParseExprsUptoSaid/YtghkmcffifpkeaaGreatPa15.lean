/- A part. Conditions: none. -/
import Derived.Test.YtghkmcffifpkeaaGreatPa14
set_option linter.all false
set_option maxRecDepth 100000
set_option maxHeartbeats 64000000
namespace Go.Proofs.YtghkmcffifpkeaaGreat
open Pe Tab
def anH(F:Fs)(l:List Tn)(i:Nat)(pre:List Xp):Rz Xp:=(aaL F l i pre).on id λa j=>acU F l j a
def aAx{l:List Tn}{F:Fs}(H:FP l F){p:List Xp}{i:Nat}(hi:i<=l.length):Pl l i (anH F l i p):=.on (af6 H hi) (am _) λ_ _ _ h=>.mono (asw H h) aC
def aRi(F:Fs)(l:List Tn)(i:Nat):adL F l i []=if isT l i [110,111,116] then (F.no (i+1)).to (λa=>eF 4 [a]) else anH F l i []:=by
 unfold adL
 rw[show decide (([]:List Xp)=[])=true from by simp,bR]
 rfl
def aRh(F:Fs)(l:List Tn)(i:Nat)(x:Xp):adL F l i [x]=anH F l i [x]:=by
 unfold adL
 rw[show decide (([x]:List Xp)=[])=false from by simp,cm]
 rfl
abbrev xpL(a:Xp):List C:=[ci a.op,ci a.v.k,ci a.v.n,aJ a.v.s,aJ (aM a.tb),aJ (aM a.nm),cb a.di,slC xpC a.ks,slC qyC a.sb]
def anG:List (List UInt8):=[[61],[60,62],[60],[60,61],[62],[62,61]]
def aRE(tk:Tk)(e z:Nat)(l:List (List UInt8))(n:Nat)(hn:n=l.length)(i:Int):cn tP 43 (.own tk e z (fl cM l) n) (.of (.lit (.int .i64 i)))=cn tP 43 (.of (slC cM l)) (.of (.lit (.int .i64 i))):=by
 subst hn
 rw[afH E43 _ _ i _ rfl,afH E43 _ _ i _ rfl]
def ajy(tk:Tk)(e z:Nat)(i:Int):cn tP 43 (.own tk e z (fl cM anG) 6) (.of (.lit (.int .i64 i)))=cn tP 43 (.of (slC cM anG)) (.of (.lit (.int .i64 i))):=aRE tk e z anG 6 rfl i
def aAw(k:Nat)(h:k<6):∃ w,anG[k]?=some w/\aec.drop k=(w,11+(k:Int))::aec.drop (k+1):=by
 rcases k with _|_|_|_|_|_|k
 .exact⟨_,rfl,rfl⟩
 .exact⟨_,rfl,rfl⟩
 .exact⟨_,rfl,rfl⟩
 .exact⟨_,rfl,rfl⟩
 .exact⟨_,rfl,rfl⟩
 .exact⟨_,rfl,rfl⟩
 .omega
def aaC:=hZ @Tryz.f246.eq_1 @zq @aZ @cX @cO @Q9 @zT0 (kf arh)
def aJJ{l:List Tn}{e:Int}{F:Fs}(hl:l.length<LB)(H:PY l e F)(i:Nat)(r:Xp×Nat×Bool)(hi:i<=l.length)(hr:anH F l i []=some r):GP 246 [.ptr 0 0] [pT l i e] l e [] xpE i r:=by
 refine⟨Pl.at (aAx H.fp hi) hr,?_⟩
 unfold anH at hr
 cases e1:aaL F l i [] with
 | none=>rw[e1] at hr;cases hr
 | some q =>
 obtain⟨a,j,q⟩:=q
 have g:=aih hl H i _ hi e1
 obtain⟨u,v⟩:=g.1
 dsimp only at u v
 rw[e1] at hr
 cases q with
 | true =>
  have k:=g.bad
  cases hr
  refine bB arh ?_
  simp only[↓zA,sevalprocAttr,aaC,bW,pT,zP,k]
  all_goals exact fz
 | false =>
 have k:=g.ok
 simp only[Rz.on] at hr
 refine bB arh ?_
 simp only[↓zA,sevalprocAttr,aaC,bW,pT,zBS,k]
 refine ew 6 (λk s=>s.fr 0=.ptr 0 0/\s.fr 2=.ptr 1 0/\s.fr 3=.of (.ref (xpL a))/\(∃ c x i,s.fr 12=.own (.nm c x i) 9 1 (fl cM anG) 6)/\s.fr 13=.of (.lit (.int .i64 6))/\s.fr 14=au k/\s.objs=[pT l j e,.var 28 xpZ]/\opT l j aec=opT l j (aec.drop k)) ?_ ?_
 .and_intros
  all_goals (simp only[↓zA,sevalprocAttr,aaC,pT];try exact⟨_,_,_,rfl⟩)
 rintro k' ⟨frk,obk,ckk⟩ hk ⟨f0,f2,f3,⟨tc,tx,ti,f12⟩,f13,f14,fo,E⟩
 dsimp only at f0 f2 f3 f12 f13 f14 fo
 rcases av k' 6 with dk|dk
 .have hw:=aW k' aC
  have dk6:((k':Int)<6)=True:=aa aC
  obtain⟨w,gw,gd⟩:=aAw k' dk
  have gx:aaJ anG (k':Int)=some w:=by rw[apR];exact gw
  have hw2:IntKind.i64.wrap (11+(k':Int))=11+(k':Int):=cj _ aC aC
  rw[gd] at E
  simp only[opT] at E
  cases c:isT l j w with
  | false =>
   have kt:=λK=>aF.k (adU l j e w hl v) K
   rw[c] at E kt
   simp only[ab,ap] at E kt
   simp only[↓zA,sevalprocAttr,aaC,pT,ajy,f0,f2,f3,f12,f13,f14,fo,dk6,gx,hw,kt]
   exact⟨dk,⟨_,_,_,rfl⟩,E⟩
  | true =>
   have hj1:=fe c
   have kt:=λK=>aF.k (adU l j e w hl v) K
   rw[c,aE rfl] at E kt
   unfold acU at hr
   rw[E] at hr
   simp only at hr
   cases e2:aaL F l (j+1) [] with
   | none=>rw[e2] at hr;cases hr
   | some q =>
    obtain⟨y,m,q⟩:=q
    have g2:=aih hl H (j+1) _ hj1 e2
    rw[e2] at hr
    cases hr
    cases q with
    | true =>
     have k2:=g2.bad
     simp only[↓zA,sevalprocAttr,aaC,zLX,pT,zP,ajy,f0,f3,f12,f13,f14,fo,dk6,gx,hw2,kt,k2]
     all_goals exact fz
    | false =>
     have k2:=g2.ok
     simp only[↓zA,sevalprocAttr,aaC,zLX,pT,zP,zBS,ajy,f0,f2,f3,f12,f13,f14,fo,dk6,gx,hw2,kt,k2]
     all_goals exact fz
 have ek:k'=6:=by omega
 subst ek
 rw[show aec.drop 6=[] from rfl] at E
 simp only[opT] at E
 rcases eWX l j e [105,115] hl with ⟨c1,b1,t1,x1⟩|⟨c1,t1⟩
 rcases eWX l (j+1) e [110,111,116] hl with _|_
 rcases eWX l (j+2) e [110,117,108,108] hl with _|_
 rotate_left 2
 rcases eWX l (j+1) e [110,117,108,108] hl with _|_
 rotate_left 2
 rcases eWX l j e [110,111,116] hl with ⟨c5,b5,t5,x5⟩|⟨c5,t5⟩
 .have z6:=aB4 l (j) e [110,111,116] [108,105,107,101] [98,101,116,119,101,101,110] [105,110] hl aC (b:=true) (by simp only[bF,c5,x5,uL,sevalprocAttr,cY,aH])
  have y7:ac1 F l true (j+1) a=some r:=by simp only[acU,zRZ,sevalprocAttr,↓reduceIte,E,c1,c5] at hr;exact hr
  obtain⟨b7,y7a,y7b⟩:=aeB y7 (.inl rfl)
  have g7:=aey hl H a _ _ aC y7a
  obtain⟨ra,rj,rq⟩:=r
  dsimp only at g7 y7b
  cases rq with
  | true =>
   have k7:=g7.bad
   simp only[↓zA,sevalprocAttr,aaC,pT,zP,zBS,aQ,zLX, *]
   all_goals exact fz
  | false =>
   have k7:=g7.ok
   have e7:=y7b rfl
   subst e7
   clear y7b
   simp only[↓zA,sevalprocAttr,aaC,pT,zP,zBS,aQ,zLX,ag1, *]
   all_goals exact fz
 rcases eWX l j e [108,105,107,101] hl with ⟨c8,b8,t8,x8⟩|⟨c8,t8⟩
 .have z9:=aB4 l (j) e [110,111,116] [108,105,107,101] [98,101,116,119,101,101,110] [105,110] hl aC (b:=true) (by simp only[bF,c5,c8,x8,uL,sevalprocAttr,cY,aH,aY])
  have y10:ac1 F l false (j) a=some r:=by simp only[acU,zRZ,sevalprocAttr,↓reduceIte,E,c1,c5] at hr;exact hr
  obtain⟨b10,y10a,y10b⟩:=aeB y10 (.inr (by simp only[bF,c8,x8,uL,sevalprocAttr,cY,aH]))
  have g10:=aey hl H a _ _ aC y10a
  obtain⟨ra,rj,rq⟩:=r
  dsimp only at g10 y10b
  cases rq with
  | true =>
   have k10:=g10.bad
   simp only[↓zA,sevalprocAttr,aaC,pT,zP,zBS,aQ,zLX, *]
   all_goals exact fz
  | false =>
   have k10:=g10.ok
   have e10:=y10b rfl
   subst e10
   clear y10b
   simp only[↓zA,sevalprocAttr,aaC,pT,zP,zBS,aQ,zLX,ag1, *]
   all_goals exact fz
 rcases eWX l j e [98,101,116,119,101,101,110] hl with ⟨c11,b11,t11,x11⟩|⟨c11,t11⟩
 .have z12:=aB4 l (j) e [110,111,116] [108,105,107,101] [98,101,116,119,101,101,110] [105,110] hl aC (b:=true) (by simp only[bF,c5,c8,c11,x11,uL,sevalprocAttr,cY,aH,aY])
  have y13:ac1 F l false (j) a=some r:=by simp only[acU,zRZ,sevalprocAttr,↓reduceIte,E,c1,c5] at hr;exact hr
  obtain⟨b13,y13a,y13b⟩:=aeB y13 (.inr (by simp only[bF,c8,c11,x11,uL,sevalprocAttr,cY,aH,aY]))
  have g13:=aey hl H a _ _ aC y13a
  obtain⟨ra,rj,rq⟩:=r
  dsimp only at g13 y13b
  cases rq with
  | true =>
   have k13:=g13.bad
   simp only[↓zA,sevalprocAttr,aaC,pT,zP,zBS,aQ,zLX, *]
   all_goals exact fz
  | false =>
   have k13:=g13.ok
   have e13:=y13b rfl
   subst e13
   clear y13b
   simp only[↓zA,sevalprocAttr,aaC,pT,zP,zBS,aQ,zLX,ag1, *]
   all_goals exact fz
 rcases eWX l j e [105,110] hl with ⟨c14,b14,t14,x14⟩|⟨c14,t14⟩
 .have z15:=aB4 l (j) e [110,111,116] [108,105,107,101] [98,101,116,119,101,101,110] [105,110] hl aC (b:=true) (by simp only[bF,c5,c8,c11,c14,sevalprocAttr,aH,aY])
  have y16:ac1 F l false (j) a=some r:=by simp only[acU,zRZ,sevalprocAttr,↓reduceIte,E,c1,c5] at hr;exact hr
  obtain⟨b16,y16a,y16b⟩:=aeB y16 (.inr (by simp only[bF,c8,c11,c14,sevalprocAttr,aH,aY]))
  have g16:=aey hl H a _ _ aC y16a
  obtain⟨ra,rj,rq⟩:=r
  dsimp only at g16 y16b
  cases rq with
  | true =>
   have k16:=g16.bad
   simp only[↓zA,sevalprocAttr,aaC,pT,zP,zBS,aQ,zLX, *]
   all_goals exact fz
  | false =>
   have k16:=g16.ok
   have e16:=y16b rfl
   subst e16
   clear y16b
   simp only[↓zA,sevalprocAttr,aaC,pT,zP,zBS,aQ,zLX,ag1, *]
   all_goals exact fz
 have z17:=aB4 l (j) e [110,111,116] [108,105,107,101] [98,101,116,119,101,101,110] [105,110] hl aC (b:=false) (by simp only[bF,c5,c8,c11,c14,sevalprocAttr,aH])
 rotate_left
 all_goals (simp only[acU,isS,zRZ,sevalprocAttr,↓reduceIte,ac1, *] at hr <;> cases hr <;> (simp only[↓zA,sevalprocAttr,aaC,pT,zP,zBS,aQ,zLX,awz,awA, *];all_goals exact fz))
def aF2{l:List Tn}{e:Int}{F:Fs}(hl:l.length<LB)(H:PY l e F)(i:Nat)(x:Xp)(cs:List C)(hx:cs=xpC x)(r:Xp×Nat×Bool)(hi:i<=l.length)(hr:anH F l i [x]=some r):GP 246 [.ptr 0 0] [pTe l i e,.row 28 cs] l e deE xpE i r:=by
 refine⟨Pl.at (aAx H.fp hi) hr,?_⟩
 unfold anH at hr
 cases e1:aaL F l i [x] with
 | none=>rw[e1] at hr;cases hr
 | some q =>
 obtain⟨a,j,q⟩:=q
 have g:=aF8 hl H i x cs hx _ hi e1
 obtain⟨u,v⟩:=g.1
 dsimp only at u v
 rw[e1] at hr
 have lv:aej (some (.row 28 cs))=true:=by rw[hx,ch];rfl
 cases q with
 | true =>
  have k:=g.bad
  cases hr
  refine bB arh ?_
  simp only[↓zA,sevalprocAttr,aaC,bW,pT,pTe,zP,k,lv]
  all_goals exact fz
 | false =>
 have k:=g.ok
 simp only[Rz.on] at hr
 refine bB arh ?_
 simp only[↓zA,sevalprocAttr,aaC,bW,pT,pTe,zBS,k,lv]
 refine ew 6 (λk s=>s.fr 0=.ptr 0 0/\s.fr 2=.ptr 2 0/\s.fr 3=.of (.ref (xpL a))/\(∃ c x i,s.fr 12=.own (.nm c x i) 9 1 (fl cM anG) 6)/\s.fr 13=.of (.lit (.int .i64 6))/\s.fr 14=au k/\s.objs=[pT l j e,.row 28 [],.var 28 xpZ]/\opT l j aec=opT l j (aec.drop k)) ?_ ?_
 .and_intros
  all_goals (simp only[↓zA,sevalprocAttr,aaC,pT];try exact⟨_,_,_,rfl⟩)
 rintro k' ⟨frk,obk,ckk⟩ hk ⟨f0,f2,f3,⟨tc,tx,ti,f12⟩,f13,f14,fo,E⟩
 dsimp only at f0 f2 f3 f12 f13 f14 fo
 rcases av k' 6 with dk|dk
 .have hw:=aW k' aC
  have dk6:((k':Int)<6)=True:=aa aC
  obtain⟨w,gw,gd⟩:=aAw k' dk
  have gx:aaJ anG (k':Int)=some w:=by rw[apR];exact gw
  have hw2:IntKind.i64.wrap (11+(k':Int))=11+(k':Int):=cj _ aC aC
  rw[gd] at E
  simp only[opT] at E
  cases c:isT l j w with
  | false =>
   have kt:=λK=>aF.k (adU l j e w hl v) K
   rw[c] at E kt
   simp only[ab,ap] at E kt
   simp only[↓zA,sevalprocAttr,aaC,pT,ajy,f0,f2,f3,f12,f13,f14,fo,dk6,gx,hw,kt]
   exact⟨dk,⟨_,_,_,rfl⟩,E⟩
  | true =>
   have hj1:=fe c
   have kt:=λK=>aF.k (adU l j e w hl v) K
   rw[c,aE rfl] at E kt
   unfold acU at hr
   rw[E] at hr
   simp only at hr
   cases e2:aaL F l (j+1) [] with
   | none=>rw[e2] at hr;cases hr
   | some q =>
    obtain⟨y,m,q⟩:=q
    have g2:=aih hl H (j+1) _ hj1 e2
    rw[e2] at hr
    cases hr
    cases q with
    | true =>
     have k2:=g2.bad
     simp only[↓zA,sevalprocAttr,aaC,zLX,pT,zP,ajy,f0,f3,f12,f13,f14,fo,dk6,gx,hw2,kt,k2]
     all_goals exact fz
    | false =>
     have k2:=g2.ok
     simp only[↓zA,sevalprocAttr,aaC,zLX,pT,zP,zBS,ajy,f0,f2,f3,f12,f13,f14,fo,dk6,gx,hw2,kt,k2]
     all_goals exact fz
 have ek:k'=6:=by omega
 subst ek
 rw[show aec.drop 6=[] from rfl] at E
 simp only[opT] at E
 rcases eWX l j e [105,115] hl with ⟨c1,b1,t1,x1⟩|⟨c1,t1⟩
 rcases eWX l (j+1) e [110,111,116] hl with _|_
 rcases eWX l (j+2) e [110,117,108,108] hl with _|_
 rotate_left 2
 rcases eWX l (j+1) e [110,117,108,108] hl with _|_
 rotate_left 2
 rcases eWX l j e [110,111,116] hl with ⟨c5,b5,t5,x5⟩|⟨c5,t5⟩
 .have z6:=aB4 l (j) e [110,111,116] [108,105,107,101] [98,101,116,119,101,101,110] [105,110] hl aC (b:=true) (by simp only[bF,c5,x5,uL,sevalprocAttr,cY,aH])
  have y7:ac1 F l true (j+1) a=some r:=by simp only[acU,zRZ,sevalprocAttr,↓reduceIte,E,c1,c5] at hr;exact hr
  obtain⟨b7,y7a,y7b⟩:=aeB y7 (.inl rfl)
  have g7:=aey hl H a _ _ aC y7a
  obtain⟨ra,rj,rq⟩:=r
  dsimp only at g7 y7b
  cases rq with
  | true =>
   have k7:=g7.bad
   simp only[↓zA,sevalprocAttr,aaC,pT,zP,zBS,aQ,zLX, *]
   all_goals exact fz
  | false =>
   have k7:=g7.ok
   have e7:=y7b rfl
   subst e7
   clear y7b
   simp only[↓zA,sevalprocAttr,aaC,pT,zP,zBS,aQ,zLX,ag1, *]
   all_goals exact fz
 rcases eWX l j e [108,105,107,101] hl with ⟨c8,b8,t8,x8⟩|⟨c8,t8⟩
 .have z9:=aB4 l (j) e [110,111,116] [108,105,107,101] [98,101,116,119,101,101,110] [105,110] hl aC (b:=true) (by simp only[bF,c5,c8,x8,uL,sevalprocAttr,cY,aH,aY])
  have y10:ac1 F l false (j) a=some r:=by simp only[acU,zRZ,sevalprocAttr,↓reduceIte,E,c1,c5] at hr;exact hr
  obtain⟨b10,y10a,y10b⟩:=aeB y10 (.inr (by simp only[bF,c8,x8,uL,sevalprocAttr,cY,aH]))
  have g10:=aey hl H a _ _ aC y10a
  obtain⟨ra,rj,rq⟩:=r
  dsimp only at g10 y10b
  cases rq with
  | true =>
   have k10:=g10.bad
   simp only[↓zA,sevalprocAttr,aaC,pT,zP,zBS,aQ,zLX, *]
   all_goals exact fz
  | false =>
   have k10:=g10.ok
   have e10:=y10b rfl
   subst e10
   clear y10b
   simp only[↓zA,sevalprocAttr,aaC,pT,zP,zBS,aQ,zLX,ag1, *]
   all_goals exact fz
 rcases eWX l j e [98,101,116,119,101,101,110] hl with ⟨c11,b11,t11,x11⟩|⟨c11,t11⟩
 .have z12:=aB4 l (j) e [110,111,116] [108,105,107,101] [98,101,116,119,101,101,110] [105,110] hl aC (b:=true) (by simp only[bF,c5,c8,c11,x11,uL,sevalprocAttr,cY,aH,aY])
  have y13:ac1 F l false (j) a=some r:=by simp only[acU,zRZ,sevalprocAttr,↓reduceIte,E,c1,c5] at hr;exact hr
  obtain⟨b13,y13a,y13b⟩:=aeB y13 (.inr (by simp only[bF,c8,c11,x11,uL,sevalprocAttr,cY,aH,aY]))
  have g13:=aey hl H a _ _ aC y13a
  obtain⟨ra,rj,rq⟩:=r
  dsimp only at g13 y13b
  cases rq with
  | true =>
   have k13:=g13.bad
   simp only[↓zA,sevalprocAttr,aaC,pT,zP,zBS,aQ,zLX, *]
   all_goals exact fz
  | false =>
   have k13:=g13.ok
   have e13:=y13b rfl
   subst e13
   clear y13b
   simp only[↓zA,sevalprocAttr,aaC,pT,zP,zBS,aQ,zLX,ag1, *]
   all_goals exact fz
 rcases eWX l j e [105,110] hl with ⟨c14,b14,t14,x14⟩|⟨c14,t14⟩
 .have z15:=aB4 l (j) e [110,111,116] [108,105,107,101] [98,101,116,119,101,101,110] [105,110] hl aC (b:=true) (by simp only[bF,c5,c8,c11,c14,sevalprocAttr,aH,aY])
  have y16:ac1 F l false (j) a=some r:=by simp only[acU,zRZ,sevalprocAttr,↓reduceIte,E,c1,c5] at hr;exact hr
  obtain⟨b16,y16a,y16b⟩:=aeB y16 (.inr (by simp only[bF,c8,c11,c14,sevalprocAttr,aH,aY]))
  have g16:=aey hl H a _ _ aC y16a
  obtain⟨ra,rj,rq⟩:=r
  dsimp only at g16 y16b
  cases rq with
  | true =>
   have k16:=g16.bad
   simp only[↓zA,sevalprocAttr,aaC,pT,zP,zBS,aQ,zLX, *]
   all_goals exact fz
  | false =>
   have k16:=g16.ok
   have e16:=y16b rfl
   subst e16
   clear y16b
   simp only[↓zA,sevalprocAttr,aaC,pT,zP,zBS,aQ,zLX,ag1, *]
   all_goals exact fz
 have z17:=aB4 l (j) e [110,111,116] [108,105,107,101] [98,101,116,119,101,101,110] [105,110] hl aC (b:=false) (by simp only[bF,c5,c8,c11,c14,sevalprocAttr,aH])
 rotate_left
 all_goals (simp only[acU,isS,zRZ,sevalprocAttr,↓reduceIte,ac1, *] at hr <;> cases hr <;> (simp only[↓zA,sevalprocAttr,aaC,pT,zP,zBS,aQ,zLX,awz,awA, *];all_goals exact fz))
def aA0:=hM @Tryz.f152.eq_1 @zq @aZ @cX @zT0 (kf aCO)
def apD{l:List Tn}{e:Int}{F:Fs}(hl:l.length<LB)(H:PY l e F)(i:Nat)(r:Xp×Nat×Bool)(hi:i<=l.length)(hr:adL F l i []=some r):GP 152 [.ptr 0 0] [pT l i e] l e [] xpE i r:=by
 refine⟨Pl.at (alm H.fp hi) hr,?_⟩
 rcases eW l i e [110,111,116] hl with _|_
 rcases eR (F.no (i+1)) λ_=>H.no _ _ aC with _|⟨_,_,_⟩|⟨a2,j2,_⟩
 rotate_left 3
 rcases eR (anH F l i []) λ_=>aJJ hl H _ _ aC with _|⟨_,_,_⟩|⟨a3,j3,_⟩
 rotate_left 3
 all_goals (simp only[aRi,zRZ,sevalprocAttr,↓reduceIte, *] at hr <;> cases hr <;> (refine bB aCO ?_;simp only[↓zA,sevalprocAttr,aA0,bW,pT,zP,aQ,atl, *];all_goals exact fz))
def aE7{l:List Tn}{e:Int}{F:Fs}(hl:l.length<LB)(H:PY l e F)(i:Nat)(x:Xp)(cs:List C)(hx:cs=xpC x)(r:Xp×Nat×Bool)(hi:i<=l.length)(hr:adL F l i [x]=some r):GP 152 [.ptr 0 0] [pTe l i e,.row 28 cs] l e deE xpE i r:=by
 rw[aRh] at hr
 have g:=aF2 hl H i x cs hx r hi hr
 have lv:aej (some (.row 28 cs))=true:=by rw[hx,ch];rfl
 refine⟨g.1,?_⟩
 obtain⟨a,j,q⟩:=r
 refine bB aCO ?_
 cases q with
 | true =>
  have k:=g.bad
  simp only[↓zA,sevalprocAttr,aA0,bW,pT,pTe,zP,k,lv]
  all_goals exact fz
 | false =>
  have k:=g.ok
  simp only[↓zA,sevalprocAttr,aA0,bW,pT,pTe,zP,k,lv]
  all_goals exact fz
def aPQ:=hU @Tryz.f67.eq_1 @zq @aZ @cO @afQ @zT0 (kf aJl)
def ax3{l:List Tn}{e:Int}{F:Fs}(hl:l.length<LB)(H:PY l e F)(i:Nat)(r:Xp×Nat×Bool)(hi:i<=l.length)(hr:aj5 F l i []=some r):GP 67 [.ptr 0 0] [pT l i e] l e [] xpE i r:=by
 have g:=aiG (e:=e) hl 305 152 aI (aj aI) aE4 aKZ aAC (adL F l) [([97,110,100],17)] aI (λi r h1 h2=>apD hl H i r h1 h2) i r hi hr
 refine⟨g.1,?_⟩
 have k:∀ K,cKp 66 [.ptr 0 0,.clo 305 [.ptr 0 0],.of (.sl [.lit (.string (ByteArray.mk (List.toArray [97,110,100])))] 1),.of (.sl [ci 17] 1)] [pT l i e] K↔K (bW l e xpE r []):=λK=>aF.k g.2 K
 refine bB aJl ?_
 obtain⟨a,j,b⟩:=r
 cases b <;> (simp only[↓zA,sevalprocAttr,aPQ,bW,pT,zP,k];all_goals exact fz)
def aGx{l:List Tn}{e:Int}{F:Fs}(hl:l.length<LB)(H:PY l e F)(i:Nat)(x:Xp)(cs:List C)(hx:cs=xpC x)(r:Xp×Nat×Bool)(hi:i<=l.length)(hr:aj5 F l i [x]=some r):GP 67 [.ptr 0 0] [pTe l i e,.row 28 cs] l e deE xpE i r:=by
 have g:=ahy (e:=e) hl 305 152 aI (aj aI) aE4 aKZ aAC (adL F l) [([97,110,100],17)] aI (λi r h1 h2=>apD hl H i r h1 h2) x cs hx (λi r h1 h2=>aE7 hl H i x cs hx r h1 h2) i r hi hr
 refine⟨g.1,?_⟩
 have k:∀ K,cKp 66 [.ptr 0 0,.clo 305 [.ptr 0 0],.of (.sl [.lit (.string (ByteArray.mk (List.toArray [97,110,100])))] 1),.of (.sl [ci 17] 1)] [pTe l i e,.row 28 cs] K↔K (bW l e xpE r deE):=λK=>aF.k g.2 K
 have lv:aej (some (.row 28 cs))=true:=by rw[hx,ch];rfl
 refine bB aJl ?_
 obtain⟨a,j,b⟩:=r
 cases b <;> (simp only[↓zA,sevalprocAttr,aPQ,bW,pT,pTe,zP,k,lv];all_goals exact fz)
def aPY:=hU @Tryz.f31.eq_1 @zq @aZ @cO @afQ @zT0 (kf aJt)
def aOf{l:List Tn}{e:Int}{F:Fs}(hl:l.length<LB)(H:PY l e F)(i:Nat)(r:Xp×Nat×Bool)(hi:i<=l.length)(hr:orS F l i []=some r):GP 31 [.ptr 0 0] [pT l i e] l e [] xpE i r:=by
 have g:=aiG (e:=e) hl 135 67 aI (aj aI) aLw aQf aGa (aj5 F l) [([111,114],18)] aI (λi r h1 h2=>ax3 hl H i r h1 h2) i r hi hr
 refine⟨g.1,?_⟩
 have k:∀ K,cKp 66 [.ptr 0 0,.clo 135 [.ptr 0 0],.of (.sl [.lit (.string (ByteArray.mk (List.toArray [111,114])))] 1),.of (.sl [ci 18] 1)] [pT l i e] K↔K (bW l e xpE r []):=λK=>aF.k g.2 K
 refine bB aJt ?_
 obtain⟨a,j,b⟩:=r
 cases b <;> (simp only[↓zA,sevalprocAttr,aPY,bW,pT,zP,k];all_goals exact fz)
def aHV{l:List Tn}{e:Int}{F:Fs}(hl:l.length<LB)(H:PY l e F)(i:Nat)(x:Xp)(cs:List C)(hx:cs=xpC x)(r:Xp×Nat×Bool)(hi:i<=l.length)(hr:orS F l i [x]=some r):GP 31 [.ptr 0 0] [pTe l i e,.row 28 cs] l e deE xpE i r:=by
 have g:=ahy (e:=e) hl 135 67 aI (aj aI) aLw aQf aGa (aj5 F l) [([111,114],18)] aI (λi r h1 h2=>ax3 hl H i r h1 h2) x cs hx (λi r h1 h2=>aGx hl H i x cs hx r h1 h2) i r hi hr
 refine⟨g.1,?_⟩
 have k:∀ K,cKp 66 [.ptr 0 0,.clo 135 [.ptr 0 0],.of (.sl [.lit (.string (ByteArray.mk (List.toArray [111,114])))] 1),.of (.sl [ci 18] 1)] [pTe l i e,.row 28 cs] K↔K (bW l e xpE r deE):=λK=>aF.k g.2 K
 have lv:aej (some (.row 28 cs))=true:=by rw[hx,ch];rfl
 refine bB aJt ?_
 obtain⟨a,j,b⟩:=r
 cases b <;> (simp only[↓zA,sevalprocAttr,aPY,bW,pT,pTe,zP,k,lv];all_goals exact fz)
abbrev stE(s:List UInt8):X:=.of (aJ (aM s))
def aJ1{l:List Tn}{i:Nat}(hi:i<=l.length):Pl l i (some (fq l i)):=λa j b h=>by
 have:=akM hi
 rw[aG h] at this
 exact this
def asT(l:List Tn)(i:Nat):List UInt8×Nat×Bool:=if isT l i [97,115] then eZ l (i+1) else eZ l i
def aX6{l:List Tn}{i:Nat}(hi:i<=l.length):Pl l i (some (asT l i)):=λa j b h=>by
 have h:=aG h
 unfold asT at h
 split at h
 .rename_i c;have:=ajR (aa5 c);rw[h] at this;exact⟨by have:=this.1;dsimp only at this;omega,this.2⟩
 .have:=ajR hi;rw[h] at this;exact this
def aKq:=hH @Tryz.f311.eq_1 @zq @zT0 (kf aCx)
def aa2{l:List Tn}(e:Int)(hl:l.length<LB)  (i:Nat) (r:List UInt8×Nat×Bool) (hi:i<=l.length) (hr:some (fq l i)=some r):GP 311 [.ptr 0 0,.of (.lit (.bool false))] [pT l i e] l e [] stE i r:=by
 refine⟨Pl.at (aJ1 hi) hr,?_⟩
 rcases eWX l i e [97,115] hl with _|_
 rcases apY l (i+1) e hl with _|_
 rotate_left 2
 rcases apY l i e hl with _|_
 rotate_left 2
 all_goals (simp only[fq,eZ,zRZ,sevalprocAttr,↓reduceIte, *] at hr <;> cases hr <;> (refine bB aCx ?_;simp only[↓zA,sevalprocAttr,aKq,bW,pT,zP,aQ, *];all_goals exact fz))
def aiz{l:List Tn}(e:Int)(hl:l.length<LB)  (i:Nat) (r:List UInt8×Nat×Bool) (hi:i<=l.length) (hr:some (asT l i)=some r):GP 311 [.ptr 0 0,.of (.lit (.bool true))] [pT l i e] l e [] stE i r:=by
 refine⟨Pl.at (aX6 hi) hr,?_⟩
 rcases eWX l i e [97,115] hl with _|_
 rcases apY l (i+1) e hl with _|_
 rotate_left 2
 rcases apY l i e hl with _|_
 rotate_left 2
 all_goals (simp only[asT,eZ,zRZ,sevalprocAttr,↓reduceIte, *] at hr <;> cases hr <;> (refine bB aCx ?_;simp only[↓zA,sevalprocAttr,aKq,bW,pT,zP,aQ, *];all_goals exact fz))
def aSV{l:List Tn}(T:TL l)(i:Nat):isT l i [46]=(decide ((bN l i).k=5)&&decide ((bN l i).s=[46])):=by
 rw[ajx]
 by_cases h:(bN l i).k=1
 .rcases av i l.length with g|g
  .have:=(T.w _ (akm g) h).1
   rw[bK this,cy,cy]
  .rw[agW g] at h;cases h
 .rw[bK h,fC]
def aNP{l:List Tn}(T:TL l)(i:Nat):isT l i [42]=(decide ((bN l i).k=5)&&decide ((bN l i).s=[42])):=by
 rw[ajx]
 by_cases h:(bN l i).k=1
 .rcases av i l.length with g|g
  .have:=(T.w _ (akm g) h).2
   rw[bK this,cy,cy]
  .rw[agW g] at h;cases h
 .rw[bK h,fC]
def aTQ:=ib @zq @cW @gF @fH @P3 @Q3 @Q9 @zT0 (kf aLV)
def akE{l:List Tn}{e:Int}{F:Fs}(hl:l.length<LB)(H:PY l e F)(i:Nat)(r:Im×Nat×Bool)(hi:i<=l.length)(hr:adF F l i=some r):GP 296 [.ptr 0 0] [pT l i e] l e [] imE i r:=by
 refine⟨Pl.at (ajY H.fp hi) hr,?_⟩
 have p0:=pK l i e hl hi
 have hd:=aSV H.tl (i+1)
 have hs:=aNP H.tl (i+2)
 have hl1:(aM (bN l (i+1)).s=({data:=#[46]}:ByteArray))=((bN l (i+1)).s=[46]):=cQ _ _
 have hl2:(aM (bN l (i+2)).s=({data:=#[42]}:ByteArray))=((bN l (i+2)).s=[42]):=cQ _ _
 rcases eWX l i e [42] hl with _|_
 rotate_left
 rcases apY l i e hl with _|_
 rcases bk ((bN l (i+1)).k=5) with d3|d3
 rcases bk ((bN l (i+1)).s=[46]) with d4|d4
 rcases bk ((bN l (i+2)).k=5) with d5|d5
 rcases bk ((bN l (i+2)).s=[42]) with d6|d6
 have hb:i+2<l.length:=by
  rcases av (i+2) l.length with g|g
  .exact g
  .have cc:=of_eq_true d5;rw[agW g] at cc;cases cc
 have hw3:IntKind.i64.wrap ((i:Int)+3)=((i+3:Nat):Int):=by rw[cj _ aC (by unfold LB at hl;omega)];rfl
 have hw4:IntKind.i64.wrap (((i+3:Nat):Int)-3)=(i:Int):=by rw[cj _ aC (by unfold LB at hl;omega)];omega
 have gx:=gL (l:=l) (i:=i) aC
 rotate_left
 rcases eR (F.or i []) λ_=>H.or _ _ aC with _|⟨_,_,_⟩|⟨a7,j7,_⟩
 rotate_left 2
 rcases e8:fq l j7 with ⟨a8,j8,_|_⟩
 obtain⟨⟨u8,v8⟩,k8⟩:=(aa2 e hl _ _ aC (congrArg some e8)).okA
 rotate_left
 obtain⟨⟨u8,v8⟩,k8⟩:=(aa2 e hl _ _ aC (congrArg some e8)).badA
 rotate_left
 rcases eR (F.or i []) λ_=>H.or _ _ aC with _|⟨_,_,_⟩|⟨a9,j9,_⟩
 rotate_left 2
 rcases e10:fq l j9 with ⟨a10,j10,_|_⟩
 obtain⟨⟨u10,v10⟩,k10⟩:=(aa2 e hl _ _ aC (congrArg some e10)).okA
 rotate_left
 obtain⟨⟨u10,v10⟩,k10⟩:=(aa2 e hl _ _ aC (congrArg some e10)).badA
 rotate_left
 rcases eR (F.or i []) λ_=>H.or _ _ aC with _|⟨_,_,_⟩|⟨a11,j11,_⟩
 rotate_left 2
 rcases e12:fq l j11 with ⟨a12,j12,_|_⟩
 obtain⟨⟨u12,v12⟩,k12⟩:=(aa2 e hl _ _ aC (congrArg some e12)).okA
 rotate_left
 obtain⟨⟨u12,v12⟩,k12⟩:=(aa2 e hl _ _ aC (congrArg some e12)).badA
 rotate_left
 rcases eR (F.or i []) λ_=>H.or _ _ aC with _|⟨_,_,_⟩|⟨a13,j13,_⟩
 rotate_left 2
 rcases e14:fq l j13 with ⟨a14,j14,_|_⟩
 obtain⟨⟨u14,v14⟩,k14⟩:=(aa2 e hl _ _ aC (congrArg some e14)).okA
 rotate_left
 obtain⟨⟨u14,v14⟩,k14⟩:=(aa2 e hl _ _ aC (congrArg some e14)).badA
 rotate_left
 rcases eR (F.or i []) λ_=>H.or _ _ aC with _|⟨_,_,_⟩|⟨a15,j15,_⟩
 rotate_left 2
 rcases e16:fq l j15 with ⟨a16,j16,_|_⟩
 obtain⟨⟨u16,v16⟩,k16⟩:=(aa2 e hl _ _ aC (congrArg some e16)).okA
 rotate_left
 obtain⟨⟨u16,v16⟩,k16⟩:=(aa2 e hl _ _ aC (congrArg some e16)).badA
 rotate_left
 all_goals (simp only[adF,zRZ,sevalprocAttr,↓reduceIte, *] at hr <;> cases hr <;> (refine bB aLV ?_;simp only[Tryz.f296,↓zA,sevalprocAttr,aTQ,bW,pT,zP,aQ,aZ,acW, *];all_goals exact fz))
def byR(l:List Tn)(i:Nat):Rz Od:=if br l i 2||(br l i 3&&decide (0<nuT l i)) then
  some (⟨if br l i 2 then txT l i else [],if br l i 2 then 0 else nuT l i,isT l (i+1) [100,101,115,99]⟩,(if isT l (i+1) [97,115,99]||isT l (i+1) [100,101,115,99] then i+2 else i+1),false)
 else some (⟨[],0,false⟩,i,true)
def aTj{l:List Tn}{i:Nat}(hi:i<=l.length):Pl l i (byR l i):=by
 unfold byR
 split
 .rename_i c
  have h1:i+1<=l.length:=by
   rw[bD,ar] at c
   rcases c with c|c
   .exact adg c
   .exact adg c.1
  have h2:i<=(if (isT l (i+1) [97,115,99]||isT l (i+1) [100,101,115,99])=true then i+2 else i+1)/\(if (isT l (i+1) [97,115,99]||isT l (i+1) [100,101,115,99])=true then i+2 else i+1)<=l.length:=by
   split
   .rename_i c2
    rw[bD] at c2
    rcases c2 with c2|c2
    .have:=aa5 c2;omega
    .have:=aa5 c2;omega
   .omega
  exact .so h2.1 h2.2
 .exact .so (am _) hi
def aYf:=hJ @zq @cW @aeg @zT0 (kf aSf)
def aoH{l:List Tn}(e:Int)(hl:l.length<LB)(TT0:TL l)(i:Nat)(r:Od×Nat×Bool)(hi:i<=l.length)(hr:byR l i=some r):GP 80 [.ptr 0 0] [pT l i e] l e [] odE i r:=by
 refine⟨Pl.at (aTj hi) hr,?_⟩
 have p0:=pK l i e hl hi
 have hn:0<=(bN l i).n:=by
  rcases av i l.length with g|g
  .exact TT0.n _ (akm g)
  .rw[agW g];exact ahx _
 have pt:=aBI (bN l i)
 rcases aSU l i e hl with _|_
 rcases eWQ l (i+1) e [97,115,99] hl with _|_
 rotate_left
 rcases eWQ l (i+1) e [100,101,115,99] hl with _|_
 rotate_left 2
 rcases aST l i e hl with _|_
 have gk:=gK l i e hl hi
 rcases eP (0<(bN l i).n) with ⟨c5,d5⟩|⟨c5,d5⟩
 have hz:((bN l i).n=0)=False:=aj aC
 rcases eWQ l (i+1) e [97,115,99] hl with _|_
 rotate_left
 rcases eWQ l (i+1) e [100,101,115,99] hl with _|_
 rotate_left 2
 have hz:((bN l i).n=0)=True:=aa aC
 rotate_left 2
 all_goals (simp only[byR,abA,aH,aY,zRZ,sevalprocAttr,↓reduceIte, *] at hr <;> cases hr <;> (refine bB aSf ?_;simp only[Tryz.f80,↓zA,sevalprocAttr,aYf,bW,pT,zP,aQ,abA, *];all_goals exact fz))
abbrev qyL(a:Qy):List C:=[ci a.op,cb a.al,slC qyC a.ks,cb a.di,slC imC a.its,slC fmC a.fr,slC xpC a.wh,slC xpC a.gr,slC xpC a.hv,slC odC a.od,ci a.li,ci a.sk]
abbrev qyV(a:Qy):List X:=[.of (ci a.op),.of (cb a.al),.of (slC qyC a.ks),.of (cb a.di),.of (slC imC a.its),.of (slC fmC a.fr),.of (slC xpC a.wh),.of (slC xpC a.gr),.of (slC xpC a.hv),.of (slC odC a.od),.of (ci a.li),.of (ci a.sk)]
abbrev qyZ:List X:=[.of (ci 0),.of (cb false),.nil,.of (cb false),.nil,.nil,.nil,.nil,.nil,.nil,.of (ci 0),.of (ci 0)]
abbrev aYA(o:Int)(al:Bool)(cs:List C)(y:Qy):X:=.of (.agg [ci o,cb al,.sl (cs++qyL y) 2,cb false,.sl [] 0,.sl [] 0,.sl [] 0,.sl [] 0,.sl [] 0,.sl [] 0,ci (-1),ci 0])
def aAL:=hM @Tryz.f77.eq_1 @zq @bi @dm @zT0 (kf aJk)
def ahY{l:List Tn}{e:Int}(hl:l.length<LB)(cl f:Nat)(hf:cl / 2=f)(hm:(cl % 2=0)=False)(ho:ad7 f=true)(hk:tkF f=false)(hc:fh Tryz.prog f=true)(nx:Nat->List Qy->Rz Qy)
  (N:∀ i r,i<=l.length->nx i []=some r->GP f [.ptr 0 0] [pT l i e] l e [] qyE i r) (op:Int) (c1 c2 c3 c4 c5 c6 c7 c8 c9 c10 c11 c12:C) (i:Nat) (r:Qy×Nat×Bool) (hi:i<=l.length) (hr:nx (if isT l i [97,108,108]=true then i+1 else i) []=some r) :
  GP 77 [.ptr 0 0,.of (ci op),.agg [.of c1,.of c2,.of c3,.of c4,.of c5,.of c6,.of c7,.of c8,.of c9,.of c10,.of c11,.of c12],.clo cl [.ptr 0 0]] [pT l i e] l e [] (aYA op (isT l i [97,108,108]) [c1,c2,c3,c4,c5,c6,c7,c8,c9,c10,c11,c12]) i r:=by
 cases c:isT l i [97,108,108] with
 | true =>
  have hi1:=fe c
  have t:=wT l i e [97,108,108] hl c
  rw[c,aE rfl] at hr
  have g:=N _ _ hi1 hr
  obtain⟨⟨u,v⟩,g2⟩:=g
  refine⟨⟨by omega,v⟩,?_⟩
  obtain⟨y,j,q⟩:=r
  refine bB aJk ?_
  cases q with
  | true =>
   have k:∀ K,cKp f [.ptr 0 0] [pT l (i+1) e] K↔K ⟨true,[acT l j e],[pT l j e]⟩:=λK=>aF.k g2 K
   simp only[↓zA,sevalprocAttr,aAL,bW,zLX,pT,zP,hf,hm,ho,hk,hc,t,k]
   all_goals exact fz
  | false =>
   have k:∀ K,cKp f [.ptr 0 0] [pT l (i+1) e] K↔K ⟨false,[qyE y],[pT l j e]⟩:=λK=>aF.k g2 K
   simp only[↓zA,sevalprocAttr,aAL,bW,zLX,pT,zP,zBS,hf,hm,ho,hk,hc,t,k]
   all_goals exact fz
 | false =>
  have t:=wF l i e [97,108,108] hl hi c
  rw[c] at hr
  simp only[ab,ap] at hr
  have g:=N _ _ hi hr
  obtain⟨⟨u,v⟩,g2⟩:=g
  refine⟨⟨u,v⟩,?_⟩
  obtain⟨y,j,q⟩:=r
  refine bB aJk ?_
  cases q with
  | true =>
   have k:∀ K,cKp f [.ptr 0 0] [pT l i e] K↔K ⟨true,[acT l j e],[pT l j e]⟩:=λK=>aF.k g2 K
   simp only[↓zA,sevalprocAttr,aAL,bW,zLX,pT,zP,hf,hm,ho,hk,hc,t,k]
   all_goals exact fz
  | false =>
   have k:∀ K,cKp f [.ptr 0 0] [pT l i e] K↔K ⟨false,[qyE y],[pT l j e]⟩:=λK=>aF.k g2 K
   simp only[↓zA,sevalprocAttr,aAL,bW,zLX,pT,zP,zBS,hf,hm,ho,hk,hc,t,k]
   all_goals exact fz
def alw(F:Fs)(l:List Tn)(i:Nat):Rz Qy:=wantR (eE l i [115,101,108,101,99,116]) y0 λj=>ajI F l j
def aDe{l:List Tn}{F:Fs}(H:FP l F){i:Nat}(hi:i<=l.length):Pl l i (alw F l i):=.wR aC aC λ_=>.mono (arR H aC) aC
abbrev arQ(di:Bool)(its:List Im):List X:=[.of (ci 1),.of (cb false),.nil,.of (cb di),.own (.cell 2 4) 138 12 (fl imC its) its.length,.nil,.nil,.nil,.nil,.nil,.of (ci (-1)),.of (ci 0)]
def alU(F:Fs)(l:List Tn)(di:Bool)(n:Nat)(its:List Im)(j:Nat):Rz Qy:=if isT l j [44] then aer F l di n its (j+1) else ahm F l di its j
def aqs(F:Fs)(l:List Tn)(di:Bool)(n:Nat)(its:List Im)(i:Nat):aer F l di (n+1) its i=(adF F l i).on (λ_=>ah1 di its [] [] [] []) λx j=>alU F l di n (its++[x]) j:=rfl
def afN:=ai (hM @Tryz.f257.eq_1 @zq @aZ @bi @gF @bG) (hM @cX @ado @gH @cO @zT0 (kf aoE))
def azq{l:List Tn}{e:Int}{F:Fs}(hl:l.length<LB)(H:PY l e F)(i:Nat)(r:Qy×Nat×Bool)(hi:i<=l.length)(c1:isT l i [115,101,108,101,99,116]=true)(c2:isT l (i+1) [100,105,115,116,105,110,99,116]=true)(hr:aer F l true (l.length+1) [] (i+2)=some r):aF Tryz.prog pr 257 [.ptr 0 0] [pT l i e] (bW l e qyE r []):=by
 have b1:=fe c1
 have t1:=wT l i e [115,101,108,101,99,116] hl c1
 have t2:=wT l (i+1) e [100,105,115,116,105,110,99,116] hl c2
 have b2:=fe c2
 rw[aqs] at hr
 cases e1:adF F l (i+2) with
 | none=>rw[e1] at hr;cases hr
 | some q =>
 obtain⟨a,j,q⟩:=q
 have g:=akE hl H _ _ aC e1
 obtain⟨u,v⟩:=g.1
 dsimp only at u v
 rw[e1] at hr
 cases q with
 | true =>
  have k:=g.bad
  cases hr
  refine bB aoE ?_
  simp only[↓zA,sevalprocAttr,afN,bW,pT,zP,aQ,t1,t2,k]
  all_goals exact fz
 | false =>
 have k:=g.ok
 simp only[Rz.on,db] at hr
 refine bB aoE ?_
 simp only[↓zA,sevalprocAttr,afN,bW,pT,aQ,t1,t2,k,gF]
 refine eT _ _ (λn s=>∃ its j,s.fr 0=.ptr 0 0/\s.fr 2=.ptr 1 0/\s.fr 3=.ptr 2 0/\s.objs=[pT l j e,.var 38 qyZ,.var 38 (arQ true its)]/\alU F l true n its j=some r/\j<=l.length/\its.length<=j) ?_ l.length _ ?_
 .rintro n ⟨frn,obn,ckn⟩ ⟨its,j,f0,f2,f3,fo,E,hj,hk⟩
  dsimp only at f0 f2 f3 fo
  have hL:its.length+1<=LIM:=by unfold LIM;unfold LB at hl;omega
  have hit:(its.length+1<=LIM)=True:=aa hL
  rcases eW l j e [44] hl with ⟨c1,b1,t1⟩|⟨c1,t1⟩
  .cases n with
   | zero=>simp only[alU,c1,ah,aer] at E;cases E
   | succ m =>
   simp only[alU,c1,ah,aqs] at E
   rcases eR (adF F l (j+1)) λ_=>akE hl H _ _ aC with e2|⟨a2,j2,e2,⟨u2,v2⟩,k2⟩|⟨a2,j2,e2,⟨u2,v2⟩,k2⟩
   rotate_left
   .simp only[zRZ,sevalprocAttr,e2] at E
    cases E
    simp only[↓zA,sevalprocAttr,afN,pT,zP,aQ,zLX,gF, *]
    all_goals exact fz
   .simp only[zRZ,sevalprocAttr,e2] at E
    simp only[↓zA,sevalprocAttr,afN,pT,zP,aQ,zLX,aZ,bG,gF,gO, *]
    refine⟨m,aD m,its++[a2],j2,?_,E,v2,by simp only[abQ];omega⟩
    simp only[arQ]
    simp only[zVW]
    all_goals rfl
   all_goals (simp only[ahm,ah0,ah3,ah2,eC,zRZ,sevalprocAttr, *] at E <;> cases E)
  rcases eW l j e [102,114,111,109] hl with _|_
  rcases eR (F.fr (j+1) []) λ_=>H.fr _ _ aC with _|⟨_,_,_⟩|⟨a4,j4,_⟩
  rotate_left 2
  rcases eW l j4 e [119,104,101,114,101] hl with _|_
  rcases eR (F.or (j4+1) []) λ_=>H.or _ _ aC with _|⟨_,_,_⟩|⟨a6,j6,_⟩
  rotate_left 2
  rcases eW l j6 e [103,114,111,117,112] hl with _|_
  rcases eW l (j6+1) e [98,121] hl with _|_
  rcases eR (aag F l (j6+2)) λ_=>adt hl H _ _ aC with _|⟨_,_,_⟩|⟨a9,j9,_⟩
  rotate_left 2
  rcases eW l j9 e [104,97,118,105,110,103] hl with _|_
  rcases eR (F.or (j9+1) []) λ_=>H.or _ _ aC with _|⟨_,_,_⟩|⟨a11,j11,_⟩
  rotate_left 5
  rcases eW l j6 e [104,97,118,105,110,103] hl with _|_
  rcases eR (F.or (j6+1) []) λ_=>H.or _ _ aC with _|⟨_,_,_⟩|⟨a13,j13,_⟩
  rotate_left 4
  rcases eW l j4 e [103,114,111,117,112] hl with _|_
  rcases eW l (j4+1) e [98,121] hl with _|_
  rcases eR (aag F l (j4+2)) λ_=>adt hl H _ _ aC with _|⟨_,_,_⟩|⟨a16,j16,_⟩
  rotate_left 2
  rcases eW l j16 e [104,97,118,105,110,103] hl with _|_
  rcases eR (F.or (j16+1) []) λ_=>H.or _ _ aC with _|⟨_,_,_⟩|⟨a18,j18,_⟩
  rotate_left 5
  rcases eW l j4 e [104,97,118,105,110,103] hl with _|_
  rcases eR (F.or (j4+1) []) λ_=>H.or _ _ aC with _|⟨_,_,_⟩|⟨a20,j20,_⟩
  rotate_left 4
  rcases eW l j e [119,104,101,114,101] hl with _|_
  rcases eR (F.or (j+1) []) λ_=>H.or _ _ aC with _|⟨_,_,_⟩|⟨a22,j22,_⟩
  rotate_left 2
  rcases eW l j22 e [103,114,111,117,112] hl with _|_
  rcases eW l (j22+1) e [98,121] hl with _|_
  rcases eR (aag F l (j22+2)) λ_=>adt hl H _ _ aC with _|⟨_,_,_⟩|⟨a25,j25,_⟩
  rotate_left 2
  rcases eW l j25 e [104,97,118,105,110,103] hl with _|_
  rcases eR (F.or (j25+1) []) λ_=>H.or _ _ aC with _|⟨_,_,_⟩|⟨a27,j27,_⟩
  rotate_left 5
  rcases eW l j22 e [104,97,118,105,110,103] hl with _|_
  rcases eR (F.or (j22+1) []) λ_=>H.or _ _ aC with _|⟨_,_,_⟩|⟨a29,j29,_⟩
  rotate_left 4
  rcases eW l j e [103,114,111,117,112] hl with _|_
  rcases eW l (j+1) e [98,121] hl with _|_
  rcases eR (aag F l (j+2)) λ_=>adt hl H _ _ aC with _|⟨_,_,_⟩|⟨a32,j32,_⟩
  rotate_left 2
  rcases eW l j32 e [104,97,118,105,110,103] hl with _|_
  rcases eR (F.or (j32+1) []) λ_=>H.or _ _ aC with _|⟨_,_,_⟩|⟨a34,j34,_⟩
  rotate_left 5
  rcases eW l j e [104,97,118,105,110,103] hl with _|_
  rcases eR (F.or (j+1) []) λ_=>H.or _ _ aC with _|⟨_,_,_⟩|⟨a36,j36,_⟩
  rotate_left 4
  all_goals (simp only[alU,ahm,ah0,ah3,ah2,eC,zRZ,sevalprocAttr,↓reduceIte, *] at E <;> cases E <;> (simp only[↓zA,sevalprocAttr,afN,pT,zP,aQ,zLX,aZ,bG, *];all_goals exact fz))
 .simp only[↓zA,sevalprocAttr,afN,pT]
  refine⟨[a],j,?_,hr,v,by simp only[fZ];omega⟩
  simp only[arQ]
  simp only[zVW]
  all_goals rfl
def axI{l:List Tn}{e:Int}{F:Fs}(hl:l.length<LB)(H:PY l e F)(i:Nat)(r:Qy×Nat×Bool)(hi:i<=l.length)(c1:isT l i [115,101,108,101,99,116]=true)(c2:isT l (i+1) [100,105,115,116,105,110,99,116]=false)(hr:aer F l false (l.length+1) [] (i+1)=some r):aF Tryz.prog pr 257 [.ptr 0 0] [pT l i e] (bW l e qyE r []):=by
 have b1:=fe c1
 have t1:=wT l i e [115,101,108,101,99,116] hl c1
 have t2:=wF l (i+1) e [100,105,115,116,105,110,99,116] hl aC c2
 rw[aqs] at hr
 cases e1:adF F l (i+1) with
 | none=>rw[e1] at hr;cases hr
 | some q =>
 obtain⟨a,j,q⟩:=q
 have g:=akE hl H _ _ aC e1
 obtain⟨u,v⟩:=g.1
 dsimp only at u v
 rw[e1] at hr
 cases q with
 | true =>
  have k:=g.bad
  cases hr
  refine bB aoE ?_
  simp only[↓zA,sevalprocAttr,afN,bW,pT,zP,aQ,t1,t2,k]
  all_goals exact fz
 | false =>
 have k:=g.ok
 simp only[Rz.on,db] at hr
 refine bB aoE ?_
 simp only[↓zA,sevalprocAttr,afN,bW,pT,aQ,t1,t2,k,gF]
 refine eT _ _ (λn s=>∃ its j,s.fr 0=.ptr 0 0/\s.fr 2=.ptr 1 0/\s.fr 3=.ptr 2 0/\s.objs=[pT l j e,.var 38 qyZ,.var 38 (arQ false its)]/\alU F l false n its j=some r/\j<=l.length/\its.length<=j) ?_ l.length _ ?_
 .rintro n ⟨frn,obn,ckn⟩ ⟨its,j,f0,f2,f3,fo,E,hj,hk⟩
  dsimp only at f0 f2 f3 fo
  have hL:its.length+1<=LIM:=by unfold LIM;unfold LB at hl;omega
  have hit:(its.length+1<=LIM)=True:=aa hL
  rcases eW l j e [44] hl with ⟨c1,b1,t1⟩|⟨c1,t1⟩
  .cases n with
   | zero=>simp only[alU,c1,ah,aer] at E;cases E
   | succ m =>
   simp only[alU,c1,ah,aqs] at E
   rcases eR (adF F l (j+1)) λ_=>akE hl H _ _ aC with e2|⟨a2,j2,e2,⟨u2,v2⟩,k2⟩|⟨a2,j2,e2,⟨u2,v2⟩,k2⟩
   rotate_left
   .simp only[zRZ,sevalprocAttr,e2] at E
    cases E
    simp only[↓zA,sevalprocAttr,afN,pT,zP,aQ,zLX,gF, *]
    all_goals exact fz
   .simp only[zRZ,sevalprocAttr,e2] at E
    simp only[↓zA,sevalprocAttr,afN,pT,zP,aQ,zLX,aZ,bG,gF,gO, *]
    refine⟨m,aD m,its++[a2],j2,?_,E,v2,by simp only[abQ];omega⟩
    simp only[arQ]
    simp only[zVW]
    all_goals rfl
   all_goals (simp only[ahm,ah0,ah3,ah2,eC,zRZ,sevalprocAttr, *] at E <;> cases E)
  rcases eW l j e [102,114,111,109] hl with _|_
  rcases eR (F.fr (j+1) []) λ_=>H.fr _ _ aC with _|⟨_,_,_⟩|⟨a4,j4,_⟩
  rotate_left 2
  rcases eW l j4 e [119,104,101,114,101] hl with _|_
  rcases eR (F.or (j4+1) []) λ_=>H.or _ _ aC with _|⟨_,_,_⟩|⟨a6,j6,_⟩
  rotate_left 2
  rcases eW l j6 e [103,114,111,117,112] hl with _|_
  rcases eW l (j6+1) e [98,121] hl with _|_
  rcases eR (aag F l (j6+2)) λ_=>adt hl H _ _ aC with _|⟨_,_,_⟩|⟨a9,j9,_⟩
  rotate_left 2
  rcases eW l j9 e [104,97,118,105,110,103] hl with _|_
  rcases eR (F.or (j9+1) []) λ_=>H.or _ _ aC with _|⟨_,_,_⟩|⟨a11,j11,_⟩
  rotate_left 5
  rcases eW l j6 e [104,97,118,105,110,103] hl with _|_
  rcases eR (F.or (j6+1) []) λ_=>H.or _ _ aC with _|⟨_,_,_⟩|⟨a13,j13,_⟩
  rotate_left 4
  rcases eW l j4 e [103,114,111,117,112] hl with _|_
  rcases eW l (j4+1) e [98,121] hl with _|_
  rcases eR (aag F l (j4+2)) λ_=>adt hl H _ _ aC with _|⟨_,_,_⟩|⟨a16,j16,_⟩
  rotate_left 2
  rcases eW l j16 e [104,97,118,105,110,103] hl with _|_
  rcases eR (F.or (j16+1) []) λ_=>H.or _ _ aC with _|⟨_,_,_⟩|⟨a18,j18,_⟩
  rotate_left 5
  rcases eW l j4 e [104,97,118,105,110,103] hl with _|_
  rcases eR (F.or (j4+1) []) λ_=>H.or _ _ aC with _|⟨_,_,_⟩|⟨a20,j20,_⟩
  rotate_left 4
  rcases eW l j e [119,104,101,114,101] hl with _|_
  rcases eR (F.or (j+1) []) λ_=>H.or _ _ aC with _|⟨_,_,_⟩|⟨a22,j22,_⟩
  rotate_left 2
  rcases eW l j22 e [103,114,111,117,112] hl with _|_
  rcases eW l (j22+1) e [98,121] hl with _|_
  rcases eR (aag F l (j22+2)) λ_=>adt hl H _ _ aC with _|⟨_,_,_⟩|⟨a25,j25,_⟩
  rotate_left 2
  rcases eW l j25 e [104,97,118,105,110,103] hl with _|_
  rcases eR (F.or (j25+1) []) λ_=>H.or _ _ aC with _|⟨_,_,_⟩|⟨a27,j27,_⟩
  rotate_left 5
  rcases eW l j22 e [104,97,118,105,110,103] hl with _|_
  rcases eR (F.or (j22+1) []) λ_=>H.or _ _ aC with _|⟨_,_,_⟩|⟨a29,j29,_⟩
  rotate_left 4
  rcases eW l j e [103,114,111,117,112] hl with _|_
  rcases eW l (j+1) e [98,121] hl with _|_
  rcases eR (aag F l (j+2)) λ_=>adt hl H _ _ aC with _|⟨_,_,_⟩|⟨a32,j32,_⟩
  rotate_left 2
  rcases eW l j32 e [104,97,118,105,110,103] hl with _|_
  rcases eR (F.or (j32+1) []) λ_=>H.or _ _ aC with _|⟨_,_,_⟩|⟨a34,j34,_⟩
  rotate_left 5
  rcases eW l j e [104,97,118,105,110,103] hl with _|_
  rcases eR (F.or (j+1) []) λ_=>H.or _ _ aC with _|⟨_,_,_⟩|⟨a36,j36,_⟩
  rotate_left 4
  all_goals (simp only[alU,ahm,ah0,ah3,ah2,eC,zRZ,sevalprocAttr,↓reduceIte, *] at E <;> cases E <;> (simp only[↓zA,sevalprocAttr,afN,pT,zP,aQ,zLX,aZ,bG, *];all_goals exact fz))
 .simp only[↓zA,sevalprocAttr,afN,pT]
  refine⟨[a],j,?_,hr,v,by simp only[fZ];omega⟩
  simp only[arQ]
  simp only[zVW]
  all_goals rfl
def azr{l:List Tn}{e:Int}{F:Fs}(hl:l.length<LB)(H:PY l e F)(i:Nat)(r:Qy×Nat×Bool)(hi:i<=l.length)(hr:alw F l i=some r):GP 257 [.ptr 0 0] [pT l i e] l e [] qyE i r:=by
 refine⟨Pl.at (aDe H.fp hi) hr,?_⟩
 unfold alw eE at hr
 cases c1:isT l i [115,101,108,101,99,116] with
 | false =>
  have t1:=wF l i e [115,101,108,101,99,116] hl hi c1
  rw[c1] at hr
  cases hr
  refine bB aoE ?_
  simp only[↓zA,sevalprocAttr,afN,bW,pT,zP,t1]
  all_goals exact fz
 | true =>
  rw[c1] at hr
  simp only[ah,wantR,ajI] at hr
  cases c2:isT l (i+1) [100,105,115,116,105,110,99,116] with
  | true =>
   rw[c2] at hr
   exact azq hl H i r hi c1 c2 hr
  | false =>
   rw[c2] at hr
   exact axI hl H i r hi c1 c2 hr
def aEO(F:Fs)(l:List Tn)(i:Nat):acs F l i []=if isT l i [40] then (F.qy (i+1) []).on id (λq j=>wantE (eE l j [41]) q) else alw F l i:=rfl
def ana{l:List Tn}{e:Int}{F:Fs}(hl:l.length<LB)(H:PY l e F)(i:Nat)(r:Qy×Nat×Bool)(hi:i<=l.length)(hr:acs F l i []=some r):GP 172 [.ptr 0 0] [pT l i e] l e [] qyE i r:=by
 refine⟨Pl.at (apC H.fp hi) hr,?_⟩
 rcases eW l i e [40] hl with _|_
 rcases eR (F.qy (i+1) []) λ_=>H.qy _ _ aC with _|⟨_,_,_⟩|⟨a2,j2,_⟩
 rotate_left 2
 rcases eW l j2 e [41] hl with _|_
 rotate_left 2
 rcases eR (alw F l i) λ_=>azr hl H _ _ aC with _|⟨_,_,_⟩|⟨a4,j4,_⟩
 rotate_left 3
 all_goals (simp only[aEO,zRZ,sevalprocAttr,↓reduceIte, *] at hr <;> cases hr <;> (refine bB aCK ?_;simp only[Tryz.f172,↓zA,sevalprocAttr,aKE,bW,pT,zP,aQ, *];all_goals exact fz))
def aBJ{l:List Tn}{e:Int}{F:Fs}(i:Nat)(x:Qy)(cs:List C)(hx:cs=qyC x)(r:Qy×Nat×Bool)(hi:i<=l.length)(hr:acs F l i [x]=some r):GP 172 [.ptr 0 0] [pTq l i e,.row 38 cs] l e deQ qyE i r:=by
 cases hr
 subst hx
 exact⟨⟨am _,hi⟩,aHR l i e x⟩
def aiM:=hJ @Tryz.f74.eq_1 @zq @bi @zT0 (kf axi)
def ahA{l:List Tn}{e:Int}{F:Fs}(hl:l.length<LB)(H:PY l e F)(i:Nat)(r:Qy×Nat×Bool)(hi:i<=l.length)(hr:aaq F l i []=some r):GP 74 [.ptr 0 0] [pT l i e] l e [] qyE i r:=by
 refine⟨Pl.at (ant H.fp hi) hr,?_⟩
 unfold aaq ahZ at hr
 cases e1:acs F l i [] with
 | none=>rw[e1] at hr;cases hr
 | some q =>
 obtain⟨a,j,q⟩:=q
 have g:=ana hl H i _ hi e1
 obtain⟨u,v⟩:=g.1
 dsimp only at u v
 rw[e1] at hr
 cases q with
 | true =>
  have k:=g.bad
  cases hr
  refine bB axi ?_
  simp only[↓zA,sevalprocAttr,aiM,bW,pT,zP,k]
  all_goals exact fz
 | false =>
 have k:=g.ok
 simp only[Rz.on] at hr
 refine bB axi ?_
 simp only[↓zA,sevalprocAttr,aiM,bW,pT,k]
 refine eT _ _ (λn s=>∃ q j,s.fr 0=.ptr 0 0/\s.fr 2=.ptr 1 0/\s.fr 3=.ptr 2 0/\s.objs=[pT l j e,.var 38 qyZ,.var 38 (qyV q)]/\aai (acs F l) l [([105,110,116,101,114,115,101,99,116],3)] n q j=some r/\j<=l.length) ?_ (l.length+1) _ ?_
 .rintro n ⟨frn,obn,ckn⟩ ⟨q,j,f0,f2,f3,fo,E,hj⟩
  dsimp only at f0 f2 f3 fo
  cases n with
  | zero=>simp only[aai] at E;cases E
  | succ n =>
  simp only[aai,opT] at E
  cases c:isT l j [105,110,116,101,114,115,101,99,116] with
  | false =>
   have t:=wF l j e [105,110,116,101,114,115,101,99,116] hl hj c
   rw[c] at E
   simp only[ab,ap] at E
   cases E
   simp only[↓zA,sevalprocAttr,aiM,pT,zP,f0,f2,f3,fo,t]
   all_goals exact fz
  | true =>
   have hj1:=fe c
   have t:=wT l j e [105,110,116,101,114,115,101,99,116] hl c
   rw[c] at E
   simp only[ah] at E
   cases e2:acs F l (if isT l (j+1) [97,108,108]=true then j+2 else j+1) [] with
   | none=>rw[e2] at E;cases E
   | some r2 =>
   have g2:=ahY (e:=e) hl 345 172 aI (aj aI) aE3 aKY aAB (acs F l) (λi r h1 h2=>ana hl H i r h1 h2) 3 (ci q.op) (cb q.al) (slC qyC q.ks) (cb q.di) (slC imC q.its) (slC fmC q.fr) (slC xpC q.wh) (slC xpC q.gr) (slC xpC q.hv) (slC odC q.od) (ci q.li) (ci q.sk) (j+1) r2 aC e2
   obtain⟨y,j2,q2⟩:=r2
   obtain⟨u2,v2⟩:=g2.1
   dsimp only at u2 v2
   rw[e2] at E
   cases q2 with
   | true =>
    have k2:=g2.bad
    cases E
    simp only[↓zA,sevalprocAttr,aiM,pT,zP,f0,f3,fo,t,k2]
    all_goals exact fz
   | false =>
    have k2:=g2.ok
    simp only[Rz.on] at E
    simp only[↓zA,sevalprocAttr,aiM,pT,f0,f2,f3,fo,t,k2]
    refine⟨n,aD n,_,j2,?_,E,v2⟩
    simp only[qyV,qyL]
    simp only[zVW]
    all_goals rfl
 .simp only[↓zA,sevalprocAttr,aiM,pT]
  exact⟨a,j,rfl,hr,v⟩
def aze{l:List Tn}{e:Int}{F:Fs}(hl:l.length<LB)(H:PY l e F)(i:Nat)(x:Qy)(cs:List C)(hx:cs=qyC x)(r:Qy×Nat×Bool)(hi:i<=l.length)(hr:aaq F l i [x]=some r):GP 74 [.ptr 0 0] [pTq l i e,.row 38 cs] l e deQ qyE i r:=by
 refine⟨Pl.at (ant H.fp hi) hr,?_⟩
 unfold aaq ahZ at hr
 have lv:aej (some (.row 38 cs))=true:=by rw[hx,ep];rfl
 cases e1:acs F l i [x] with
 | none=>rw[e1] at hr;cases hr
 | some q =>
 obtain⟨a,j,q⟩:=q
 have g:=aBJ (e:=e) (F:=F) i x cs hx _ hi e1
 obtain⟨u,v⟩:=g.1
 dsimp only at u v
 rw[e1] at hr
 cases q with
 | true =>
  have k:=g.bad
  cases hr
  refine bB axi ?_
  simp only[↓zA,sevalprocAttr,aiM,bW,pT,pTq,zP,k,lv]
  all_goals exact fz
 | false =>
 have k:=g.ok
 simp only[Rz.on] at hr
 refine bB axi ?_
 simp only[↓zA,sevalprocAttr,aiM,bW,pT,pTq,k,lv]
 refine eT _ _ (λn s=>∃ q j,s.fr 0=.ptr 0 0/\s.fr 2=.ptr 2 0/\s.fr 3=.ptr 3 0/\s.objs=[pT l j e,.row 38 [],.var 38 qyZ,.var 38 (qyV q)]/\aai (acs F l) l [([105,110,116,101,114,115,101,99,116],3)] n q j=some r/\j<=l.length) ?_ (l.length+1) _ ?_
 .rintro n ⟨frn,obn,ckn⟩ ⟨q,j,f0,f2,f3,fo,E,hj⟩
  dsimp only at f0 f2 f3 fo
  cases n with
  | zero=>simp only[aai] at E;cases E
  | succ n =>
  simp only[aai,opT] at E
  cases c:isT l j [105,110,116,101,114,115,101,99,116] with
  | false =>
   have t:=wF l j e [105,110,116,101,114,115,101,99,116] hl hj c
   rw[c] at E
   simp only[ab,ap] at E
   cases E
   simp only[↓zA,sevalprocAttr,aiM,pT,zP,f0,f2,f3,fo,t]
   all_goals exact fz
  | true =>
   have hj1:=fe c
   have t:=wT l j e [105,110,116,101,114,115,101,99,116] hl c
   rw[c] at E
   simp only[ah] at E
   cases e2:acs F l (if isT l (j+1) [97,108,108]=true then j+2 else j+1) [] with
   | none=>rw[e2] at E;cases E
   | some r2 =>
   have g2:=ahY (e:=e) hl 345 172 aI (aj aI) aE3 aKY aAB (acs F l) (λi r h1 h2=>ana hl H i r h1 h2) 3 (ci q.op) (cb q.al) (slC qyC q.ks) (cb q.di) (slC imC q.its) (slC fmC q.fr) (slC xpC q.wh) (slC xpC q.gr) (slC xpC q.hv) (slC odC q.od) (ci q.li) (ci q.sk) (j+1) r2 aC e2
   obtain⟨y,j2,q2⟩:=r2
   obtain⟨u2,v2⟩:=g2.1
   dsimp only at u2 v2
   rw[e2] at E
   cases q2 with
   | true =>
    have k2:=g2.bad
    cases E
    simp only[↓zA,sevalprocAttr,aiM,pT,zP,f0,f3,fo,t,k2]
    all_goals exact fz
   | false =>
    have k2:=g2.ok
    simp only[Rz.on] at E
    simp only[↓zA,sevalprocAttr,aiM,pT,f0,f2,f3,fo,t,k2]
    refine⟨n,aD n,_,j2,?_,E,v2⟩
    simp only[qyV,qyL]
    simp only[zVW]
    all_goals rfl
 .simp only[↓zA,sevalprocAttr,aiM,pT]
  exact⟨a,j,rfl,hr,v⟩
def aTl(l:List Tn)(n:Nat)(os:List Od)(i:Nat):byL l (n+1) os i=match byR l i with
 | some (o,j,false)=>if isT l j [44] then byL l n (os++[o]) (j+1) else some (os++[o],j,false)
 | _=>some ([],i,true):=by
 show (if _ then _ else _)=_
 unfold byR
 by_cases c:(br l i 2||(br l i 3&&decide (0<nuT l i)))=true
 .rw[aE c,aE c]
  simp only[bF,aH]
 .rw[aA c,aA c]
def byM(l:List Tn)(n:Nat)(os:List Od)(j:Nat):Rz (List Od):=if isT l j [44] then byL l n os (j+1) else some (os,j,false)
def au7(l:List Tn)(n:Nat)(os:List Od)(i:Nat)(h:∀ q,byR l i=some q->q.2.2=true->q.2.1=i:=by intro q h;unfold byR at h;split at h <;> (cases h;intro h;first|rfl|cases h)):byL l (n+1) os i=(byR l i).on (λ_=>[]) λo j=>byM l n (os++[o]) j:=by
 rw[aTl]
 cases e:byR l i with
 | none=>unfold byR at e;split at e <;> cases e
 | some q =>
  obtain⟨o,j,b⟩:=q
  cases b with
  | true=>have:=h _ e rfl;dsimp only at this;rw[this];rfl
  | false=>rfl
def anB(l:List Tn)(q:Qy)(j:Nat):Rz Qy :=
 if akX q&&bF l j [[111,114,100,101,114],[108,105,109,105,116],[111,102,102,115,101,116]] then some (q,j,true)
 else if isT l j [111,114,100,101,114] then (aii l (j+1)).on (λ_=>q) λo m=>adM l q o m
 else adM l q q.od j
def as8(F:Fs)(l:List Tn)(i:Nat)(pre:List Qy):adV F l i pre=(aaq F l i pre).on id λa j=>(aai (aaq F l) l [([117,110,105,111,110],2),([101,120,99,101,112,116],4)] (l.length+1) a j).on id λq j=>anB l q j:=by
 show (ajC F l i pre).on id (λq j=>anB l q j)=_
 unfold ajC ahZ
 cases e:aaq F l i pre with
 | none=>rfl
 | some q =>
  obtain⟨a,j,b⟩:=q
  cases b <;> rfl
abbrev ar6(q:Qy)(os:List Od)(r:Nat):List X:=[.of (ci q.op),.of (cb q.al),.of (slC qyC q.ks),.of (cb q.di),.of (slC imC q.its),.of (slC fmC q.fr),.of (slC xpC q.wh),.of (slC xpC q.gr),.of (slC xpC q.hv),.own (.cell r 9) 126 3 (fl odC os) os.length,.of (ci q.li),.of (ci q.sk)]
def ab7:=ai (hJ @Tryz.f39.eq_1 @zq @bi @aeg @aex) (hJ @cO @P3 @Q3 @zT0 (kf axk))
def aBu{l:List Tn}{e:Int}{F:Fs}(hl:l.length<LB)(H:PY l e F)(i:Nat)(r:Qy×Nat×Bool)(hi:i<=l.length)(hr:adV F l i []=some r):GP 39 [.ptr 0 0] [pT l i e] l e [] qyE i r:=by
 refine⟨Pl.at (akv H.fp hi) hr,?_⟩
 rw[as8] at hr
 cases e1:aaq F l i [] with
 | none=>rw[e1] at hr;cases hr
 | some q =>
 obtain⟨a,j,q⟩:=q
 have g:=ahA hl H i _ hi e1
 obtain⟨u,v⟩:=g.1
 dsimp only at u v
 rw[e1] at hr
 cases q with
 | true =>
  have k:=g.bad
  cases hr
  refine bB axk ?_
  simp only[↓zA,sevalprocAttr,ab7,bW,pT,zP,k]
  all_goals exact fz
 | false =>
 have k:=g.ok
 simp only[Rz.on] at hr
 refine bB axk ?_
 simp only[↓zA,sevalprocAttr,ab7,bW,pT,k]
 refine eT _ _ (λn s=>∃ q j,s.fr 0=.ptr 0 0/\s.fr 2=.ptr 1 0/\s.fr 3=.ptr 2 0/\s.objs=[pT l j e,.var 38 qyZ,.var 38 (qyV q)]/\(aai (aaq F l) l [([117,110,105,111,110],2),([101,120,99,101,112,116],4)] n q j).on id (λq j=>anB l q j)=some r/\j<=l.length) ?_ (l.length+1) _ ?_
 .rintro n ⟨frn,obn,ckn⟩ ⟨q,j,f0,f2,f3,fo,E,hj⟩
  dsimp only at f0 f2 f3 fo
  cases n with
  | zero=>simp only[aai,Rz.on] at E;cases E
  | succ n =>
  simp only[aai,opT] at E
  cases cu:isT l j [117,110,105,111,110] with
  | true =>
   have hj1:=fe cu
   have hw:=aW j (by unfold LB at hl;omega)
   have tU:=aB2 l j e [117,110,105,111,110] [101,120,99,101,112,116] hl hj (b:=true) (by simp only[bF,cu,aH,cf])
   have tI:=sK l j e [117,110,105,111,110] hl hj
   rw[cu] at tI
   simp only[cu,ah] at E
   cases e2:aaq F l (if isT l (j+1) [97,108,108]=true then j+2 else j+1) [] with
   | none=>rw[e2] at E;cases E
   | some r2 =>
   have g2:=ahY (e:=e) hl 149 74 aI (aj aI) auO aA8 arq (aaq F l) (λi r h1 h2=>ahA hl H i r h1 h2) 2 (ci q.op) (cb q.al) (slC qyC q.ks) (cb q.di) (slC imC q.its) (slC fmC q.fr) (slC xpC q.wh) (slC xpC q.gr) (slC xpC q.hv) (slC odC q.od) (ci q.li) (ci q.sk) (j+1) r2 aC e2
   obtain⟨y,j2,q2⟩:=r2
   obtain⟨u2,v2⟩:=g2.1
   dsimp only at u2 v2
   rw[e2] at E
   cases q2 with
   | true =>
    have k2:=g2.bad
    cases E
    simp only[↓zA,sevalprocAttr,ab7,pT,zP,zBS,f0,f3,fo,hw,tU,tI,k2]
    all_goals exact fz
   | false =>
    have k2:=g2.ok
    simp only[Rz.on] at E
    simp only[↓zA,sevalprocAttr,ab7,pT,zBS,f0,f2,f3,fo,hw,tU,tI,k2]
    refine⟨n,aD n,_,j2,?_,E,v2⟩
    simp only[qyV,qyL]
    simp only[zVW]
    all_goals rfl
  | false =>
  cases cx:isT l j [101,120,99,101,112,116] with
  | true =>
   have hj1:=fe cx
   have hw:=aW j (by unfold LB at hl;omega)
   have tU:=aB2 l j e [117,110,105,111,110] [101,120,99,101,112,116] hl hj (b:=true) (by simp only[bF,cu,cx,aH,aY])
   have tI:=sK l j e [117,110,105,111,110] hl hj
   rw[cu] at tI
   simp only[cu,cx,ah,ap,ab] at E
   cases e2:aaq F l (if isT l (j+1) [97,108,108]=true then j+2 else j+1) [] with
   | none=>rw[e2] at E;cases E
   | some r2 =>
   have g2:=ahY (e:=e) hl 149 74 aI (aj aI) auO aA8 arq (aaq F l) (λi r h1 h2=>ahA hl H i r h1 h2) 4 (ci q.op) (cb q.al) (slC qyC q.ks) (cb q.di) (slC imC q.its) (slC fmC q.fr) (slC xpC q.wh) (slC xpC q.gr) (slC xpC q.hv) (slC odC q.od) (ci q.li) (ci q.sk) (j+1) r2 aC e2
   obtain⟨y,j2,q2⟩:=r2
   obtain⟨u2,v2⟩:=g2.1
   dsimp only at u2 v2
   rw[e2] at E
   cases q2 with
   | true =>
    have k2:=g2.bad
    cases E
    simp only[↓zA,sevalprocAttr,ab7,pT,zP,zBS,f0,f3,fo,hw,tU,tI,k2]
    all_goals exact fz
   | false =>
    have k2:=g2.ok
    simp only[Rz.on] at E
    simp only[↓zA,sevalprocAttr,ab7,pT,zBS,f0,f2,f3,fo,hw,tU,tI,k2]
    refine⟨n,aD n,_,j2,?_,E,v2⟩
    simp only[qyV,qyL]
    simp only[zVW]
    all_goals rfl
  | false =>
   have tU:=aB2 l j e [117,110,105,111,110] [101,120,99,101,112,116] hl hj (b:=false) (by simp only[bF,cu,cx,aH])
   simp only[cu,cx,ab,ap,Rz.on] at E
   rcases eWX l j e [111,114,100,101,114] hl with ⟨c1,b1,t1,x1⟩|⟨c1,t1⟩
   have z2:=aB3 l j e [111,114,100,101,114] [108,105,109,105,116] [111,102,102,115,101,116] hl hj (b:=true) (by simp only[bF,c1,x1,uL,sevalprocAttr,cY,fY,aH])
   have w2:bF l j [[111,114,100,101,114],[108,105,109,105,116],[111,102,102,115,101,116]]=true:=by simp only[bF,c1,x1,uL,sevalprocAttr,cY,fY,aH]
   have hq1:((0:Int)<(q.od.length:Int))=(0<q.od.length):=aK 0 _
   have gk:=gK l j e hl hj
   rcases eP (0<q.od.length) with ⟨c3,d3⟩|⟨c3,d3⟩
   rotate_left
   rcases bk (q.li=-1) with d4|d4
   rcases eP (0<q.sk) with ⟨c5,d5⟩|⟨c5,d5⟩
   rotate_left
   rcases eWX l (j+1) e [98,121] hl with ⟨c6,b6,t6,x6⟩|⟨c6,t6⟩
   simp only[anB,akX,aii,aH,dv,fP,zRZ,sevalprocAttr,↓reduceIte,c1,w2,d3,d4,d5,c6] at E
   rw[show l.length+1=l.length+1 from rfl,au7] at E
   rcases eR (byR l (j+2)) λ_=>aoH e hl H.tl _ _ aC with e8|⟨a8,j8,e8,⟨u8,v8⟩,k8⟩|⟨a8,j8,e8,⟨u8,v8⟩,k8⟩
   rotate_left
   .simp only[e8,Rz.on] at E
    cases E
    simp only[↓zA,sevalprocAttr,ab7,pT,zP,zBS,aQ,zLX, *]
    all_goals exact fz
   .simp only[e8,Rz.on,db] at E
    simp only[↓zA,sevalprocAttr,ab7,pT,zBS,aQ, *]
    refine eT _ _ (λn s=>∃ os j,s.fr 0=.ptr 0 0/\s.fr 2=.ptr 1 0/\s.fr 3=.ptr 2 0/\s.objs=[pT l j e,.var 38 qyZ,.var 38 (ar6 q os 2)]/\(byM l n os j).on (λ_=>q) (λo m=>adM l q o m)=some r/\j<=l.length/\os.length<=j) ?_ l.length _ ?_
    .rintro n ⟨frn,obn,ckn⟩ ⟨os,j,f0,f2,f3,fo,E,hj,hk⟩
     dsimp only at f0 f2 f3 fo
     have hos:(os.length+1<=LIM)=True:=aa (by unfold LIM;unfold LB at hl;omega)
     rcases eWX l j e [44] hl with ⟨c9,b9,t9,x9⟩|⟨c9,t9⟩
     .cases n with
      | zero=>simp only[byM,c9,ah,byL,Rz.on] at E;cases E
      | succ m =>
      simp only[byM,c9,ah] at E
      rw[au7] at E
      rcases eR (byR l (j+1)) λ_=>aoH e hl H.tl _ _ aC with e10|⟨a10,j10,e10,⟨u10,v10⟩,k10⟩|⟨a10,j10,e10,⟨u10,v10⟩,k10⟩
      rotate_left
      .simp only[e10,Rz.on] at E
       cases E
       simp only[↓zA,sevalprocAttr,ab7,pT,zP,aQ,zLX, *]
       all_goals exact fz
      .simp only[e10,Rz.on] at E
       simp only[↓zA,sevalprocAttr,ab7,pT,zP,aQ,zLX,gO, *]
       refine⟨m,aD m,os++[a10],j10,?_,E,v10,by simp only[abQ];omega⟩
       simp only[ar6]
       simp only[zVW]
       all_goals rfl
      all_goals (simp only[byM,adM,agh,zRZ,sevalprocAttr, *] at E <;> cases E)
     rcases eWX l j e [108,105,109,105,116] hl with _|_
     rcases aiX l (j+1) e hl with _|_
     rcases eWX l (j+2) e [111,102,102,115,101,116] hl with _|_
     rcases aiX l (j+3) e hl with _|_
     rotate_left 4
     rcases eWX l j e [111,102,102,115,101,116] hl with _|_
     rcases aiX l (j+1) e hl with _|_
     rotate_left 3
     all_goals (simp only[byM,adM,agh,zRZ,sevalprocAttr,↓reduceIte, *] at E <;> cases E <;> (simp only[↓zA,sevalprocAttr,ab7,pT,zP,aQ,zLX, *];all_goals exact fz))
    .simp only[↓zA,sevalprocAttr,ab7,pT,f0,f2,f3]
     refine⟨[a8],j8,?_,E,v8,by simp only[fZ];omega⟩
     simp only[ar6]
     simp only[zVW]
     all_goals rfl
   rotate_left 2
   rcases eWX l j e [108,105,109,105,116] hl with ⟨c17,b17,t17,x17⟩|⟨c17,t17⟩
   have z18:=aB3 l j e [111,114,100,101,114] [108,105,109,105,116] [111,102,102,115,101,116] hl hj (b:=true) (by simp only[bF,c1,c17,x17,uL,sevalprocAttr,cY,aH,aY])
   have w18:bF l j [[111,114,100,101,114],[108,105,109,105,116],[111,102,102,115,101,116]]=true:=by simp only[bF,c1,c17,x17,uL,sevalprocAttr,cY,aH,aY]
   have hq1:((0:Int)<(q.od.length:Int))=(0<q.od.length):=aK 0 _
   have gk:=gK l j e hl hj
   rcases eP (0<q.od.length) with ⟨c19,d19⟩|⟨c19,d19⟩
   rotate_left
   rcases bk (q.li=-1) with d20|d20
   rcases eP (0<q.sk) with ⟨c21,d21⟩|⟨c21,d21⟩
   rotate_left
   rcases aiX l (j+1) e hl with _|_
   rcases eWX l (j+2) e [111,102,102,115,101,116] hl with _|_
   rcases aiX l (j+3) e hl with _|_
   rotate_left 5
   rcases eWX l j e [111,102,102,115,101,116] hl with ⟨c25,b25,t25,x25⟩|⟨c25,t25⟩
   have z26:=aB3 l j e [111,114,100,101,114] [108,105,109,105,116] [111,102,102,115,101,116] hl hj (b:=true) (by simp only[bF,c1,c17,c25,sevalprocAttr,aH,aY])
   have w26:bF l j [[111,114,100,101,114],[108,105,109,105,116],[111,102,102,115,101,116]]=true:=by simp only[bF,c1,c17,c25,sevalprocAttr,aH,aY]
   have hq1:((0:Int)<(q.od.length:Int))=(0<q.od.length):=aK 0 _
   have gk:=gK l j e hl hj
   rcases eP (0<q.od.length) with ⟨c27,d27⟩|⟨c27,d27⟩
   rotate_left
   rcases bk (q.li=-1) with d28|d28
   rcases eP (0<q.sk) with ⟨c29,d29⟩|⟨c29,d29⟩
   rotate_left
   rcases aiX l (j+1) e hl with _|_
   rotate_left 3
   have z31:=aB3 l j e [111,114,100,101,114] [108,105,109,105,116] [111,102,102,115,101,116] hl hj (b:=false) (by simp only[bF,c1,c17,c25,sevalprocAttr,aH])
   have w31:bF l j [[111,114,100,101,114],[108,105,109,105,116],[111,102,102,115,101,116]]=false:=by simp only[bF,c1,c17,c25,sevalprocAttr,aH]
   rotate_left
   all_goals (simp only[anB,akX,aii,adM,agh,aH,cf,aY,dv,fP,aak,decide_not,zRZ,sevalprocAttr,↓reduceIte, *] at E <;> cases E <;> (simp only[↓zA,sevalprocAttr,ab7,pT,zP,zBS,aQ,zLX, *];all_goals exact fz))
 .simp only[↓zA,sevalprocAttr,ab7,pT]
  exact⟨a,j,rfl,hr,v⟩
def ayO{l:List Tn}{e:Int}{F:Fs}(hl:l.length<LB)(H:PY l e F)(i:Nat)(x:Qy)(cs:List C)(hx:cs=qyC x)(r:Qy×Nat×Bool)(hi:i<=l.length)(hr:adV F l i [x]=some r):GP 39 [.ptr 0 0] [pTq l i e,.row 38 cs] l e deQ qyE i r:=by
 refine⟨Pl.at (akv H.fp hi) hr,?_⟩
 rw[as8] at hr
 have lv:aej (some (.row 38 cs))=true:=by rw[hx,ep];rfl
 cases e1:aaq F l i [x] with
 | none=>rw[e1] at hr;cases hr
 | some q =>
 obtain⟨a,j,q⟩:=q
 have g:=aze hl H i x cs hx _ hi e1
 obtain⟨u,v⟩:=g.1
 dsimp only at u v
 rw[e1] at hr
 cases q with
 | true =>
  have k:=g.bad
  cases hr
  refine bB axk ?_
  simp only[↓zA,sevalprocAttr,ab7,bW,pT,pTq,zP,k,lv]
  all_goals exact fz
 | false =>
 have k:=g.ok
 simp only[Rz.on] at hr
 refine bB axk ?_
 simp only[↓zA,sevalprocAttr,ab7,bW,pT,pTq,k,lv]
 refine eT _ _ (λn s=>∃ q j,s.fr 0=.ptr 0 0/\s.fr 2=.ptr 2 0/\s.fr 3=.ptr 3 0/\s.objs=[pT l j e,.row 38 [],.var 38 qyZ,.var 38 (qyV q)]/\(aai (aaq F l) l [([117,110,105,111,110],2),([101,120,99,101,112,116],4)] n q j).on id (λq j=>anB l q j)=some r/\j<=l.length) ?_ (l.length+1) _ ?_
 .rintro n ⟨frn,obn,ckn⟩ ⟨q,j,f0,f2,f3,fo,E,hj⟩
  dsimp only at f0 f2 f3 fo
  cases n with
  | zero=>simp only[aai,Rz.on] at E;cases E
  | succ n =>
  simp only[aai,opT] at E
  cases cu:isT l j [117,110,105,111,110] with
  | true =>
   have hj1:=fe cu
   have hw:=aW j (by unfold LB at hl;omega)
   have tU:=aB2 l j e [117,110,105,111,110] [101,120,99,101,112,116] hl hj (b:=true) (by simp only[bF,cu,aH,cf])
   have tI:=sK l j e [117,110,105,111,110] hl hj
   rw[cu] at tI
   simp only[cu,ah] at E
   cases e2:aaq F l (if isT l (j+1) [97,108,108]=true then j+2 else j+1) [] with
   | none=>rw[e2] at E;cases E
   | some r2 =>
   have g2:=ahY (e:=e) hl 149 74 aI (aj aI) auO aA8 arq (aaq F l) (λi r h1 h2=>ahA hl H i r h1 h2) 2 (ci q.op) (cb q.al) (slC qyC q.ks) (cb q.di) (slC imC q.its) (slC fmC q.fr) (slC xpC q.wh) (slC xpC q.gr) (slC xpC q.hv) (slC odC q.od) (ci q.li) (ci q.sk) (j+1) r2 aC e2
   obtain⟨y,j2,q2⟩:=r2
   obtain⟨u2,v2⟩:=g2.1
   dsimp only at u2 v2
   rw[e2] at E
   cases q2 with
   | true =>
    have k2:=g2.bad
    cases E
    simp only[↓zA,sevalprocAttr,ab7,pT,zP,zBS,f0,f3,fo,hw,tU,tI,k2]
    all_goals exact fz
   | false =>
    have k2:=g2.ok
    simp only[Rz.on] at E
    simp only[↓zA,sevalprocAttr,ab7,pT,zBS,f0,f2,f3,fo,hw,tU,tI,k2]
    refine⟨n,aD n,_,j2,?_,E,v2⟩
    simp only[qyV,qyL]
    simp only[zVW]
    all_goals rfl
  | false =>
  cases cx:isT l j [101,120,99,101,112,116] with
  | true =>
   have hj1:=fe cx
   have hw:=aW j (by unfold LB at hl;omega)
   have tU:=aB2 l j e [117,110,105,111,110] [101,120,99,101,112,116] hl hj (b:=true) (by simp only[bF,cu,cx,aH,aY])
   have tI:=sK l j e [117,110,105,111,110] hl hj
   rw[cu] at tI
   simp only[cu,cx,ah,ap,ab] at E
   cases e2:aaq F l (if isT l (j+1) [97,108,108]=true then j+2 else j+1) [] with
   | none=>rw[e2] at E;cases E
   | some r2 =>
   have g2:=ahY (e:=e) hl 149 74 aI (aj aI) auO aA8 arq (aaq F l) (λi r h1 h2=>ahA hl H i r h1 h2) 4 (ci q.op) (cb q.al) (slC qyC q.ks) (cb q.di) (slC imC q.its) (slC fmC q.fr) (slC xpC q.wh) (slC xpC q.gr) (slC xpC q.hv) (slC odC q.od) (ci q.li) (ci q.sk) (j+1) r2 aC e2
   obtain⟨y,j2,q2⟩:=r2
   obtain⟨u2,v2⟩:=g2.1
   dsimp only at u2 v2
   rw[e2] at E
   cases q2 with
   | true =>
    have k2:=g2.bad
    cases E
    simp only[↓zA,sevalprocAttr,ab7,pT,zP,zBS,f0,f3,fo,hw,tU,tI,k2]
    all_goals exact fz
   | false =>
    have k2:=g2.ok
    simp only[Rz.on] at E
    simp only[↓zA,sevalprocAttr,ab7,pT,zBS,f0,f2,f3,fo,hw,tU,tI,k2]
    refine⟨n,aD n,_,j2,?_,E,v2⟩
    simp only[qyV,qyL]
    simp only[zVW]
    all_goals rfl
  | false =>
   have tU:=aB2 l j e [117,110,105,111,110] [101,120,99,101,112,116] hl hj (b:=false) (by simp only[bF,cu,cx,aH])
   simp only[cu,cx,ab,ap,Rz.on] at E
   rcases eWX l j e [111,114,100,101,114] hl with ⟨c1,b1,t1,x1⟩|⟨c1,t1⟩
   have z2:=aB3 l j e [111,114,100,101,114] [108,105,109,105,116] [111,102,102,115,101,116] hl hj (b:=true) (by simp only[bF,c1,x1,uL,sevalprocAttr,cY,fY,aH])
   have w2:bF l j [[111,114,100,101,114],[108,105,109,105,116],[111,102,102,115,101,116]]=true:=by simp only[bF,c1,x1,uL,sevalprocAttr,cY,fY,aH]
   have hq1:((0:Int)<(q.od.length:Int))=(0<q.od.length):=aK 0 _
   have gk:=gK l j e hl hj
   rcases eP (0<q.od.length) with ⟨c3,d3⟩|⟨c3,d3⟩
   rotate_left
   rcases bk (q.li=-1) with d4|d4
   rcases eP (0<q.sk) with ⟨c5,d5⟩|⟨c5,d5⟩
   rotate_left
   rcases eWX l (j+1) e [98,121] hl with ⟨c6,b6,t6,x6⟩|⟨c6,t6⟩
   simp only[anB,akX,aii,aH,dv,fP,zRZ,sevalprocAttr,↓reduceIte,c1,w2,d3,d4,d5,c6] at E
   rw[show l.length+1=l.length+1 from rfl,au7] at E
   rcases eR (byR l (j+2)) λ_=>aoH e hl H.tl _ _ aC with e8|⟨a8,j8,e8,⟨u8,v8⟩,k8⟩|⟨a8,j8,e8,⟨u8,v8⟩,k8⟩
   rotate_left
   .simp only[e8,Rz.on] at E
    cases E
    simp only[↓zA,sevalprocAttr,ab7,pT,zP,zBS,aQ,zLX, *]
    all_goals exact fz
   .simp only[e8,Rz.on,db] at E
    simp only[↓zA,sevalprocAttr,ab7,pT,zBS,aQ, *]
    refine eT _ _ (λn s=>∃ os j,s.fr 0=.ptr 0 0/\s.fr 2=.ptr 2 0/\s.fr 3=.ptr 3 0/\s.objs=[pT l j e,.row 38 [],.var 38 qyZ,.var 38 (ar6 q os 3)]/\(byM l n os j).on (λ_=>q) (λo m=>adM l q o m)=some r/\j<=l.length/\os.length<=j) ?_ l.length _ ?_
    .rintro n ⟨frn,obn,ckn⟩ ⟨os,j,f0,f2,f3,fo,E,hj,hk⟩
     dsimp only at f0 f2 f3 fo
     have hos:(os.length+1<=LIM)=True:=aa (by unfold LIM;unfold LB at hl;omega)
     rcases eWX l j e [44] hl with ⟨c9,b9,t9,x9⟩|⟨c9,t9⟩
     .cases n with
      | zero=>simp only[byM,c9,ah,byL,Rz.on] at E;cases E
      | succ m =>
      simp only[byM,c9,ah] at E
      rw[au7] at E
      rcases eR (byR l (j+1)) λ_=>aoH e hl H.tl _ _ aC with e10|⟨a10,j10,e10,⟨u10,v10⟩,k10⟩|⟨a10,j10,e10,⟨u10,v10⟩,k10⟩
      rotate_left
      .simp only[e10,Rz.on] at E
       cases E
       simp only[↓zA,sevalprocAttr,ab7,pT,zP,aQ,zLX, *]
       all_goals exact fz
      .simp only[e10,Rz.on] at E
       simp only[↓zA,sevalprocAttr,ab7,pT,zP,aQ,zLX,gO, *]
       refine⟨m,aD m,os++[a10],j10,?_,E,v10,by simp only[abQ];omega⟩
       simp only[ar6]
       simp only[zVW]
       all_goals rfl
      all_goals (simp only[byM,adM,agh,zRZ,sevalprocAttr, *] at E <;> cases E)
     rcases eWX l j e [108,105,109,105,116] hl with _|_
     rcases aiX l (j+1) e hl with _|_
     rcases eWX l (j+2) e [111,102,102,115,101,116] hl with _|_
     rcases aiX l (j+3) e hl with _|_
     rotate_left 4
     rcases eWX l j e [111,102,102,115,101,116] hl with _|_
     rcases aiX l (j+1) e hl with _|_
     rotate_left 3
     all_goals (simp only[byM,adM,agh,zRZ,sevalprocAttr,↓reduceIte, *] at E <;> cases E <;> (simp only[↓zA,sevalprocAttr,ab7,pT,zP,aQ,zLX, *];all_goals exact fz))
    .simp only[↓zA,sevalprocAttr,ab7,pT,f0,f2,f3]
     refine⟨[a8],j8,?_,E,v8,by simp only[fZ];omega⟩
     simp only[ar6]
     simp only[zVW]
     all_goals rfl
   rotate_left 2
   rcases eWX l j e [108,105,109,105,116] hl with ⟨c17,b17,t17,x17⟩|⟨c17,t17⟩
   have z18:=aB3 l j e [111,114,100,101,114] [108,105,109,105,116] [111,102,102,115,101,116] hl hj (b:=true) (by simp only[bF,c1,c17,x17,uL,sevalprocAttr,cY,aH,aY])
   have w18:bF l j [[111,114,100,101,114],[108,105,109,105,116],[111,102,102,115,101,116]]=true:=by simp only[bF,c1,c17,x17,uL,sevalprocAttr,cY,aH,aY]
   have hq1:((0:Int)<(q.od.length:Int))=(0<q.od.length):=aK 0 _
   have gk:=gK l j e hl hj
   rcases eP (0<q.od.length) with ⟨c19,d19⟩|⟨c19,d19⟩
   rotate_left
   rcases bk (q.li=-1) with d20|d20
   rcases eP (0<q.sk) with ⟨c21,d21⟩|⟨c21,d21⟩
   rotate_left
   rcases aiX l (j+1) e hl with _|_
   rcases eWX l (j+2) e [111,102,102,115,101,116] hl with _|_
   rcases aiX l (j+3) e hl with _|_
   rotate_left 5
   rcases eWX l j e [111,102,102,115,101,116] hl with ⟨c25,b25,t25,x25⟩|⟨c25,t25⟩
   have z26:=aB3 l j e [111,114,100,101,114] [108,105,109,105,116] [111,102,102,115,101,116] hl hj (b:=true) (by simp only[bF,c1,c17,c25,sevalprocAttr,aH,aY])
   have w26:bF l j [[111,114,100,101,114],[108,105,109,105,116],[111,102,102,115,101,116]]=true:=by simp only[bF,c1,c17,c25,sevalprocAttr,aH,aY]
   have hq1:((0:Int)<(q.od.length:Int))=(0<q.od.length):=aK 0 _
   have gk:=gK l j e hl hj
   rcases eP (0<q.od.length) with ⟨c27,d27⟩|⟨c27,d27⟩
   rotate_left
   rcases bk (q.li=-1) with d28|d28
   rcases eP (0<q.sk) with ⟨c29,d29⟩|⟨c29,d29⟩
   rotate_left
   rcases aiX l (j+1) e hl with _|_
   rotate_left 3
   have z31:=aB3 l j e [111,114,100,101,114] [108,105,109,105,116] [111,102,102,115,101,116] hl hj (b:=false) (by simp only[bF,c1,c17,c25,sevalprocAttr,aH])
   have w31:bF l j [[111,114,100,101,114],[108,105,109,105,116],[111,102,102,115,101,116]]=false:=by simp only[bF,c1,c17,c25,sevalprocAttr,aH]
   rotate_left
   all_goals (simp only[anB,akX,aii,adM,agh,aH,cf,aY,dv,fP,aak,decide_not,zRZ,sevalprocAttr,↓reduceIte, *] at E <;> cases E <;> (simp only[↓zA,sevalprocAttr,ab7,pT,zP,zBS,aQ,zLX, *];all_goals exact fz))
 .simp only[↓zA,sevalprocAttr,ab7,pT]
  exact⟨a,j,rfl,hr,v⟩
def atG{l:List Tn}(T:TL l)(j:Nat)(q:Qy):acn l j q=some (if (asT l j).2.2=true then (if isT l j [97,115]=true then .mk 2 [] [] [q] [] [] else f0) else .mk 2 [] (asT l j).1 [q] [] [],(asT l j).2.1,(asT l j).2.2):=by
 have ne:∀ i,br l i 2=true->decide (txT l i=[])=false:=by
  intro i h
  have hb:=gl h
  refine bK ?_
  rw[acW]
  refine T.s _ (akm hb) ?_
  rwa [afE l i 2 aI,aR] at h
 unfold acn fq asT eZ
 cases c:isT l j [97,115] with
 | true =>
  simp only[ah]
  cases k:br l (j+1) 2 with
  | true=>simp only[ah,ne _ k,ct,cy,ab,ap]
  | false=>simp only[ah,ap,ab,bJ,cm]
 | false =>
  simp only[ab,ap]
  cases k:br l j 2 with
  | true=>simp only[ah,ne _ k,ct,cy,ab,ap]
  | false=>simp only[ah,ap,ab,ct,ff,eu]
def aNF:IntKind.i64.wrap (-1)=-1:=by decide
def aKo:=ai (hM @Tryz.f319.eq_1 @zq @bi @bG @an6 @dm) (hM @gH @cO @P4 @Q4 @zT0 (kf aCu))
def aNS(l:List Tn)(i:Nat)(e:Int)(x:Fm)(cs:List C)(hx:cs=fmC x):aF Tryz.prog pr 319 [.ptr 0 0] [pTf l i e,.row 140 cs] ⟨false,[fmE x],[pT l i e,.row 140 []]⟩:=by
 subst hx
 have hw:IntKind.i64.wrap (1-1)=0:=by decide
 refine bB aCu ?_
 simp only[↓zA,sevalprocAttr,aKo,pT,pTf,avg,aXL,aXD,aXG,E35]
 all_goals exact fz
def aeI{l:List Tn}{e:Int}{F:Fs}(hl:l.length<LB)(H:PY l e F)(i:Nat)(r:Fm×Nat×Bool)(hi:i<=l.length)(hr:ad6 F l i=some r):GP 319 [.ptr 0 0] [pT l i e] l e [] fmE i r:=by
 refine⟨Pl.at (aok H.fp hi) hr,?_⟩
 rcases eWX l i e [40] hl with _|_
 rcases eR (F.so (i+1)) λ_=>H.so _ _ aC with _|⟨_,_,_⟩|⟨a2,j2,_⟩
 rotate_left 2
 rcases eWX l j2 e [41] hl with _|_
 rcases c4:a2.q with _|_
 rotate_left
 have hc:acn l (j2+1) a2.y=_:=atG H.tl (j2+1) a2.y
 rcases e5:asT l (j2+1) with ⟨a5,j5,_|_⟩
 obtain⟨⟨u5,v5⟩,k5⟩:=(aiz e hl _ _ aC (congrArg some e5)).okA
 rotate_left
 obtain⟨⟨u5,v5⟩,k5⟩:=(aiz e hl _ _ aC (congrArg some e5)).badA
 rotate_left 2
 rcases apY l i e hl with _|_
 rcases e7:fq l (i+1) with ⟨a7,j7,_|_⟩
 obtain⟨⟨u7,v7⟩,k7⟩:=(aa2 e hl _ _ aC (congrArg some e7)).okA
 rotate_left
 obtain⟨⟨u7,v7⟩,k7⟩:=(aa2 e hl _ _ aC (congrArg some e7)).badA
 rotate_left 2
 all_goals (simp only[ad6,ahL,aot,eZ,zRZ,sevalprocAttr,↓reduceIte, *] at hr <;> cases hr <;> (refine bB aCu ?_;simp only[↓zA,sevalprocAttr,aKo,bW,pT,zP,aQ,zLX,bG,bi,aNF, *];all_goals exact fz))
abbrev fmV(a:Fm):List X:=[.of (ci a.kd),.of (aJ (aM a.nm)),.of (aJ (aM a.az)),.of (slC qyC a.sb),.of (slC fmC a.ks),.of (slC xpC a.on)]
abbrev fmZ:List X:=[.of (ci 0),.of (aJ {data:=#[]}),.of (aJ {data:=#[]}),.nil,.nil,.nil]
abbrev fmL(b c:Fm):List C:=[ci b.kd,aJ (aM b.nm),aJ (aM b.az),slC qyC b.sb,slC fmC b.ks,slC xpC b.on,ci c.kd,aJ (aM c.nm),aJ (aM c.az),slC qyC c.sb,slC fmC c.ks,slC xpC c.on]
abbrev fmO(r:Nat)(k:Int)(b c:Fm):List X:=[.of (ci k),.of (aJ {data:=#[]}),.of (aJ {data:=#[]}),.nil,.own (.cell r 4) 140 6 (fmL b c) 2,.nil]
abbrev fmP(r:Nat)(k:Int)(b c:Fm)(y:Xp):List X:=[.of (ci k),.of (aJ {data:=#[]}),.of (aJ {data:=#[]}),.nil,.own (.cell r 4) 140 6 (fmL b c) 2,.own (.cell r 5) 28 9 [ci y.op,ci y.v.k,ci y.v.n,aJ y.v.s,aJ (aM y.tb),aJ (aM y.nm),cb y.di,slC xpC y.ks,slC qyC y.sb] 1]
abbrev fm2(k:Int)(b c:Fm):Fm:=.mk k [] [] [] [b,c] []
abbrev fm3(k:Int)(b c:Fm)(y:Xp):Fm:=.mk k [] [] [] [b,c] [y]
def FmK(r:Nat)(f:Fm)(xs:List X):Prop:=xs=fmV f\/(∃ k b c,f=fm2 k b c/\xs=fmO r k b c)\/∃ k b c y,f=fm3 k b c y/\xs=fmP r k b c y
theorem FmK.trs{r:Nat}{f:Fm}{xs:List X}(h:FmK (r+1) f xs):X.trs some (dz [0] []) xs=xs:=by
 rcases h with h|⟨k,b,c,_,h⟩|⟨k,b,c,y,_,h⟩ <;> (rw[h];rfl)
def aeE:=ib @Tryz.f312.eq_1 @zq @aZ @bG @cX @gH @cO @zT0 (kf au0)
def aFt{l:List Tn}{e:Int}{F:Fs}(hl:l.length<LB)(H:PY l e F)(i:Nat)(a:Fm)(j:Nat)(r:Fm×Nat×Bool)(hr:acw F l (l.length+1) a j=some r)(v:j<=l.length)
  (k:∀ K,cKp 319 [.ptr 0 0] [pT l i e] K↔K ⟨false,[fmE a],pT l j e::[]⟩):aF Tryz.prog pr 312 [.ptr 0 0] [pT l i e] (bW l e fmE r []):=by
 refine bB au0 ?_
 simp only[↓zA,sevalprocAttr,aeE,bW,pT,k,bG]
 refine eT _ _ (λn s=>∃ a j xs,FmK 2 a xs/\s.fr 0=.ptr 0 0/\s.fr 2=.ptr 1 0/\s.fr 3=.ptr 2 0/\s.objs=[pT l j e,.var 140 fmZ,.var 140 xs]/\acw F l n a j=some r/\j<=l.length) ?_ (l.length+1) _ ?_
 .rintro n ⟨frn,obn,ckn⟩ ⟨a,j,xs,hx',f0,f2,f3,fo,E,hj⟩
  dsimp only at f0 f2 f3 fo
  have hxt:=hx'.trs
  cases n with
  | zero=>simp only[acw] at E;cases E
  | succ n =>
  simp only[acw] at E
  rcases eWX l j e [99,114,111,115,115] hl with ⟨c1,b1,t1,x1⟩|⟨c1,t1⟩
  rcases eWX l (j+1) e [106,111,105,110] hl with ⟨c2,b2,t2,x2⟩|⟨c2,t2⟩
  rcases eR (ad6 F l (j+2)) λ_=>aeI hl H _ _ aC with e3|⟨_,_,_⟩|⟨a3,j3,e3,⟨u3,v3⟩,k3⟩
  rotate_left 2
  .simp only[ac9,dU,zRZ,sevalprocAttr,↓reduceIte,c1,c2,e3] at E
   rcases hx' with hx'|⟨fk,fb,fc,hx1,hx'⟩|⟨fk,fb,fc,fy,hx1,hx'⟩
   all_goals (subst hx';try subst hx1)
   all_goals (simp only[↓zA,sevalprocAttr,aeE,pT,zP,zBS,aQ,zLX,bG, *])
   all_goals refine⟨n,aD n,_,j3,_,.inr (.inl ⟨3,_,a3,rfl,rfl⟩),?_,E,v3⟩
   all_goals simp only[fmO,fmL,fm2,fm3]
   all_goals simp only[zVW]
   all_goals rfl
  rotate_left
  rcases eWX l j e [105,110,110,101,114] hl with ⟨c4,b4,t4,x4⟩|⟨c4,t4⟩
  rcases eWX l (j+1) e [106,111,105,110] hl with ⟨c5,b5,t5,x5⟩|⟨c5,t5⟩
  rcases eR (ad6 F l (j+2)) λ_=>aeI hl H _ _ aC with e6|⟨_,_,_⟩|⟨a6,j6,e6,⟨u6,v6⟩,k6⟩
  rotate_left 2
  rcases eWX l j6 e [111,110] hl with ⟨c7,b7,t7,x7⟩|⟨c7,t7⟩
  rcases eR (F.or (j6+1) []) λ_=>H.or _ _ aC with e8|⟨_,_,_⟩|⟨a8,j8,e8,⟨u8,v8⟩,k8⟩
  rotate_left 2
  .simp only[ac9,dU,zRZ,sevalprocAttr,↓reduceIte,show ((4:Int)=3)=False from by decide,c1,c4,c5,e6,c7,e8] at E
   rcases hx' with hx'|⟨fk,fb,fc,hx1,hx'⟩|⟨fk,fb,fc,fy,hx1,hx'⟩
   all_goals (subst hx';try subst hx1)
   all_goals (simp only[↓zA,sevalprocAttr,aeE,pT,zP,zBS,aQ,zLX,aZ,bG,uL, *])
   all_goals refine⟨n,aD n,_,j8,_,.inr (.inr ⟨4,_,a6,a8,rfl,rfl⟩),?_,E,v8⟩
   all_goals simp only[fmP,fmL,fm2,fm3]
   all_goals simp only[zVW]
   all_goals rfl
  rotate_left 2
  rcases eWX l j e [108,101,102,116] hl with ⟨c9,b9,t9,x9⟩|⟨c9,t9⟩
  rcases eWX l (j+1) e [106,111,105,110] hl with ⟨c10,b10,t10,x10⟩|⟨c10,t10⟩
  rcases eR (ad6 F l (j+2)) λ_=>aeI hl H _ _ aC with e11|⟨_,_,_⟩|⟨a11,j11,e11,⟨u11,v11⟩,k11⟩
  rotate_left 2
  rcases eWX l j11 e [111,110] hl with ⟨c12,b12,t12,x12⟩|⟨c12,t12⟩
  rcases eR (F.or (j11+1) []) λ_=>H.or _ _ aC with e13|⟨_,_,_⟩|⟨a13,j13,e13,⟨u13,v13⟩,k13⟩
  rotate_left 2
  .simp only[ac9,dU,zRZ,sevalprocAttr,↓reduceIte,show ((5:Int)=3)=False from by decide,c1,c4,c9,c10,e11,c12,e13] at E
   rcases hx' with hx'|⟨fk,fb,fc,hx1,hx'⟩|⟨fk,fb,fc,fy,hx1,hx'⟩
   all_goals (subst hx';try subst hx1)
   all_goals (simp only[↓zA,sevalprocAttr,aeE,pT,zP,zBS,aQ,zLX,aZ,bG, *])
   all_goals refine⟨n,aD n,_,j13,_,.inr (.inr ⟨5,_,a11,a13,rfl,rfl⟩),?_,E,v13⟩
   all_goals simp only[fmP,fmL,fm2,fm3]
   all_goals simp only[zVW]
   all_goals rfl
  rotate_left 2
  rcases eWX l j e [106,111,105,110] hl with ⟨c14,b14,t14,x14⟩|⟨c14,t14⟩
  rcases eR (ad6 F l (j+1)) λ_=>aeI hl H _ _ aC with e15|⟨_,_,_⟩|⟨a15,j15,e15,⟨u15,v15⟩,k15⟩
  rotate_left 2
  rcases eWX l j15 e [111,110] hl with ⟨c16,b16,t16,x16⟩|⟨c16,t16⟩
  rcases eR (F.or (j15+1) []) λ_=>H.or _ _ aC with e17|⟨_,_,_⟩|⟨a17,j17,e17,⟨u17,v17⟩,k17⟩
  rotate_left 2
  .simp only[ac9,dU,zRZ,sevalprocAttr,↓reduceIte,show ((4:Int)=3)=False from by decide,c1,c4,c9,c14,e15,c16,e17] at E
   rcases hx' with hx'|⟨fk,fb,fc,hx1,hx'⟩|⟨fk,fb,fc,fy,hx1,hx'⟩
   all_goals (subst hx';try subst hx1)
   all_goals (simp only[↓zA,sevalprocAttr,aeE,pT,zP,zBS,aQ,zLX,aZ,bG, *])
   all_goals refine⟨n,aD n,_,j17,_,.inr (.inr ⟨4,_,a15,a17,rfl,rfl⟩),?_,E,v17⟩
   all_goals simp only[fmP,fmL,fm2,fm3]
   all_goals simp only[zVW]
   all_goals rfl
  rotate_left 2
  all_goals (simp only[ac9,dU,zRZ,sevalprocAttr,↓reduceIte,show ((4:Int)=3)=False from by decide,show ((5:Int)=3)=False from by decide, *] at E <;> cases E <;> (rcases hx' with hx'|⟨fk,fb,fc,hx1,hx'⟩|⟨fk,fb,fc,fy,hx1,hx'⟩;all_goals (subst hx';try subst hx1);all_goals (simp only[↓zA,sevalprocAttr,aeE,pT,zP,zBS,aQ,zLX,bG,uL, *];all_goals exact fz)))
 .simp only[↓zA,sevalprocAttr,aeE,pT]
  exact⟨a,j,_,.inl rfl,rfl,hr,v⟩
def aB9{l:List Tn}{e:Int}{F:Fs}(hl:l.length<LB)(H:PY l e F)(i:Nat)(x:Fm)(cs:List C)(hx:cs=fmC x)(a:Fm)(j:Nat)(r:Fm×Nat×Bool)(hr:acw F l (l.length+1) a j=some r)(v:j<=l.length)
  (k:∀ K,cKp 319 [.ptr 0 0] [pTf l i e,.row 140 cs] K↔K ⟨false,[fmE a],pT l j e::deF⟩):aF Tryz.prog pr 312 [.ptr 0 0] [pTf l i e,.row 140 cs] (bW l e fmE r deF):=by
 have lv:aej (some (.row 140 cs))=true:=by rw[hx,aba];rfl
 refine bB au0 ?_
 simp only[↓zA,sevalprocAttr,aeE,bW,pT,pTf,k,lv,bG]
 refine eT _ _ (λn s=>∃ a j xs,FmK 3 a xs/\s.fr 0=.ptr 0 0/\s.fr 2=.ptr 2 0/\s.fr 3=.ptr 3 0/\s.objs=[pT l j e,.row 140 [],.var 140 fmZ,.var 140 xs]/\acw F l n a j=some r/\j<=l.length) ?_ (l.length+1) _ ?_
 .rintro n ⟨frn,obn,ckn⟩ ⟨a,j,xs,hx',f0,f2,f3,fo,E,hj⟩
  dsimp only at f0 f2 f3 fo
  have hxt:=hx'.trs
  cases n with
  | zero=>simp only[acw] at E;cases E
  | succ n =>
  simp only[acw] at E
  rcases eWX l j e [99,114,111,115,115] hl with ⟨c1,b1,t1,x1⟩|⟨c1,t1⟩
  rcases eWX l (j+1) e [106,111,105,110] hl with ⟨c2,b2,t2,x2⟩|⟨c2,t2⟩
  rcases eR (ad6 F l (j+2)) λ_=>aeI hl H _ _ aC with e3|⟨_,_,_⟩|⟨a3,j3,e3,⟨u3,v3⟩,k3⟩
  rotate_left 2
  .simp only[ac9,dU,zRZ,sevalprocAttr,↓reduceIte,c1,c2,e3] at E
   rcases hx' with hx'|⟨fk,fb,fc,hx1,hx'⟩|⟨fk,fb,fc,fy,hx1,hx'⟩
   all_goals (subst hx';try subst hx1)
   all_goals (simp only[↓zA,sevalprocAttr,aeE,pT,zP,zBS,aQ,zLX,bG, *])
   all_goals refine⟨n,aD n,_,j3,_,.inr (.inl ⟨3,_,a3,rfl,rfl⟩),?_,E,v3⟩
   all_goals simp only[fmO,fmL,fm2,fm3]
   all_goals simp only[zVW]
   all_goals rfl
  rotate_left
  rcases eWX l j e [105,110,110,101,114] hl with ⟨c4,b4,t4,x4⟩|⟨c4,t4⟩
  rcases eWX l (j+1) e [106,111,105,110] hl with ⟨c5,b5,t5,x5⟩|⟨c5,t5⟩
  rcases eR (ad6 F l (j+2)) λ_=>aeI hl H _ _ aC with e6|⟨_,_,_⟩|⟨a6,j6,e6,⟨u6,v6⟩,k6⟩
  rotate_left 2
  rcases eWX l j6 e [111,110] hl with ⟨c7,b7,t7,x7⟩|⟨c7,t7⟩
  rcases eR (F.or (j6+1) []) λ_=>H.or _ _ aC with e8|⟨_,_,_⟩|⟨a8,j8,e8,⟨u8,v8⟩,k8⟩
  rotate_left 2
  .simp only[ac9,dU,zRZ,sevalprocAttr,↓reduceIte,show ((4:Int)=3)=False from by decide,c1,c4,c5,e6,c7,e8] at E
   rcases hx' with hx'|⟨fk,fb,fc,hx1,hx'⟩|⟨fk,fb,fc,fy,hx1,hx'⟩
   all_goals (subst hx';try subst hx1)
   all_goals (simp only[↓zA,sevalprocAttr,aeE,pT,zP,zBS,aQ,zLX,aZ,bG,uL, *])
   all_goals refine⟨n,aD n,_,j8,_,.inr (.inr ⟨4,_,a6,a8,rfl,rfl⟩),?_,E,v8⟩
   all_goals simp only[fmP,fmL,fm2,fm3]
   all_goals simp only[zVW]
   all_goals rfl
  rotate_left 2
  rcases eWX l j e [108,101,102,116] hl with ⟨c9,b9,t9,x9⟩|⟨c9,t9⟩
  rcases eWX l (j+1) e [106,111,105,110] hl with ⟨c10,b10,t10,x10⟩|⟨c10,t10⟩
  rcases eR (ad6 F l (j+2)) λ_=>aeI hl H _ _ aC with e11|⟨_,_,_⟩|⟨a11,j11,e11,⟨u11,v11⟩,k11⟩
  rotate_left 2
  rcases eWX l j11 e [111,110] hl with ⟨c12,b12,t12,x12⟩|⟨c12,t12⟩
  rcases eR (F.or (j11+1) []) λ_=>H.or _ _ aC with e13|⟨_,_,_⟩|⟨a13,j13,e13,⟨u13,v13⟩,k13⟩
  rotate_left 2
  .simp only[ac9,dU,zRZ,sevalprocAttr,↓reduceIte,show ((5:Int)=3)=False from by decide,c1,c4,c9,c10,e11,c12,e13] at E
   rcases hx' with hx'|⟨fk,fb,fc,hx1,hx'⟩|⟨fk,fb,fc,fy,hx1,hx'⟩
   all_goals (subst hx';try subst hx1)
   all_goals (simp only[↓zA,sevalprocAttr,aeE,pT,zP,zBS,aQ,zLX,aZ,bG, *])
   all_goals refine⟨n,aD n,_,j13,_,.inr (.inr ⟨5,_,a11,a13,rfl,rfl⟩),?_,E,v13⟩
   all_goals simp only[fmP,fmL,fm2,fm3]
   all_goals simp only[zVW]
   all_goals rfl
  rotate_left 2
  rcases eWX l j e [106,111,105,110] hl with ⟨c14,b14,t14,x14⟩|⟨c14,t14⟩
  rcases eR (ad6 F l (j+1)) λ_=>aeI hl H _ _ aC with e15|⟨_,_,_⟩|⟨a15,j15,e15,⟨u15,v15⟩,k15⟩
  rotate_left 2
  rcases eWX l j15 e [111,110] hl with ⟨c16,b16,t16,x16⟩|⟨c16,t16⟩
  rcases eR (F.or (j15+1) []) λ_=>H.or _ _ aC with e17|⟨_,_,_⟩|⟨a17,j17,e17,⟨u17,v17⟩,k17⟩
  rotate_left 2
  .simp only[ac9,dU,zRZ,sevalprocAttr,↓reduceIte,show ((4:Int)=3)=False from by decide,c1,c4,c9,c14,e15,c16,e17] at E
   rcases hx' with hx'|⟨fk,fb,fc,hx1,hx'⟩|⟨fk,fb,fc,fy,hx1,hx'⟩
   all_goals (subst hx';try subst hx1)
   all_goals (simp only[↓zA,sevalprocAttr,aeE,pT,zP,zBS,aQ,zLX,aZ,bG, *])
   all_goals refine⟨n,aD n,_,j17,_,.inr (.inr ⟨4,_,a15,a17,rfl,rfl⟩),?_,E,v17⟩
   all_goals simp only[fmP,fmL,fm2,fm3]
   all_goals simp only[zVW]
   all_goals rfl
  rotate_left 2
  all_goals (simp only[ac9,dU,zRZ,sevalprocAttr,↓reduceIte,show ((4:Int)=3)=False from by decide,show ((5:Int)=3)=False from by decide, *] at E <;> cases E <;> (rcases hx' with hx'|⟨fk,fb,fc,hx1,hx'⟩|⟨fk,fb,fc,fy,hx1,hx'⟩;all_goals (subst hx';try subst hx1);all_goals (simp only[↓zA,sevalprocAttr,aeE,pT,zP,zBS,aQ,zLX,bG,uL, *];all_goals exact fz)))
 .simp only[↓zA,sevalprocAttr,aeE,pT]
  exact⟨a,j,_,.inl rfl,rfl,hr,v⟩
def ano{l:List Tn}{e:Int}{F:Fs}(hl:l.length<LB)(H:PY l e F)(i:Nat)(r:Fm×Nat×Bool)(hi:i<=l.length)(hr:acO F l i []=some r):GP 312 [.ptr 0 0] [pT l i e] l e [] fmE i r:=by
 refine⟨Pl.at (aid H.fp hi) hr,?_⟩
 unfold acO at hr
 cases e1:ad6 F l i with
 | none=>rw[e1] at hr;cases hr
 | some q =>
 obtain⟨a,j,q⟩:=q
 have g:=aeI hl H i _ hi e1
 obtain⟨u,v⟩:=g.1
 dsimp only at u v
 rw[e1] at hr
 cases q with
 | true =>
  have k:=g.bad
  cases hr
  refine bB au0 ?_
  simp only[↓zA,sevalprocAttr,aeE,bW,pT,zP,k]
  all_goals exact fz
 | false=>exact aFt hl H i a j r hr v g.ok
def aCa{l:List Tn}{e:Int}{F:Fs}(hl:l.length<LB)(H:PY l e F)(i:Nat)(x:Fm)(cs:List C)(hx:cs=fmC x)(r:Fm×Nat×Bool)(hi:i<=l.length)(hr:acO F l i [x]=some r):GP 312 [.ptr 0 0] [pTf l i e,.row 140 cs] l e deF fmE i r :=
 ⟨Pl.at (aid H.fp hi) hr,aB9 hl H i x cs hx x i r hr hi (λK=>aF.k (aNS l i e x cs hx) K)⟩
def aik:=hM @Tryz.f297.eq_1 @zq @bG @gH @zT0 (kf arf)
def aFI{l:List Tn}{e:Int}{F:Fs}(hl:l.length<LB)(H:PY l e F)(i:Nat)(r:Fm×Nat×Bool)(hi:i<=l.length)(hr:ahE F l i []=some r):GP 297 [.ptr 0 0] [pT l i e] l e [] fmE i r:=by
 refine⟨Pl.at (aml H.fp hi) hr,?_⟩
 unfold ahE at hr
 cases e1:acO F l i [] with
 | none=>rw[e1] at hr;cases hr
 | some q =>
 obtain⟨a,j,q⟩:=q
 have g:=ano hl H i _ hi e1
 obtain⟨u,v⟩:=g.1
 dsimp only at u v
 rw[e1] at hr
 cases q with
 | true =>
  have k:=g.bad
  cases hr
  refine bB arf ?_
  simp only[↓zA,sevalprocAttr,aik,bW,pT,zP,k]
  all_goals exact fz
 | false =>
 have k:=g.ok
 simp only[Rz.on] at hr
 refine bB arf ?_
 simp only[↓zA,sevalprocAttr,aik,bW,pT,k]
 refine eT _ _ (λn s=>∃ a j xs,FmK 2 a xs/\s.fr 0=.ptr 0 0/\s.fr 2=.ptr 1 0/\s.fr 3=.ptr 2 0/\s.objs=[pT l j e,.var 140 fmZ,.var 140 xs]/\ad2 F l n a j=some r/\j<=l.length) ?_ (l.length+1) _ ?_
 .rintro n ⟨frn,obn,ckn⟩ ⟨a,j,xs,hx',f0,f2,f3,fo,E,hj⟩
  dsimp only at f0 f2 f3 fo
  have hxt:=hx'.trs
  cases n with
  | zero=>simp only[ad2] at E;cases E
  | succ n =>
  simp only[ad2] at E
  rcases eW l j e [44] hl with ⟨c1,b1,t1⟩|⟨c1,t1⟩
  rcases eR (acO F l (j+1) []) λ_=>ano hl H _ _ aC with e2|⟨_,_,_⟩|⟨a2,j2,e2,⟨u2,v2⟩,k2⟩
  rotate_left 2
  .simp only[zRZ,sevalprocAttr,↓reduceIte,c1,e2] at E
   rcases hx' with hx'|⟨fk,fb,fc,hx1,hx'⟩|⟨fk,fb,fc,fy,hx1,hx'⟩
   all_goals (subst hx';try subst hx1)
   all_goals (simp only[↓zA,sevalprocAttr,aik,pT,zP,zBS,aQ,zLX,bG, *])
   all_goals refine⟨n,aD n,_,j2,_,.inr (.inl ⟨3,_,a2,rfl,rfl⟩),?_,E,v2⟩
   all_goals simp only[fmO,fmL,fm2,fm3]
   all_goals simp only[zVW]
   all_goals rfl
  rotate_left
  all_goals (simp only[zRZ,sevalprocAttr,↓reduceIte, *] at E <;> cases E <;> (rcases hx' with hx'|⟨fk,fb,fc,hx1,hx'⟩|⟨fk,fb,fc,fy,hx1,hx'⟩;all_goals (subst hx';try subst hx1);all_goals (simp only[↓zA,sevalprocAttr,aik,pT,zP,aQ,zLX,bG, *];all_goals exact fz)))
 .simp only[↓zA,sevalprocAttr,aik,pT]
  exact⟨a,j,_,.inl rfl,rfl,hr,v⟩
def aCl{l:List Tn}{e:Int}{F:Fs}(hl:l.length<LB)(H:PY l e F)(i:Nat)(x:Fm)(cs:List C)(hx:cs=fmC x)(r:Fm×Nat×Bool)(hi:i<=l.length)(hr:ahE F l i [x]=some r):GP 297 [.ptr 0 0] [pTf l i e,.row 140 cs] l e deF fmE i r:=by
 refine⟨Pl.at (aml H.fp hi) hr,?_⟩
 unfold ahE at hr
 have lv:aej (some (.row 140 cs))=true:=by rw[hx,aba];rfl
 cases e1:acO F l i [x] with
 | none=>rw[e1] at hr;cases hr
 | some q =>
 obtain⟨a,j,q⟩:=q
 have g:=aCa hl H i x cs hx _ hi e1
 obtain⟨u,v⟩:=g.1
 dsimp only at u v
 rw[e1] at hr
 cases q with
 | true =>
  have k:=g.bad
  cases hr
  refine bB arf ?_
  simp only[↓zA,sevalprocAttr,aik,bW,pT,pTf,zP,k,lv]
  all_goals exact fz
 | false =>
 have k:=g.ok
 simp only[Rz.on] at hr
 refine bB arf ?_
 simp only[↓zA,sevalprocAttr,aik,bW,pT,pTf,k,lv]
 refine eT _ _ (λn s=>∃ a j xs,FmK 3 a xs/\s.fr 0=.ptr 0 0/\s.fr 2=.ptr 2 0/\s.fr 3=.ptr 3 0/\s.objs=[pT l j e,.row 140 [],.var 140 fmZ,.var 140 xs]/\ad2 F l n a j=some r/\j<=l.length) ?_ (l.length+1) _ ?_
 .rintro n ⟨frn,obn,ckn⟩ ⟨a,j,xs,hx',f0,f2,f3,fo,E,hj⟩
  dsimp only at f0 f2 f3 fo
  have hxt:=hx'.trs
  cases n with
  | zero=>simp only[ad2] at E;cases E
  | succ n =>
  simp only[ad2] at E
  rcases eW l j e [44] hl with ⟨c1,b1,t1⟩|⟨c1,t1⟩
  rcases eR (acO F l (j+1) []) λ_=>ano hl H _ _ aC with e2|⟨_,_,_⟩|⟨a2,j2,e2,⟨u2,v2⟩,k2⟩
  rotate_left 2
  .simp only[zRZ,sevalprocAttr,↓reduceIte,c1,e2] at E
   rcases hx' with hx'|⟨fk,fb,fc,hx1,hx'⟩|⟨fk,fb,fc,fy,hx1,hx'⟩
   all_goals (subst hx';try subst hx1)
   all_goals (simp only[↓zA,sevalprocAttr,aik,pT,zP,zBS,aQ,zLX,bG, *])
   all_goals refine⟨n,aD n,_,j2,_,.inr (.inl ⟨3,_,a2,rfl,rfl⟩),?_,E,v2⟩
   all_goals simp only[fmO,fmL,fm2,fm3]
   all_goals simp only[zVW]
   all_goals rfl
  rotate_left
  all_goals (simp only[zRZ,sevalprocAttr,↓reduceIte, *] at E <;> cases E <;> (rcases hx' with hx'|⟨fk,fb,fc,hx1,hx'⟩|⟨fk,fb,fc,fy,hx1,hx'⟩;all_goals (subst hx';try subst hx1);all_goals (simp only[↓zA,sevalprocAttr,aik,pT,zP,aQ,zLX,bG, *];all_goals exact fz)))
 .simp only[↓zA,sevalprocAttr,aik,pT]
  exact⟨a,j,_,.inl rfl,rfl,hr,v⟩
def aOI{l:List Tn}{i:Nat}(c:isT l i [41]=true):afo l i=false:=by
 unfold afo
 simp only[bF,ae3 c _ (show ([117,110,105,111,110]:List UInt8)≠[41] by decide),ae3 c _ (show ([101,120,99,101,112,116]:List UInt8)≠[41] by decide),ae3 c _ (show ([105,110,116,101,114,115,101,99,116]:List UInt8)≠[41] by decide),ae3 c _ (show ([111,114,100,101,114]:List UInt8)≠[41] by decide),ae3 c _ (show ([108,105,109,105,116]:List UInt8)≠[41] by decide),ae3 c _ (show ([111,102,102,115,101,116]:List UInt8)≠[41] by decide),aH]
def aKm:=ai (hM @Tryz.f326.eq_1 @zq @bi @bG @an6 @dm) (hM @gH @cO @P4 @Q4 @zT0 (kf aCs))
def aDH{l:List Tn}{e:Int}{F:Fs}(hl:l.length<LB)(H:PY l e F)(i:Nat)(r:Th×Nat×Bool)(hi:i<=l.length)(hr:adO F l i=some r):GP 326 [.ptr 0 0] [pT l i e] l e [] thE i r:=by
 refine⟨Pl.at (alP H.fp hi) hr,?_⟩
 rcases eWX l i e [115,101,108,101,99,116] hl with _|_
 rcases eR (F.qy i []) λ_=>H.qy _ _ aC with _|⟨_,_,_⟩|⟨a2,j2,_⟩
 rotate_left 3
 rcases eWX l i e [40] hl with _|_
 rcases eR (F.so (i+1)) λ_=>H.so _ _ aC with _|⟨_,_,_⟩|⟨a4,j4,_⟩
 rotate_left 2
 rcases eWX l j4 e [41] hl with _|_
 rcases c6:a4.q with _|_
 rcases e7:F.fr (j4+1) [a4.f] with _|⟨a7,j7,_|_⟩
 rotate_left
 obtain⟨⟨u7,v7⟩,k7⟩:=(H.frp _ (a4.f) _ _ rfl aC e7).okA
 have l7:=(H.frp _ (a4.f) _ _ (aba _).symm aC e7).ok
 rotate_left
 obtain⟨⟨u7,v7⟩,k7⟩:=(H.frp _ (a4.f) _ _ rfl aC e7).badA
 have l7:=(H.frp _ (a4.f) _ _ (aba _).symm aC e7).bad
 rotate_left
 rcases eWX l (j4+1) e [41] hl with ⟨c8,b8,t8,x8⟩|⟨c8,t8⟩
 .have cg:=aOI c8
  have tg:=oB l (j4+1) e hl aC cg
  simp only[adO,ahL,zRZ,sevalprocAttr,↓reduceIte, *] at hr
  cases hr
  refine bB aCs ?_
  simp only[↓zA,sevalprocAttr,aKm,bW,pT,zP,aQ,zLX,bi,bG,aZ, *]
  simp only[thE,aeZ,c6]
  all_goals first|rfl|(simp only[zVW];rfl)
 rcases c9:afo l (j4+1) with _|_
 have t9:=oB l (j4+1) e hl aC c9
 have hc:acn l (j4+1) a4.y=_:=atG H.tl (j4+1) a4.y
 rcases e10:asT l (j4+1) with ⟨a10,j10,_|_⟩
 obtain⟨⟨u10,v10⟩,k10⟩:=(aiz e hl _ _ aC (congrArg some e10)).okA
 rcases e11:F.fr (j10) [.mk 2 [] a10 [a4.y] [] []] with _|⟨a11,j11,_|_⟩
 rotate_left
 obtain⟨⟨u11,v11⟩,k11⟩:=(H.frp _ (.mk 2 [] a10 [a4.y] [] []) _ _ rfl aC e11).okA
 have l11:=(H.frp _ (.mk 2 [] a10 [a4.y] [] []) _ _ (aba _).symm aC e11).ok
 have m11:=(H.frp _ (.mk 2 [] a10 [a4.y] [] []) [ci 2,aJ {data:=#[]},aJ (aM a10),.sl [ci a4.y.op,cb a4.y.al,slC qyC a4.y.ks,cb a4.y.di,slC imC a4.y.its,slC fmC a4.y.fr,slC xpC a4.y.wh,slC xpC a4.y.gr,slC xpC a4.y.hv,slC odC a4.y.od,ci a4.y.li,ci a4.y.sk] 1,.sl [] 0,.sl [] 0] _ (by simp only[zVW];rfl) aC e11).ok
 rotate_left
 obtain⟨⟨u11,v11⟩,k11⟩:=(H.frp _ (.mk 2 [] a10 [a4.y] [] []) _ _ rfl aC e11).badA
 have l11:=(H.frp _ (.mk 2 [] a10 [a4.y] [] []) _ _ (aba _).symm aC e11).bad
 have m11:=(H.frp _ (.mk 2 [] a10 [a4.y] [] []) [ci 2,aJ {data:=#[]},aJ (aM a10),.sl [ci a4.y.op,cb a4.y.al,slC qyC a4.y.ks,cb a4.y.di,slC imC a4.y.its,slC fmC a4.y.fr,slC xpC a4.y.wh,slC xpC a4.y.gr,slC xpC a4.y.hv,slC odC a4.y.od,ci a4.y.li,ci a4.y.sk] 1,.sl [] 0,.sl [] 0] _ (by simp only[zVW];rfl) aC e11).bad
 rotate_left
 obtain⟨⟨u10,v10⟩,k10⟩:=(aiz e hl _ _ aC (congrArg some e10)).badA
 rotate_left
 have t9:=oB l (j4+1) e hl aC c9
 rcases e12:F.qy (j4+1) [a4.y] with _|⟨a12,j12,_|_⟩
 rotate_left
 obtain⟨⟨u12,v12⟩,k12⟩:=(H.qyp _ (a4.y) _ _ rfl aC e12).okA
 have l12:=(H.qyp _ (a4.y) _ _ (ep _).symm aC e12).ok
 rotate_left
 obtain⟨⟨u12,v12⟩,k12⟩:=(H.qyp _ (a4.y) _ _ rfl aC e12).badA
 have l12:=(H.qyp _ (a4.y) _ _ (ep _).symm aC e12).bad
 rotate_left 2
 rcases eR (F.fr i []) λ_=>H.fr _ _ aC with _|⟨_,_,_⟩|⟨a13,j13,_⟩
 rotate_left 3
 all_goals (simp only[adO,ahL,zRZ,sevalprocAttr,↓reduceIte, *] at hr <;> cases hr <;> (refine bB aCs ?_;simp only[↓zA,sevalprocAttr,aKm,bW,pT,zP,aQ,zLX,E26,E35,aSY,aZg,gO,aaS,aNB,aX3,bi,bG, *];all_goals exact fz))
def aPB(l:List Tn)(e:Int)(T:TL l):PY l e auQ where
 tl:=T
 fp:=aAI l
 or _ _ _ h:=by cases h
 orp _ _ _ _ _ _ h:=by cases h
 no _ _ _ h:=by cases h
 un _ _ _ h:=by cases h
 qy _ _ _ h:=by cases h
 qyp _ _ _ _ _ _ h:=by cases h
 ins _ _ _ h:=by cases h
 fr _ _ _ h:=by cases h
 frp _ _ _ _ _ _ h:=by cases h
 so _ _ _ h:=by cases h
def aPA{l:List Tn}{e:Int}{F:Fs}(hl:l.length<LB)(H:PY l e F):PY l e (auJ l F) where
 tl:=H.tl
 fp:=aAH H.fp
 or i r hi h:=aOf hl H i r hi h
 orp i x cs r hx hi h:=aHV hl H i x cs hx r hi h
 no i r hi h:=apD hl H i r hi h
 un i r hi h:=api hl H i r hi h
 qy i r hi h:=aBu hl H i r hi h
 qyp i x cs r hx hi h:=ayO hl H i x cs hx r hi h
 ins i r hi h:=azf hl H i r hi h
 fr i r hi h:=aFI hl H i r hi h
 frp i x cs r hx hi h:=aCl hl H i x cs hx r hi h
 so i r hi h:=aDH hl H i r hi h
theorem ax9{l:List Tn}(e:Int)(hl:l.length<LB)(T:TL l):∀ n,PY l e (aoA l n)
 | 0=>aPB l e T
 | n+1=>aPA hl (ax9 e hl T n)
def akr(b:ByteArray):aM b.data.toList=b:=rfl
def ajE{s:List UInt8}{l:List Tn}{p e:Int}(h:acq s=some (l,p,e))(he:e=0):ToksOk s l/\s.length<=2000/\p=0:=by
 obtain⟨l',p',e',⟨h1,h2,h3,h4⟩|h1⟩:=azZ s
 .rw[h] at h1;cases h1;exact⟨h2,h4,h3 he⟩
 .rw[h] at h1;cases h1;cases he
def sD:List UInt8:=[100,114,111,112,32,116,97,98,108,101,32,116]
def sB:List UInt8:=[98,101,103,105,110,59,32,99,111,109,109,105,116,59]
def tkD:List Tn:=((acq sD).getD ([],0,0)).1
def tkB:List Tn:=((acq sB).getD ([],0,0)).1
def exD:Sm:=.mk 3 [116] [] [] [] false [] [] [] [] [] [] []
def exB:List (Sm×Nat):=[(.mk 8 [] [] [] [] false [] [] [] [] [] [] [],0),(.mk 9 [] [] [] [] false [] [] [] [] [] [] [],2)]
def aQd:acq sD=some (tkD,0,0):=by kernel_rfl
def aQe:acq sB=some (tkB,0,0):=by kernel_rfl
def aUD:aF Tryz.prog pr 46 [.ptr 0 0] [pT tkD 0 sD.length] ⟨false,[smE exD],[pT tkD tkD.length sD.length]⟩:=⟨200,by kernel_rfl⟩
def aQv:aF Tryz.prog pr 24 [smE exD] [] ⟨false,[aN true],[]⟩:=⟨200,by kernel_rfl⟩
def aQn:aF Tryz.prog pr 52 [.ptr 0 0] [pT tkB 0 sB.length] ⟨false,[apn tkB exB],[pT tkB tkB.length sB.length]⟩:=⟨200,by kernel_rfl⟩
def aNX:aF Tryz.prog pr 53 [apn tkB exB] [] ⟨false,[aN true],[]⟩:=⟨200,by kernel_rfl⟩
def ak8:Orc:=λf xs obs=>match xs,obs with
 | [.of (.lit (.string b)),.of (.fn m []),.of (.fn r [])],[] =>
  if f=30/\m=31/\r=22/\b.size<LB then (ajl b.data.toList).map λa=>⟨false,[xpE a.1,au a.2.1,au a.2.2],[]⟩
  else if f=38/\m=39/\r=23/\b.size<LB then (ahq b.data.toList).map λa=>⟨false,[qyE a.1,au a.2.1,au a.2.2],[]⟩
  else if f=45/\m=46/\r=24/\b.data.toList=sD then some ⟨false,[smE exD,au 0,au 0],[]⟩
  else if f=51/\m=52/\r=53/\b.data.toList=sB then some ⟨false,[apn tkB exB,au 0,au 0],[]⟩
  else none
 | _,_=>none
def agn:Orc:=λf xs obs=>match ahr f xs obs with
 | some an=>some an
 | none=>ak8 f xs obs
def pr2:Pr:=⟨agn,ad7,tkF,amf,mtF⟩
def aD0{f:Nat}{xs:List X}{obs:List Ob}{an:An}(h:ak8 f xs obs=some an):f=30\/f=38\/f=45\/f=51:=by
 unfold ak8 at h
 split at h
 .split at h
  .rename_i q;exact .inl q.1
  split at h
  .rename_i q;exact .inr (.inl q.1)
  split at h
  .rename_i q;exact .inr (.inr (.inl q.1))
  split at h
  .rename_i q;exact .inr (.inr (.inr q.1))
  .cases h
 .cases h
def aUW:Over Tryz.prog pr agn where
 old f xs obs an h:=by
  have h:ahr f xs obs=some an:=h
  unfold agn;rw[h]
 new f xs obs an h1 h2:=by
  have h1:ahr f xs obs=none:=h1
  unfold agn at h2
  rw[h1] at h2
  rcases aD0 h2 with rfl|rfl|rfl|rfl <;> decide +kernel
def auT{f:Nat}{xs:List X}{obs:List Ob}{an:An}(h:aF Tryz.prog pr f xs obs an):aF Tryz.prog pr2 f xs obs an:=h.lift aUW
def aYr{G:Go.Pe.GP}(hpr:PrSound Tryz.prog G pr)(s:List UInt8)(hs:s.length<LB){a}(h:ajl s=some a) :
  abu Tryz.prog G 30 [.of (aJ (aM s)),.of (.fn 31 []),.of (.fn 22 [])] [] ⟨false,[xpE a.1,au a.2.1,au a.2.2],[]⟩:=by
 unfold ajl aiv at h
 split at h
 .cases h
 .rename_i l p e ht
  split at h
  .rename_i he
   obtain⟨hok,h20,hp⟩:=ajE ht he
   subst he hp
   have hl:l.length<LB:=by have:=hok.len;unfold LB;omega
   obtain⟨r,hr,q2,q3,q4,q5⟩:=aqH hok h20
   dsimp only at h
   rw[hr] at h
   simp only[aP,ae] at h
   subst h
   exact avi hpr s hs l 0 ht hl (ax9 _ hl (aoh ht hok) _) r hr _ (λK=>aF.k (aGE r.1 ⟨q3,by unfold WL;omega⟩) K) (λh _=>q5 h)
  .rename_i he
   cases h
   exact aB0 hpr s hs l p e ht he
def aYs{G:Go.Pe.GP}(hpr:PrSound Tryz.prog G pr)(s:List UInt8)(hs:s.length<LB){a}(h:ahq s=some a) :
  abu Tryz.prog G 38 [.of (aJ (aM s)),.of (.fn 39 []),.of (.fn 23 [])] [] ⟨false,[qyE a.1,au a.2.1,au a.2.2],[]⟩:=by
 unfold ahq aiv at h
 split at h
 .cases h
 .rename_i l p e ht
  split at h
  .rename_i he
   obtain⟨hok,h20,hp⟩:=ajE ht he
   subst he hp
   have hl:l.length<LB:=by have:=hok.len;unfold LB;omega
   obtain⟨r,hr,q2,q3,q4,q5⟩:=aqD hok h20
   dsimp only at h
   rw[hr] at h
   simp only[aP,ae] at h
   subst h
   exact avj hpr s hs l 0 ht hl (ax9 _ hl (aoh ht hok) _) r hr _ (λK=>aF.k (aDQ r.1 ⟨q3,by unfold WL;omega⟩) K) (λh _=>q5 h)
  .rename_i he
   cases h
   exact aB1 hpr s hs l p e ht he
def aQp{G:Go.Pe.GP}(hpr:PrSound Tryz.prog G pr):PrSound Tryz.prog G pr2 where
 prim f xs obs an h0:=by
  have h:agn f xs obs=some an:=h0
  clear h0
  unfold agn at h
  cases hp:ahr f xs obs with
  | some r=>rw[hp] at h;cases h;exact hpr.prim f xs obs an hp
  | none =>
   rw[hp] at h
   dsimp only at h
   unfold ak8 at h
   split at h
   .rename_i b m r
    have hb:∀ {g:Prop},(b.data.toList.length<LB->g)->b.size<LB->g:=λk q=>k (by simpa using q)
    split at h
    .rename_i q;obtain⟨rfl,rfl,rfl,q⟩:=q
     obtain⟨a,e,rfl⟩:=ay.1 h
     exact hb (λq=>aYr hpr _ q e) q
    split at h
    .rename_i q;obtain⟨rfl,rfl,rfl,q⟩:=q
     obtain⟨a,e,rfl⟩:=ay.1 h
     exact hb (λq=>aYs hpr _ q e) q
    split at h
    .rename_i q;obtain⟨rfl,rfl,rfl,q⟩:=q
     cases h
     rw[← akr b,q]
     exact ayn hpr sD aI tkD 0 aQd (by decide +kernel) exD (λK=>aF.k aUD K) λK=>aF.k aQv K
    split at h
    .rename_i q;obtain⟨rfl,rfl,rfl,q⟩:=q
     cases h
     rw[← akr b,q]
     exact aym hpr sB aI tkB 0 aQe (by decide +kernel) exB (λK=>aF.k aQn K) λK=>aF.k aNX K
    .cases h
   .cases h
def aju(f:Nat):pr2.obj f=ad7 f:=rfl
def aqE(p:String)(d:Option Nat):pr2.mt p d=mtF p d:=rfl
abbrev H1(f:Nat)(xs:List X)(x:X):Prop:=aF Tryz.prog pr2 f xs [] ⟨false,[x],[]⟩
abbrev HN(f:Nat)(xs:List X)(rs:List X):Prop:=aF Tryz.prog pr2 f xs [] ⟨false,rs,[]⟩

/- A part. Conditions: none. -/
import Derived.Test.YtghkmcffifpkeaaGreatPa7
set_option linter.all false
set_option maxRecDepth 100000
set_option maxHeartbeats 64000000
namespace Go.Proofs.YtghkmcffifpkeaaGreat
open Pe Tab
def aPh:=ai (fX @Tryz.f306.eq_1 @zq @bbL @bbK @bG @ep) (fX @ao7 @fC @P4 @Q4 @zT0 (kf aQy))
def aEu(t:Th):G1 306 [.of (.agg (thC t))] (xpE t.val):=by
 refine bB aQy ?_
 cases c:t.q with
 | true =>
  rw[show t.val=af8 26 [] t.y from by unfold Th.val;rw[c];rfl]
  simp only[↓zA,sevalprocAttr,aPh,c]
  all_goals exact fz
 | false =>
  rw[show t.val=t.e from by unfold Th.val;rw[c];rfl]
  simp only[↓zA,sevalprocAttr,aPh,c]
  all_goals exact fz
def aiN(t:Th)(K:An->Prop):cKp 306 [.of (.agg (thC t))] [] K↔K ⟨false,[xpE t.val],[]⟩:=aH.k (aEu t) K
def a3B:=fW @zq @azr @bO @zT0 (kf aQx)
def aJp(l:List Tn)(i:Nat)(e:Int)(hl:l.length<LB)(hi:i<=l.length):aH Tryz.prog pr 317 [.ptr 0 0] [pT l i e] ⟨false,[aL (aez l i)],[pT l i e]⟩:=by
 have k:=λK=>aB6 l i e [117,110,105,111,110] [101,120,99,101,112,116] [105,110,116,101,114,115,101,99,116] [111,114,100,101,114] [108,105,109,105,116] [111,102,102,115,101,116] hl hi rfl K
 unfold aez
 refine bB aQx ?_
 simp only[Tryz.f317,↓zA,sevalprocAttr,a3B,k,pT,zBS]
 try rfl
def oB(l:List Tn)(i:Nat)(e:Int)(hl:l.length<LB)(hi:i<=l.length){b:Bool}(c:aez l i=b)(K:An->Prop):cKp 317 [.ptr 0 0] [pT l i e] K↔K ⟨false,[aL b],[pT l i e]⟩:=by
 have:=aH.k (aJp l i e hl hi) K
 rw[c] at this
 exact this
def a3C:=fV (gh @zq @bbJ @al0 @aq1 @ab5 @ak2 @aGa @bbI @aeN) (gh @aSt @bc9 @aTJ @acD @bc8 @aLI @aF9 @bG @ep) (gh @acI @abb @aba @aa9 @aa8 @aa7 @aa6 @ao7 @fq) (fX @fC @bO @P4 @Q4 @zT0 (kf aQz))
def aAY{l:List Tn}{e:Int}{F:Fs}(hl:l.length<LB)(H:PY l e F)(i:Nat)(r:Th×Nat×Bool)(hi:i<=l.length)(hr:aiZ F l i=some r):GP 305 [.ptr 0 0] [pT l i e] l e [] thE i r:=by
 refine⟨Pl.at (aCK H.fp hi) hr,?_⟩
 rcases eWX l i e [115,101,108,101,99,116] hl with _|_
 rcases eR (F.qy i []) λ_=>H.qy _ _ aC with _|⟨_,_,_⟩|⟨a2,j2,_⟩
 rotate_left 3
 rcases eWX l i e [40] hl with _|_
 rcases eR (F.ins (i+1)) λ_=>H.ins _ _ aC with _|⟨_,_,_⟩|⟨a4,j4,_⟩
 rotate_left 2
 rcases eWX l j4 e [41] hl with _|_
 rcases c6:a4.q with _|_
 rcases e7:F.or (j4+1) [a4.e] with _|⟨a7,j7,_|_⟩
 rotate_left
 obtain⟨⟨u7,v7⟩,k7⟩:=(H.orp _ (a4.e) _ _ rfl aC e7).okA
 have l7:=(H.orp _ (a4.e) _ _ (ff _).symm aC e7).ok
 rotate_left
 obtain⟨⟨u7,v7⟩,k7⟩:=(H.orp _ (a4.e) _ _ rfl aC e7).badA
 have l7:=(H.orp _ (a4.e) _ _ (ff _).symm aC e7).bad
 rotate_left
 rcases c8:aez l (j4+1) with _|_
 have t8:=oB l (j4+1) e hl aC c8
 rcases eWX l (j4+1) e [41] hl with _|_
 rotate_left
 rcases e10:F.or (j4+1) [af8 26 [] a4.y] with _|⟨a10,j10,_|_⟩
 rotate_left
 obtain⟨⟨u10,v10⟩,k10⟩:=(H.orp _ (af8 26 [] a4.y) _ _ rfl aC e10).okA
 have l10:=(H.orp _ (af8 26 [] a4.y) _ _ (ff _).symm aC e10).ok
 rotate_left
 obtain⟨⟨u10,v10⟩,k10⟩:=(H.orp _ (af8 26 [] a4.y) _ _ rfl aC e10).badA
 have l10:=(H.orp _ (af8 26 [] a4.y) _ _ (ff _).symm aC e10).bad
 rotate_left
 have t8:=oB l (j4+1) e hl aC c8
 rcases e11:F.qy (j4+1) [a4.y] with _|⟨a11,j11,_|_⟩
 rotate_left
 obtain⟨⟨u11,v11⟩,k11⟩:=(H.qyp _ (a4.y) _ _ rfl aC e11).okA
 have l11:=(H.qyp _ (a4.y) _ _ (ad6 _).symm aC e11).ok
 rotate_left
 obtain⟨⟨u11,v11⟩,k11⟩:=(H.qyp _ (a4.y) _ _ rfl aC e11).badA
 have l11:=(H.qyp _ (a4.y) _ _ (ad6 _).symm aC e11).bad
 rotate_left 2
 rcases eR (F.or i []) λ_=>H.or _ _ aC with _|⟨_,_,_⟩|⟨a12,j12,_⟩
 rotate_left 3
 all_goals (simp only[aiZ,aid,Th.val,zRZ,sevalprocAttr,↓reduceIte, *] at hr <;> cases hr <;> (refine bB aQz ?_;simp only[Tryz.f305,↓zA,sevalprocAttr,a3C,bz,pT,zP,bh,a7j,E26,E25,a1R,aub,ec,aa4,aSK,apL,aiN,awo,awq, *];all_goals exact fz))
theorem aIj{l:List Tn}{i:Nat}:∀ {so:List (List UInt8×Int)} {o:Int},opT l i so=some o->i+1<=l.length
 | [],_,h=>by cases h
 | (w,p)::r,o,h=>by
  unfold opT at h
  split at h
  .rename_i c;exact fF c
  .exact aIj h
theorem atV{l:List Tn}{nx:Nat->List Xp->Rz Xp}{so:List (List UInt8×Int)}(N:∀ i r,i<=l.length->nx i []=some r->i<=r.2.1/\r.2.1<=l.length):∀ n a j r,j<=l.length->aer nx l so n a j=some r->j<=r.2.1/\r.2.1<=l.length
 | 0,a,j,r,hj,h=>by simp only[aer] at h;cases h
 | n+1,a,j,r,hj,h=>by
  unfold aer at h
  cases c:opT l j so with
  | none=>rw[c] at h;cases h;exact⟨ae _,hj⟩
  | some o =>
   rw[c] at h
   have hj1:=aIj c
   cases e:nx (j+1) [] with
   | none=>simp only[e,Rz.on] at h;cases h
   | some q =>
    obtain⟨y,m,b⟩:=q
    have g:=N _ _ hj1 e
    dsimp only at g
    cases b with
    | true=>simp only[e,Rz.on] at h;cases h;exact⟨by dsimp only;omega,g.2⟩
    | false =>
     simp only[e,Rz.on] at h
     have:=atV N n _ _ _ g.2 h
     exact⟨by omega,this.2⟩
abbrev xpV(a:Xp):List X:=[.of (ci a.op),.of (ci a.v.k),.of (ci a.v.n),.of (aJ a.v.s),.of (aJ (aK a.tb)),.of (aJ (aK a.nm)),.of (cb a.di),.of (slC xpC a.ks),.of (slC qyC a.sb)]
abbrev xpZ:List X:=[.of (ci 0),.of (ci 0),.of (ci 0),.of (aJ {data:=#[]}),.of (aJ {data:=#[]}),.of (aJ {data:=#[]}),.of (cb false),.nil,.nil]
abbrev xpO(r:Nat)(o:Int)(b c:Xp):List X:=[.of (ci o),.of (ci 0),.of (ci 0),.of (aJ {data:=#[]}),.of (aJ {data:=#[]}),.of (aJ {data:=#[]}),.of (cb false),.own (.cell r 7) 28 9 [ci b.op,ci b.v.k,ci b.v.n,aJ b.v.s,aJ (aK b.tb),aJ (aK b.nm),cb b.di,slC xpC b.ks,slC qyC b.sb,ci c.op,ci c.v.k,ci c.v.n,aJ c.v.s,aJ (aK c.tb),aJ (aK c.nm),cb c.di,slC xpC c.ks,slC qyC c.sb] 2,.nil]
def adm:=ai (gh @Tryz.f66.eq_1 @zq @bb4 @bb3 @ab5 @mp9 @aYh @acD @bG) (gh @fq @bO @ahE @P9 @Q9 @P3 @Q3 @zT0 (kf ay0))
def ajD{l:List Tn}{e:Int}(hl:l.length<LB)(cl f:Nat)(hf:cl / 2=f)(hm:(cl % 2=0)=False)(ho:ade f=true)(hk:tkF f=false)(hc:ew Tryz.prog f=true)(nx:Nat->List Xp->Rz Xp)(so:List (List UInt8×Int))(hn:so.length<=8)
  (N:∀ i r,i<=l.length->nx i []=some r->GP f [.ptr 0 0] [pT l i e] l e [] xpE i r) (i:Nat) (r:Xp×Nat×Bool) (hi:i<=l.length) (hr:agi nx l so i []=some r) :
  GP 66 [.ptr 0 0,.clo cl [.ptr 0 0],.of (slC bI (so.map (·.1))),.of (slC abC (so.map (·.2)))] [pT l i e] l e [] xpE i r:=by
 unfold agi at hr
 cases e1:nx i [] with
 | none=>simp only[e1,Rz.on] at hr;cases hr
 | some r1 =>
 obtain⟨a,j,q⟩:=r1
 have g:=N i _ hi e1
 obtain⟨u,v⟩:=g.1
 dsimp only at u v
 cases q with
 | true =>
  have k:=g.bad
  simp only[e1,Rz.on,id] at hr
  cases hr
  refine⟨⟨u,v⟩,?_⟩
  refine bB ay0 ?_
  simp only[↓zA,sevalprocAttr,adm,bz,pT,zP,hf,hm,ho,hk,hc,zLX,k]
  all_goals exact fz
 | false =>
 have k:=g.ok
 simp only[e1,Rz.on] at hr
 have P:=atV (λi r h1 h2=>(N i r h1 h2).1) _ _ _ _ v hr
 refine⟨⟨by omega,P.2⟩,?_⟩
 have hls:((so.map (·.1)).length:Int)=(so.length:Int):=by rw[bR]
 refine bB ay0 ?_
 simp only[↓zA,sevalprocAttr,adm,bz,pT,hf,hm,ho,hk,hc,k]
 refine aaj _ _ (λn s=>∃ a j xs,(xs=xpV a\/∃ o b c,a=dR o [b,c]/\xs=xpO 2 o b c)/\s.fr 0=.ptr 0 0/\s.fr 1=.clo cl [.ptr 0 0]/\s.fr 2=.of (slC bI (so.map (·.1)))/\s.fr 3=.of (slC abC (so.map (·.2)))/\s.fr 8=.ptr 1 0/\s.fr 9=.ptr 2 0/\s.objs=[pT l j e,.var 28 xpZ,.var 28 xs]/\aer nx l so n a j=some r/\j<=l.length) ?_ (l.length+1) _ ?_
 .rintro n ⟨frn,obn,ckn⟩ ⟨a,j,xs,hx',f0,f1,f2,f3,f8,f9,fo,E,hj⟩
  dsimp only at f0 f1 f2 f3 f8 f9 fo
  cases n with
  | zero=>simp only[aer] at E;cases E
  | succ n =>
  unfold aer at E
  simp only[↓zA,sevalprocAttr,adm,f2,fo]
  refine aas so.length (λk s=>s.fr 0=.ptr 0 0/\s.fr 1=.clo cl [.ptr 0 0]/\s.fr 2=.of (slC bI (so.map (·.1)))/\s.fr 3=.of (slC abC (so.map (·.2)))/\s.fr 8=.ptr 1 0/\s.fr 9=.ptr 2 0/\s.fr 14=.of (slC bI (so.map (·.1)))/\s.fr 15=aQ so.length/\s.fr 16=aQ k/\s.objs=[pT l j e,.var 28 xpZ,.var 28 xs]/\opT l j so=opT l j (so.drop k)) ?_ ?_
  .simp only[↓zA,sevalprocAttr,adm,f0,f1,f2,f3,f8,f9]
   all_goals exact⟨rfl,rfl⟩
  rintro k ⟨frk,obk,ckk⟩ hk' ⟨g0,g1,g2,g3,g8,g9,g14,g15,g16,go,E2⟩
  dsimp only at g0 g1 g2 g3 g8 g9 g14 g15 g16 go
  have hxt:X.trs some (cz [0] []) xs=xs:=by rcases hx' with hx'|⟨o,b,c,_,hx'⟩ <;> (rw[hx'];rfl)
  rcases aD k so.length with dk|dk
  .have hw:=er k aC
   have gx:aaF (so.map (·.1)) (k:Int)=some so[k].1:=by rw[dN (by rw[bR];exact dk),adu]
   have gy:aaF (so.map (·.2)) (k:Int)=some so[k].2:=by rw[dN (by rw[bR];exact dk),adu]
   rw[ce dk] at E2
   generalize so[k]=p at *
   obtain⟨w,oo⟩:=p
   dsimp only at gx gy
   simp only[opT] at E2
   have kt:=λK=>aH.k (acV l j e w hl hj) K
   cases c:isT l j w with
   | true =>
    have hj1:=fF c
    rw[c,am rfl] at E2 kt
    rw[E2] at E
    cases e2:nx (j+1) [] with
    | none=>simp only[e2,Rz.on] at E;cases E
    | some r2 =>
    obtain⟨y,j2,q2⟩:=r2
    have g':=N (j+1) _ hj1 e2
    obtain⟨u2,v2⟩:=g'.1
    dsimp only at u2 v2
    cases q2 with
    | true =>
     have k2:=g'.bad
     simp only[e2,Rz.on] at E
     cases E
     rcases hx' with hx'|⟨o,b,c',hx1,hx'⟩
     .subst hx'
      simp only[↓zA,sevalprocAttr,adm,pT,zP,hf,hm,ho,hk,hc,zLX,aV,g0,g1,g3,g9,g14,g15,g16,go,dk,gx,gy,kt,k2]
      all_goals exact fz
     .subst hx' hx1
      simp only[↓zA,sevalprocAttr,adm,pT,zP,hf,hm,ho,hk,hc,zLX,aV,g0,g1,g3,g9,g14,g15,g16,go,dk,gx,gy,kt,k2]
      all_goals exact fz
    | false =>
     have k2:=g'.ok
     simp only[e2,Rz.on] at E
     rcases hx' with hx'|⟨o,b,c',hx1,hx'⟩
     .subst hx'
      simp only[↓zA,sevalprocAttr,adm,pT,zP,zBS,hf,hm,ho,hk,hc,zLX,aV,g0,g1,g2,g3,g8,g9,g14,g15,g16,go,dk,gx,gy,kt,k2]
      exact⟨n,aP n,dR oo [a,y],j2,_,.inr ⟨oo,a,y,rfl,rfl⟩,rfl,E,v2⟩
     .subst hx' hx1
      simp only[↓zA,sevalprocAttr,adm,pT,zP,zBS,hf,hm,ho,hk,hc,zLX,aV,g0,g1,g2,g3,g8,g9,g14,g15,g16,go,dk,gx,gy,kt,k2]
      refine⟨n,aP n,dR oo [dR o [b,c'],y],j2,_,.inr ⟨oo,dR o [b,c'],y,rfl,rfl⟩,?_,E,v2⟩
      simp only[xpO]
      simp only[zVW]
      all_goals rfl
   | false =>
    rw[c] at E2 kt
    simp only[ah,av] at E2 kt
    simp only[↓zA,sevalprocAttr,adm,pT,aV,g0,g1,g2,g3,g8,g9,g14,g15,g16,go,dk,gx,hw,kt,hxt]
    first|exact E2|exact⟨rfl,E2⟩
  have ek:k=so.length:=by omega
  subst ek
  rw[cY] at E2
  simp only[opT] at E2
  rw[E2] at E
  cases E
  rcases hx' with hx'|⟨o,b,c',hx1,hx'⟩
  .subst hx'
   simp only[↓zA,sevalprocAttr,adm,pT,zP,zLX,aV,cO,g8,g9,g15,g16,go]
   all_goals exact fz
  .subst hx' hx1
   simp only[↓zA,sevalprocAttr,adm,pT,zP,zLX,aV,cO,g8,g9,g15,g16,go]
   all_goals exact fz
 .simp only[↓zA,sevalprocAttr,adm,pT]
  exact⟨a,j,_,.inl rfl,rfl,hr,v⟩
def aim{l:List Tn}{e:Int}(hl:l.length<LB)(cl f:Nat)(hf:cl / 2=f)(hm:(cl % 2=0)=False)(ho:ade f=true)(hk:tkF f=false)(hc:ew Tryz.prog f=true)(nx:Nat->List Xp->Rz Xp)(so:List (List UInt8×Int))(hn:so.length<=8)
  (N:∀ i r,i<=l.length->nx i []=some r->GP f [.ptr 0 0] [pT l i e] l e [] xpE i r) (x:Xp) (cs:List C) (hx:cs=xpC x) (Np:∀ i r,i<=l.length->nx i [x]=some r->GP f [.ptr 0 0] [pTe l i e,.row 28 cs] l e deE xpE i r) (i:Nat) (r:Xp×Nat×Bool) (hi:i<=l.length) (hr:agi nx l so i [x]=some r) :
  GP 66 [.ptr 0 0,.clo cl [.ptr 0 0],.of (slC bI (so.map (·.1))),.of (slC abC (so.map (·.2)))] [pTe l i e,.row 28 cs] l e deE xpE i r:=by
 have lvx:adq (some (.row 28 cs))=true:=by rw[hx,ff];rfl
 unfold agi at hr
 cases e1:nx i [x] with
 | none=>simp only[e1,Rz.on] at hr;cases hr
 | some r1 =>
 obtain⟨a,j,q⟩:=r1
 have g:=Np i _ hi e1
 obtain⟨u,v⟩:=g.1
 dsimp only at u v
 cases q with
 | true =>
  have k:=g.bad
  simp only[e1,Rz.on,id] at hr
  cases hr
  refine⟨⟨u,v⟩,?_⟩
  refine bB ay0 ?_
  simp only[↓zA,sevalprocAttr,adm,bz,pT,pTe,zP,hf,hm,ho,hk,hc,zLX,lvx,k]
  all_goals exact fz
 | false =>
 have k:=g.ok
 simp only[e1,Rz.on] at hr
 have P:=atV (λi r h1 h2=>(N i r h1 h2).1) _ _ _ _ v hr
 refine⟨⟨by omega,P.2⟩,?_⟩
 have hls:((so.map (·.1)).length:Int)=(so.length:Int):=by rw[bR]
 refine bB ay0 ?_
 simp only[↓zA,sevalprocAttr,adm,bz,pT,pTe,hf,hm,ho,hk,hc,lvx,k]
 refine aaj _ _ (λn s=>∃ a j xs,(xs=xpV a\/∃ o b c,a=dR o [b,c]/\xs=xpO 3 o b c)/\s.fr 0=.ptr 0 0/\s.fr 1=.clo cl [.ptr 0 0]/\s.fr 2=.of (slC bI (so.map (·.1)))/\s.fr 3=.of (slC abC (so.map (·.2)))/\s.fr 8=.ptr 2 0/\s.fr 9=.ptr 3 0/\s.objs=[pT l j e,.row 28 [],.var 28 xpZ,.var 28 xs]/\aer nx l so n a j=some r/\j<=l.length) ?_ (l.length+1) _ ?_
 .rintro n ⟨frn,obn,ckn⟩ ⟨a,j,xs,hx',f0,f1,f2,f3,f8,f9,fo,E,hj⟩
  dsimp only at f0 f1 f2 f3 f8 f9 fo
  cases n with
  | zero=>simp only[aer] at E;cases E
  | succ n =>
  unfold aer at E
  simp only[↓zA,sevalprocAttr,adm,f2,fo]
  refine aas so.length (λk s=>s.fr 0=.ptr 0 0/\s.fr 1=.clo cl [.ptr 0 0]/\s.fr 2=.of (slC bI (so.map (·.1)))/\s.fr 3=.of (slC abC (so.map (·.2)))/\s.fr 8=.ptr 2 0/\s.fr 9=.ptr 3 0/\s.fr 14=.of (slC bI (so.map (·.1)))/\s.fr 15=aQ so.length/\s.fr 16=aQ k/\s.objs=[pT l j e,.row 28 [],.var 28 xpZ,.var 28 xs]/\opT l j so=opT l j (so.drop k)) ?_ ?_
  .simp only[↓zA,sevalprocAttr,adm,f0,f1,f2,f3,f8,f9]
   all_goals exact⟨rfl,rfl⟩
  rintro k ⟨frk,obk,ckk⟩ hk' ⟨g0,g1,g2,g3,g8,g9,g14,g15,g16,go,E2⟩
  dsimp only at g0 g1 g2 g3 g8 g9 g14 g15 g16 go
  have hxt:X.trs some (cz [0] []) xs=xs:=by rcases hx' with hx'|⟨o,b,c,_,hx'⟩ <;> (rw[hx'];rfl)
  rcases aD k so.length with dk|dk
  .have hw:=er k aC
   have gx:aaF (so.map (·.1)) (k:Int)=some so[k].1:=by rw[dN (by rw[bR];exact dk),adu]
   have gy:aaF (so.map (·.2)) (k:Int)=some so[k].2:=by rw[dN (by rw[bR];exact dk),adu]
   rw[ce dk] at E2
   generalize so[k]=p at *
   obtain⟨w,oo⟩:=p
   dsimp only at gx gy
   simp only[opT] at E2
   have kt:=λK=>aH.k (acV l j e w hl hj) K
   cases c:isT l j w with
   | true =>
    have hj1:=fF c
    rw[c,am rfl] at E2 kt
    rw[E2] at E
    cases e2:nx (j+1) [] with
    | none=>simp only[e2,Rz.on] at E;cases E
    | some r2 =>
    obtain⟨y,j2,q2⟩:=r2
    have g':=N (j+1) _ hj1 e2
    obtain⟨u2,v2⟩:=g'.1
    dsimp only at u2 v2
    cases q2 with
    | true =>
     have k2:=g'.bad
     simp only[e2,Rz.on] at E
     cases E
     rcases hx' with hx'|⟨o,b,c',hx1,hx'⟩
     .subst hx'
      simp only[↓zA,sevalprocAttr,adm,pT,zP,hf,hm,ho,hk,hc,zLX,aV,g0,g1,g3,g9,g14,g15,g16,go,dk,gx,gy,kt,k2]
      all_goals exact fz
     .subst hx' hx1
      simp only[↓zA,sevalprocAttr,adm,pT,zP,hf,hm,ho,hk,hc,zLX,aV,g0,g1,g3,g9,g14,g15,g16,go,dk,gx,gy,kt,k2]
      all_goals exact fz
    | false =>
     have k2:=g'.ok
     simp only[e2,Rz.on] at E
     rcases hx' with hx'|⟨o,b,c',hx1,hx'⟩
     .subst hx'
      simp only[↓zA,sevalprocAttr,adm,pT,zP,zBS,hf,hm,ho,hk,hc,zLX,aV,g0,g1,g2,g3,g8,g9,g14,g15,g16,go,dk,gx,gy,kt,k2]
      exact⟨n,aP n,dR oo [a,y],j2,_,.inr ⟨oo,a,y,rfl,rfl⟩,rfl,E,v2⟩
     .subst hx' hx1
      simp only[↓zA,sevalprocAttr,adm,pT,zP,zBS,hf,hm,ho,hk,hc,zLX,aV,g0,g1,g2,g3,g8,g9,g14,g15,g16,go,dk,gx,gy,kt,k2]
      refine⟨n,aP n,dR oo [dR o [b,c'],y],j2,_,.inr ⟨oo,dR o [b,c'],y,rfl,rfl⟩,?_,E,v2⟩
      simp only[xpO]
      simp only[zVW]
      all_goals rfl
   | false =>
    rw[c] at E2 kt
    simp only[ah,av] at E2 kt
    simp only[↓zA,sevalprocAttr,adm,pT,aV,g0,g1,g2,g3,g8,g9,g14,g15,g16,go,dk,gx,hw,kt,hxt]
    first|exact E2|exact⟨rfl,E2⟩
  have ek:k=so.length:=by omega
  subst ek
  rw[cY] at E2
  simp only[opT] at E2
  rw[E2] at E
  cases E
  rcases hx' with hx'|⟨o,b,c',hx1,hx'⟩
  .subst hx'
   simp only[↓zA,sevalprocAttr,adm,pT,zP,zLX,aV,cO,g8,g9,g15,g16,go]
   all_goals exact fz
  .subst hx' hx1
   simp only[↓zA,sevalprocAttr,adm,pT,zP,zLX,aV,cO,g8,g9,g15,g16,go]
   all_goals exact fz
 .simp only[↓zA,sevalprocAttr,adm,pT]
  exact⟨a,j,_,.inl rfl,rfl,hr,v⟩
theorem au2{l:List Tn}{F:Fs}(N:∀ i r,i<=l.length->F.or i []=some r->i<=r.2.1/\r.2.1<=l.length):∀ n ks j r,j<=l.length->acM F l n ks j=some r->j<=r.2.1/\r.2.1<=l.length
 | 0,a,j,r,hj,h=>by simp only[acM] at h;cases h
 | n+1,a,j,r,hj,h=>by
  unfold acM at h
  cases c:isT l j [44] with
  | false=>rw[c] at h;cases h;exact⟨ae _,hj⟩
  | true =>
   have hj1:=fF c
   cases e:F.or (j+1) [] with
   | none=>simp only[c,e,Rz.on,au] at h;cases h
   | some q =>
    obtain⟨y,m,b⟩:=q
    have g:=N _ _ hj1 e
    dsimp only at g
    cases b with
    | true=>simp only[c,e,Rz.on,au] at h;cases h;exact⟨by dsimp only;omega,g.2⟩
    | false =>
     simp only[c,e,Rz.on,au] at h
     have:=au2 N n _ _ _ g.2 h
     exact⟨by omega,this.2⟩
def okN{c d:Nat}(x i:Nat)(h:c<d)(af:List Edge):aau d af (some (.nm c x i))=true:=Z69 ((Z68 ..).2 h) af
def atJ{α:Type}{f:α->List C}{A:List α}{clk c x i e z n:Nat}{cs:List C}(h1:cs=fl f A)(h2:n=A.length)(h:c<clk):∃ c' x' i',c'<clk/\X.own (.nm c x i) e z cs n=X.own (.nm c' x' i') e z (fl f A) A.length:=⟨c,x,i,h,by rw[h1,h2]⟩
def atI{α:Type}{f:α->List C}{A:List α}{y:α}{clk c x i e z n:Nat}{cs:List C}(h1:cs=fl f A++f y)(h2:n=A.length+1)(h:c<clk):∃ c' x' i',c'<clk/\X.own (.nm c x i) e z cs n=X.own (.nm c' x' i') e z (fl f (A++[y])) (A++[y]).length:=⟨c,x,i,h,by rw[h1,h2,ayV,akW,bc];rfl⟩
def ao5:=fZ @Tryz.f185.eq_1 @zq @ak2 @ab5 @bG @fq @zT0 (kf aFF)
def acE{l:List Tn}{e:Int}{F:Fs}(hl:l.length<LB)(H:PY l e F)(i:Nat)(r:List Xp×Nat×Bool)(hi:i<=l.length)(hr:aa1 F l i=some r):GP 185 [.ptr 0 0] [pT l i e] l e [] xsE i r:=by
 unfold aa1 at hr
 cases e1:F.or i [] with
 | none=>simp only[e1,Rz.on] at hr;cases hr
 | some r1 =>
 obtain⟨a,j,q⟩:=r1
 have g:=H.or i _ hi e1
 obtain⟨u,v⟩:=g.1
 dsimp only at u v
 cases q with
 | true =>
  have k:=g.bad
  simp only[e1,Rz.on] at hr
  cases hr
  refine⟨⟨u,v⟩,?_⟩
  refine bB aFF ?_
  simp only[↓zA,sevalprocAttr,ao5,bz,pT,zP,k]
  all_goals exact fz
 | false =>
 have k:=g.ok
 simp only[e1,Rz.on] at hr
 have P:=au2 (λi r h1 h2=>(H.or i r h1 h2).1) _ _ _ _ v hr
 refine⟨⟨by omega,P.2⟩,?_⟩
 refine bB aFF ?_
 simp only[↓zA,sevalprocAttr,ao5,bz,pT,k]
 refine aaj _ _ (λn s=>∃ ks j,s.fr 0=.ptr 0 0/\(∃ c x i,c<s.clk/\s.fr 3=.own (.nm c x i) 28 9 (fl xpC ks) ks.length)/\s.objs=[pT l j e]/\acM F l n ks j=some r/\j<=l.length/\ks.length<=j+1) ?_ (l.length+1) _ ?_
 .rintro n ⟨frn,obn,ckn⟩ ⟨ks,j,f0,⟨c,x,i',hc,f3⟩,fo,E,hj,hk⟩
  dsimp only at f0 hc f3 fo
  cases n with
  | zero=>simp only[acM] at E;cases E
  | succ n =>
  unfold acM at E
  cases c1:isT l j [44] with
  | true =>
   have hj1:=fF c1
   have t1:=wT l j e [44] hl c1
   cases e2:F.or (j+1) [] with
   | none=>simp only[c1,e2,Rz.on,au] at E;cases E
   | some r2 =>
   obtain⟨y,j2,q2⟩:=r2
   have g':=H.or (j+1) _ hj1 e2
   obtain⟨u2,v2⟩:=g'.1
   dsimp only at u2 v2
   cases q2 with
   | true =>
    have k2:=g'.bad
    simp only[c1,e2,Rz.on,au] at E
    cases E
    simp only[↓zA,sevalprocAttr,ao5,pT,zP,f0,f3,fo,t1,k2]
    all_goals exact fz
   | false =>
    have k2:=g'.ok
    simp only[c1,e2,Rz.on,au] at E
    simp only[↓zA,sevalprocAttr,ao5,pT,zP,f0,f3,fo,t1,k2]
    and_intros
    all_goals first|exact okN _ _ aC _|exact⟨n,aP n,ks++[y],j2,atI (by rw[ff]) rfl aC,rfl,E,v2,by rw[bc];simp only[abP];omega⟩|(unfold LIM;unfold LB at hl;omega)|rfl
  | false =>
   have t1:=wF l j e [44] hl hj c1
   simp only[c1,ah,av] at E
   cases E
   simp only[↓zA,sevalprocAttr,ao5,pT,zP,f0,f3,fo,t1]
   all_goals exact fz
 .simp only[↓zA,sevalprocAttr,ao5,pT]
  exact⟨[a],j,atJ (by rw[akW,ff]) rfl aC,rfl,hr,v,by simp only[abP];omega⟩
end Go.Proofs.YtghkmcffifpkeaaGreat
namespace Go.Tab
open Pe
def aht(o:List UInt8)(m:Nat)(l:List UInt8):Option (List UInt8×Nat):=(aa0 l).map λq=>(o++q.1,m+q.2)
def aXw(l:List UInt8):aht [] 0 l=aa0 l:=by unfold aht;cases aa0 l <;> simp
def aK7(o:List UInt8)(m:Nat):aht o m []=none:=rfl
def aXt(o:List UInt8)(m:Nat)(r:List UInt8)(h:r.head?≠some 39):aht o m (39::r)=some (o,m+1):=by
 unfold aht
 cases r with
 | nil=>simp[aa0]
 | cons d r =>
  have h:d≠39:=λq=>h (by rw[q];rfl)
  simp[aa0,h]
def aXv(o:List UInt8)(m:Nat){c:UInt8}(h:c≠39)(r:List UInt8):aht o m (c::r)=aht (o++[c]) (m+1) r:=by
 unfold aht
 cases r with
 | nil=>simp[aa0,h]
 | cons d r=>simp only[aa0,h,av,ad8];congr 1;funext q;simp[Function.comp];omega
def aXu(o:List UInt8)(m:Nat)(r:List UInt8):aht o m (39::39::r)=aht (o++[39]) (m+2) r:=by
 unfold aht
 simp only[aa0,au,ad8];congr 1;funext q;simp[Function.comp];omega
def aXs(i:Nat)(r:List UInt8):aiC i r=match aht [] 0 r with
 | none=>(aes i,3)
 | some (w,n)=>if !w.all afV then (aes i,2) else if 100<w.length then (aes i,4) else (⟨4,i,n+1,0,w⟩,0):=by rw[aXw];rfl
end Go.Tab
namespace Go.Proofs.YtghkmcffifpkeaaGreat
open Pe Tab
def aSp(t:Tk)(a:List UInt8)(n:Nat)(hn:a.length=n):adU tP 64 9 (.own t 5 1 (byC a) n)=out (af4 (aK a)) :=
 avU T64 (by rw[T9];rfl) (by rw[T5];rfl) t 1 n a hn
def aJJ:adU tP 64 9 .nil=out (af4 (aK [])):=by
 simp only[adU,adf,ajm,T64,T9,aG]
 rfl
def asN(tk:Tk)(n:Int):cy tk 1 (Pe.elemOf tP 64) (some [(0,[.of (.lit (.int .u8 n))])])=out (.own tk 5 1 [.lit (.int .u8 n)] 1):=by rw[E64];rfl
def aGE(tk tk' tk2:Tk)(cs0 cs:List C)(n m e2 z2:Nat):dV tP tk 64 64 (.own tk' 5 1 cs0 n) (.own tk2 e2 z2 cs m)=if cs.length=m*1/\n+m<=LIM then some (.own tk 5 1 (cs0++cs) (n+m),some tk') else none:=aek E64 aI aI tk tk' cs0 n (.own tk2 e2 z2 cs m) cs m rfl
def aKt(tk tk2:Tk)(cs:List C)(m e2 z2:Nat):dV tP tk 64 64 .nil (.own tk2 e2 z2 cs m)=if cs.length=m*1/\m<=LIM then some (.own tk 5 1 cs m,none) else none:=afG E64 aI aI tk (.own tk2 e2 z2 cs m) cs m rfl
def ajd{clk c x i n:Nat}{o:List UInt8}(h:c<clk)(h2:n=o.length):∃ c' x' i',c'<clk/\X.own (.nm c x i) 5 1 (byC o) n=X.own (.nm c' x' i') 5 1 (byC o) o.length:=⟨c,x,i,h,by rw[h2]⟩
def aq8(p:UInt8->Bool)(o:List UInt8)(c:UInt8):(o++[c]).all p=(o.all p&&p c):=by simp
def aeu:=fZ @Tryz.f150.eq_1 @zq @bcc @U9 @T64 @ab7 @zT0 (kf aRC)
def aAP(s:List UInt8)(i:Nat)(hl:s.length<=4000)(hi:i<s.length):GN 150 [.of (aJ (aK s)),aQ i] [.of (.agg (tnC (aiC i (s.drop (i+1))).1)),aQ (aiC i (s.drop (i+1))).2]:=by
 rw[aXs]
 have hw:=er i aC
 refine bB aRC ?_
 simp only[↓zA,sevalprocAttr,aeu,hw]
 refine aaj _ _ (λn t=>∃ (o:List UInt8) (m:Nat),t.fr 0=.of (aJ (aK s))/\t.fr 1=aQ i/\t.fr 4=.ptr 0 0/\t.fr 7=aL (!o.all afV)/\t.fr 8=aQ (i+1+m:Nat)/\((t.fr 6=.nil/\o=[])\/∃ c x i',c<t.clk/\t.fr 6=.own (.nm c x i') 5 1 (byC o) o.length)/\t.objs=[tkZ]/\i+1+m+n=s.length+1/\i+1+m<=s.length/\o.length<=m/\aht [] 0 (s.drop (i+1))=aht o m (s.drop (i+1+m))) ?_ (s.length-i) _ ?_
 .rintro n ⟨frn,obn,ckn⟩ ⟨o,m,f0,f1,f4,f7,f8,f6,fo,hn,hj,ho,E⟩
  dsimp only at f0 f1 f4 f7 f8 f6 fo
  have hwj:=er (i+1+m) aC
  have hwj2:=er (i+1+m+1) aC
  have ll:(o.length+1<=LIM)=True:=aa (by unfold LIM;omega)
  have l1:(1<=LIM)=True:=aa (by unfold LIM;omega)
  have hsub:IntKind.i64.wrap (((i+1+m+1:Nat):Int)-(i:Int))=((m+2:Nat):Int):=by rw[d9 _ aC aC];omega
  have l100:((100:Int)<(o.length:Int))=(100<o.length):=propext aC
  rcases aD (i+1+m) s.length with dk|dk
  .have gx:=dN dk
   have dk':=aa dk
   have ndk:((s.length:Int)<=((i+1+m:Nat):Int))=False:=aA aC
   rw[aeh dk] at E
   have e32:(((s[i+1+m].toNat:Nat):Int)<32)=(s[i+1+m].toNat<32):=propext aC
   have e126:((126:Int)<((s[i+1+m].toNat:Nat):Int))=(126<s[i+1+m].toNat):=propext aC
   have e39:(((s[i+1+m].toNat:Nat):Int)=39)=(s[i+1+m]=39):=eH _ 39 39 rfl
   generalize hc0:s[i+1+m]=c at *
   by_cases hq:c=39
   .subst hq
    have stop:(s.drop (i+1+m+1)).head?≠some 39->aht [] 0 (s.drop (i+1))=some (o,m+1):=λh=>by rw[E];exact aXt o m _ h
    rcases aD (i+1+m+1) s.length with d1|d1
    .have gd:=dN d1
     have neq:(((i+1+m+1:Nat):Int)=(s.length:Int))=False:=aA aC
     have hd0:=aeh d1
     have e39d:(((s[i+1+m+1].toNat:Nat):Int)=39)=(s[i+1+m+1]=39):=eH _ 39 39 rfl
     generalize s[i+1+m+1]=d at *
     by_cases hd:d=39
     .subst hd
      rw[hd0,aXu] at E
      have hall:(!(o++[39]).all afV)=!o.all afV:=by rw[aq8];show (!(o.all afV&&true))=_;rw[aaw]
      have hb9:byC o++[C.lit (.int .u8 39)]=byC (o++[39]):=(asM o [39]).symm
      rcases f6 with ⟨f6,rfl⟩|⟨a,x,y,hck,f6⟩
      .simp only[↓zA,sevalprocAttr,aeu,f0,f1,f4,f6,f7,f8,fo,aV,dk',gx,gd,neq,hwj,hwj2,asN,aKt,l1,ahy]
       exact⟨n-2,by omega,[39],m+2,rfl,rfl,(by first|exact⟨_,_,_,by omega,rfl⟩|exact .inr ⟨_,_,_,by omega,rfl⟩|exact ajd aC (by simp)|exact .inr (ajd aC aT)),by omega,by omega,by simp,E⟩
      .have hne:(a=ckn+1)=False:=aA aC
       cases hb:o.all afV
       all_goals
        simp only[↓zA,sevalprocAttr,aeu,f0,f1,f4,f6,f7,f8,fo,aV,dk',gx,gd,neq,hwj,hwj2,asN,aGE,ll,hb,hb9]
        refine⟨okN _ _ aC _,n-2,by omega,o++[39],m+2,by rw[hall,hb];rfl,rfl,(by first|exact⟨_,_,_,by omega,rfl⟩|exact .inr ⟨_,_,_,by omega,rfl⟩|exact ajd aC (by simp)|exact .inr (ajd aC aT)),by omega,by omega,by simp;omega,E⟩
     .have hd':(d=39)=False:=aA hd
      have E1:=stop (by rw[hd0];simpa using hd)
      cases hb:o.all afV with
      | false =>
       simp only[E1,hb,dK,au]
       rcases f6 with ⟨f6,rfl⟩|⟨a,x,y,hck,f6⟩
       .cases hb
       .simp only[↓zA,sevalprocAttr,aeu,f0,f1,f4,f7,f8,fo,aV,gx,gd,neq,e39d,hd',ndk,hb,bE,hwj,dk']
        try rfl
      | true =>
       by_cases h100:100<o.length
       .simp only[E1,hb,db,ah,av,h100,au]
        rcases f6 with ⟨f6,rfl⟩|⟨a,x,y,hck,f6⟩
        .simp at h100
        .simp only[↓zA,sevalprocAttr,aeu,f0,f1,f4,f6,f7,f8,fo,aV,gx,gd,neq,e39d,hd',ndk,hb,bE,hwj,dk',l100,h100]
         try rfl
       .simp only[E1,hb,db,ah,av,h100]
        rcases f6 with ⟨f6,rfl⟩|⟨a,x,y,hck,f6⟩
        .simp only[↓zA,sevalprocAttr,aeu,f0,f1,f4,f6,f7,f8,fo,aV,gx,gd,neq,e39d,hd',ndk,hb,bE,hwj,dk',hsub,aJJ]
         try rfl
        .simp only[↓zA,sevalprocAttr,aeu,f0,f1,f4,f6,f7,f8,fo,aV,gx,gd,neq,e39d,hd',ndk,hb,bE,hwj,dk',l100,h100,hsub,aSp]
         try rfl
    .have eqq:(((i+1+m+1:Nat):Int)=(s.length:Int))=True:=aa aC
     have E1:=stop (by rw[dB aC];simp)
     cases hb:o.all afV with
     | false =>
      simp only[E1,hb,dK,au]
      rcases f6 with ⟨f6,rfl⟩|⟨a,x,y,hck,f6⟩
      .cases hb
      .simp only[↓zA,sevalprocAttr,aeu,f0,f1,f4,f7,f8,fo,aV,gx,eqq,ndk,hb,bE,hwj,dk']
       try rfl
     | true =>
      by_cases h100:100<o.length
      .simp only[E1,hb,db,ah,av,h100,au]
       rcases f6 with ⟨f6,rfl⟩|⟨a,x,y,hck,f6⟩
       .simp at h100
       .simp only[↓zA,sevalprocAttr,aeu,f0,f1,f4,f6,f7,f8,fo,aV,gx,eqq,ndk,hb,bE,hwj,dk',l100,h100]
        try rfl
      .simp only[E1,hb,db,ah,av,h100]
       rcases f6 with ⟨f6,rfl⟩|⟨a,x,y,hck,f6⟩
       .simp only[↓zA,sevalprocAttr,aeu,f0,f1,f4,f6,f7,f8,fo,aV,gx,eqq,ndk,hb,bE,hwj,dk',hsub,aJJ]
        try rfl
       .simp only[↓zA,sevalprocAttr,aeu,f0,f1,f4,f6,f7,f8,fo,aV,gx,eqq,ndk,hb,bE,hwj,dk',l100,h100,hsub,aSp]
        try rfl
   .rw[aXv o m hq] at E
    have hq':(c=39)=False:=aA hq
    have hb9:byC o++[C.lit (.int .u8 (c.toNat:Nat))]=byC (o++[c]):=(asM o [c]).symm
    have seen:afV c=(!decide (c.toNat<32)&&!decide (126<c.toNat)):=by
     unfold afV
     by_cases h1:c.toNat<32 <;> by_cases h2:126<c.toNat <;> simp[h1,h2] <;> omega
    cases hb:o.all afV with
    | false =>
     have hall:(!(o++[c]).all afV)=true:=by rw[aq8,hb];rfl
     rcases f6 with ⟨f6,rfl⟩|⟨a,x,y,hck,f6⟩
     .cases hb
     .have hne:(a=ckn+1)=False:=aA aC
      simp only[↓zA,sevalprocAttr,aeu,f0,f1,f4,f6,f7,f8,fo,aV,dk',gx,e39,hq',hwj,asN,aGE,ll,hb,hb9]
      refine⟨okN _ _ aC _,n-1,by omega,o++[c],m+1,by rw[hall],rfl,(by first|exact⟨_,_,_,by omega,rfl⟩|exact .inr ⟨_,_,_,by omega,rfl⟩|exact ajd aC (by simp)|exact .inr (ajd aC aT)),by omega,by omega,by simp;omega,E⟩
    | true =>
     have hall:(!(o++[c]).all afV)=(decide (c.toNat<32)||decide (126<c.toNat)):=by rw[aq8,hb,seen];cases decide (c.toNat<32) <;> cases decide (126<c.toNat) <;> rfl
     by_cases h1:c.toNat<32
     all_goals first|(have h1':=aa h1;skip)|skip
     all_goals by_cases h2:126<c.toNat
     all_goals
      rcases f6 with ⟨f6,rfl⟩|⟨a,x,y,hck,f6⟩
      .simp only[↓zA,sevalprocAttr,aeu,f0,f1,f4,f6,f7,f8,fo,aV,dk',gx,e39,hq',hwj,asN,aKt,l1,e32,e126,h1,h2,ahy]
       exact⟨n-1,by omega,[c],m+1,by simpa [h1,h2] using hall.symm,rfl,(by first|exact⟨_,_,_,by omega,rfl⟩|exact .inr ⟨_,_,_,by omega,rfl⟩|exact ajd aC (by simp)|exact .inr (ajd aC aT)),by omega,by omega,by simp,E⟩
      .have hne:(a=ckn+1)=False:=aA aC
       simp only[↓zA,sevalprocAttr,aeu,f0,f1,f4,f6,f7,f8,fo,aV,dk',gx,e39,hq',hwj,asN,aGE,ll,hb,hb9,e32,e126,h1,h2]
       refine⟨okN _ _ aC _,n-1,by omega,o++[c],m+1,by rw[hall];simp[h1,h2],rfl,(by first|exact⟨_,_,_,by omega,rfl⟩|exact .inr ⟨_,_,_,by omega,rfl⟩|exact ajd aC (by simp)|exact .inr (ajd aC aT)),by omega,by omega,by simp;omega,E⟩
  .have dk':(i+1+m<s.length)=False:=aA aC
   have ndk:((s.length:Int)<=((i+1+m:Nat):Int))=True:=aa aC
   rw[dB dk,aK7] at E
   simp only[E]
   rcases f6 with ⟨f6,rfl⟩|⟨a,x,y,hck,f6⟩
   all_goals
    simp only[↓zA,sevalprocAttr,aeu,f0,f1,f4,f8,fo,aV,dk',ndk,bE]
    try rfl
 .simp only[↓zA,sevalprocAttr,aeu]
  first|exact⟨[],0,rfl,rfl,.inl rfl,by omega,by omega,ae _,rfl⟩|exact⟨[],0,rfl,rfl,rfl,by omega,by omega,ae _,rfl⟩|exact⟨[],0,rfl,rfl,by omega,by omega,ae _,rfl⟩
def aap:=fX @Tryz.f151.eq_1 @zq @bcb @ab7 @zT0 (kf aai)
def aAR(s:List UInt8)(i:Nat)(hl:s.length<=4000)(hi:i<s.length):GN 151 [.of (aJ (aK s)),aQ i] [.of (.agg (tnC (lxG i s[i] (s.drop (i+1)).head?).1)),aQ (lxG i s[i] (s.drop (i+1)).head?).2]:=by
 have hw:=er i aC
 have gx:=dN hi
 have hd0:=aeh hi
 have s1:=api s i (i+1) aC aC
 have t1:(s.take (i+1)).drop i=[s[i]]:=by rw[acZ,hd0,show i+1-i=1 by omega];rfl
 rw[t1] at s1
 have w2:IntKind.i64.wrap ((i:Int)+2)=((i+2:Nat):Int):=by rw[d9 _ aC aC];rfl
 rcases aD (i+1) s.length with d1|d1
 .have gd:=dN d1
  have lt:=aa d1
  have hd1:=aeh d1
  have s2:=api s i (i+2) aC aC
  have t2:(s.take (i+2)).drop i=[s[i],s[i+1]]:=by rw[acZ,hd0,hd1,show i+2-i=2 by omega];rfl
  rw[t2] at s2
  have eh:(s.drop (i+1)).head?=some s[i+1]:=by rw[hd1];rfl
  rw[eh]
  generalize s[i+1]=d at *
  generalize s[i]=c at *
  by_cases h124:c=124
  .subst h124
   by_cases g124:d=124
   .subst g124
    rw[show lxG i 124 (some 124)=(⟨5,i,2,0,[124,124]⟩,0) from rfl]
    refine bB aai ?_
    simp only[↓zA,sevalprocAttr,aap,hw,w2,gx,aV,bE,gd,lt,s2]
    try rfl
   .have j124:(((d.toNat:Nat):Int)=124)=False:=aA λq=>g124 (by have:=(eH d 124 124 rfl);exact this.mp q)
    rw[show lxG i 124 (some d)=(aes i,2) from by unfold lxG;simp[g124]]
    refine bB aai ?_
    simp only[↓zA,sevalprocAttr,aap,hw,gx,aV,bE,gd,lt,j124]
    try rfl
  by_cases h60:c=60
  .subst h60
   by_cases g62:d=62
   .subst g62
    rw[show lxG i 60 (some 62)=(⟨5,i,2,0,[60,62]⟩,0) from rfl]
    refine bB aai ?_
    simp only[↓zA,sevalprocAttr,aap,hw,w2,gx,aV,bE,gd,lt,s2]
    try rfl
   by_cases g61:d=61
   .subst g61
    rw[show lxG i 60 (some 61)=(⟨5,i,2,0,[60,61]⟩,0) from rfl]
    refine bB aai ?_
    simp only[↓zA,sevalprocAttr,aap,hw,w2,gx,aV,bE,gd,lt,s2]
    try rfl
   .have j62:(((d.toNat:Nat):Int)=62)=False:=aA λq=>g62 (by have:=(eH d 62 62 rfl);exact this.mp q)
    have j61:(((d.toNat:Nat):Int)=61)=False:=aA λq=>g61 (by have:=(eH d 61 61 rfl);exact this.mp q)
    rw[show lxG i 60 (some d)=(⟨5,i,1,0,[60]⟩,0) from by unfold lxG;simp[g62,g61]]
    refine bB aai ?_
    simp only[↓zA,sevalprocAttr,aap,hw,gx,aV,bE,s1,gd,lt,j62,j61]
    try rfl
  by_cases h62:c=62
  .subst h62
   by_cases g61:d=61
   .subst g61
    rw[show lxG i 62 (some 61)=(⟨5,i,2,0,[62,61]⟩,0) from rfl]
    refine bB aai ?_
    simp only[↓zA,sevalprocAttr,aap,hw,w2,gx,aV,bE,gd,lt,s2]
    try rfl
   .have j61:(((d.toNat:Nat):Int)=61)=False:=aA λq=>g61 (by have:=(eH d 61 61 rfl);exact this.mp q)
    rw[show lxG i 62 (some d)=(⟨5,i,1,0,[62]⟩,0) from by unfold lxG;simp[g61]]
    refine bB aai ?_
    simp only[↓zA,sevalprocAttr,aap,hw,gx,aV,bE,s1,gd,lt,j61]
    try rfl
  by_cases h40:c=40
  .subst h40
   rw[show lxG i 40 (some d)=(⟨5,i,1,0,[40]⟩,0) from by unfold lxG;simp]
   refine bB aai ?_
   simp only[↓zA,sevalprocAttr,aap,hw,gx,aV,bE,s1,gd,lt]
   try rfl
  by_cases h41:c=41
  .subst h41
   rw[show lxG i 41 (some d)=(⟨5,i,1,0,[41]⟩,0) from by unfold lxG;simp]
   refine bB aai ?_
   simp only[↓zA,sevalprocAttr,aap,hw,gx,aV,bE,s1,gd,lt]
   try rfl
  by_cases h44:c=44
  .subst h44
   rw[show lxG i 44 (some d)=(⟨5,i,1,0,[44]⟩,0) from by unfold lxG;simp]
   refine bB aai ?_
   simp only[↓zA,sevalprocAttr,aap,hw,gx,aV,bE,s1,gd,lt]
   try rfl
  by_cases h46:c=46
  .subst h46
   rw[show lxG i 46 (some d)=(⟨5,i,1,0,[46]⟩,0) from by unfold lxG;simp]
   refine bB aai ?_
   simp only[↓zA,sevalprocAttr,aap,hw,gx,aV,bE,s1,gd,lt]
   try rfl
  by_cases h59:c=59
  .subst h59
   rw[show lxG i 59 (some d)=(⟨5,i,1,0,[59]⟩,0) from by unfold lxG;simp]
   refine bB aai ?_
   simp only[↓zA,sevalprocAttr,aap,hw,gx,aV,bE,s1,gd,lt]
   try rfl
  by_cases h43:c=43
  .subst h43
   rw[show lxG i 43 (some d)=(⟨5,i,1,0,[43]⟩,0) from by unfold lxG;simp]
   refine bB aai ?_
   simp only[↓zA,sevalprocAttr,aap,hw,gx,aV,bE,s1,gd,lt]
   try rfl
  by_cases h45:c=45
  .subst h45
   rw[show lxG i 45 (some d)=(⟨5,i,1,0,[45]⟩,0) from by unfold lxG;simp]
   refine bB aai ?_
   simp only[↓zA,sevalprocAttr,aap,hw,gx,aV,bE,s1,gd,lt]
   try rfl
  by_cases h42:c=42
  .subst h42
   rw[show lxG i 42 (some d)=(⟨5,i,1,0,[42]⟩,0) from by unfold lxG;simp]
   refine bB aai ?_
   simp only[↓zA,sevalprocAttr,aap,hw,gx,aV,bE,s1,gd,lt]
   try rfl
  by_cases h47:c=47
  .subst h47
   rw[show lxG i 47 (some d)=(⟨5,i,1,0,[47]⟩,0) from by unfold lxG;simp]
   refine bB aai ?_
   simp only[↓zA,sevalprocAttr,aap,hw,gx,aV,bE,s1,gd,lt]
   try rfl
  by_cases h37:c=37
  .subst h37
   rw[show lxG i 37 (some d)=(⟨5,i,1,0,[37]⟩,0) from by unfold lxG;simp]
   refine bB aai ?_
   simp only[↓zA,sevalprocAttr,aap,hw,gx,aV,bE,s1,gd,lt]
   try rfl
  by_cases h61:c=61
  .subst h61
   rw[show lxG i 61 (some d)=(⟨5,i,1,0,[61]⟩,0) from by unfold lxG;simp]
   refine bB aai ?_
   simp only[↓zA,sevalprocAttr,aap,hw,gx,aV,bE,s1,gd,lt]
   try rfl
  have j124:(((c.toNat:Nat):Int)=124)=False:=aA λq=>h124 ((eH c 124 124 rfl).mp q)
  have j60:(((c.toNat:Nat):Int)=60)=False:=aA λq=>h60 ((eH c 60 60 rfl).mp q)
  have j62:(((c.toNat:Nat):Int)=62)=False:=aA λq=>h62 ((eH c 62 62 rfl).mp q)
  have j40:(((c.toNat:Nat):Int)=40)=False:=aA λq=>h40 ((eH c 40 40 rfl).mp q)
  have j41:(((c.toNat:Nat):Int)=41)=False:=aA λq=>h41 ((eH c 41 41 rfl).mp q)
  have j44:(((c.toNat:Nat):Int)=44)=False:=aA λq=>h44 ((eH c 44 44 rfl).mp q)
  have j46:(((c.toNat:Nat):Int)=46)=False:=aA λq=>h46 ((eH c 46 46 rfl).mp q)
  have j59:(((c.toNat:Nat):Int)=59)=False:=aA λq=>h59 ((eH c 59 59 rfl).mp q)
  have j43:(((c.toNat:Nat):Int)=43)=False:=aA λq=>h43 ((eH c 43 43 rfl).mp q)
  have j45:(((c.toNat:Nat):Int)=45)=False:=aA λq=>h45 ((eH c 45 45 rfl).mp q)
  have j42:(((c.toNat:Nat):Int)=42)=False:=aA λq=>h42 ((eH c 42 42 rfl).mp q)
  have j47:(((c.toNat:Nat):Int)=47)=False:=aA λq=>h47 ((eH c 47 47 rfl).mp q)
  have j37:(((c.toNat:Nat):Int)=37)=False:=aA λq=>h37 ((eH c 37 37 rfl).mp q)
  have j61:(((c.toNat:Nat):Int)=61)=False:=aA λq=>h61 ((eH c 61 61 rfl).mp q)
  rw[show lxG i c (some d)=(aes i,2) from by unfold lxG;simp[h124,h60,h62,h40,h41,h44,h46,h59,h43,h45,h42,h47,h37,h61]]
  refine bB aai ?_
  simp only[↓zA,sevalprocAttr,aap,hw,gx,aV,bE,gd,lt,j124,j60,j62,j40,j41,j44,j46,j59,j43,j45,j42,j47,j37,j61]
  try rfl
 .have lt:(i+1<s.length)=False:=aA aC
  have eh:(s.drop (i+1)).head?=none:=by rw[dB d1];rfl
  rw[eh]
  generalize s[i]=c at *
  by_cases h124:c=124
  .subst h124
   rw[show lxG i 124 none=(aes i,2) from rfl]
   refine bB aai ?_
   simp only[↓zA,sevalprocAttr,aap,hw,gx,aV,bE,lt]
   try rfl
  by_cases h60:c=60
  .subst h60
   rw[show lxG i 60 none=(⟨5,i,1,0,[60]⟩,0) from rfl]
   refine bB aai ?_
   simp only[↓zA,sevalprocAttr,aap,hw,gx,aV,bE,s1,lt]
   try rfl
  by_cases h62:c=62
  .subst h62
   rw[show lxG i 62 none=(⟨5,i,1,0,[62]⟩,0) from rfl]
   refine bB aai ?_
   simp only[↓zA,sevalprocAttr,aap,hw,gx,aV,bE,s1,lt]
   try rfl
  by_cases h40:c=40
  .subst h40
   rw[show lxG i 40 none=(⟨5,i,1,0,[40]⟩,0) from rfl]
   refine bB aai ?_
   simp only[↓zA,sevalprocAttr,aap,hw,gx,aV,bE,s1,lt]
   try rfl
  by_cases h41:c=41
  .subst h41
   rw[show lxG i 41 none=(⟨5,i,1,0,[41]⟩,0) from rfl]
   refine bB aai ?_
   simp only[↓zA,sevalprocAttr,aap,hw,gx,aV,bE,s1,lt]
   try rfl
  by_cases h44:c=44
  .subst h44
   rw[show lxG i 44 none=(⟨5,i,1,0,[44]⟩,0) from rfl]
   refine bB aai ?_
   simp only[↓zA,sevalprocAttr,aap,hw,gx,aV,bE,s1,lt]
   try rfl
  by_cases h46:c=46
  .subst h46
   rw[show lxG i 46 none=(⟨5,i,1,0,[46]⟩,0) from rfl]
   refine bB aai ?_
   simp only[↓zA,sevalprocAttr,aap,hw,gx,aV,bE,s1,lt]
   try rfl
  by_cases h59:c=59
  .subst h59
   rw[show lxG i 59 none=(⟨5,i,1,0,[59]⟩,0) from rfl]
   refine bB aai ?_
   simp only[↓zA,sevalprocAttr,aap,hw,gx,aV,bE,s1,lt]
   try rfl
  by_cases h43:c=43
  .subst h43
   rw[show lxG i 43 none=(⟨5,i,1,0,[43]⟩,0) from rfl]
   refine bB aai ?_
   simp only[↓zA,sevalprocAttr,aap,hw,gx,aV,bE,s1,lt]
   try rfl
  by_cases h45:c=45
  .subst h45
   rw[show lxG i 45 none=(⟨5,i,1,0,[45]⟩,0) from rfl]
   refine bB aai ?_
   simp only[↓zA,sevalprocAttr,aap,hw,gx,aV,bE,s1,lt]
   try rfl
  by_cases h42:c=42
  .subst h42
   rw[show lxG i 42 none=(⟨5,i,1,0,[42]⟩,0) from rfl]
   refine bB aai ?_
   simp only[↓zA,sevalprocAttr,aap,hw,gx,aV,bE,s1,lt]
   try rfl
  by_cases h47:c=47
  .subst h47
   rw[show lxG i 47 none=(⟨5,i,1,0,[47]⟩,0) from rfl]
   refine bB aai ?_
   simp only[↓zA,sevalprocAttr,aap,hw,gx,aV,bE,s1,lt]
   try rfl
  by_cases h37:c=37
  .subst h37
   rw[show lxG i 37 none=(⟨5,i,1,0,[37]⟩,0) from rfl]
   refine bB aai ?_
   simp only[↓zA,sevalprocAttr,aap,hw,gx,aV,bE,s1,lt]
   try rfl
  by_cases h61:c=61
  .subst h61
   rw[show lxG i 61 none=(⟨5,i,1,0,[61]⟩,0) from rfl]
   refine bB aai ?_
   simp only[↓zA,sevalprocAttr,aap,hw,gx,aV,bE,s1,lt]
   try rfl
  have j124:(((c.toNat:Nat):Int)=124)=False:=aA λq=>h124 ((eH c 124 124 rfl).mp q)
  have j60:(((c.toNat:Nat):Int)=60)=False:=aA λq=>h60 ((eH c 60 60 rfl).mp q)
  have j62:(((c.toNat:Nat):Int)=62)=False:=aA λq=>h62 ((eH c 62 62 rfl).mp q)
  have j40:(((c.toNat:Nat):Int)=40)=False:=aA λq=>h40 ((eH c 40 40 rfl).mp q)
  have j41:(((c.toNat:Nat):Int)=41)=False:=aA λq=>h41 ((eH c 41 41 rfl).mp q)
  have j44:(((c.toNat:Nat):Int)=44)=False:=aA λq=>h44 ((eH c 44 44 rfl).mp q)
  have j46:(((c.toNat:Nat):Int)=46)=False:=aA λq=>h46 ((eH c 46 46 rfl).mp q)
  have j59:(((c.toNat:Nat):Int)=59)=False:=aA λq=>h59 ((eH c 59 59 rfl).mp q)
  have j43:(((c.toNat:Nat):Int)=43)=False:=aA λq=>h43 ((eH c 43 43 rfl).mp q)
  have j45:(((c.toNat:Nat):Int)=45)=False:=aA λq=>h45 ((eH c 45 45 rfl).mp q)
  have j42:(((c.toNat:Nat):Int)=42)=False:=aA λq=>h42 ((eH c 42 42 rfl).mp q)
  have j47:(((c.toNat:Nat):Int)=47)=False:=aA λq=>h47 ((eH c 47 47 rfl).mp q)
  have j37:(((c.toNat:Nat):Int)=37)=False:=aA λq=>h37 ((eH c 37 37 rfl).mp q)
  have j61:(((c.toNat:Nat):Int)=61)=False:=aA λq=>h61 ((eH c 61 61 rfl).mp q)
  rw[show lxG i c none=(aes i,2) from by unfold lxG;simp[h124,h60,h62,h40,h41,h44,h46,h59,h43,h45,h42,h47,h37,h61]]
  refine bB aai ?_
  simp only[↓zA,sevalprocAttr,aap,hw,gx,aV,bE,lt,j124,j60,j62,j40,j41,j44,j46,j59,j43,j45,j42,j47,j37,j61]
  try rfl
def as2:=ai (fY @Tryz.f63.eq_1 @zq @bca @a9K @aSE @a9J @aGd) (fY @a9I @a9H @a9G @a9F @ab7 @zT0 (kf aqW))
def aAS(s:List UInt8)(i:Nat)(hl:s.length<=4000)(hi:i<=s.length):GN 63 [.of (aJ (aK s)),aQ i] [.of (.agg (tnC (dJ s i).1)),aQ (dJ s i).2]:=by
 have hs:=ahI false (s.drop i)
 rw[ch] at hs
 have ks:=λK=>aM7 s i (by unfold LB;omega) hi K
 unfold dJ
 have h1:((i:Int)<0)=False:=aA aC
 have h2:((s.length:Int)<(i:Int))=False:=aA aC
 generalize hj:i+bU false (s.drop i)=j at *
 rcases aD j s.length with dk|dk
 .have h3:((j:Int)=(s.length:Int))=False:=aA aC
  have gx:=dN dk
  have kw:=λh K=>aH.k (aAO s j hl dk h) K
  have kn:=λK=>aH.k (avQ s j hl aC) K
  have kq:=λK=>aH.k (avP s j hl dk) K
  have kt:=λK=>aH.k (aAP s j hl dk) K
  have kg:=λK=>aH.k (aAR s j hl dk) K
  have e34:(((s[j].toNat:Nat):Int)=34)=(s[j]=34):=eH _ 34 34 rfl
  have e39:(((s[j].toNat:Nat):Int)=39)=(s[j]=39):=eH _ 39 39 rfl
  have et:eU j (s.drop j)=if abg s[j] then lxW j ((s.drop j).takeWhile acK) else if bQ s[j] then aif j ((s.drop j).takeWhile bQ) else if s[j]=34 then aib j (s.drop (j+1)) else if s[j]=39 then aiC j (s.drop (j+1)) else lxG j s[j] (s.drop (j+1)).head?:=by
   rw[aeh dk];rfl
  rw[et]
  cases c1:abg s[j] with
  | true =>
   have kw:=kw c1
   simp only[au]
   generalize lxW j ((s.drop j).takeWhile acK)=r at *
   refine bB aqW ?_
   simp only[↓zA,sevalprocAttr,as2,h1,h2,h3,ks,gx,abU,c1,kw,bE]
   try rfl
  | false =>
   simp only[ah,av]
   cases c2:bQ s[j] with
   | true =>
    simp only[au]
    generalize aif j ((s.drop j).takeWhile bQ)=r at *
    refine bB aqW ?_
    simp only[↓zA,sevalprocAttr,as2,h1,h2,h3,ks,gx,abU,aco,c1,c2,kn,bE]
    try rfl
   | false =>
    simp only[ah,av]
    by_cases c3:s[j]=34
    .rw[am c3]
     have c3':=aa c3
     generalize aib j (s.drop (j+1))=r at *
     refine bB aqW ?_
     simp only[↓zA,sevalprocAttr,as2,h1,h2,h3,ks,gx,abU,aco,c1,c2,e34,c3',kq,bE]
     try rfl
    .rw[aj c3]
     have c3':=aA c3
     by_cases c4:s[j]=39
     .rw[am c4]
      have c4':=aa c4
      generalize aiC j (s.drop (j+1))=r at *
      refine bB aqW ?_
      simp only[↓zA,sevalprocAttr,as2,h1,h2,h3,ks,gx,abU,aco,c1,c2,e34,c3',e39,c4',kt,bE]
      try rfl
     .rw[aj c4]
      have c4':=aA c4
      generalize lxG j s[j] (s.drop (j+1)).head?=r at *
      refine bB aqW ?_
      simp only[↓zA,sevalprocAttr,as2,h1,h2,h3,ks,gx,abU,aco,c1,c2,e34,c3',e39,c4',kg,bE]
      try rfl
 .have h3:((j:Int)=(s.length:Int))=True:=aa aC
  rw[dB dk]
  refine bB aqW ?_
  simp only[↓zA,sevalprocAttr,as2,h1,h2,h3,ks,bE,eU]
  try rfl
def an3:=ai (fX @Tryz.f25.eq_1 @zq @bdQ @bb9 @mp8 @ab7) (fW @acn @P3 @Q3 @zT0 (kf aN4))
def abV(s:List UInt8)(hs:s.length<LB)(r:List Tn×Int×Int)(hr:fL s=some r):GN 25 [.of (aJ (aK s))] [.of (slC tnC r.1),aQ r.2.1,aQ r.2.2]:=by
 unfold fL at hr
 by_cases hl:2000<s.length
 .rw[am hl] at hr
  cases hr
  have h1:((2000:Int)<(s.length:Int))=True:=aa aC
  refine bB aN4 ?_
  simp only[↓zA,sevalprocAttr,an3,h1]
  try rfl
 .rw[aj hl] at hr
  have h1:((2000:Int)<(s.length:Int))=False:=aA aC
  refine bB aN4 ?_
  simp only[↓zA,sevalprocAttr,an3,h1]
  refine aaj _ _ (λn t=>∃ (o:List Tn) (j:Nat),((t.fr 5=.nil/\o=[])\/∃ c x i,c<t.clk/\t.fr 5=.own (.nm c x i) 63 5 (fl tnC o) o.length)/\t.fr 0=.of (aJ (aK s))/\t.fr 6=aQ j/\t.objs=[]/\aeA s n o j=some r/\j<=s.length/\o.length<=j) ?_ (s.length+2) _ ?_
  .rintro n ⟨frn,obn,ckn⟩ ⟨o,j,hK,f0,f6,fo,E,hj,ho⟩
   dsimp only at hK f0 f6 fo
   have hos:(o.length+1<=LIM)=True:=aa (by unfold LIM;omega)
   have l1:(1<=LIM)=True:=aa aI
   cases n with
   | zero=>simp only[aeA] at E;cases E
   | succ n =>
   unfold aeA at E
   have kx:=λK=>aH.k (aAS s j aC hj) K
   have hok:=λh=>aiR hj (t:=(dJ s j).1) (by rw[← (show (dJ s j).2=0 from h)])
   generalize dJ s j=p at *
   obtain⟨t,e⟩:=p
   dsimp only at E kx hok
   by_cases he:e=0
   .have he':=aa he
    rw[aj (by simp[he])] at E
    by_cases hk:t.k=0
    .have hk':=aa hk
     rw[am hk] at E
     cases E
     rcases hK with ⟨f5,rfl⟩|⟨c,x,i',hc,f5⟩
     .simp only[↓zA,sevalprocAttr,an3,f0,f5,f6,fo,kx,he',hk',bE]
      try rfl
     .have hn0:(c=ckn)=False:=aA aC
      simp only[↓zA,sevalprocAttr,an3,f0,f5,f6,fo,kx,he',hk',bE,hn0]
      try rfl
    .have hk':=aA hk
     rw[aj hk] at E
     rcases hok he with q|⟨a,ha,q⟩
     .exact absurd q hk
     have q1:=q.pl
     have q2:=q.sz
     have hw:IntKind.i64.wrap (t.pl+t.sz)=(((t.pl+t.sz).toNat:Nat):Int):=by rw[d9 _ aC aC];omega
     have hb:(t.pl+t.sz).toNat<=s.length:=by omega
     have hb2:j+1<=(t.pl+t.sz).toNat:=by omega
     rcases hK with ⟨f5,rfl⟩|⟨c,x,i',hc,f5⟩
     .simp only[↓zA,sevalprocAttr,an3,f0,f5,f6,fo,kx,he',hk',bE,l1,hw]
      exact⟨n,aP n,[t],(t.pl+t.sz).toNat,by first|exact atJ (by rw[akW,bE]) rfl (by omega)|exact .inr (atJ (by rw[akW,bE]) rfl aC),rfl,by simpa using E,hb,by simp only[abP];omega⟩
     .have hne:(c=ckn+1)=False:=aA aC
      have hn0:(c=ckn)=False:=aA aC
      simp only[↓zA,sevalprocAttr,an3,f0,f5,f6,fo,kx,he',hk',bE,hos,hn0,hw]
      and_intros
      all_goals first|exact okN _ _ aC _|exact⟨n,aP n,o++[t],(t.pl+t.sz).toNat,by first|exact atI (by rw[bE]) rfl (by omega)|exact .inr (atI (by rw[bE]) rfl aC),rfl,E,hb,by simp only[aeX];omega⟩|rfl|omega
   .have he':=aA he
    rw[am (by simpa using he)] at E
    cases E
    rcases hK with ⟨f5,rfl⟩|⟨c,x,i',hc,f5⟩
    all_goals
     simp only[↓zA,sevalprocAttr,an3,f0,f6,fo,kx,he',bE]
     try rfl
  .simp only[↓zA,sevalprocAttr,an3]
   first|exact⟨[],0,.inl rfl,rfl,hr,aO _,ae _⟩|exact⟨[],0,rfl,rfl,hr,aO _,ae _⟩
abbrev wB(f:Func):Code:=f.body.getD .skip
@[reducible] def fx:Code->Code
 | .seq a _=>a
 | c=>c
@[reducible] def dY:Code->Code
 | .seq _ b=>b
 | c=>c
abbrev w0S(f:Func):Code:=fx (wB f)
abbrev w1S(f:Func):Code:=fx (dY (wB f))
abbrev w2S(f:Func):Code:=fx (dY (dY (wB f)))
abbrev w4S(f:Func):Code:=fx (dY (dY (dY (wB f))))
abbrev w5S(f:Func):Code:=fx (dY (dY (dY (dY (wB f)))))
abbrev wBS(f:Func):Code:=dY (dY (dY (dY (dY (wB f)))))
abbrev wDS(f:Func):Code:=dY (dY (wB f))
def alK(c:C):asX tP 114 (.of (.ifc 114 c)) true=out (.of (.tup [c,.lit (.bool true)])):=by
 have:anB ((tP 114).map (·.und))=true:=by rw[aoW];rfl
 simp only[asX,this,bM,au]
def plT(s:List UInt8)(l:List Tn)(j:Nat):Int:=if l.length<=j then (s.length:Int) else (bS l j).pl
def cH{α:Type}(z:α)(s:List UInt8)(l:List Tn)(ok:Bool):α×Nat×Bool->α×Int×Int
 | (_,j,true)=>(z,plT s l j,if l.length<=j then 3 else 2)
 | (a,j,false)=>if j<l.length then (z,plT s l j,2) else if ok then (a,0,0) else (z,plT s l 0,4)
abbrev pT3(l:List Tn)(i:Nat)(e:Int):Ob:=.var 112 [.of (slC tnC l),.of (ci i),.of (ci e),.own (.cell 3 3) 28 9 [] 0,.own (.cell 3 4) 38 12 [] 0,.own (.cell 3 5) 140 6 [] 0]
def fr5(f g:Nat):Nat->X:=λj=>match j with
 | 1=>.of (.fn f [])
 | 2=>.of (.fn g [])
 | 6=>.ptr 0 0
 | 7=>.ptr 1 0
 | 8=>.ptr 2 0
 | 12=>.ptr 3 0
 | _=>.of .any
def cw:Tryz.prog.follows .mixedOrders=true:=by decide
def a7H(f g:Nat):fr5 f g 1=.of (.fn f []):=rfl
def a7G(f g:Nat):fr5 f g 2=.of (.fn g []):=rfl
def a7F(f g:Nat):fr5 f g 6=.ptr 0 0:=rfl
def a7E(f g:Nat):fr5 f g 7=.ptr 1 0:=rfl
def a7D(f g:Nat):fr5 f g 8=.ptr 2 0:=rfl
def aZ9(f g:Nat):fr5 f g 12=.ptr 3 0:=rfl
def bd9(x:X)(o:List Ob)(c:Nat):(ac1 x o c).fr 0=.ptr 0 0:=rfl
def bd8(x:X)(o:List Ob)(c:Nat):(ac1 x o c).fr 1=.ptr 1 0:=rfl
def bd7(x:X)(o:List Ob)(c:Nat):(ac1 x o c).fr 2=.ptr 2 0:=rfl
def bd6(x:X)(o:List Ob)(c:Nat):(ac1 x o c).fr 3=x:=rfl
def bd4(x:X)(o:List Ob)(c:Nat):(ac1 x o c).objs=o:=rfl
def bd5(x:X)(o:List Ob)(c:Nat):(ac1 x o c).clk=c:=rfl
def ba1(o:List Ob)(c:Nat):(agT o c).fr 6=.ptr 0 0:=rfl
def ba0(o:List Ob)(c:Nat):(agT o c).fr 7=.ptr 1 0:=rfl
def baZ(o:List Ob)(c:Nat):(agT o c).fr 8=.ptr 2 0:=rfl
def baY(o:List Ob)(c:Nat):(agT o c).objs=o:=rfl
def zWH:=ai (fZ @a7H @a7G @a7F @a7E @a7D @aZ9 @bd9 @bd8) (fZ @bd7 @bd6 @bd4 @bd5 @ba1 @ba0 @baZ @baY)
theorem bk.skip{G:Go.Pe.GP}(hpr:PrSound Tryz.prog G pr){N:Nat}{s:S}{Φ:Ex->S->Prop}(h:Φ .normal s):bk Tryz.prog G N .skip s Φ :=
 bk.of cw hpr rfl ((Z10 ..).2 h)
theorem bk.ret{G:Go.Pe.GP}(hpr:PrSound Tryz.prog G pr){N:Nat}{s:S}{Φ:Ex->S->Prop}(h:Φ .ret s):bk Tryz.prog G N .ret s Φ :=
 bk.of cw hpr rfl ((Zy ..).2 h)
def aFK(a b:C):anG 0 (.of (.tup [a,b]))=out (.of a):=rfl
def aFJ(a b:C):anG 1 (.of (.tup [a,b]))=out (.of b):=rfl
theorem bk.anyN{P:Program}{G:Go.Pe.GP}{pr:Pr}{N:Nat}{s:S}{Φ:Ex->S->Prop}(hm:P.follows .mixedOrders=true)(hpr:PrSound P G pr){id:Nat}{ops:Array Oper}(hdst:ops.all (acj N)=true){E:List (List Nat)}(hE:ops.toList.map amF=E)(hlt:((List.range E.length).all λi=>(E.getD i []).all λd=>decide (d<i))=true)
  (n:Nat) (hn:ops.size=n) (h:WF P pr ops.toList E (λs'=>Φ .normal {s' with clk:=s'.clk+1}) n (List.replicate n false) s):bk P G N (.region id ops true) s Φ:=by
 subst hn;exact bk.any hm hpr hdst hE hlt h
def bxO(d:TD)(xs:List X):aGw (some d) (some xs)=if xs.length=d.size then some xs else none:=rfl
def eB:List (List Nat):=[[],[],[1],[2],[3],[4],[5],[6],[0,0],[7,8,0,1,2,3,4,5,6,7,8],[9,0,1,2,3,4,5,6,7,8,9]]
def bdJ:dZ eB [false,false,false,false,false,false,false,false,false,false,false]=[0,1]:=by decide
def bdI:dZ eB [false,true,false,false,false,false,false,false,false,false,false]=[0,2]:=by decide
def bdH:dZ eB [false,true,true,false,false,false,false,false,false,false,false]=[0,3]:=by decide
def bdG:dZ eB [false,true,true,true,false,false,false,false,false,false,false]=[0,4]:=by decide
def bdF:dZ eB [false,true,true,true,true,false,false,false,false,false,false]=[0,5]:=by decide
def bdE:dZ eB [false,true,true,true,true,true,false,false,false,false,false]=[0,6]:=by decide
def bdD:dZ eB [false,true,true,true,true,true,true,false,false,false,false]=[0,7]:=by decide
def bdC:dZ eB [false,true,true,true,true,true,true,true,false,false,false]=[0]:=by decide
def bdB:dZ eB [true,false,false,false,false,false,false,false,false,false,false]=[1,8]:=by decide
def bdA:dZ eB [true,false,false,false,false,false,false,false,true,false,false]=[1]:=by decide
def a8J:dZ eB [true,true,false,false,false,false,false,false,false,false,false]=[2,8]:=by decide
def a8I:dZ eB [true,true,false,false,false,false,false,false,true,false,false]=[2]:=by decide
def a8H:dZ eB [true,true,true,false,false,false,false,false,false,false,false]=[3,8]:=by decide
def a8G:dZ eB [true,true,true,false,false,false,false,false,true,false,false]=[3]:=by decide
def a8F:dZ eB [true,true,true,true,false,false,false,false,false,false,false]=[4,8]:=by decide
def a8E:dZ eB [true,true,true,true,false,false,false,false,true,false,false]=[4]:=by decide
def a8D:dZ eB [true,true,true,true,true,false,false,false,false,false,false]=[5,8]:=by decide
def a8C:dZ eB [true,true,true,true,true,false,false,false,true,false,false]=[5]:=by decide
def a8B:dZ eB [true,true,true,true,true,true,false,false,false,false,false]=[6,8]:=by decide
def a8A:dZ eB [true,true,true,true,true,true,false,false,true,false,false]=[6]:=by decide
def a8z:dZ eB [true,true,true,true,true,true,true,false,false,false,false]=[7,8]:=by decide
def a8y:dZ eB [true,true,true,true,true,true,true,false,true,false,false]=[7]:=by decide
def a8x:dZ eB [true,true,true,true,true,true,true,true,false,false,false]=[8]:=by decide
def a8w:dZ eB [true,true,true,true,true,true,true,true,true,false,false]=[9]:=by decide
def a8v:dZ eB [true,true,true,true,true,true,true,true,true,true,false]=[10]:=by decide
def aDL:=fU (gh @bdJ @bdI @bdH @bdG @bdF @bdE @bdD @bdC @bdB) (gh @bdA @a8J @a8I @a8H @a8G @a8F @a8E @a8D @a8C) (fY @a8B @a8A @a8z @a8y @a8x @a8w @a8v)
def eD:List (List Nat):=[[],[],[1],[],[3],[0,0],[2,5,0,1,2,5],[4,6,0,1,2,3,4,5,6]]
def bdz:dZ eD [false,false,false,false,false,false,false,false]=[0,1,3]:=by decide
def bdy:dZ eD [false,false,false,true,false,false,false,false]=[0,1,4]:=by decide
def bdx:dZ eD [false,false,false,true,true,false,false,false]=[0,1]:=by decide
def bdw:dZ eD [false,true,false,false,false,false,false,false]=[0,2,3]:=by decide
def bdv:dZ eD [false,true,false,true,false,false,false,false]=[0,2,4]:=by decide
def bdu:dZ eD [false,true,false,true,true,false,false,false]=[0,2]:=by decide
def bdt:dZ eD [false,true,true,false,false,false,false,false]=[0,3]:=by decide
def bds:dZ eD [false,true,true,true,false,false,false,false]=[0,4]:=by decide
def bdr:dZ eD [false,true,true,true,true,false,false,false]=[0]:=by decide
def bdq:dZ eD [true,false,false,false,false,false,false,false]=[1,3,5]:=by decide
def a8u:dZ eD [true,false,false,false,false,true,false,false]=[1,3]:=by decide
def a8t:dZ eD [true,false,false,true,false,false,false,false]=[1,4,5]:=by decide
def a8s:dZ eD [true,false,false,true,false,true,false,false]=[1,4]:=by decide
def a8r:dZ eD [true,false,false,true,true,false,false,false]=[1,5]:=by decide
def a8q:dZ eD [true,false,false,true,true,true,false,false]=[1]:=by decide
def a8p:dZ eD [true,true,false,false,false,false,false,false]=[2,3,5]:=by decide
def a8o:dZ eD [true,true,false,false,false,true,false,false]=[2,3]:=by decide
def a8n:dZ eD [true,true,false,true,false,false,false,false]=[2,4,5]:=by decide
def a8m:dZ eD [true,true,false,true,false,true,false,false]=[2,4]:=by decide
def a8l:dZ eD [true,true,false,true,true,false,false,false]=[2,5]:=by decide
def a8k:dZ eD [true,true,false,true,true,true,false,false]=[2]:=by decide
def a8j:dZ eD [true,true,true,false,false,false,false,false]=[3,5]:=by decide
def a8i:dZ eD [true,true,true,false,false,true,false,false]=[3,6]:=by decide
def a8h:dZ eD [true,true,true,false,false,true,true,false]=[3]:=by decide
def a8g:dZ eD [true,true,true,true,false,false,false,false]=[4,5]:=by decide
def a8f:dZ eD [true,true,true,true,false,true,false,false]=[4,6]:=by decide
def a8e:dZ eD [true,true,true,true,false,true,true,false]=[4]:=by decide
def a8d:dZ eD [true,true,true,true,true,false,false,false]=[5]:=by decide
def a8c:dZ eD [true,true,true,true,true,true,false,false]=[6]:=by decide
def a8b:dZ eD [true,true,true,true,true,true,true,false]=[7]:=by decide
def aDK:=fV (fZ @bdz @bdy @bdx @bdw @bdv @bdu @bdt @bds) (fZ @bdr @bdq @a8u @a8t @a8s @a8r @a8q @a8p) (fZ @a8o @a8n @a8m @a8l @a8k @a8j @a8i @a8h) (fX @a8g @a8f @a8e @a8d @a8c @a8b)
set_option maxRecDepth 1000000
def oC(f:Func)(c:Code)(h:aaP pr.mt f.ntmps c=true:=by decide +kernel):aaP pr.mt f.ntmps c=true:=h
def aPX:=oC Tryz.f30 (w0S Tryz.f30)
def aPW:=oC Tryz.f30 (w1S Tryz.f30)
def aPV:=oC Tryz.f30 (w2S Tryz.f30)
def aPU:=oC Tryz.f30 (w4S Tryz.f30)
def aPT:=oC Tryz.f30 (fx (wBS Tryz.f30))
def a5B:=oC Tryz.f30 (fx (dY (wBS Tryz.f30)))
def a5A:=oC Tryz.f30 (fx (fx (dY (dY (wBS Tryz.f30)))))
def aYs:=oC Tryz.f30 (dY (dY (dY (wBS Tryz.f30))))
def aYr:=oC Tryz.f64 (fx (wDS Tryz.f64))
def aYq:=oC Tryz.f64 (fx (fx (dY (wDS Tryz.f64))))
def aYp:=oC Tryz.f64 (fx (dY (dY (wDS Tryz.f64))))
def aZG(cap:Array Value)(w:World):(invoke (.fn (.func 64) cap) #[]).run Tryz.prog w=.ok (.enter 64 cap) w:=by
 show (callFunc 64 (#[]++cap)).run Tryz.prog w=_
 rw[aa5]
 exact enters_of Tryz.func64 aS rfl _ _
def aQq(p6 p7 p8:Value)(w:World):CallsD Tryz.prog 64 #[p6,p7,p8] .returning w λe u' w'=>e=.returned (.tuple #[])/\u'=.returning/\w'=w:=by
 refine callsD_of_wpS Tryz.func64 rfl λc₀ cs hu=>?_
 apply wpS_seq
 apply wpS_region
 simp[wpOpsS,go_sem,recoverD,hu,Tryz.ntmps64,Exit.thenS]
 apply wpS_seq
 apply wpS_seq
 apply wpS_region
 simp[wpOpsS,go_sem,recoverD,hu,Exit.thenS]
 refine wpS_cond (t:=true) (by simp[Act.eval,Array.replicate]) ?_
 simp only[au]
 refine wpS_of_wp (wp_ret ?_)
 cases c₀
 simp_all [bodyPostS,results,Tryz.results64,Exit.thenS]
def a2s (t:TypeId) (u p6 p7 p8:Value) (w:World) (R:Ending->FrameMode->World->Prop) (h:∀ (c₀:Frame) (cs:List Frame) (T:Array Value),T.size=Tryz.f64.ntmps->T.getD 0 undef=p6->T.getD 1 undef=p7->T.getD 2 undef=p8->T.getD 3 undef=.iface t u ->
  (wDS Tryz.f64).wp Tryz.prog (λe a w'=>bodyPostS Tryz.prog Tryz.f64 c₀ cs R e a ({c₀ with mode:=.panicking [{v:=.iface t u,recovered:=true}]}::cs) w') ⟨T,[]⟩ w):CallsD Tryz.prog 64 #[p6,p7,p8] (.panicking [{v:=.iface t u,recovered:=false}]) w R:=by
 refine callsD_of_wpS Tryz.func64 rfl λc₀ cs hu=>?_
 apply wpS_seq
 apply wpS_region
 simp[wpOpsS,go_sem,recoverD,hu,Tryz.ntmps64,Exit.thenS]
 apply wpS_seq
 apply wpS_seq
 apply wpS_region
 simp[wpOpsS,go_sem,recoverD,Exit.thenS]
 refine wpS_cond (t:=false) (by simp[Act.eval,Array.replicate]) ?_
 simp only[ah,av]
 refine wpS_of_wp (wp_skip ?_)
 simp only[Exit.thenS]
 refine wpS_of_wp (h _ _ _ ?_ ?_ ?_ ?_ ?_)
 all_goals simp[Tryz.ntmps64,Array.getD,Array.replicate]
 all_goals rfl
def a1N(tmps:Array Value)(w:World)(X:Act->World->Prop)(Q:Exit->Act->World->Prop)(hz:tmps.size=Tryz.f30.ntmps)(h:∀ cap,cap=#[tmps.getD 6 undef,tmps.getD 7 undef,tmps.getD 8 undef]->X ⟨tmps.setIfInBounds 30 (.func (.func 64) #[] cap),[⟨.fn (.func 64) cap,#[]⟩]⟩ w) :
  (w5S Tryz.f30).wp Tryz.prog (Exit.then X Q) ⟨tmps,[]⟩ w:=by
 have hmf:∀ (fn:Fn) (first cap:Array Value) (w:World),(Instr.makeFunc fn first cap).run Tryz.prog w=.ok (.func fn first cap) w:=λ_ _ _ _=>rfl
 have h':=h _ rfl
 have h30:30<tmps.size:=by rw[hz];decide
 have hg:∀ i:Nat,tmps.getD i undef=tmps[i]?.getD undef:=λi=>by simp
 simp only[hg] at h'
 apply wp_region
 simp[wpOps,go_sem,Exit.then,h30]
 exact .inl (.inl h')
def ahq:=fV (fY @Tryz.f30.eq_1 @zq @awG @awF @T3 @awE @T29) (fY @azv @awD @aEL @aEN @ak1 @bG @ab7) (fY @acI @abb @aba @aa9 @aa8 @aa7 @aa6) (fY @acn @P3 @Q3 @P29 @Q29 @zT0 @aZA)
def aDv:=ai (fX @zq @awC @aEM @bG @aoW @amD) (fX @amC @P3 @Q3 @P29 @Q29 @zT0)
abbrev aWQ:List X:=[.of (ci 0),.of (ci 0),.of (ci 0),.of (aJ {data:=#[]}),.of (aJ {data:=#[]}),.of (aJ {data:=#[]}),.of (cb false),.nil,.nil]
def s5X(l:List Tn)(e:Int)(clk:Nat):S:=⟨fr5 31 22,[.var 28 aWQ,.var 3 [.of (ci 0)],.var 29 [.of (ci 0)],pT3 l 0 e],clk⟩
def aDV{G:Go.Pe.GP}(hpr:PrSound Tryz.prog G pr)(l:List Tn)(j:Nat)(e q n:Int)(clk:Nat) :
  bk Tryz.prog G Tryz.f64.ntmps (wDS Tryz.f64) (ac1 (.of (.ifc 114 (.agg [ci q,ci n]))) [.var 28 aWQ,.var 3 [.of (ci 0)],.var 29 [.of (ci 0)],pT3 l j e] clk) λe s7 =>
   e=.normal/\aaX Tryz.prog (pr.keep 30) Tryz.f30 (agT s7.objs s7.clk)=some ⟨false,[xpE x0,aQ q,aQ n],[]⟩:=by
 generalize hΦ:(λ(e:Ex) (s6:S)=>_)=Φ
 refine bk.seq (bk.of cw hpr aYr ?_)
 simp only[Tryz.f64,↓zA,sevalprocAttr,aDv,zWH,alK,ahl,aFK,aFJ,pT3]
 refine bk.seq (bk.seq (bk.of cw hpr aYq ?_))
 simp only[↓zA,sevalprocAttr,aDv]
 refine bk.cond (t:=false) rfl ?_
 simp only[ah,av]
 refine bk.skip hpr ?_
 refine bk.seq (bk.of cw hpr aYp ?_)
 simp only[↓zA,sevalprocAttr,aDv,zWH]
 refine bk.anyN cw hpr (E:=eD) (by decide +kernel) (by decide +kernel) aI 8 (by rfl) ?_
 subst hΦ
 simp only[↓zA,sevalprocAttr,aDv,zWH,↓ahS,↓afn,↓agu,↓agv,↓ahT,↓ahU,aDK,List.replicate,aaX,Tryz.f30,ahq]
 repeat' (first|exact rfl|refine ai ?_ ?_)
def aw6{G:Go.Pe.GP}(hpr:PrSound Tryz.prog G pr)(s:List UInt8)(hs:s.length<LB)(l:List Tn)(p:Int)(ht:fL s=some (l,p,0))(hl:l.length<LB){F:Fs}(H:PY l s.length F)(r:Xp×Nat×Bool)(hr:F.or 0 []=some r)(ok:Bool)
  (kR:∀ K,cKp 22 [xpE r.1] [] K↔K ⟨false,[aL ok],[]⟩) (h0:r.2.2=false->ok=false->0<l.length) :
  aa2 Tryz.prog G 30 [.of (aJ (aK s)),.of (.fn 31 []),.of (.fn 22 [])] [] ⟨false,[xpE (cH x0 s l ok r).1,aQ (cH x0 s l ok r).2.1,aQ (cH x0 s l ok r).2.2],[]⟩:=by
 have kt:=λK=>aH.k (abV s hs _ ht) K
 have g:=H.or 0 r (aO _) hr
 obtain⟨a,j,b⟩:=r
 obtain⟨u,v⟩:=g.1
 dsimp only at u v kR h0
 have main:∀ clk,adW Tryz.prog G pr 30 Tryz.f30 Tryz.f30.ntmps Tryz.f64.ntmps (wBS Tryz.f30) (wDS Tryz.f64) ⟨false,[xpE (cH x0 s l ok (a,j,b)).1,aQ (cH x0 s l ok (a,j,b)).2.1,aQ (cH x0 s l ok (a,j,b)).2.2],[]⟩ (s5X l s.length clk):=by
  intro clk
  unfold adW
  generalize hΦ:(λ(e:Ex) (s6:S)=>_)=Φ
  refine bk.seq ?_
  cases b with
  | true =>
   have kg:=g.bad
   unfold pT at kg
   simp only[show ((0:Nat):Int)=0 from rfl] at kg
   refine bk.of cw hpr aPT ?_
   simp only[↓zA,sevalprocAttr,ahq,s5X,zWH,kg,aQi,aJ8,aXr,zP]
   subst hΦ
   refine Or.inr ?_
   by_cases hj:l.length<=j
   .have hf:aaJ l j s.length=.of (.ifc 114 (.agg [ci s.length,ci 3])):=am hj
    refine⟨_,_,congrArg Ex.pan hf,rfl,rfl,rfl,?_⟩
    simp only[cH,plT,am hj]
    exact aDV hpr l j s.length s.length 3 _
   .have hf:aaJ l j s.length=.of (.ifc 114 (.agg [ci (bS l j).pl,ci 2])):=aj hj
    refine⟨_,_,congrArg Ex.pan hf,rfl,rfl,rfl,?_⟩
    simp only[cH,plT,aj hj]
    exact aDV hpr l j s.length (bS l j).pl 2 _
  | false =>
   have kg:=g.ok
   unfold pT at kg
   simp only[show ((0:Nat):Int)=0 from rfl] at kg
   refine bk.of cw hpr aPT ?_
   simp only[↓zA,sevalprocAttr,ahq,s5X,zWH,kg,aQi,aJ8,aXr]
   refine bk.seq (bk.of cw hpr a5B ?_)
   by_cases hlt:j<l.length
   .have dl:((j:Int)<(l.length:Int))=True:=aa aC
    have kv:=λK=>aH.k (aeT l j s.length hl v) K
    unfold pT at kv
    simp only[↓zA,sevalprocAttr,ahq,zWH,dl,kv,zP]
    subst hΦ
    refine Or.inr ?_
    have hj:¬l.length<=j:=by omega
    have hf:aaJ l j s.length=.of (.ifc 114 (.agg [ci (bS l j).pl,ci 2])):=aj hj
    refine⟨_,_,congrArg Ex.pan hf,rfl,rfl,rfl,?_⟩
    simp only[cH,plT,am hlt,aj hj]
    exact aDV hpr l j s.length (bS l j).pl 2 _
   .have dl:((j:Int)<(l.length:Int))=False:=aA aC
    simp only[↓zA,sevalprocAttr,ahq,zWH,dl]
    refine bk.seq (bk.seq (bk.of cw hpr a5A ?_))
    cases ok with
    | true =>
     simp only[↓zA,sevalprocAttr,ahq,zWH,aQl,aKb,kR]
     refine bk.cond (t:=false) rfl ?_
     simp only[ah,av]
     refine bk.skip hpr ?_
     refine bk.of cw hpr aYs ?_
     simp only[↓zA,sevalprocAttr,ahq,zWH]
     subst hΦ
     refine Or.inl ⟨rfl,?_⟩
     simp only[↓zA,sevalprocAttr,ahq,zWH,aaX,cH,aj hlt]
    | false =>
     simp only[↓zA,sevalprocAttr,ahq,zWH,aQl,aKb,kR]
     refine bk.cond (t:=true) rfl ?_
     simp only[au]
     refine bk.seq (bk.anyN cw hpr (E:=eB) (by decide +kernel) (by decide +kernel) aI 11 (by rfl) ?_)
     have gx:=afE (h0 rfl rfl)
     rw[show ((0:Nat):Int)=0 from rfl] at gx
     have key:∀ s6:S,s6.fr 6=.ptr 0 0->s6.fr 7=.ptr 1 0->s6.fr 8=.ptr 2 0->s6.objs=[.var 28 [.of (ci 0),.of (ci 0),.of (ci 0),.of (aJ {data:=#[]}),.of (aJ {data:=#[]}),.of (aJ {data:=#[]}),.of (cb false),.nil,.nil],.var 3 [.of (ci (bS l 0).pl)],.var 29 [.of (ci 4)],pT3 l j s.length]->Φ .ret s6:=by
      intro s6 h6 h7 h8 ho
      subst hΦ
      refine Or.inl ⟨rfl,?_⟩
      have hj:¬l.length<=0:=by have:=h0 rfl rfl;omega
      simp only[↓zA,sevalprocAttr,ahq,aaX,cH,plT,aj hlt,aj hj,h6,h7,h8,ho,pT3]
      rfl
     simp only[↓zA,sevalprocAttr,ahq,zWH,gx,↓ahS,↓afn,↓agu,↓agv,↓ahT,↓ahU,aDL,List.replicate]
     repeat' (first|exact bk.ret hpr (key _ rfl rfl rfl rfl)|refine ai ?_ ?_)
 refine ab3 cw hpr (fn:=Tryz.f30) (fg:=Tryz.f64) Tryz.func30 rfl rfl rfl aPX aPW aPV aPU a1N aZG aQq a2s (by show 3<=_;decide) ?_
 generalize hB:adW _ _ _ _ _ _ _ _ _ _=BD
 generalize hF:al5 _ _ _ _ _=A2
 simp only[↓zA,sevalprocAttr,ahq,kt]
 subst hF
 refine .inr ⟨rfl,?_⟩
 simp only[↓zA,sevalprocAttr,ahq,bxO]
 refine⟨rfl,rfl,rfl,rfl,_,rfl,rfl,rfl,rfl,anT.of (fr5 31 22) rfl (λj=>by
  unfold fr5;split <;> first|exact .inr ⟨rfl,λ_=>rfl⟩|exact .inl rfl) (λ_=>rfl) (r:=3) (ty:=112) (A:=[.of (slC tnC l),.of (ci 0),.of (ci s.length)]) rfl 28 9 38 12 140 6 (by rintro o (rfl|rfl|rfl) <;> rfl),?_⟩
 subst hB
 exact main _
def aE1{G:Go.Pe.GP}(hpr:PrSound Tryz.prog G pr)(s:List UInt8)(hs:s.length<LB)(l:List Tn)(p e:Int)(ht:fL s=some (l,p,e))(he:e≠0) :
  aa2 Tryz.prog G 30 [.of (aJ (aK s)),.of (.fn 31 []),.of (.fn 22 [])] [] ⟨false,[xpE x0,aQ p,aQ e],[]⟩:=by
 have kt:=λK=>aH.k (abV s hs _ ht) K
 have he':(e=0)=False:=aA he
 refine ab3 cw hpr (fn:=Tryz.f30) (fg:=Tryz.f64) Tryz.func30 rfl rfl rfl aPX aPW aPV aPU a1N aZG aQq a2s (by show 3<=_;decide) ?_
 generalize hB:adW _ _ _ _ _ _ _ _ _ _=BD
 generalize hF:al5 _ _ _ _ _=A2
 simp only[↓zA,sevalprocAttr,ahq,kt,he']
 subst hF
 refine .inl ⟨rfl,?_⟩
 simp only[↓zA,sevalprocAttr,ahq,aaX]
 rfl
set_option maxRecDepth 1000000
def aQc:=oC Tryz.f38 (w0S Tryz.f38)
def aQb:=oC Tryz.f38 (w1S Tryz.f38)
def aQa:=oC Tryz.f38 (w2S Tryz.f38)
def aP9:=oC Tryz.f38 (w4S Tryz.f38)
def aP8:=oC Tryz.f38 (fx (wBS Tryz.f38))
def a5H:=oC Tryz.f38 (fx (dY (wBS Tryz.f38)))
def a5G:=oC Tryz.f38 (fx (fx (dY (dY (wBS Tryz.f38)))))
def aYE:=oC Tryz.f38 (dY (dY (dY (wBS Tryz.f38))))
def aYD:=oC Tryz.f73 (fx (wDS Tryz.f73))
def aYC:=oC Tryz.f73 (fx (fx (dY (wDS Tryz.f73))))
def aYB:=oC Tryz.f73 (fx (dY (dY (wDS Tryz.f73))))
def aZJ(cap:Array Value)(w:World):(invoke (.fn (.func 73) cap) #[]).run Tryz.prog w=.ok (.enter 73 cap) w:=by
 show (callFunc 73 (#[]++cap)).run Tryz.prog w=_
 rw[aa5]
 exact enters_of Tryz.func73 aS rfl _ _
def aQt(p6 p7 p8:Value)(w:World):CallsD Tryz.prog 73 #[p6,p7,p8] .returning w λe u' w'=>e=.returned (.tuple #[])/\u'=.returning/\w'=w:=by
 refine callsD_of_wpS Tryz.func73 rfl λc₀ cs hu=>?_
 apply wpS_seq
 apply wpS_region
 simp[wpOpsS,go_sem,recoverD,hu,Tryz.ntmps73,Exit.thenS]
 apply wpS_seq
 apply wpS_seq
 apply wpS_region
 simp[wpOpsS,go_sem,recoverD,hu,Exit.thenS]
 refine wpS_cond (t:=true) (by simp[Act.eval,Array.replicate]) ?_
 simp only[au]
 refine wpS_of_wp (wp_ret ?_)
 cases c₀
 simp_all [bodyPostS,results,Tryz.results73,Exit.thenS]
def a2u (t:TypeId) (u p6 p7 p8:Value) (w:World) (R:Ending->FrameMode->World->Prop) (h:∀ (c₀:Frame) (cs:List Frame) (T:Array Value),T.size=Tryz.f73.ntmps->T.getD 0 undef=p6->T.getD 1 undef=p7->T.getD 2 undef=p8->T.getD 3 undef=.iface t u ->
  (wDS Tryz.f73).wp Tryz.prog (λe a w'=>bodyPostS Tryz.prog Tryz.f73 c₀ cs R e a ({c₀ with mode:=.panicking [{v:=.iface t u,recovered:=true}]}::cs) w') ⟨T,[]⟩ w):CallsD Tryz.prog 73 #[p6,p7,p8] (.panicking [{v:=.iface t u,recovered:=false}]) w R:=by
 refine callsD_of_wpS Tryz.func73 rfl λc₀ cs hu=>?_
 apply wpS_seq
 apply wpS_region
 simp[wpOpsS,go_sem,recoverD,hu,Tryz.ntmps73,Exit.thenS]
 apply wpS_seq
 apply wpS_seq
 apply wpS_region
 simp[wpOpsS,go_sem,recoverD,Exit.thenS]
 refine wpS_cond (t:=false) (by simp[Act.eval,Array.replicate]) ?_
 simp only[ah,av]
 refine wpS_of_wp (wp_skip ?_)
 simp only[Exit.thenS]
 refine wpS_of_wp (h _ _ _ ?_ ?_ ?_ ?_ ?_)
 all_goals simp[Tryz.ntmps73,Array.getD,Array.replicate]
 all_goals rfl
def a1Q(tmps:Array Value)(w:World)(X:Act->World->Prop)(Q:Exit->Act->World->Prop)(hz:tmps.size=Tryz.f38.ntmps)(h:∀ cap,cap=#[tmps.getD 6 undef,tmps.getD 7 undef,tmps.getD 8 undef]->X ⟨tmps.setIfInBounds 30 (.func (.func 73) #[] cap),[⟨.fn (.func 73) cap,#[]⟩]⟩ w) :
  (w5S Tryz.f38).wp Tryz.prog (Exit.then X Q) ⟨tmps,[]⟩ w:=by
 have hmf:∀ (fn:Fn) (first cap:Array Value) (w:World),(Instr.makeFunc fn first cap).run Tryz.prog w=.ok (.func fn first cap) w:=λ_ _ _ _=>rfl
 have h':=h _ rfl
 have h30:30<tmps.size:=by rw[hz];decide
 have hg:∀ i:Nat,tmps.getD i undef=tmps[i]?.getD undef:=λi=>by simp
 simp only[hg] at h'
 apply wp_region
 simp[wpOps,go_sem,Exit.then,h30]
 exact .inl (.inl h')
def ahp:=fV (fY @Tryz.f38.eq_1 @zq @awG @awF @T3 @awE @T29) (fY @azv @awD @aEL @aEN @ak1 @ep @ab7) (fY @acI @abb @aba @aa9 @aa8 @aa7 @aa6) (fY @acn @P3 @Q3 @P29 @Q29 @zT0 @aZz)
def aDu:=ai (fX @zq @awC @aEM @ep @aoW @amD) (fX @amC @P3 @Q3 @P29 @Q29 @zT0)
abbrev aWT:List X:=[.of (ci 0),.of (cb false),.nil,.of (cb false),.nil,.nil,.nil,.nil,.nil,.nil,.of (ci 0),.of (ci 0)]
def s5Q(l:List Tn)(e:Int)(clk:Nat):S:=⟨fr5 39 23,[.var 38 aWT,.var 3 [.of (ci 0)],.var 29 [.of (ci 0)],pT3 l 0 e],clk⟩
def aDY{G:Go.Pe.GP}(hpr:PrSound Tryz.prog G pr)(l:List Tn)(j:Nat)(e q n:Int)(clk:Nat) :
  bk Tryz.prog G Tryz.f73.ntmps (wDS Tryz.f73) (ac1 (.of (.ifc 114 (.agg [ci q,ci n]))) [.var 38 aWT,.var 3 [.of (ci 0)],.var 29 [.of (ci 0)],pT3 l j e] clk) λe s7 =>
   e=.normal/\aaX Tryz.prog (pr.keep 38) Tryz.f38 (agT s7.objs s7.clk)=some ⟨false,[qyE y0,aQ q,aQ n],[]⟩:=by
 generalize hΦ:(λ(e:Ex) (s6:S)=>_)=Φ
 refine bk.seq (bk.of cw hpr aYD ?_)
 simp only[Tryz.f73,↓zA,sevalprocAttr,aDu,zWH,alK,ahl,aFK,aFJ,pT3]
 refine bk.seq (bk.seq (bk.of cw hpr aYC ?_))
 simp only[↓zA,sevalprocAttr,aDu]
 refine bk.cond (t:=false) rfl ?_
 simp only[ah,av]
 refine bk.skip hpr ?_
 refine bk.seq (bk.of cw hpr aYB ?_)
 simp only[↓zA,sevalprocAttr,aDu,zWH]
 refine bk.anyN cw hpr (E:=eD) (by decide +kernel) (by decide +kernel) aI 8 (by rfl) ?_
 subst hΦ
 simp only[↓zA,sevalprocAttr,aDu,zWH,↓ahS,↓afn,↓agu,↓agv,↓ahT,↓ahU,aDK,List.replicate,aaX,Tryz.f38,ahp]
 repeat' (first|exact rfl|refine ai ?_ ?_)
def aw9{G:Go.Pe.GP}(hpr:PrSound Tryz.prog G pr)(s:List UInt8)(hs:s.length<LB)(l:List Tn)(p:Int)(ht:fL s=some (l,p,0))(hl:l.length<LB){F:Fs}(H:PY l s.length F)(r:Qy×Nat×Bool)(hr:F.qy 0 []=some r)(ok:Bool)
  (kR:∀ K,cKp 23 [qyE r.1] [] K↔K ⟨false,[aL ok],[]⟩) (h0:r.2.2=false->ok=false->0<l.length) :
  aa2 Tryz.prog G 38 [.of (aJ (aK s)),.of (.fn 39 []),.of (.fn 23 [])] [] ⟨false,[qyE (cH y0 s l ok r).1,aQ (cH y0 s l ok r).2.1,aQ (cH y0 s l ok r).2.2],[]⟩:=by
 have kt:=λK=>aH.k (abV s hs _ ht) K
 have g:=H.qy 0 r (aO _) hr
 obtain⟨a,j,b⟩:=r
 obtain⟨u,v⟩:=g.1
 dsimp only at u v kR h0
 have main:∀ clk,adW Tryz.prog G pr 38 Tryz.f38 Tryz.f38.ntmps Tryz.f73.ntmps (wBS Tryz.f38) (wDS Tryz.f73) ⟨false,[qyE (cH y0 s l ok (a,j,b)).1,aQ (cH y0 s l ok (a,j,b)).2.1,aQ (cH y0 s l ok (a,j,b)).2.2],[]⟩ (s5Q l s.length clk):=by
  intro clk
  unfold adW
  generalize hΦ:(λ(e:Ex) (s6:S)=>_)=Φ
  refine bk.seq ?_
  cases b with
  | true =>
   have kg:=g.bad
   unfold pT at kg
   simp only[show ((0:Nat):Int)=0 from rfl] at kg
   refine bk.of cw hpr aP8 ?_
   simp only[↓zA,sevalprocAttr,ahp,s5Q,zWH,kg,aQh,aJ7,aXq,zP]
   subst hΦ
   refine Or.inr ?_
   by_cases hj:l.length<=j
   .have hf:aaJ l j s.length=.of (.ifc 114 (.agg [ci s.length,ci 3])):=am hj
    refine⟨_,_,congrArg Ex.pan hf,rfl,rfl,rfl,?_⟩
    simp only[cH,plT,am hj]
    exact aDY hpr l j s.length s.length 3 _
   .have hf:aaJ l j s.length=.of (.ifc 114 (.agg [ci (bS l j).pl,ci 2])):=aj hj
    refine⟨_,_,congrArg Ex.pan hf,rfl,rfl,rfl,?_⟩
    simp only[cH,plT,aj hj]
    exact aDY hpr l j s.length (bS l j).pl 2 _
  | false =>
   have kg:=g.ok
   unfold pT at kg
   simp only[show ((0:Nat):Int)=0 from rfl] at kg
   refine bk.of cw hpr aP8 ?_
   simp only[↓zA,sevalprocAttr,ahp,s5Q,zWH,kg,aQh,aJ7,aXq]
   refine bk.seq (bk.of cw hpr a5H ?_)
   by_cases hlt:j<l.length
   .have dl:((j:Int)<(l.length:Int))=True:=aa aC
    have kv:=λK=>aH.k (aeT l j s.length hl v) K
    unfold pT at kv
    simp only[↓zA,sevalprocAttr,ahp,zWH,dl,kv,zP]
    subst hΦ
    refine Or.inr ?_
    have hj:¬l.length<=j:=by omega
    have hf:aaJ l j s.length=.of (.ifc 114 (.agg [ci (bS l j).pl,ci 2])):=aj hj
    refine⟨_,_,congrArg Ex.pan hf,rfl,rfl,rfl,?_⟩
    simp only[cH,plT,am hlt,aj hj]
    exact aDY hpr l j s.length (bS l j).pl 2 _
   .have dl:((j:Int)<(l.length:Int))=False:=aA aC
    simp only[↓zA,sevalprocAttr,ahp,zWH,dl]
    refine bk.seq (bk.seq (bk.of cw hpr a5G ?_))
    cases ok with
    | true =>
     simp only[↓zA,sevalprocAttr,ahp,zWH,aQk,aKa,kR]
     refine bk.cond (t:=false) rfl ?_
     simp only[ah,av]
     refine bk.skip hpr ?_
     refine bk.of cw hpr aYE ?_
     simp only[↓zA,sevalprocAttr,ahp,zWH]
     subst hΦ
     refine Or.inl ⟨rfl,?_⟩
     simp only[↓zA,sevalprocAttr,ahp,zWH,aaX,cH,aj hlt]
    | false =>
     simp only[↓zA,sevalprocAttr,ahp,zWH,aQk,aKa,kR]
     refine bk.cond (t:=true) rfl ?_
     simp only[au]
     refine bk.seq (bk.anyN cw hpr (E:=eB) (by decide +kernel) (by decide +kernel) aI 11 (by rfl) ?_)
     have gx:=afE (h0 rfl rfl)
     rw[show ((0:Nat):Int)=0 from rfl] at gx
     have key:∀ s6:S,s6.fr 6=.ptr 0 0->s6.fr 7=.ptr 1 0->s6.fr 8=.ptr 2 0->s6.objs=[.var 38 [.of (ci 0),.of (cb false),.nil,.of (cb false),.nil,.nil,.nil,.nil,.nil,.nil,.of (ci 0),.of (ci 0)],.var 3 [.of (ci (bS l 0).pl)],.var 29 [.of (ci 4)],pT3 l j s.length]->Φ .ret s6:=by
      intro s6 h6 h7 h8 ho
      subst hΦ
      refine Or.inl ⟨rfl,?_⟩
      have hj:¬l.length<=0:=by have:=h0 rfl rfl;omega
      simp only[↓zA,sevalprocAttr,ahp,aaX,cH,plT,aj hlt,aj hj,h6,h7,h8,ho,pT3]
      rfl
     simp only[↓zA,sevalprocAttr,ahp,zWH,gx,↓ahS,↓afn,↓agu,↓agv,↓ahT,↓ahU,aDL,List.replicate]
     repeat' (first|exact bk.ret hpr (key _ rfl rfl rfl rfl)|refine ai ?_ ?_)
 refine ab3 cw hpr (fn:=Tryz.f38) (fg:=Tryz.f73) Tryz.func38 rfl rfl rfl aQc aQb aQa aP9 a1Q aZJ aQt a2u (by show 3<=_;decide) ?_
 generalize hB:adW _ _ _ _ _ _ _ _ _ _=BD
 generalize hF:al5 _ _ _ _ _=A2
 simp only[↓zA,sevalprocAttr,ahp,kt]
 subst hF
 refine .inr ⟨rfl,?_⟩
 simp only[↓zA,sevalprocAttr,ahp,bxO]
 refine⟨rfl,rfl,rfl,rfl,_,rfl,rfl,rfl,rfl,anT.of (fr5 39 23) rfl (λj=>by
  unfold fr5;split <;> first|exact .inr ⟨rfl,λ_=>rfl⟩|exact .inl rfl) (λ_=>rfl) (r:=3) (ty:=112) (A:=[.of (slC tnC l),.of (ci 0),.of (ci s.length)]) rfl 28 9 38 12 140 6 (by rintro o (rfl|rfl|rfl) <;> rfl),?_⟩
 subst hB
 exact main _
def aE4{G:Go.Pe.GP}(hpr:PrSound Tryz.prog G pr)(s:List UInt8)(hs:s.length<LB)(l:List Tn)(p e:Int)(ht:fL s=some (l,p,e))(he:e≠0) :
  aa2 Tryz.prog G 38 [.of (aJ (aK s)),.of (.fn 39 []),.of (.fn 23 [])] [] ⟨false,[qyE y0,aQ p,aQ e],[]⟩:=by
 have kt:=λK=>aH.k (abV s hs _ ht) K
 have he':(e=0)=False:=aA he
 refine ab3 cw hpr (fn:=Tryz.f38) (fg:=Tryz.f73) Tryz.func38 rfl rfl rfl aQc aQb aQa aP9 a1Q aZJ aQt a2u (by show 3<=_;decide) ?_
 generalize hB:adW _ _ _ _ _ _ _ _ _ _=BD
 generalize hF:al5 _ _ _ _ _=A2
 simp only[↓zA,sevalprocAttr,ahp,kt,he']
 subst hF
 refine .inl ⟨rfl,?_⟩
 simp only[↓zA,sevalprocAttr,ahp,aaX]
 rfl
theorem avi{l:List Tn}{F:Fs}(N:∀ i r,i<=l.length->F.or i []=some r->i<=r.2.1/\r.2.1<=l.length):∀ n ks j r,j<=l.length->aej F l n ks j=some r->j<=r.2.1/\r.2.1<=l.length
 | 0,a,j,r,hj,h=>by simp only[aej] at h;cases h
 | n+1,a,j,r,hj,h=>by
  unfold aej at h
  have en:∀ ks j r,j<=l.length->af0 l ks j=some r->j<=r.2.1/\r.2.1<=l.length:=by
   intro ks j r hj h
   unfold af0 wantE bH at h
   cases c:isT l j [101,110,100] with
   | false=>rw[c] at h;cases h;exact⟨ae _,hj⟩
   | true=>rw[c] at h;have:=fF c;cases h;exact⟨by show j<=j+1;omega,this⟩
  cases c:isT l j [119,104,101,110] with
  | false =>
   simp only[c,ah,av,ahk] at h
   cases c2:isT l j [101,108,115,101] with
   | false=>simp only[c2,ah,av] at h;exact en _ _ _ hj h
   | true =>
    have hj1:=fF c2
    cases e:F.or (j+1) [] with
    | none=>simp only[c2,e,Rz.on,au] at h;cases h
    | some q =>
     obtain⟨y,m,b⟩:=q
     have g:=N _ _ hj1 e
     dsimp only at g
     cases b with
     | true=>simp only[c2,e,Rz.on,au] at h;cases h;exact⟨by dsimp only;omega,g.2⟩
     | false=>simp only[c2,e,Rz.on,au] at h;have:=en _ _ _ g.2 h;exact⟨by omega,this.2⟩
  | true =>
   have hj1:=fF c
   cases e:F.or (j+1) [] with
   | none=>simp only[c,e,Rz.on,au] at h;cases h
   | some q =>
    obtain⟨y,m,b⟩:=q
    have g:=N _ _ hj1 e
    dsimp only at g
    cases b with
    | true=>simp only[c,e,Rz.on,au] at h;cases h;exact⟨by dsimp only;omega,g.2⟩
    | false =>
     cases c3:isT l m [116,104,101,110] with
     | false=>simp only[c,e,c3,Rz.on,wantR,bH,ah,av,au] at h;cases h;exact⟨by dsimp only;omega,g.2⟩
     | true =>
      have hm1:=fF c3
      cases e2:F.or (m+1) [] with
      | none=>simp only[c,e,e2,c3,Rz.on,wantR,bH,au] at h;cases h
      | some q2 =>
       obtain⟨z,p,b2⟩:=q2
       have g2:=N _ _ hm1 e2
       dsimp only at g2
       cases b2 with
       | true=>simp only[c,e,e2,c3,Rz.on,wantR,bH,au] at h;cases h;exact⟨by dsimp only;omega,g2.2⟩
       | false =>
        simp only[c,e,e2,c3,Rz.on,wantR,bH,au] at h
        have:=avi N n _ _ _ g2.2 h
        exact⟨by omega,this.2⟩
abbrev caV(K:X):List X:=[.of (ci 23),.of (ci 0),.of (ci 0),.of (aJ {data:=#[]}),.of (aJ {data:=#[]}),.of (aJ {data:=#[]}),.of (cb false),K,.nil]
def CaK(K:X)(ks:List Xp):Prop:=(K=.nil/\ks=[])\/K=.own (.cell 2 7) 28 9 (fl xpC ks) ks.length
def acu:=fU (fY @Tryz.f335.eq_1 @zq @bbx @bbw @aeN @bc5 @aTH) (fY @acD @ak2 @bc4 @aTG @al0 @ab5 @bc3) (fX @aLD @bG @fq @bO @zT0 (kf aFu))
def aGj{l:List Tn}{e:Int}{F:Fs}(hl:l.length<LB)(H:PY l e F)(i:Nat)(r:Xp×Nat×Bool)(hi:i<=l.length)(hr:afZ F l i=some r):GP 335 [.ptr 0 0] [pT l i e] l e [] xpE i r:=by
 unfold afZ at hr
 cases c0:isT l i [119,104,101,110] with
 | false =>
  have t0:=wF l i e [119,104,101,110] hl hi c0
  simp only[c0,ah,av] at hr
  cases hr
  refine⟨⟨ae _,hi⟩,?_⟩
  refine bB aFu ?_
  simp only[↓zA,sevalprocAttr,acu,pT]
  rw[aDo]
  simp only[↓zA,sevalprocAttr,acu,pT,zP,bz,t0]
  all_goals exact fz
 | true =>
 simp only[c0,au] at hr
 have P:=avi (λi r h1 h2=>(H.or i r h1 h2).1) _ _ _ _ hi hr
 refine⟨⟨by omega,P.2⟩,?_⟩
 refine bB aFu ?_
 simp only[↓zA,sevalprocAttr,acu,pT]
 refine aaj _ _ (λn s=>∃ ks j K,CaK K ks/\s.fr 0=.ptr 0 0/\s.fr 2=.ptr 1 0/\s.fr 3=.ptr 2 0/\s.fr 4=aL (isT l j [119,104,101,110])/\s.objs=[pT l j e,.var 28 xpZ,.var 28 (caV K)]/\aej F l n ks j=some r/\j<=l.length/\ks.length<=j) ?_ (l.length+1) _ ?_
 .rintro n ⟨frn,obn,ckn⟩ ⟨ks,j,K,hK,f0,f2,f3,f4,fo,E,hj,hk⟩
  dsimp only at f0 f2 f3 f4 fo
  cases n with
  | zero=>simp only[aej] at E;cases E
  | succ n =>
  unfold aej at E
  have hk1:(ks.length+1<=LIM)=True:=aa (by unfold LIM;unfold LB at hl;omega)
  cases c1:isT l j [119,104,101,110] with
  | true =>
   have hj1:=fF c1
   have hk2:(ks.length+1+1<=LIM)=True:=aa (by unfold LIM;unfold LB at hl;omega)
   have t1:=wT l j e [119,104,101,110] hl c1
   rw[c1] at f4
   cases e2:F.or (j+1) [] with
   | none=>simp only[c1,e2,Rz.on,au] at E;cases E
   | some r2 =>
   obtain⟨y,j2,q2⟩:=r2
   have g':=H.or (j+1) _ hj1 e2
   obtain⟨u2,v2⟩:=g'.1
   dsimp only at u2 v2
   cases q2 with
   | true =>
    have k2:=g'.bad
    simp only[c1,e2,Rz.on,au] at E
    cases E
    rcases hK with ⟨hK,hK'⟩|hK
    .subst hK
     simp only[↓zA,sevalprocAttr,acu,zLX,bz,pT,zP,f0,f3,f4,fo,t1,k2]
     all_goals exact fz
    .subst hK
     simp only[↓zA,sevalprocAttr,acu,zLX,bz,pT,zP,f0,f3,f4,fo,t1,k2]
     all_goals exact fz
   | false =>
    have k2:=g'.ok
    cases c3:isT l j2 [116,104,101,110] with
    | false =>
     have t3:=wF l j2 e [116,104,101,110] hl v2 c3
     simp only[c1,e2,c3,Rz.on,wantR,bH,ah,av,au] at E
     cases E
     rcases hK with ⟨hK,hK'⟩|hK
     .subst hK hK'
      simp only[↓zA,sevalprocAttr,acu,zLX,bz,pT,zP,f0,f3,f4,fo,aa4,t1,k2,t3]
      all_goals exact fz
     .subst hK
      simp only[↓zA,sevalprocAttr,acu,zLX,bz,pT,zP,f0,f3,f4,fo,ec,hk1,t1,k2,t3]
      all_goals exact fz
    | true =>
     have hj2:=fF c3
     have t3:=wT l j2 e [116,104,101,110] hl c3
     cases e4:F.or (j2+1) [] with
     | none=>simp only[c1,e2,c3,e4,Rz.on,wantR,bH,au] at E;cases E
     | some r4 =>
     obtain⟨z,j4,q4⟩:=r4
     have g4:=H.or (j2+1) _ hj2 e4
     obtain⟨u4,v4⟩:=g4.1
     dsimp only at u4 v4
     cases q4 with
     | true =>
      have k4:=g4.bad
      simp only[c1,e2,c3,e4,Rz.on,wantR,bH,au] at E
      cases E
      rcases hK with ⟨hK,hK'⟩|hK
      .subst hK hK'
       simp only[↓zA,sevalprocAttr,acu,zLX,bz,pT,zP,f0,f3,f4,fo,aa4,t1,k2,t3,k4]
       all_goals exact fz
      .subst hK
       simp only[↓zA,sevalprocAttr,acu,zLX,bz,pT,zP,f0,f3,f4,fo,ec,hk1,t1,k2,t3,k4]
       all_goals exact fz
     | false =>
      have k4:=g4.ok
      simp only[c1,e2,c3,e4,Rz.on,wantR,bH,au] at E
      have t5:=sK l j4 e [119,104,101,110] hl v4
      rcases hK with ⟨hK,hK'⟩|hK
      .subst hK hK'
       simp only[↓zA,sevalprocAttr,acu,zLX,bz,pT,zP,f0,f2,f3,f4,fo,ec,aa4,aSU,t1,k2,t3,k4,t5]
       refine⟨n,aP n,[y,z],j4,.own (.cell 2 7) 28 9 (fl xpC [y,z]) 2,.inr rfl,rfl,?_,E,v4,by simp only[abP];omega⟩
       simp only[caV,xpZ,akz,aso,ff,aw0,df]
       try rfl
      .subst hK
       simp only[↓zA,sevalprocAttr,acu,zLX,bz,pT,zP,f0,f2,f3,f4,fo,ec,hk1,hk2,t1,k2,t3,k4,t5]
       refine⟨n,aP n,ks++[y,z],j4,.own (.cell 2 7) 28 9 (fl xpC (ks++[y,z])) (ks++[y,z]).length,.inr rfl,rfl,?_,E,v4,by simp only[aeX];omega⟩
       simp only[caV,xpZ,ayV,akz,aso,ff,aeX,aw0,df]
       try rfl
  | false =>
   have t1:=wF l j e [119,104,101,110] hl hj c1
   rw[c1] at f4
   simp only[c1,ah,av,ahk] at E
   cases c2:isT l j [101,108,115,101] with
   | false =>
    have t2:=wF l j e [101,108,115,101] hl hj c2
    simp only[c2,ah,av,af0,wantE,bH] at E
    cases c3:isT l j [101,110,100] with
    | false =>
     have t3:=wF l j e [101,110,100] hl hj c3
     simp only[c3,ah,av] at E
     cases E
     rcases hK with ⟨hK,hK'⟩|hK
     .subst hK hK'
      simp only[↓zA,sevalprocAttr,acu,zLX,bz,pT,zP,f0,f4,fo,t2,t3]
      all_goals exact fz
     .subst hK
      simp only[↓zA,sevalprocAttr,acu,zLX,bz,pT,zP,f0,f4,fo,t2,t3]
      all_goals exact fz
    | true =>
     have t3:=wT l j e [101,110,100] hl c3
     simp only[c3,au] at E
     cases E
     rcases hK with ⟨hK,hK'⟩|hK
     .subst hK hK'
      simp only[↓zA,sevalprocAttr,acu,zLX,bz,pT,zP,f0,f2,f3,f4,fo,t2,t3]
      all_goals exact fz
     .subst hK
      simp only[↓zA,sevalprocAttr,acu,zLX,bz,pT,zP,f0,f2,f3,f4,fo,t2,t3]
      all_goals exact fz
   | true =>
    have hj1:=fF c2
    have t2:=wT l j e [101,108,115,101] hl c2
    cases e2:F.or (j+1) [] with
    | none=>simp only[c2,e2,Rz.on,au] at E;cases E
    | some r2 =>
    obtain⟨y,j2,q2⟩:=r2
    have g':=H.or (j+1) _ hj1 e2
    obtain⟨u2,v2⟩:=g'.1
    dsimp only at u2 v2
    cases q2 with
    | true =>
     have k2:=g'.bad
     simp only[c2,e2,Rz.on,au] at E
     cases E
     rcases hK with ⟨hK,hK'⟩|hK
     .subst hK hK'
      simp only[↓zA,sevalprocAttr,acu,zLX,bz,pT,zP,f0,f3,f4,fo,t2,k2]
      all_goals exact fz
     .subst hK
      simp only[↓zA,sevalprocAttr,acu,zLX,bz,pT,zP,f0,f3,f4,fo,t2,k2]
      all_goals exact fz
    | false =>
     have k2:=g'.ok
     simp only[c2,e2,Rz.on,au,af0,wantE,bH] at E
     cases c3:isT l j2 [101,110,100] with
     | false =>
      have t3:=wF l j2 e [101,110,100] hl v2 c3
      simp only[c3,ah,av] at E
      cases E
      rcases hK with ⟨hK,hK'⟩|hK
      .subst hK hK'
       simp only[↓zA,sevalprocAttr,acu,zLX,bz,pT,zP,f0,f3,f4,fo,aa4,t2,t3,k2]
       all_goals exact fz
      .subst hK
       simp only[↓zA,sevalprocAttr,acu,zLX,bz,pT,zP,f0,f3,f4,fo,ec,hk1,t2,t3,k2]
       all_goals exact fz
     | true =>
      have t3:=wT l j2 e [101,110,100] hl c3
      simp only[c3,au] at E
      cases E
      rcases hK with ⟨hK,hK'⟩|hK
      .subst hK hK'
       simp only[↓zA,sevalprocAttr,acu,zLX,bz,pT,zP,f0,f2,f3,f4,fo,aa4,t2,t3,k2]
       all_goals exact fz
      .subst hK
       simp only[↓zA,sevalprocAttr,acu,zLX,bz,pT,zP,f0,f2,f3,f4,fo,ec,hk1,t2,t3,k2]
       all_goals exact fz
 .simp only[↓zA,sevalprocAttr,acu,pT]
  exact⟨[],i,_,.inl ⟨rfl,rfl⟩,by rw[c0],rfl,hr,hi,aO _⟩
def amq(F:Fs)(l:List Tn)(i:Nat):Rz Xp :=
 if isT l (i+1) [40] then callS F l (i+2) (txT l i)
 else if isT l (i+1) [46] then some (ai3 (txT l i) (cd l (i+2)).1,(cd l (i+2)).2.1,(cd l (i+2)).2.2)
 else some (ai3 [] (txT l i),i+1,false)
def aIH{l:List Tn}{F:Fs}(H:FP l F){i:Nat}(hi:i+1<=l.length):Pl l i (amq F l i):=by
 unfold amq
 refine .fT (λ_=>.mono (azy H aC) aC) ?_
 refine .fT (λ_=>?_) (.so aC aC)
 have:=ahx (l:=l) (j:=i+2) aC
 exact .so aC this.2
def aLy(F:Fs)(l:List Tn)(i:Nat):ae4 F l i=match aei l i with
 | some v=>some (.mk 1 v [] [] false [] [],i+1,false)
 | none =>
  if isT l i [40] then (aid F l i).to Th.val
  else if isT l i [99,97,115,101] then afZ F l (i+1)
  else if isT l i [101,120,105,115,116,115] then agp F l i
  else if br l i 2 then amq F l i
  else some (x0,i,true):=rfl
def a3z:=ai (fZ @zq @bbF @bbE @ajr @bG @acI @abb @aba) (fZ @aa9 @aa8 @aa7 @aa6 @P3 @Q3 @zT0 (kf aQv))
def avW(l:List Tn)(i:Nat)(e:Int)(k n:Int)(s:ByteArray)(hl:l.length<LB)(hi:i<l.length):aH Tryz.prog pr 333 [.ptr 0 0,.agg [.of (ci k),.of (ci n),.of (aJ s)]] [pT l i e] ⟨false,[xpE (.mk 1 ⟨k,n,s⟩ [] [] false [] [])],[pT l (i+1) e]⟩:=by
 have hw:IntKind.i64.wrap ((i:Int)+1)=((i+1:Nat):Int):=er i (by unfold LB at hl;omega)
 refine bB aQv ?_
 simp only[Tryz.f333,↓zA,sevalprocAttr,a3z,pT,hw]
 all_goals exact fz
def cK(l:List Tn)(i:Nat)(e:Int)(hl:l.length<LB)(hi:i<l.length)(k n:Int)(s:ByteArray)(K:An->Prop):cKp 333 [.ptr 0 0,.agg [.of (.lit (.int .i64 k)),.of (.lit (.int .i64 n)),.of (.lit (.string s))]] [pT l i e] K↔K ⟨false,[xpE (.mk 1 ⟨k,n,s⟩ [] [] false [] [])],[pT l (i+1) e]⟩:=aH.k (avW l i e k n s hl hi) K
def a3A:=ai (fY @zq @bbH @bbG @bG @acI @abb @aba) (fY @aa9 @aa8 @aa7 @aa6 @fq @zT0 (kf aQw))
def aFn(l:List Tn)(i:Nat)(e:Int)(x:Xp)(cs:List C)(hx:cs=xpC x):aH Tryz.prog pr 332 [.ptr 0 0] [pTe l i e,.row 28 cs] ⟨false,[xpE x],[pT l i e,.row 28 []]⟩:=by
 subst hx
 have hw:IntKind.i64.wrap (1-1)=0:=by decide
 refine bB aQw ?_
 simp only[Tryz.f332,↓zA,sevalprocAttr,a3A,pT,pTe,aw4,a7y,a7n,a7s,E25]
 all_goals exact fz
def a3y:=ai (fY @zq @bbz @ak0 @ab5 @bby @ak2 @al0) (fY @awU @aeN @bG @fq @bO @zT0 (kf aQu))
def aBi{l:List Tn}{e:Int}{F:Fs}(hl:l.length<LB)(H:PY l e F)(i:Nat)(r:Xp×Nat×Bool)(hi:i<=l.length)(c0:br l i 2=true)(hr:amq F l i=some r):GP 334 [.ptr 0 0] [pT l i e] l e [] xpE i r:=by
 refine⟨Pl.at (aIH H.fp (aaU c0)) hr,?_⟩
 have t0:=nT l i e hl c0
 have b0:=aaU c0
 have hcount:(aK (txT l i)=({data:=#[99,111,117,110,116]}:ByteArray))=(txT l i=[99,111,117,110,116]):=cJ _ _
 have hsum:(aK (txT l i)=({data:=#[115,117,109]}:ByteArray))=(txT l i=[115,117,109]):=cJ _ _
 have hmin:(aK (txT l i)=({data:=#[109,105,110]}:ByteArray))=(txT l i=[109,105,110]):=cJ _ _
 have hmax:(aK (txT l i)=({data:=#[109,97,120]}:ByteArray))=(txT l i=[109,97,120]):=cJ _ _
 rcases eWX l (i+1) e [46] hl with _|_
 rcases afl l (i+2) e hl with _|_
 rotate_left 2
 rcases eWX l (i+1) e [40] hl with _|_
 rcases cr (txT l i=[99,111,117,110,116]) with d4|d4
 rcases eWX l (i+2) e [42] hl with _|_
 rcases eWX l (i+3) e [41] hl with _|_
 rotate_left 2
 rcases eWX l (i+2) e [100,105,115,116,105,110,99,116] hl with _|_
 rcases eR (F.or (i+3) []) λ_=>H.or _ _ aC with _|⟨_,_,_⟩|⟨a8,j8,_⟩
 rotate_left 2
 rcases eWX l j8 e [41] hl with _|_
 rotate_left 2
 rcases eR (F.or (i+2) []) λ_=>H.or _ _ aC with _|⟨_,_,_⟩|⟨a10,j10,_⟩
 rotate_left 2
 rcases eWX l j10 e [41] hl with _|_
 rotate_left 2
 rcases cr (txT l i=[115,117,109]) with d12|d12
 rcases eWX l (i+2) e [100,105,115,116,105,110,99,116] hl with _|_
 rcases eR (F.or (i+3) []) λ_=>H.or _ _ aC with _|⟨_,_,_⟩|⟨a14,j14,_⟩
 rotate_left 2
 rcases eWX l j14 e [41] hl with _|_
 rotate_left 2
 rcases eR (F.or (i+2) []) λ_=>H.or _ _ aC with _|⟨_,_,_⟩|⟨a16,j16,_⟩
 rotate_left 2
 rcases eWX l j16 e [41] hl with _|_
 rotate_left 2
 rcases cr (txT l i=[109,105,110]) with d18|d18
 rcases eWX l (i+2) e [100,105,115,116,105,110,99,116] hl with _|_
 rcases eR (F.or (i+3) []) λ_=>H.or _ _ aC with _|⟨_,_,_⟩|⟨a20,j20,_⟩
 rotate_left 2
 rcases eWX l j20 e [41] hl with _|_
 rotate_left 2
 rcases eR (F.or (i+2) []) λ_=>H.or _ _ aC with _|⟨_,_,_⟩|⟨a22,j22,_⟩
 rotate_left 2
 rcases eWX l j22 e [41] hl with _|_
 rotate_left 2
 rcases cr (txT l i=[109,97,120]) with d24|d24
 rcases eWX l (i+2) e [100,105,115,116,105,110,99,116] hl with _|_
 rcases eR (F.or (i+3) []) λ_=>H.or _ _ aC with _|⟨_,_,_⟩|⟨a26,j26,_⟩
 rotate_left 2
 rcases eWX l j26 e [41] hl with _|_
 rotate_left 2
 rcases eR (F.or (i+2) []) λ_=>H.or _ _ aC with _|⟨_,_,_⟩|⟨a28,j28,_⟩
 rotate_left 2
 rcases eWX l j28 e [41] hl with _|_
 rotate_left 2
 rcases eWX l (i+2) e [41] hl with _|_
 rotate_left
 rcases eR (aa1 F l (i+2)) λ_=>acE hl H _ _ aC with _|⟨_,_,_⟩|⟨a31,j31,_⟩
 rotate_left 2
 rcases eWX l j31 e [41] hl with _|_
 rotate_left 3
 all_goals (simp only[amq,Go.Tab.callS,ak5,a2I,cd,bj,eK,aE,zRZ,sevalprocAttr,↓reduceIte, *] at hr <;> cases hr <;> (refine bB aQu ?_;simp only[Tryz.f334,↓zA,sevalprocAttr,a3y,bz,pT,zP,bh, *];all_goals exact fz))
def aPb:=fW (fZ @Tryz.f330.eq_1 @zq @bbD @a8O @anO @bbC @a8N @al0) (fZ @apI @a8M @ab5 @a8L @aeN @aq1 @bbB @aGa) (fZ @bbA @aF9 @ajr @bG @ep @ab7 @acI @abb) (fZ @aba @aa9 @aa8 @aa7 @aa6 @ao7 @fq @fC) (fY @bO @P3 @Q3 @P9 @Q9 @zT0 (kf aFv))
def aH5{l:List Tn}{e:Int}{F:Fs}(hl:l.length<LB)(H:PY l e F)(i:Nat)(r:Xp×Nat×Bool)(hi:i<=l.length)(hr:ae4 F l i=some r):GP 330 [.ptr 0 0] [pT l i e] l e [] xpE i r:=by
 refine⟨Pl.at (axX H.fp hi) hr,?_⟩
 have p0:=pK l i e hl hi
 rcases a1J l i e hl with ⟨c1,b1,t1,x1,xq1,q1⟩|⟨c1,t1,q1⟩
 have n0:=cK l i e hl aC
 rotate_left
 rcases bdp l i e hl with ⟨c2,b2,t2,x2,xq2,q2⟩|⟨c2,t2,q2⟩
 have n0:=cK l i e hl aC
 rotate_left
 rcases eWQ l i e [116,114,117,101] hl with ⟨c3,b3,t3,x3,xq3⟩|⟨c3,t3⟩
 have n0:=cK l i e hl aC
 rotate_left
 rcases eWQ l i e [102,97,108,115,101] hl with ⟨c4,b4,t4,x4,xq4⟩|⟨c4,t4⟩
 have n0:=cK l i e hl aC
 rotate_left
 rcases eWQ l i e [110,117,108,108] hl with ⟨c5,b5,t5,x5,xq5⟩|⟨c5,t5⟩
 have n0:=cK l i e hl aC
 rotate_left
 rcases eWQ l i e [40] hl with ⟨c6,b6,t6,x6,xq6⟩|⟨c6,t6⟩
 rcases eR (F.ins (i+1)) λ_=>H.ins _ _ aC with e7|⟨_,_,_,_,_⟩|⟨a7,j7,e7,⟨u7,v7⟩,k7⟩
 rotate_left 2
 rcases eWQ l j7 e [41] hl with ⟨c8,b8,t8,x8,xq8⟩|⟨c8,t8⟩
 rotate_left 2
 rcases eWQ l i e [99,97,115,101] hl with ⟨c9,b9,t9,x9,xq9⟩|⟨c9,t9⟩
 rcases eR (afZ F l (i+1)) λ_=>aGj hl H _ _ aC with e10|⟨_,_,_,_,_⟩|⟨a10,j10,e10,⟨u10,v10⟩,k10⟩
 rotate_left 3
 rcases eWQ l i e [101,120,105,115,116,115] hl with ⟨c11,b11,t11,x11,xq11⟩|⟨c11,t11⟩
 rcases eWQ l (i+1) e [40] hl with ⟨c12,b12,t12,x12,xq12⟩|⟨c12,t12⟩
 rcases eR (F.qy (i+2) []) λ_=>H.qy _ _ aC with e13|⟨_,_,_,_,_⟩|⟨a13,j13,e13,⟨u13,v13⟩,k13⟩
 rotate_left 2
 rcases eWQ l j13 e [41] hl with ⟨c14,b14,t14,x14,xq14⟩|⟨c14,t14⟩
 rotate_left 3
 rcases aOe l i e hl with ⟨c15,b15,t15,x15,xq15,q15⟩|⟨c15,t15,q15⟩
 rcases eR (amq F l i) λ_=>aBi hl H _ _ aC (by assumption) with e16|⟨_,_,_,_,_⟩|⟨a16,j16,e16,⟨u16,v16⟩,k16⟩
 rotate_left 4
 all_goals (simp only[aLy,aei,aid,agp,zRZ,sevalprocAttr,↓reduceIte, *] at hr <;> cases hr <;> (refine bB aFv ?_;simp only[↓zA,sevalprocAttr,aPb,bz,pT,zP,bh,aiN,aro,aye,uL, *];all_goals exact fz))
def aLx(l:List Tn)(i:Nat)(e:Int)(x:Xp)(cs:List C)(hx:cs=xpC x):aH Tryz.prog pr 330 [.ptr 0 0] [pTe l i e,.row 28 cs] ⟨false,[xpE x],[pT l i e,.row 28 []]⟩:=by
 have k:=λK=>aH.k (aFn l i e x cs hx) K
 have lv:adq (some (.row 28 cs))=true:=by rw[hx,ff];rfl
 refine bB aFv ?_
 simp only[↓zA,sevalprocAttr,aPb,pT,pTe,k,lv]
 all_goals exact fz
def aPd:=ai (gh @Tryz.f325.eq_1 @zq @bbU @ab5 @aSs @a8P @bG @acI @abb) (fZ @aba @aa9 @aa8 @aa7 @aa6 @fq @zT0 (kf aFx))
def aST(l:List Tn)(i:Nat)(e:Int)(x:Xp)(cs:List C)(hx:cs=xpC x):aH Tryz.prog pr 325 [.ptr 0 0] [pTe l i e,.row 28 cs] ⟨false,[xpE x],[pT l i e,.row 28 []]⟩:=by
 have k:=λK=>aH.k (aLx l i e x cs hx) K
 have lv:adq (some (.row 28 cs))=true:=by rw[hx,ff];rfl
 refine bB aFx ?_
 simp only[↓zA,sevalprocAttr,aPd,pT,pTe,k,lv]
 all_goals exact fz
def aKW(F:Fs)(l:List Tn)(i:Nat):agP F l i []=if isT l i [45] then (F.un (i+1)).to (λa=>dR 3 [a]) else ae4 F l i:=rfl
def aqj{l:List Tn}{e:Int}{F:Fs}(hl:l.length<LB)(H:PY l e F)(i:Nat)(r:Xp×Nat×Bool)(hi:i<=l.length)(hr:agP F l i []=some r):GP 325 [.ptr 0 0] [pT l i e] l e [] xpE i r:=by
 refine⟨Pl.at (apa H.fp hi) hr,?_⟩
 rcases eW l i e [45] hl with _|_
 rcases eR (F.un (i+1)) λ_=>H.un _ _ aC with _|⟨_,_,_⟩|⟨a2,j2,_⟩
 rotate_left 3
 rcases eR (ae4 F l i) λ_=>aH5 hl H _ _ aC with _|⟨_,_,_⟩|⟨a3,j3,_⟩
 rotate_left 3
 all_goals (simp only[aKW,zRZ,sevalprocAttr,↓reduceIte, *] at hr <;> cases hr <;> (refine bB aFx ?_;simp only[↓zA,sevalprocAttr,aPd,bz,pT,zP,bh, *];all_goals exact fz))
def aHg{l:List Tn}{e:Int}{F:Fs}(H:PY l e F)(i:Nat)(x:Xp)(cs:List C)(hx:cs=xpC x)(r:Xp×Nat×Bool)(hi:i<=l.length)(hr:agP F l i [x]=some r):GP 325 [.ptr 0 0] [pTe l i e,.row 28 cs] l e deE xpE i r:=by
 cases hr
 exact⟨⟨ae _,hi⟩,aST l i e x cs hx⟩
def aPf:=ai (fW @Tryz.f316.eq_1 @zq @bbY @azs @bG) (fW @bO @ahE @aSs @zT0 (kf aFz))
def ayo{l:List Tn}{e:Int}{F:Fs}(hl:l.length<LB)(H:PY l e F)(i:Nat)(r:Xp×Nat×Bool)(hi:i<=l.length)(hr:akO F l i []=some r):GP 316 [.ptr 0 0] [pT l i e] l e [] xpE i r:=by
 have g:=ajD (e:=e) hl 651 325 aI (aA aI) aIr aPA aC9 (agP F l) [([42],7),([47],8),([37],9)] aI (λi r h1 h2=>aqj hl H i r h1 h2) i r hi hr
 refine⟨g.1,?_⟩
 have k:∀ K,cKp 66 [.ptr 0 0,.clo 651 [.ptr 0 0],.of (.sl [.lit (.string (ByteArray.mk (List.toArray [42]))),.lit (.string (ByteArray.mk (List.toArray [47]))),.lit (.string (ByteArray.mk (List.toArray [37])))] 3),.of (.sl [ci 7,ci 8,ci 9] 3)] [pT l i e] K↔K (bz l e xpE r []):=λK=>aH.k g.2 K
 refine bB aFz ?_
 obtain⟨a,j,b⟩:=r
 cases b <;> (simp only[↓zA,sevalprocAttr,aPf,bz,pT,zP,zBS,k];all_goals exact fz)
def aII{l:List Tn}{e:Int}{F:Fs}(hl:l.length<LB)(H:PY l e F)(i:Nat)(x:Xp)(cs:List C)(hx:cs=xpC x)(r:Xp×Nat×Bool)(hi:i<=l.length)(hr:akO F l i [x]=some r):GP 316 [.ptr 0 0] [pTe l i e,.row 28 cs] l e deE xpE i r:=by
 have g:=aim (e:=e) hl 651 325 aI (aA aI) aIr aPA aC9 (agP F l) [([42],7),([47],8),([37],9)] aI (λi r h1 h2=>aqj hl H i r h1 h2) x cs hx (λi r h1 h2=>aHg H i x cs hx r h1 h2) i r hi hr
 refine⟨g.1,?_⟩
 have k:∀ K,cKp 66 [.ptr 0 0,.clo 651 [.ptr 0 0],.of (.sl [.lit (.string (ByteArray.mk (List.toArray [42]))),.lit (.string (ByteArray.mk (List.toArray [47]))),.lit (.string (ByteArray.mk (List.toArray [37])))] 3),.of (.sl [ci 7,ci 8,ci 9] 3)] [pTe l i e,.row 28 cs] K↔K (bz l e xpE r deE):=λK=>aH.k g.2 K
 have lv:adq (some (.row 28 cs))=true:=by rw[hx,ff];rfl
 refine bB aFz ?_
 obtain⟨a,j,b⟩:=r
 cases b <;> (simp only[↓zA,sevalprocAttr,aPf,bz,pT,pTe,zP,zBS,k,lv];all_goals exact fz)
def aPi:=gh @Tryz.f304.eq_1 @zq @bbZ @azs @bG @bO @ahE @zT0 (kf aFB)
def azV{l:List Tn}{e:Int}{F:Fs}(hl:l.length<LB)(H:PY l e F)(i:Nat)(r:Xp×Nat×Bool)(hi:i<=l.length)(hr:ak6 F l i []=some r):GP 304 [.ptr 0 0] [pT l i e] l e [] xpE i r:=by
 have g:=ajD (e:=e) hl 633 316 aI (aA aI) aIs aPB aDa (akO F l) [([43],5),([45],6)] aI (λi r h1 h2=>ayo hl H i r h1 h2) i r hi hr
 refine⟨g.1,?_⟩
 have k:∀ K,cKp 66 [.ptr 0 0,.clo 633 [.ptr 0 0],.of (.sl [.lit (.string (ByteArray.mk (List.toArray [43]))),.lit (.string (ByteArray.mk (List.toArray [45])))] 2),.of (.sl [ci 5,ci 6] 2)] [pT l i e] K↔K (bz l e xpE r []):=λK=>aH.k g.2 K
 refine bB aFB ?_
 obtain⟨a,j,b⟩:=r
 cases b <;> (simp only[↓zA,sevalprocAttr,aPi,bz,pT,zP,zBS,k];all_goals exact fz)
def aKC{l:List Tn}{e:Int}{F:Fs}(hl:l.length<LB)(H:PY l e F)(i:Nat)(x:Xp)(cs:List C)(hx:cs=xpC x)(r:Xp×Nat×Bool)(hi:i<=l.length)(hr:ak6 F l i [x]=some r):GP 304 [.ptr 0 0] [pTe l i e,.row 28 cs] l e deE xpE i r:=by
 have g:=aim (e:=e) hl 633 316 aI (aA aI) aIs aPB aDa (akO F l) [([43],5),([45],6)] aI (λi r h1 h2=>ayo hl H i r h1 h2) x cs hx (λi r h1 h2=>aII hl H i x cs hx r h1 h2) i r hi hr
 refine⟨g.1,?_⟩
 have k:∀ K,cKp 66 [.ptr 0 0,.clo 633 [.ptr 0 0],.of (.sl [.lit (.string (ByteArray.mk (List.toArray [43]))),.lit (.string (ByteArray.mk (List.toArray [45])))] 2),.of (.sl [ci 5,ci 6] 2)] [pTe l i e,.row 28 cs] K↔K (bz l e xpE r deE):=λK=>aH.k g.2 K
 have lv:adq (some (.row 28 cs))=true:=by rw[hx,ff];rfl
 refine bB aFB ?_
 obtain⟨a,j,b⟩:=r
 cases b <;> (simp only[↓zA,sevalprocAttr,aPi,bz,pT,pTe,zP,zBS,k,lv];all_goals exact fz)
def aPj:=gh @Tryz.f284.eq_1 @zq @bb0 @azs @bG @bO @ahE @zT0 (kf aFC)
def ai4{l:List Tn}{e:Int}{F:Fs}(hl:l.length<LB)(H:PY l e F)(i:Nat)(r:Xp×Nat×Bool)(hi:i<=l.length)(hr:acr F l i []=some r):GP 284 [.ptr 0 0] [pT l i e] l e [] xpE i r:=by
 have g:=ajD (e:=e) hl 609 304 aI (aA aI) aIt aPC aDb (ak6 F l) [([124,124],10)] aI (λi r h1 h2=>azV hl H i r h1 h2) i r hi hr
 refine⟨g.1,?_⟩
 have k:∀ K,cKp 66 [.ptr 0 0,.clo 609 [.ptr 0 0],.of (.sl [.lit (.string (ByteArray.mk (List.toArray [124,124])))] 1),.of (.sl [ci 10] 1)] [pT l i e] K↔K (bz l e xpE r []):=λK=>aH.k g.2 K
 refine bB aFC ?_
 obtain⟨a,j,b⟩:=r
 cases b <;> (simp only[↓zA,sevalprocAttr,aPj,bz,pT,zP,k];all_goals exact fz)
def aJ0{l:List Tn}{e:Int}{F:Fs}(hl:l.length<LB)(H:PY l e F)(i:Nat)(x:Xp)(cs:List C)(hx:cs=xpC x)(r:Xp×Nat×Bool)(hi:i<=l.length)(hr:acr F l i [x]=some r):GP 284 [.ptr 0 0] [pTe l i e,.row 28 cs] l e deE xpE i r:=by
 have g:=aim (e:=e) hl 609 304 aI (aA aI) aIt aPC aDb (ak6 F l) [([124,124],10)] aI (λi r h1 h2=>azV hl H i r h1 h2) x cs hx (λi r h1 h2=>aKC hl H i x cs hx r h1 h2) i r hi hr
 refine⟨g.1,?_⟩
 have k:∀ K,cKp 66 [.ptr 0 0,.clo 609 [.ptr 0 0],.of (.sl [.lit (.string (ByteArray.mk (List.toArray [124,124])))] 1),.of (.sl [ci 10] 1)] [pTe l i e,.row 28 cs] K↔K (bz l e xpE r deE):=λK=>aH.k g.2 K
 have lv:adq (some (.row 28 cs))=true:=by rw[hx,ff];rfl
 refine bB aFC ?_
 obtain⟨a,j,b⟩:=r
 cases b <;> (simp only[↓zA,sevalprocAttr,aPj,bz,pT,pTe,zP,k,lv];all_goals exact fz)
def alm(F:Fs)(l:List Tn)(i:Nat)(a:Xp):Rz Xp :=
 if isT l i [108,105,107,101] then (acr F l (i+1) []).to λb=>dR 20 [a,b]
 else if isT l i [98,101,116,119,101,101,110] then (acr F l (i+1) []).on (λ_=>a) λb j=>wantR (bH l j [97,110,100]) a λj'=>(acr F l j' []).to λc=>dR 22 [a,b,c]
 else if isT l i [105,110] then inS F l (i+1) a
 else some (a,i,true)
def aK8{l:List Tn}{F:Fs}(H:FP l F){a:Xp}{i:Nat}(hi:i<=l.length):Pl l i (alm F l i a):=by
 unfold alm
 refine .fT (λ_=>.to (aeO H aC) aC) (.fT (λ_=>.on (aeO H aC) aC λ_ _ _ _=>.wR aC aC λ_=>.to (aeO H aC) aC) (.fT (λ_=>.mono (asg H aC) aC) (.so aC hi)))
def aeS{l:List Tn}{F:Fs}{no:Bool}{i:Nat}{a:Xp}{r:Xp×Nat×Bool}(h:ace F l no i a=some r)(c:no=true\/co l i [[108,105,107,101],[98,101,116,119,101,101,110],[105,110]]=true) :
  ∃ b,alm F l i a=some (b,r.2.1,r.2.2)/\(r.2.2=false->r.1=ajS no b):=by
 unfold ace at h
 unfold alm
 split at h
 .rename_i c1;rw[am c1]
  cases e:acr F l (i+1) [] with
  | none=>rw[e] at h;cases h
  | some q=>obtain⟨b,j,q⟩:=q;rw[e] at h;cases h;exact⟨_,rfl,λ_=>rfl⟩
 rename_i c1;rw[aj c1]
 split at h
 .rename_i c2;rw[am c2]
  cases e:acr F l (i+1) [] with
  | none=>rw[e] at h;cases h
  | some q =>
   obtain⟨b,j,q⟩:=q
   rw[e] at h
   cases q with
   | true=>cases h;exact⟨_,rfl,λh=>by cases h⟩
   | false =>
    simp only[Rz.on] at h ⊢
    unfold wantR at h ⊢
    split at h
    .cases h;exact⟨_,rfl,λh=>by cases h⟩
    .rename_i m e2
     simp only at h ⊢
     cases e3:acr F l m [] with
     | none=>rw[e3] at h;cases h
     | some q=>obtain⟨b,j,q⟩:=q;rw[e3] at h;cases h;exact⟨_,rfl,λ_=>rfl⟩
 rename_i c2;rw[aj c2]
 split at h
 .rename_i c3;rw[am c3]
  cases e:inS F l (i+1) a with
  | none=>rw[e] at h;cases h
  | some q=>obtain⟨b,j,q⟩:=q;rw[e] at h;cases h;exact⟨_,rfl,λ_=>rfl⟩
 rename_i c3;rw[aj c3]
 cases h
 have hn:no=true:=by
  rcases c with c|c
  .exact c
  .simp only[co,c1,c2,c3,aE] at c;simp_all
 exact⟨a,by rw[hn],λh=>by simp only[hn] at h;cases h⟩
theorem aqR{l:List Tn}{F:Fs}{a:Xp}:∀ (n1 n2:Nat) (ks L:List Xp) (j:Nat) (r:Xp×Nat×Bool),n1<=n2->inL F l a n1 (ks++L) j=some r ->
  ∃ r',acM F l n2 L j=some r'/\(r'.2.2=true->r.2=r'.2)/\(r'.2.2=false->wantE (bH l r'.2.1 [41]) (dR 21 (ks++r'.1))=some r)
 | 0,_,_,_,_,_,_,h=>by cases h
 | n+1,0,_,_,_,_,h0,_=>by omega
 | n+1,m+1,ks,L,j,r,h0,h=>by
  unfold inL at h
  unfold acM
  split at h
  .rename_i c
   rw[am c]
   cases e:F.or (j+1) [] with
   | none=>rw[e] at h;cases h
   | some q =>
    obtain⟨y,p,q⟩:=q
    rw[e] at h
    cases q with
    | true=>cases h;exact⟨_,rfl,(λ_=>rfl),(λh=>by cases h)⟩
    | false =>
     simp only[Rz.on] at h ⊢
     rw[fj] at h
     exact aqR n m ks (L++[y]) p r aC h
  .rename_i c
   rw[aj c]
   exact⟨_,rfl,(λh=>by cases h),λ_=>h⟩
theorem au3{l:List Tn}{F:Fs}(N:FP l F):∀ n ks j r,j<=l.length->acM F l n ks j=some r->r.1.length+j<=ks.length+r.2.1
 | 0,_,_,_,_,h=>by cases h
 | n+1,ks,j,r,hj,h=>by
  unfold acM at h
  split at h
  .rename_i c
   have hj1:=fF c
   cases e:F.or (j+1) [] with
   | none=>rw[e] at h;cases h
   | some q =>
    obtain⟨y,m,b⟩:=q
    have g:=Pl.at (N.or hj1) e
    dsimp only at g
    rw[e] at h
    cases b with
    | true=>cases h;simp only[aeX];omega
    | false =>
     have:=au3 N n _ _ _ g.2 h
     simp only[aeX] at this
     omega
  .cases h;exact ae _
def au1{l:List Tn}{e:Int}{F:Fs}(H:PY l e F){i:Nat}{r:List Xp×Nat×Bool}(hr:aa1 F l i=some r)(hi:i<=l.length:=by omega):r.1.length+i<=1+r.2.1:=by
 unfold aa1 at hr
 cases e:F.or i [] with
 | none=>rw[e] at hr;cases hr
 | some q =>
  obtain⟨y,m,b⟩:=q
  have g:=Pl.at (H.fp.or hi) e
  dsimp only at g
  rw[e] at hr
  cases b with
  | true=>cases hr;simp only[abP];omega
  | false =>
   have:=au3 H.fp _ _ _ _ g.2 hr
   simp only[abP] at this
   omega
def aPk:=fZ @Tryz.f245.eq_1 @zq @bbX @bbW @bG @fq @zT0 (kf aFD)
def ayk(a:Xp):G1 245 [xpE a] (xpE (dR 4 [a])):=by
 refine bB aFD ?_
 simp only[↓zA,sevalprocAttr,aPk]
 all_goals exact fz
def auV(a:Xp)(K:An->Prop):cKp 245 [xpE a] [] K↔K ⟨false,[xpE (dR 4 [a])],[]⟩:=aH.k (ayk a) K
def aIF(c1 c2 c3 c4 c5 c6 c7 c8 c9:C):G1 245 [.of (.agg [c1,c2,c3,c4,c5,c6,c7,c8,c9])] (.of (.agg [ci 4,ci 0,ci 0,aJ {data:=#[]},aJ {data:=#[]},aJ {data:=#[]},cb false,.sl [c1,c2,c3,c4,c5,c6,c7,c8,c9] 1,.sl [] 0])):=by
 refine bB aFD ?_
 simp only[↓zA,sevalprocAttr,aPk]
 all_goals exact fz
def awe:=fZ @Tryz.f285.eq_1 @zq @bbR @bbQ @aSx @bG @zT0 (kf awM)
def aEF(a:Xp)(no:Bool):G1 285 [xpE a,aL no] (xpE (ajS no a)):=by
 refine bB awM ?_
 cases no with
 | true =>
  simp only[↓zA,sevalprocAttr,awe,auV]
  all_goals exact fz
 | false =>
  simp only[↓zA,sevalprocAttr,awe]
  all_goals exact fz
def aMu(c1 c2 c3 c4 c5 c6 c7 c8 c9:C):G1 285 [.of (.agg [c1,c2,c3,c4,c5,c6,c7,c8,c9]),aL true] (.of (.agg [ci 4,ci 0,ci 0,aJ {data:=#[]},aJ {data:=#[]},aJ {data:=#[]},cb false,.sl [c1,c2,c3,c4,c5,c6,c7,c8,c9] 1,.sl [] 0])):=by
 have k:=λK=>aH.k (aIF c1 c2 c3 c4 c5 c6 c7 c8 c9) K
 refine bB awM ?_
 simp only[↓zA,sevalprocAttr,awe,k]
 all_goals exact fz
def aMv(c1 c2 c3 c4 c5 c6 c7 c8 c9:C):G1 285 [.of (.agg [c1,c2,c3,c4,c5,c6,c7,c8,c9]),aL false] (.of (.agg [c1,c2,c3,c4,c5,c6,c7,c8,c9])):=by
 refine bB awM ?_
 simp only[↓zA,sevalprocAttr,awe]
 all_goals exact fz
def ayg(c1 c2 c3 c4 c5 c6 c7 c8 c9:C)(K:An->Prop):cKp 285 [.of (.agg [c1,c2,c3,c4,c5,c6,c7,c8,c9]),.of (.lit (.bool true))] [] K↔K ⟨false,[.of (.agg [ci 4,ci 0,ci 0,aJ {data:=#[]},aJ {data:=#[]},aJ {data:=#[]},cb false,.sl [c1,c2,c3,c4,c5,c6,c7,c8,c9] 1,.sl [] 0])],[]⟩:=aH.k (aMu c1 c2 c3 c4 c5 c6 c7 c8 c9) K
def ayh(c1 c2 c3 c4 c5 c6 c7 c8 c9:C)(K:An->Prop):cKp 285 [.of (.agg [c1,c2,c3,c4,c5,c6,c7,c8,c9]),.of (.lit (.bool false))] [] K↔K ⟨false,[.of (.agg [c1,c2,c3,c4,c5,c6,c7,c8,c9])],[]⟩:=aH.k (aMv c1 c2 c3 c4 c5 c6 c7 c8 c9) K
def ahM(a:Xp)(no:Bool)(K:An->Prop):cKp 285 [xpE a,.of (cb no)] [] K↔K ⟨false,[xpE (ajS no a)],[]⟩:=aH.k (aEF a no) K
def ard:=fV (fY @Tryz.f286.eq_1 @zq @bbP @bbO @ab5 @bdc @aTM) (fY @acD @aSv @bbN @aeN @bdb @aTL @aGa) (fY @bbM @bda @aF9 @awU @bG @ep @ao7) (fY @fq @fC @bO @P4 @Q4 @zT0 (kf apF))
def aeQ{l:List Tn}{e:Int}{F:Fs}(hl:l.length<LB)(H:PY l e F)(a:Xp)(i:Nat)(r:Xp×Nat×Bool)(hi:i<=l.length)(hr:alm F l i a=some r):GP 286 [.ptr 0 0,xpE a] [pT l i e] l e [] xpE i r:=by
 refine⟨Pl.at (aK8 H.fp hi) hr,?_⟩
 rcases eWX l i e [108,105,107,101] hl with ⟨c1,b1,t1,x1⟩|⟨c1,t1⟩
 rcases eR (acr F l (i+1) []) λ_=>ai4 hl H _ _ aC with _|⟨_,_,_⟩|⟨a2,j2,_⟩
 rotate_left 3
 rcases eWX l i e [98,101,116,119,101,101,110] hl with ⟨c3,b3,t3,x3⟩|⟨c3,t3⟩
 rcases eR (acr F l (i+1) []) λ_=>ai4 hl H _ _ aC with _|⟨_,_,_⟩|⟨a4,j4,_⟩
 rotate_left 2
 rcases eWX l j4 e [97,110,100] hl with _|_
 rcases eR (acr F l (j4+1) []) λ_=>ai4 hl H _ _ aC with _|⟨_,_,_⟩|⟨a6,j6,_⟩
 rotate_left 4
 rcases eWX l i e [105,110] hl with ⟨c7,b7,t7,x7⟩|⟨c7,t7⟩
 rcases eWX l (i+1) e [40] hl with ⟨c8,b8,t8,x8⟩|⟨c8,t8⟩
 have m2:=mB2 l i e [105,110] [40] hl hi (j:=i+2) (by simp only[dI,c7,c8,sevalprocAttr])
 rcases eR (F.ins (i+2)) λ_=>H.ins _ _ aC with e9|⟨_,_,_⟩|⟨a9,j9,e9,⟨u9,v9⟩,k9⟩
 rotate_left 2
 rcases c10:a9.q with _|_
 have vv:a9.val=a9.e:=by simp only[Th.val,c10,av,ah]
 rcases eWX l j9 e [44] hl with ⟨c11,b11,t11,x11⟩|⟨c11,t11⟩
 .have y12:∃ r',aa1 F l (j9+1)=some r'/\(r'.2.2=true->r.2=r'.2)/\(r'.2.2=false->wantE (bH l r'.2.1 [41]) (dR 21 ([a,a9.val]++r'.1))=some r):=by
   simp only[alm,inS,zRZ,sevalprocAttr,↓reduceIte,c1,c3,c7,c8,e9,c10] at hr
   unfold inL at hr
   simp only[c11,au] at hr
   unfold aa1
   cases ee:F.or (j9+1) [] with
   | none=>rw[ee] at hr;cases hr
   | some q =>
    obtain⟨y,p,q⟩:=q
    rw[ee] at hr
    cases q with
    | true=>cases hr;exact⟨_,rfl,(λ_=>rfl),(λh=>by cases h)⟩
    | false =>
     simp only[Rz.on] at hr ⊢
     exact aqR l.length (l.length+1) [a,a9.val] [y] p r aC hr
  obtain⟨⟨ks,jk,qk⟩,y12a,y12b,y12c⟩:=y12
  have gk:=acE hl H _ _ aC y12a
  obtain⟨uk,vk⟩:=gk.1
  dsimp only at uk vk y12b y12c
  cases qk with
  | true =>
   have kk:=gk.bad
   obtain⟨ra,rj⟩:=r
   have:=y12b rfl
   subst this
   refine bB apF ?_
   simp only[↓zA,sevalprocAttr,ard,bz,pT,zP,zBS,bh,zLX,aiN,awq, *]
   all_goals exact fz
  | false =>
   have kk:=gk.ok
   have hz:=y12c rfl
   have hle:=au1 H y12a
   have hll:(2+ks.length<=LIM)=True:=aa (by dsimp only at hle;unfold LIM;unfold LB at hl;omega)
   rcases eWX l jk e [41] hl with _|_
   rotate_left 2
   all_goals (simp only[wantE,bH,au,ah,av, *] at hz <;> cases hz <;> (refine bB apF ?_;simp only[↓zA,sevalprocAttr,ard,bz,pT,zP,zBS,bh,zLX,aiN,awq, *];all_goals (try simp only[eJ 2 ks.length]);all_goals exact fz))
 rcases eWX l j9 e [41] hl with _|_
 rotate_left 2
 rcases c15:a9.w with _|_
 rcases eWX l j9 e [41] hl with _|_
 rotate_left 2
 have vv:a9.val=af8 26 [] a9.y:=by simp only[Th.val,c10,au]
 rcases eWX l j9 e [44] hl with ⟨c17,b17,t17,x17⟩|⟨c17,t17⟩
 .have y18:∃ r',aa1 F l (j9+1)=some r'/\(r'.2.2=true->r.2=r'.2)/\(r'.2.2=false->wantE (bH l r'.2.1 [41]) (dR 21 ([a,a9.val]++r'.1))=some r):=by
   simp only[alm,inS,db,zRZ,sevalprocAttr,↓reduceIte,c1,c3,c7,c8,e9,c10,c15] at hr
   unfold inL at hr
   simp only[c17,au] at hr
   unfold aa1
   cases ee:F.or (j9+1) [] with
   | none=>rw[ee] at hr;cases hr
   | some q =>
    obtain⟨y,p,q⟩:=q
    rw[ee] at hr
    cases q with
    | true=>cases hr;exact⟨_,rfl,(λ_=>rfl),(λh=>by cases h)⟩
    | false =>
     simp only[Rz.on] at hr ⊢
     exact aqR l.length (l.length+1) [a,a9.val] [y] p r aC hr
  obtain⟨⟨ks,jk,qk⟩,y18a,y18b,y18c⟩:=y18
  have gk:=acE hl H _ _ aC y18a
  obtain⟨uk,vk⟩:=gk.1
  dsimp only at uk vk y18b y18c
  cases qk with
  | true =>
   have kk:=gk.bad
   obtain⟨ra,rj⟩:=r
   have:=y18b rfl
   subst this
   refine bB apF ?_
   simp only[↓zA,sevalprocAttr,ard,bz,pT,zP,zBS,bh,zLX,aiN,awo, *]
   all_goals exact fz
  | false =>
   have kk:=gk.ok
   have hz:=y18c rfl
   have hle:=au1 H y18a
   have hll:(2+ks.length<=LIM)=True:=aa (by dsimp only at hle;unfold LIM;unfold LB at hl;omega)
   rcases eWX l jk e [41] hl with _|_
   rotate_left 2
   all_goals (simp only[wantE,bH,au,ah,av, *] at hz <;> cases hz <;> (refine bB apF ?_;simp only[↓zA,sevalprocAttr,ard,bz,pT,zP,zBS,bh,zLX,aiN,awo, *];all_goals (try simp only[eJ 2 ks.length]);all_goals exact fz))
 rcases eWX l j9 e [41] hl with _|_
 rotate_left 2
 have m2:=aZo l i e [105,110] [40] hl hi (j:=i+1) (by simp only[dI,c7,c8,sevalprocAttr,ah])
 rotate_left
 have m2:=aZo l i e [105,110] [40] hl hi (j:=i) (by simp only[dI,c7,sevalprocAttr,ah])
 rotate_left
 all_goals (simp only[alm,inS,db,dK,zRZ,sevalprocAttr,↓reduceIte,inL, *] at hr <;> cases hr <;> (refine bB apF ?_;simp only[↓zA,sevalprocAttr,ard,bz,pT,zP,zBS,bh,zLX,aiN,awo,awq, *];all_goals exact fz))
def aoP(F:Fs)(l:List Tn)(i:Nat)(pre:List Xp):Rz Xp:=(acr F l i pre).on id λa j=>adA F l j a
def aC4{l:List Tn}{F:Fs}(H:FP l F){p:List Xp}{i:Nat}(hi:i<=l.length):Pl l i (aoP F l i p):=.on (aeO H hi) (ae _) λ_ _ _ h=>.mono (aC3 H h) aC
def aZh(F:Fs)(l:List Tn)(i:Nat):aeF F l i []=if isT l i [110,111,116] then (F.no (i+1)).to (λa=>dR 4 [a]) else aoP F l i []:=by
 unfold aeF
 rw[show decide (([]:List Xp)=[])=true from by simp,dz]
 rfl
def aZg(F:Fs)(l:List Tn)(i:Nat)(x:Xp):aeF F l i [x]=aoP F l i [x]:=by
 unfold aeF
 rw[show decide (([x]:List Xp)=[])=false from by simp,dL]
 rfl
abbrev xpL(a:Xp):List C:=[ci a.op,ci a.v.k,ci a.v.n,aJ a.v.s,aJ (aK a.tb),aJ (aK a.nm),cb a.di,slC xpC a.ks,slC qyC a.sb]
def aoO:List (List UInt8):=[[61],[60,62],[60],[60,61],[62],[62,61]]
def aJj(tk:Tk)(e z:Nat)(l:List (List UInt8))(n:Nat)(hn:n=l.length)(i:Int):bP tP 43 (.own tk e z (fl bI l) n) (.of (.lit (.int .i64 i)))=bP tP 43 (.of (slC bI l)) (.of (.lit (.int .i64 i))):=by
 subst hn
 rw[adP E43 _ _ i _ rfl,adP E43 _ _ i _ rfl]
def aky(tk:Tk)(e z:Nat)(i:Int):bP tP 43 (.own tk e z (fl bI aoO) 6) (.of (.lit (.int .i64 i)))=bP tP 43 (.of (slC bI aoO)) (.of (.lit (.int .i64 i))):=aJj tk e z aoO 6 rfl i
def aC2(k:Nat)(h:k<6):∃ w,aoO[k]?=some w/\aiv.drop k=(w,11+(k:Int))::aiv.drop (k+1):=by
 rcases k with _|_|_|_|_|_|k
 .exact⟨_,rfl,rfl⟩
 .exact⟨_,rfl,rfl⟩
 .exact⟨_,rfl,rfl⟩
 .exact⟨_,rfl,rfl⟩
 .exact⟨_,rfl,rfl⟩
 .exact⟨_,rfl,rfl⟩
 .omega
def aaZ:=fU (fY @Tryz.f246.eq_1 @zq @bbT @aSv @bbS @ab5 @bdd) (fY @aTO @acD @aeN @a8V @azr @a8U @bG) (fX @fq @bO @P9 @Q9 @zT0 (kf asr))
def aOr{l:List Tn}{e:Int}{F:Fs}(hl:l.length<LB)(H:PY l e F)(i:Nat)(r:Xp×Nat×Bool)(hi:i<=l.length)(hr:aoP F l i []=some r):GP 246 [.ptr 0 0] [pT l i e] l e [] xpE i r:=by
 refine⟨Pl.at (aC4 H.fp hi) hr,?_⟩
 unfold aoP at hr
 cases e1:acr F l i [] with
 | none=>rw[e1] at hr;cases hr
 | some q =>
 obtain⟨a,j,q⟩:=q
 have g:=ai4 hl H i _ hi e1
 obtain⟨u,v⟩:=g.1
 dsimp only at u v
 rw[e1] at hr
 cases q with
 | true =>
  have k:=g.bad
  cases hr
  refine bB asr ?_
  simp only[↓zA,sevalprocAttr,aaZ,bz,pT,zP,k]
  all_goals exact fz
 | false =>
 have k:=g.ok
 simp only[Rz.on] at hr
 refine bB asr ?_
 simp only[↓zA,sevalprocAttr,aaZ,bz,pT,zBS,k]
 refine aas 6 (λk s=>s.fr 0=.ptr 0 0/\s.fr 2=.ptr 1 0/\s.fr 3=.of (.ref (xpL a))/\(∃ c x i,s.fr 12=.own (.nm c x i) 9 1 (fl bI aoO) 6)/\s.fr 13=.of (.lit (.int .i64 6))/\s.fr 14=aQ k/\s.objs=[pT l j e,.var 28 xpZ]/\opT l j aiv=opT l j (aiv.drop k)) ?_ ?_
 .and_intros
  all_goals (simp only[↓zA,sevalprocAttr,aaZ,pT];try exact⟨_,_,_,rfl⟩)
 rintro k' ⟨frk,obk,ckk⟩ hk ⟨f0,f2,f3,⟨tc,tx,ti,f12⟩,f13,f14,fo,E⟩
 dsimp only at f0 f2 f3 f12 f13 f14 fo
 rcases aD k' 6 with dk|dk
 .have hw:=er k' aC
  have dk6:((k':Int)<6)=True:=aa aC
  obtain⟨w,gw,gd⟩:=aC2 k' dk
  have gx:aaF aoO (k':Int)=some w:=by rw[akV];exact gw
  have hw2:IntKind.i64.wrap (11+(k':Int))=11+(k':Int):=d9 _ aC aC
  rw[gd] at E
  simp only[opT] at E
  cases c:isT l j w with
  | false =>
   have kt:=λK=>aH.k (acV l j e w hl v) K
   rw[c] at E kt
   simp only[ah,av] at E kt
   simp only[↓zA,sevalprocAttr,aaZ,pT,aky,f0,f2,f3,f12,f13,f14,fo,dk6,gx,hw,kt]
   exact⟨dk,⟨_,_,_,rfl⟩,E⟩
  | true =>
   have hj1:=fF c
   have kt:=λK=>aH.k (acV l j e w hl v) K
   rw[c,am rfl] at E kt
   unfold adA at hr
   rw[E] at hr
   simp only at hr
   cases e2:acr F l (j+1) [] with
   | none=>rw[e2] at hr;cases hr
   | some q =>
    obtain⟨y,m,q⟩:=q
    have g2:=ai4 hl H (j+1) _ hj1 e2
    rw[e2] at hr
    cases hr
    cases q with
    | true =>
     have k2:=g2.bad
     simp only[↓zA,sevalprocAttr,aaZ,zLX,pT,zP,aky,f0,f3,f12,f13,f14,fo,dk6,gx,hw2,kt,k2]
     all_goals exact fz
    | false =>
     have k2:=g2.ok
     simp only[↓zA,sevalprocAttr,aaZ,zLX,pT,zP,zBS,aky,f0,f2,f3,f12,f13,f14,fo,dk6,gx,hw2,kt,k2]
     all_goals exact fz
 have ek:k'=6:=by omega
 subst ek
 rw[show aiv.drop 6=[] from rfl] at E
 simp only[opT] at E
 rcases eWX l j e [105,115] hl with ⟨c1,b1,t1,x1⟩|⟨c1,t1⟩
 rcases eWX l (j+1) e [110,111,116] hl with _|_
 rcases eWX l (j+2) e [110,117,108,108] hl with _|_
 rotate_left 2
 rcases eWX l (j+1) e [110,117,108,108] hl with _|_
 rotate_left 2
 rcases eWX l j e [110,111,116] hl with ⟨c5,b5,t5,x5⟩|⟨c5,t5⟩
 .have z6:=aB4 l (j) e [110,111,116] [108,105,107,101] [98,101,116,119,101,101,110] [105,110] hl aC (b:=true) (by simp only[co,c5,x5,uL,sevalprocAttr,cS,aE])
  have y7:ace F l true (j+1) a=some r:=by simp only[adA,zRZ,sevalprocAttr,↓reduceIte,E,c1,c5] at hr;exact hr
  obtain⟨b7,y7a,y7b⟩:=aeS y7 (.inl rfl)
  have g7:=aeQ hl H a _ _ aC y7a
  obtain⟨ra,rj,rq⟩:=r
  dsimp only at g7 y7b
  cases rq with
  | true =>
   have k7:=g7.bad
   simp only[↓zA,sevalprocAttr,aaZ,pT,zP,zBS,bh,zLX, *]
   all_goals exact fz
  | false =>
   have k7:=g7.ok
   have e7:=y7b rfl
   subst e7
   clear y7b
   simp only[↓zA,sevalprocAttr,aaZ,pT,zP,zBS,bh,zLX,ahM, *]
   all_goals exact fz
 rcases eWX l j e [108,105,107,101] hl with ⟨c8,b8,t8,x8⟩|⟨c8,t8⟩
 .have z9:=aB4 l (j) e [110,111,116] [108,105,107,101] [98,101,116,119,101,101,110] [105,110] hl aC (b:=true) (by simp only[co,c5,c8,x8,uL,sevalprocAttr,cS,aE,bj])
  have y10:ace F l false (j) a=some r:=by simp only[adA,zRZ,sevalprocAttr,↓reduceIte,E,c1,c5] at hr;exact hr
  obtain⟨b10,y10a,y10b⟩:=aeS y10 (.inr (by simp only[co,c8,x8,uL,sevalprocAttr,cS,aE]))
  have g10:=aeQ hl H a _ _ aC y10a
  obtain⟨ra,rj,rq⟩:=r
  dsimp only at g10 y10b
  cases rq with
  | true =>
   have k10:=g10.bad
   simp only[↓zA,sevalprocAttr,aaZ,pT,zP,zBS,bh,zLX, *]
   all_goals exact fz
  | false =>
   have k10:=g10.ok
   have e10:=y10b rfl
   subst e10
   clear y10b
   simp only[↓zA,sevalprocAttr,aaZ,pT,zP,zBS,bh,zLX,ahM, *]
   all_goals exact fz
 rcases eWX l j e [98,101,116,119,101,101,110] hl with ⟨c11,b11,t11,x11⟩|⟨c11,t11⟩
 .have z12:=aB4 l (j) e [110,111,116] [108,105,107,101] [98,101,116,119,101,101,110] [105,110] hl aC (b:=true) (by simp only[co,c5,c8,c11,x11,uL,sevalprocAttr,cS,aE,bj])
  have y13:ace F l false (j) a=some r:=by simp only[adA,zRZ,sevalprocAttr,↓reduceIte,E,c1,c5] at hr;exact hr
  obtain⟨b13,y13a,y13b⟩:=aeS y13 (.inr (by simp only[co,c8,c11,x11,uL,sevalprocAttr,cS,aE,bj]))
  have g13:=aeQ hl H a _ _ aC y13a
  obtain⟨ra,rj,rq⟩:=r
  dsimp only at g13 y13b
  cases rq with
  | true =>
   have k13:=g13.bad
   simp only[↓zA,sevalprocAttr,aaZ,pT,zP,zBS,bh,zLX, *]
   all_goals exact fz
  | false =>
   have k13:=g13.ok
   have e13:=y13b rfl
   subst e13
   clear y13b
   simp only[↓zA,sevalprocAttr,aaZ,pT,zP,zBS,bh,zLX,ahM, *]
   all_goals exact fz
 rcases eWX l j e [105,110] hl with ⟨c14,b14,t14,x14⟩|⟨c14,t14⟩
 .have z15:=aB4 l (j) e [110,111,116] [108,105,107,101] [98,101,116,119,101,101,110] [105,110] hl aC (b:=true) (by simp only[co,c5,c8,c11,c14,sevalprocAttr,aE,bj])
  have y16:ace F l false (j) a=some r:=by simp only[adA,zRZ,sevalprocAttr,↓reduceIte,E,c1,c5] at hr;exact hr
  obtain⟨b16,y16a,y16b⟩:=aeS y16 (.inr (by simp only[co,c8,c11,c14,sevalprocAttr,aE,bj]))
  have g16:=aeQ hl H a _ _ aC y16a
  obtain⟨ra,rj,rq⟩:=r
  dsimp only at g16 y16b
  cases rq with
  | true =>
   have k16:=g16.bad
   simp only[↓zA,sevalprocAttr,aaZ,pT,zP,zBS,bh,zLX, *]
   all_goals exact fz
  | false =>
   have k16:=g16.ok
   have e16:=y16b rfl
   subst e16
   clear y16b
   simp only[↓zA,sevalprocAttr,aaZ,pT,zP,zBS,bh,zLX,ahM, *]
   all_goals exact fz
 have z17:=aB4 l (j) e [110,111,116] [108,105,107,101] [98,101,116,119,101,101,110] [105,110] hl aC (b:=false) (by simp only[co,c5,c8,c11,c14,sevalprocAttr,aE])
 rotate_left
 all_goals (simp only[adA,isS,zRZ,sevalprocAttr,↓reduceIte,ace, *] at hr <;> cases hr <;> (simp only[↓zA,sevalprocAttr,aaZ,pT,zP,zBS,bh,zLX,ayg,ayh, *];all_goals exact fz))
def aJS{l:List Tn}{e:Int}{F:Fs}(hl:l.length<LB)(H:PY l e F)(i:Nat)(x:Xp)(cs:List C)(hx:cs=xpC x)(r:Xp×Nat×Bool)(hi:i<=l.length)(hr:aoP F l i [x]=some r):GP 246 [.ptr 0 0] [pTe l i e,.row 28 cs] l e deE xpE i r:=by
 refine⟨Pl.at (aC4 H.fp hi) hr,?_⟩
 unfold aoP at hr
 cases e1:acr F l i [x] with
 | none=>rw[e1] at hr;cases hr
 | some q =>
 obtain⟨a,j,q⟩:=q
 have g:=aJ0 hl H i x cs hx _ hi e1
 obtain⟨u,v⟩:=g.1
 dsimp only at u v
 rw[e1] at hr
 have lv:adq (some (.row 28 cs))=true:=by rw[hx,ff];rfl
 cases q with
 | true =>
  have k:=g.bad
  cases hr
  refine bB asr ?_
  simp only[↓zA,sevalprocAttr,aaZ,bz,pT,pTe,zP,k,lv]
  all_goals exact fz
 | false =>
 have k:=g.ok
 simp only[Rz.on] at hr
 refine bB asr ?_
 simp only[↓zA,sevalprocAttr,aaZ,bz,pT,pTe,zBS,k,lv]
 refine aas 6 (λk s=>s.fr 0=.ptr 0 0/\s.fr 2=.ptr 2 0/\s.fr 3=.of (.ref (xpL a))/\(∃ c x i,s.fr 12=.own (.nm c x i) 9 1 (fl bI aoO) 6)/\s.fr 13=.of (.lit (.int .i64 6))/\s.fr 14=aQ k/\s.objs=[pT l j e,.row 28 [],.var 28 xpZ]/\opT l j aiv=opT l j (aiv.drop k)) ?_ ?_
 .and_intros
  all_goals (simp only[↓zA,sevalprocAttr,aaZ,pT];try exact⟨_,_,_,rfl⟩)
 rintro k' ⟨frk,obk,ckk⟩ hk ⟨f0,f2,f3,⟨tc,tx,ti,f12⟩,f13,f14,fo,E⟩
 dsimp only at f0 f2 f3 f12 f13 f14 fo
 rcases aD k' 6 with dk|dk
 .have hw:=er k' aC
  have dk6:((k':Int)<6)=True:=aa aC
  obtain⟨w,gw,gd⟩:=aC2 k' dk
  have gx:aaF aoO (k':Int)=some w:=by rw[akV];exact gw
  have hw2:IntKind.i64.wrap (11+(k':Int))=11+(k':Int):=d9 _ aC aC
  rw[gd] at E
  simp only[opT] at E
  cases c:isT l j w with
  | false =>
   have kt:=λK=>aH.k (acV l j e w hl v) K
   rw[c] at E kt
   simp only[ah,av] at E kt
   simp only[↓zA,sevalprocAttr,aaZ,pT,aky,f0,f2,f3,f12,f13,f14,fo,dk6,gx,hw,kt]
   exact⟨dk,⟨_,_,_,rfl⟩,E⟩
  | true =>
   have hj1:=fF c
   have kt:=λK=>aH.k (acV l j e w hl v) K
   rw[c,am rfl] at E kt
   unfold adA at hr
   rw[E] at hr
   simp only at hr
   cases e2:acr F l (j+1) [] with
   | none=>rw[e2] at hr;cases hr
   | some q =>
    obtain⟨y,m,q⟩:=q
    have g2:=ai4 hl H (j+1) _ hj1 e2
    rw[e2] at hr
    cases hr
    cases q with
    | true =>
     have k2:=g2.bad
     simp only[↓zA,sevalprocAttr,aaZ,zLX,pT,zP,aky,f0,f3,f12,f13,f14,fo,dk6,gx,hw2,kt,k2]
     all_goals exact fz
    | false =>
     have k2:=g2.ok
     simp only[↓zA,sevalprocAttr,aaZ,zLX,pT,zP,zBS,aky,f0,f2,f3,f12,f13,f14,fo,dk6,gx,hw2,kt,k2]
     all_goals exact fz
 have ek:k'=6:=by omega
 subst ek
 rw[show aiv.drop 6=[] from rfl] at E
 simp only[opT] at E
 rcases eWX l j e [105,115] hl with ⟨c1,b1,t1,x1⟩|⟨c1,t1⟩
 rcases eWX l (j+1) e [110,111,116] hl with _|_
 rcases eWX l (j+2) e [110,117,108,108] hl with _|_
 rotate_left 2
 rcases eWX l (j+1) e [110,117,108,108] hl with _|_
 rotate_left 2
 rcases eWX l j e [110,111,116] hl with ⟨c5,b5,t5,x5⟩|⟨c5,t5⟩
 .have z6:=aB4 l (j) e [110,111,116] [108,105,107,101] [98,101,116,119,101,101,110] [105,110] hl aC (b:=true) (by simp only[co,c5,x5,uL,sevalprocAttr,cS,aE])
  have y7:ace F l true (j+1) a=some r:=by simp only[adA,zRZ,sevalprocAttr,↓reduceIte,E,c1,c5] at hr;exact hr
  obtain⟨b7,y7a,y7b⟩:=aeS y7 (.inl rfl)
  have g7:=aeQ hl H a _ _ aC y7a
  obtain⟨ra,rj,rq⟩:=r
  dsimp only at g7 y7b
  cases rq with
  | true =>
   have k7:=g7.bad
   simp only[↓zA,sevalprocAttr,aaZ,pT,zP,zBS,bh,zLX, *]
   all_goals exact fz
  | false =>
   have k7:=g7.ok
   have e7:=y7b rfl
   subst e7
   clear y7b
   simp only[↓zA,sevalprocAttr,aaZ,pT,zP,zBS,bh,zLX,ahM, *]
   all_goals exact fz
 rcases eWX l j e [108,105,107,101] hl with ⟨c8,b8,t8,x8⟩|⟨c8,t8⟩
 .have z9:=aB4 l (j) e [110,111,116] [108,105,107,101] [98,101,116,119,101,101,110] [105,110] hl aC (b:=true) (by simp only[co,c5,c8,x8,uL,sevalprocAttr,cS,aE,bj])
  have y10:ace F l false (j) a=some r:=by simp only[adA,zRZ,sevalprocAttr,↓reduceIte,E,c1,c5] at hr;exact hr
  obtain⟨b10,y10a,y10b⟩:=aeS y10 (.inr (by simp only[co,c8,x8,uL,sevalprocAttr,cS,aE]))
  have g10:=aeQ hl H a _ _ aC y10a
  obtain⟨ra,rj,rq⟩:=r
  dsimp only at g10 y10b
  cases rq with
  | true =>
   have k10:=g10.bad
   simp only[↓zA,sevalprocAttr,aaZ,pT,zP,zBS,bh,zLX, *]
   all_goals exact fz
  | false =>
   have k10:=g10.ok
   have e10:=y10b rfl
   subst e10
   clear y10b
   simp only[↓zA,sevalprocAttr,aaZ,pT,zP,zBS,bh,zLX,ahM, *]
   all_goals exact fz
 rcases eWX l j e [98,101,116,119,101,101,110] hl with ⟨c11,b11,t11,x11⟩|⟨c11,t11⟩
 .have z12:=aB4 l (j) e [110,111,116] [108,105,107,101] [98,101,116,119,101,101,110] [105,110] hl aC (b:=true) (by simp only[co,c5,c8,c11,x11,uL,sevalprocAttr,cS,aE,bj])
  have y13:ace F l false (j) a=some r:=by simp only[adA,zRZ,sevalprocAttr,↓reduceIte,E,c1,c5] at hr;exact hr
  obtain⟨b13,y13a,y13b⟩:=aeS y13 (.inr (by simp only[co,c8,c11,x11,uL,sevalprocAttr,cS,aE,bj]))
  have g13:=aeQ hl H a _ _ aC y13a
  obtain⟨ra,rj,rq⟩:=r
  dsimp only at g13 y13b
  cases rq with
  | true =>
   have k13:=g13.bad
   simp only[↓zA,sevalprocAttr,aaZ,pT,zP,zBS,bh,zLX, *]
   all_goals exact fz
  | false =>
   have k13:=g13.ok
   have e13:=y13b rfl
   subst e13
   clear y13b
   simp only[↓zA,sevalprocAttr,aaZ,pT,zP,zBS,bh,zLX,ahM, *]
   all_goals exact fz
 rcases eWX l j e [105,110] hl with ⟨c14,b14,t14,x14⟩|⟨c14,t14⟩
 .have z15:=aB4 l (j) e [110,111,116] [108,105,107,101] [98,101,116,119,101,101,110] [105,110] hl aC (b:=true) (by simp only[co,c5,c8,c11,c14,sevalprocAttr,aE,bj])
  have y16:ace F l false (j) a=some r:=by simp only[adA,zRZ,sevalprocAttr,↓reduceIte,E,c1,c5] at hr;exact hr
  obtain⟨b16,y16a,y16b⟩:=aeS y16 (.inr (by simp only[co,c8,c11,c14,sevalprocAttr,aE,bj]))
  have g16:=aeQ hl H a _ _ aC y16a
  obtain⟨ra,rj,rq⟩:=r
  dsimp only at g16 y16b
  cases rq with
  | true =>
   have k16:=g16.bad
   simp only[↓zA,sevalprocAttr,aaZ,pT,zP,zBS,bh,zLX, *]
   all_goals exact fz
  | false =>
   have k16:=g16.ok
   have e16:=y16b rfl
   subst e16
   clear y16b
   simp only[↓zA,sevalprocAttr,aaZ,pT,zP,zBS,bh,zLX,ahM, *]
   all_goals exact fz
 have z17:=aB4 l (j) e [110,111,116] [108,105,107,101] [98,101,116,119,101,101,110] [105,110] hl aC (b:=false) (by simp only[co,c5,c8,c11,c14,sevalprocAttr,aE])
 rotate_left
 all_goals (simp only[adA,isS,zRZ,sevalprocAttr,↓reduceIte,ace, *] at hr <;> cases hr <;> (simp only[↓zA,sevalprocAttr,aaZ,pT,zP,zBS,bh,zLX,ayg,ayh, *];all_goals exact fz))
def aDH:=ai (gh @Tryz.f152.eq_1 @zq @bbV @ab5 @aSD @aSx @a9c @bG @acI) (gh @abb @aba @aa9 @aa8 @aa7 @aa6 @fq @zT0 (kf aFH))
def aqB{l:List Tn}{e:Int}{F:Fs}(hl:l.length<LB)(H:PY l e F)(i:Nat)(r:Xp×Nat×Bool)(hi:i<=l.length)(hr:aeF F l i []=some r):GP 152 [.ptr 0 0] [pT l i e] l e [] xpE i r:=by
 refine⟨Pl.at (apu H.fp hi) hr,?_⟩
 rcases eW l i e [110,111,116] hl with _|_
 rcases eR (F.no (i+1)) λ_=>H.no _ _ aC with _|⟨_,_,_⟩|⟨a2,j2,_⟩
 rotate_left 3
 rcases eR (aoP F l i []) λ_=>aOr hl H _ _ aC with _|⟨_,_,_⟩|⟨a3,j3,_⟩
 rotate_left 3
 all_goals (simp only[aZh,zRZ,sevalprocAttr,↓reduceIte, *] at hr <;> cases hr <;> (refine bB aFH ?_;simp only[↓zA,sevalprocAttr,aDH,bz,pT,zP,bh,auV, *];all_goals exact fz))
def aIz{l:List Tn}{e:Int}{F:Fs}(hl:l.length<LB)(H:PY l e F)(i:Nat)(x:Xp)(cs:List C)(hx:cs=xpC x)(r:Xp×Nat×Bool)(hi:i<=l.length)(hr:aeF F l i [x]=some r):GP 152 [.ptr 0 0] [pTe l i e,.row 28 cs] l e deE xpE i r:=by
 rw[aZg] at hr
 have g:=aJS hl H i x cs hx r hi hr
 have lv:adq (some (.row 28 cs))=true:=by rw[hx,ff];rfl
 refine⟨g.1,?_⟩
 obtain⟨a,j,q⟩:=r
 refine bB aFH ?_
 cases q with
 | true =>
  have k:=g.bad
  simp only[↓zA,sevalprocAttr,aDH,bz,pT,pTe,zP,k,lv]
  all_goals exact fz
 | false =>
  have k:=g.ok
  simp only[↓zA,sevalprocAttr,aDH,bz,pT,pTe,zP,k,lv]
  all_goals exact fz
def aWX:=ai (fW @Tryz.f67.eq_1 @zq @bb1 @azs @bG) (fW @bO @ahE @aSD @zT0 (kf aN0))
def azT{l:List Tn}{e:Int}{F:Fs}(hl:l.length<LB)(H:PY l e F)(i:Nat)(r:Xp×Nat×Bool)(hi:i<=l.length)(hr:ak4 F l i []=some r):GP 67 [.ptr 0 0] [pT l i e] l e [] xpE i r:=by
 have g:=ajD (e:=e) hl 305 152 aI (aA aI) aIv aPE aDe (aeF F l) [([97,110,100],17)] aI (λi r h1 h2=>aqB hl H i r h1 h2) i r hi hr
 refine⟨g.1,?_⟩
 have k:∀ K,cKp 66 [.ptr 0 0,.clo 305 [.ptr 0 0],.of (.sl [.lit (.string (ByteArray.mk (List.toArray [97,110,100])))] 1),.of (.sl [ci 17] 1)] [pT l i e] K↔K (bz l e xpE r []):=λK=>aH.k g.2 K
 refine bB aN0 ?_
 obtain⟨a,j,b⟩:=r
 cases b <;> (simp only[↓zA,sevalprocAttr,aWX,bz,pT,zP,k];all_goals exact fz)
def aKx{l:List Tn}{e:Int}{F:Fs}(hl:l.length<LB)(H:PY l e F)(i:Nat)(x:Xp)(cs:List C)(hx:cs=xpC x)(r:Xp×Nat×Bool)(hi:i<=l.length)(hr:ak4 F l i [x]=some r):GP 67 [.ptr 0 0] [pTe l i e,.row 28 cs] l e deE xpE i r:=by
 have g:=aim (e:=e) hl 305 152 aI (aA aI) aIv aPE aDe (aeF F l) [([97,110,100],17)] aI (λi r h1 h2=>aqB hl H i r h1 h2) x cs hx (λi r h1 h2=>aIz hl H i x cs hx r h1 h2) i r hi hr
 refine⟨g.1,?_⟩
 have k:∀ K,cKp 66 [.ptr 0 0,.clo 305 [.ptr 0 0],.of (.sl [.lit (.string (ByteArray.mk (List.toArray [97,110,100])))] 1),.of (.sl [ci 17] 1)] [pTe l i e,.row 28 cs] K↔K (bz l e xpE r deE):=λK=>aH.k g.2 K
 have lv:adq (some (.row 28 cs))=true:=by rw[hx,ff];rfl
 refine bB aN0 ?_
 obtain⟨a,j,b⟩:=r
 cases b <;> (simp only[↓zA,sevalprocAttr,aWX,bz,pT,pTe,zP,k,lv];all_goals exact fz)
def aW0:=gh @Tryz.f31.eq_1 @zq @bb2 @azs @bG @bO @ahE @zT0 (kf aN3)
def aTZ{l:List Tn}{e:Int}{F:Fs}(hl:l.length<LB)(H:PY l e F)(i:Nat)(r:Xp×Nat×Bool)(hi:i<=l.length)(hr:orS F l i []=some r):GP 31 [.ptr 0 0] [pT l i e] l e [] xpE i r:=by
 have g:=ajD (e:=e) hl 135 67 aI (aA aI) aQd aXm aJ3 (ak4 F l) [([111,114],18)] aI (λi r h1 h2=>azT hl H i r h1 h2) i r hi hr
 refine⟨g.1,?_⟩
 have k:∀ K,cKp 66 [.ptr 0 0,.clo 135 [.ptr 0 0],.of (.sl [.lit (.string (ByteArray.mk (List.toArray [111,114])))] 1),.of (.sl [ci 18] 1)] [pT l i e] K↔K (bz l e xpE r []):=λK=>aH.k g.2 K
 refine bB aN3 ?_
 obtain⟨a,j,b⟩:=r
 cases b <;> (simp only[↓zA,sevalprocAttr,aW0,bz,pT,zP,k];all_goals exact fz)
def aMf{l:List Tn}{e:Int}{F:Fs}(hl:l.length<LB)(H:PY l e F)(i:Nat)(x:Xp)(cs:List C)(hx:cs=xpC x)(r:Xp×Nat×Bool)(hi:i<=l.length)(hr:orS F l i [x]=some r):GP 31 [.ptr 0 0] [pTe l i e,.row 28 cs] l e deE xpE i r:=by
 have g:=aim (e:=e) hl 135 67 aI (aA aI) aQd aXm aJ3 (ak4 F l) [([111,114],18)] aI (λi r h1 h2=>azT hl H i r h1 h2) x cs hx (λi r h1 h2=>aKx hl H i x cs hx r h1 h2) i r hi hr
 refine⟨g.1,?_⟩
 have k:∀ K,cKp 66 [.ptr 0 0,.clo 135 [.ptr 0 0],.of (.sl [.lit (.string (ByteArray.mk (List.toArray [111,114])))] 1),.of (.sl [ci 18] 1)] [pTe l i e,.row 28 cs] K↔K (bz l e xpE r deE):=λK=>aH.k g.2 K
 have lv:adq (some (.row 28 cs))=true:=by rw[hx,ff];rfl
 refine bB aN3 ?_
 obtain⟨a,j,b⟩:=r
 cases b <;> (simp only[↓zA,sevalprocAttr,aW0,bz,pT,pTe,zP,k,lv];all_goals exact fz)
abbrev stE(s:List UInt8):X:=.of (aJ (aK s))
def aOS{l:List Tn}{i:Nat}(hi:i<=l.length):Pl l i (some (eM l i)):=λa j b h=>by
 have:=alN hi
 rw[ay h] at this
 exact this
def asT(l:List Tn)(i:Nat):List UInt8×Nat×Bool:=if isT l i [97,115] then cd l (i+1) else cd l i
def a93{l:List Tn}{i:Nat}(hi:i<=l.length):Pl l i (some (asT l i)):=λa j b h=>by
 have h:=ay h
 unfold asT at h
 split at h
 .rename_i c;have:=ahx (dA c);rw[h] at this;exact⟨by have:=this.1;dsimp only at this;omega,this.2⟩
 .have:=ahx hi;rw[h] at this;exact this
def aPg:=fY @Tryz.f311.eq_1 @zq @ab5 @apI @ak0 @zT0 (kf aFA)
def abu{l:List Tn}(e:Int)(hl:l.length<LB)  (i:Nat) (r:List UInt8×Nat×Bool) (hi:i<=l.length) (hr:some (eM l i)=some r):GP 311 [.ptr 0 0,.of (.lit (.bool false))] [pT l i e] l e [] stE i r:=by
 refine⟨Pl.at (aOS hi) hr,?_⟩
 rcases eWX l i e [97,115] hl with _|_
 rcases afl l (i+1) e hl with _|_
 rotate_left 2
 rcases afl l i e hl with _|_
 rotate_left 2
 all_goals (simp only[eM,cd,zRZ,sevalprocAttr,↓reduceIte, *] at hr <;> cases hr <;> (refine bB aFA ?_;simp only[↓zA,sevalprocAttr,aPg,bz,pT,zP,bh, *];all_goals exact fz))
def ajo{l:List Tn}(e:Int)(hl:l.length<LB)  (i:Nat) (r:List UInt8×Nat×Bool) (hi:i<=l.length) (hr:some (asT l i)=some r):GP 311 [.ptr 0 0,.of (.lit (.bool true))] [pT l i e] l e [] stE i r:=by
 refine⟨Pl.at (a93 hi) hr,?_⟩
 rcases eWX l i e [97,115] hl with _|_
 rcases afl l (i+1) e hl with _|_
 rotate_left 2
 rcases afl l i e hl with _|_
 rotate_left 2
 all_goals (simp only[asT,cd,zRZ,sevalprocAttr,↓reduceIte, *] at hr <;> cases hr <;> (refine bB aFA ?_;simp only[↓zA,sevalprocAttr,aPg,bz,pT,zP,bh, *];all_goals exact fz))
def a1K{l:List Tn}(T:TL l)(i:Nat):isT l i [46]=(decide ((bS l i).k=5)&&decide ((bS l i).s=[46])):=by
 rw[amy]
 by_cases h:(bS l i).k=1
 .rcases aD i l.length with g|g
  .have:=(T.w _ (ajv g) h).1
   rw[bw this,cW,cW]
  .rw[ahF g] at h;cases h
 .rw[bw h,eN]
def aTf{l:List Tn}(T:TL l)(i:Nat):isT l i [42]=(decide ((bS l i).k=5)&&decide ((bS l i).s=[42])):=by
 rw[amy]
 by_cases h:(bS l i).k=1
 .rcases aD i l.length with g|g
  .have:=(T.w _ (ajv g) h).2
   rw[bw this,cW,cW]
  .rw[ahF g] at h;cases h
 .rw[bw h,eN]
def a3E:=fU (gh @zq @bbg @ab5 @anO @bbf @bbe @apI @bcX @ak2) (gh @bbd @aF8 @ab7 @acI @abb @aba @aa9 @aa8 @aa7) (gh @aa6 @acv @acn @P3 @Q3 @P9 @Q9 @zT0 (kf aQB))
def alA{l:List Tn}{e:Int}{F:Fs}(hl:l.length<LB)(H:PY l e F)(i:Nat)(r:Im×Nat×Bool)(hi:i<=l.length)(hr:aec F l i=some r):GP 296 [.ptr 0 0] [pT l i e] l e [] imE i r:=by
 refine⟨Pl.at (akS H.fp hi) hr,?_⟩
 have p0:=pK l i e hl hi
 have hd:=a1K H.tl (i+1)
 have hs:=aTf H.tl (i+2)
 have hl1:(aK (bS l (i+1)).s=({data:=#[46]}:ByteArray))=((bS l (i+1)).s=[46]):=cJ _ _
 have hl2:(aK (bS l (i+2)).s=({data:=#[42]}:ByteArray))=((bS l (i+2)).s=[42]):=cJ _ _
 rcases eWX l i e [42] hl with _|_
 rotate_left
 rcases afl l i e hl with _|_
 rcases cr ((bS l (i+1)).k=5) with d3|d3
 rcases cr ((bS l (i+1)).s=[46]) with d4|d4
 rcases cr ((bS l (i+2)).k=5) with d5|d5
 rcases cr ((bS l (i+2)).s=[42]) with d6|d6
 have hb:i+2<l.length:=by
  rcases aD (i+2) l.length with g|g
  .exact g
  .have cc:=of_eq_true d5;rw[ahF g] at cc;cases cc
 have hw3:IntKind.i64.wrap ((i:Int)+3)=((i+3:Nat):Int):=by rw[d9 _ aC (by unfold LB at hl;omega)];rfl
 have hw4:IntKind.i64.wrap (((i+3:Nat):Int)-3)=(i:Int):=by rw[d9 _ aC (by unfold LB at hl;omega)];omega
 have gx:=afE (l:=l) (i:=i) aC
 rotate_left
 rcases eR (F.or i []) λ_=>H.or _ _ aC with _|⟨_,_,_⟩|⟨a7,j7,_⟩
 rotate_left 2
 rcases e8:eM l j7 with ⟨a8,j8,_|_⟩
 obtain⟨⟨u8,v8⟩,k8⟩:=(abu e hl _ _ aC (congrArg some e8)).okA
 rotate_left
 obtain⟨⟨u8,v8⟩,k8⟩:=(abu e hl _ _ aC (congrArg some e8)).badA
 rotate_left
 rcases eR (F.or i []) λ_=>H.or _ _ aC with _|⟨_,_,_⟩|⟨a9,j9,_⟩
 rotate_left 2
 rcases e10:eM l j9 with ⟨a10,j10,_|_⟩
 obtain⟨⟨u10,v10⟩,k10⟩:=(abu e hl _ _ aC (congrArg some e10)).okA
 rotate_left
 obtain⟨⟨u10,v10⟩,k10⟩:=(abu e hl _ _ aC (congrArg some e10)).badA
 rotate_left
 rcases eR (F.or i []) λ_=>H.or _ _ aC with _|⟨_,_,_⟩|⟨a11,j11,_⟩
 rotate_left 2
 rcases e12:eM l j11 with ⟨a12,j12,_|_⟩
 obtain⟨⟨u12,v12⟩,k12⟩:=(abu e hl _ _ aC (congrArg some e12)).okA
 rotate_left
 obtain⟨⟨u12,v12⟩,k12⟩:=(abu e hl _ _ aC (congrArg some e12)).badA
 rotate_left
 rcases eR (F.or i []) λ_=>H.or _ _ aC with _|⟨_,_,_⟩|⟨a13,j13,_⟩
 rotate_left 2
 rcases e14:eM l j13 with ⟨a14,j14,_|_⟩
 obtain⟨⟨u14,v14⟩,k14⟩:=(abu e hl _ _ aC (congrArg some e14)).okA
 rotate_left
 obtain⟨⟨u14,v14⟩,k14⟩:=(abu e hl _ _ aC (congrArg some e14)).badA
 rotate_left
 rcases eR (F.or i []) λ_=>H.or _ _ aC with _|⟨_,_,_⟩|⟨a15,j15,_⟩
 rotate_left 2
 rcases e16:eM l j15 with ⟨a16,j16,_|_⟩
 obtain⟨⟨u16,v16⟩,k16⟩:=(abu e hl _ _ aC (congrArg some e16)).okA
 rotate_left
 obtain⟨⟨u16,v16⟩,k16⟩:=(abu e hl _ _ aC (congrArg some e16)).badA
 rotate_left
 all_goals (simp only[aec,zRZ,sevalprocAttr,↓reduceIte, *] at hr <;> cases hr <;> (refine bB aQB ?_;simp only[Tryz.f296,↓zA,sevalprocAttr,a3E,bz,pT,zP,bh,bG,aro, *];all_goals exact fz))
def byR(l:List Tn)(i:Nat):Rz Od:=if br l i 2||(br l i 3&&decide (0<nuT l i)) then
  some (⟨if br l i 2 then txT l i else [],if br l i 2 then 0 else nuT l i,isT l (i+1) [100,101,115,99]⟩,(if isT l (i+1) [97,115,99]||isT l (i+1) [100,101,115,99] then i+2 else i+1),false)
 else some (⟨[],0,false⟩,i,true)
def a2B{l:List Tn}{i:Nat}(hi:i<=l.length):Pl l i (byR l i):=by
 unfold byR
 split
 .rename_i c
  have h1:i+1<=l.length:=by
   rw[bN,ap] at c
   rcases c with c|c
   .exact eZ c
   .exact eZ c.1
  have h2:i<=(if (isT l (i+1) [97,115,99]||isT l (i+1) [100,101,115,99])=true then i+2 else i+1)/\(if (isT l (i+1) [97,115,99]||isT l (i+1) [100,101,115,99])=true then i+2 else i+1)<=l.length:=by
   split
   .rename_i c2
    rw[bN] at c2
    rcases c2 with c2|c2
    .have:=dA c2;omega
    .have:=dA c2;omega
   .omega
  exact .so h2.1 h2.2
 .exact .so (ae _) hi
def bal:=ai (fY @zq @bbq @bbp @apI @ak0 @anO @ak1) (fX @a2e @ab5 @ab7 @ahd @zT0 (kf a0H))
def apK{l:List Tn}(e:Int)(hl:l.length<LB)(TT0:TL l)(i:Nat)(r:Od×Nat×Bool)(hi:i<=l.length)(hr:byR l i=some r):GP 80 [.ptr 0 0] [pT l i e] l e [] odE i r:=by
 refine⟨Pl.at (a2B hi) hr,?_⟩
 have p0:=pK l i e hl hi
 have hn:0<=(bS l i).n:=by
  rcases aD i l.length with g|g
  .exact TT0.n _ (ajv g)
  .rw[ahF g];exact ac5 _
 have pt:=awx (bS l i)
 rcases aOe l i e hl with _|_
 rcases eWQ l (i+1) e [97,115,99] hl with _|_
 rotate_left
 rcases eWQ l (i+1) e [100,101,115,99] hl with _|_
 rotate_left 2
 rcases a1J l i e hl with _|_
 have gk:=gK l i e hl hi
 rcases eP (0<(bS l i).n) with ⟨c5,d5⟩|⟨c5,d5⟩
 have hz:((bS l i).n=0)=False:=aA aC
 rcases eWQ l (i+1) e [97,115,99] hl with _|_
 rotate_left
 rcases eWQ l (i+1) e [100,101,115,99] hl with _|_
 rotate_left 2
 have hz:((bS l i).n=0)=True:=aa aC
 rotate_left 2
 all_goals (simp only[byR,aye,aE,bj,zRZ,sevalprocAttr,↓reduceIte, *] at hr <;> cases hr <;> (refine bB a0H ?_;simp only[Tryz.f80,↓zA,sevalprocAttr,bal,bz,pT,zP,bh,aye, *];all_goals exact fz))
abbrev qyL(a:Qy):List C:=[ci a.op,cb a.al,slC qyC a.ks,cb a.di,slC imC a.its,slC fmC a.fr,slC xpC a.wh,slC xpC a.gr,slC xpC a.hv,slC odC a.od,ci a.li,ci a.sk]
abbrev qyV(a:Qy):List X:=[.of (ci a.op),.of (cb a.al),.of (slC qyC a.ks),.of (cb a.di),.of (slC imC a.its),.of (slC fmC a.fr),.of (slC xpC a.wh),.of (slC xpC a.gr),.of (slC xpC a.hv),.of (slC odC a.od),.of (ci a.li),.of (ci a.sk)]
abbrev qyZ:List X:=[.of (ci 0),.of (cb false),.nil,.of (cb false),.nil,.nil,.nil,.nil,.nil,.nil,.of (ci 0),.of (ci 0)]
abbrev baT(o:Int)(al:Bool)(cs:List C)(y:Qy):X:=.of (.agg [ci o,cb al,.sl (cs++qyL y) 2,cb false,.sl [] 0,.sl [] 0,.sl [] 0,.sl [] 0,.sl [] 0,.sl [] 0,ci (-1),ci 0])
def aDt:=ai (fX @Tryz.f77.eq_1 @zq @bbu @bbt @ab5 @bc2) (fX @aYg @acD @ep @fC @zT0 (kf aNZ))
def aiG{l:List Tn}{e:Int}(hl:l.length<LB)(cl f:Nat)(hf:cl / 2=f)(hm:(cl % 2=0)=False)(ho:ade f=true)(hk:tkF f=false)(hc:ew Tryz.prog f=true)(nx:Nat->List Qy->Rz Qy)
  (N:∀ i r,i<=l.length->nx i []=some r->GP f [.ptr 0 0] [pT l i e] l e [] qyE i r) (op:Int) (c1 c2 c3 c4 c5 c6 c7 c8 c9 c10 c11 c12:C) (i:Nat) (r:Qy×Nat×Bool) (hi:i<=l.length) (hr:nx (if isT l i [97,108,108]=true then i+1 else i) []=some r) :
  GP 77 [.ptr 0 0,.of (ci op),.agg [.of c1,.of c2,.of c3,.of c4,.of c5,.of c6,.of c7,.of c8,.of c9,.of c10,.of c11,.of c12],.clo cl [.ptr 0 0]] [pT l i e] l e [] (baT op (isT l i [97,108,108]) [c1,c2,c3,c4,c5,c6,c7,c8,c9,c10,c11,c12]) i r:=by
 cases c:isT l i [97,108,108] with
 | true =>
  have hi1:=fF c
  have t:=wT l i e [97,108,108] hl c
  rw[c,am rfl] at hr
  have g:=N _ _ hi1 hr
  obtain⟨⟨u,v⟩,g2⟩:=g
  refine⟨⟨by omega,v⟩,?_⟩
  obtain⟨y,j,q⟩:=r
  refine bB aNZ ?_
  cases q with
  | true =>
   have k:∀ K,cKp f [.ptr 0 0] [pT l (i+1) e] K↔K ⟨true,[aaJ l j e],[pT l j e]⟩:=λK=>aH.k g2 K
   simp only[↓zA,sevalprocAttr,aDt,bz,zLX,pT,zP,hf,hm,ho,hk,hc,t,k]
   all_goals exact fz
  | false =>
   have k:∀ K,cKp f [.ptr 0 0] [pT l (i+1) e] K↔K ⟨false,[qyE y],[pT l j e]⟩:=λK=>aH.k g2 K
   simp only[↓zA,sevalprocAttr,aDt,bz,zLX,pT,zP,zBS,hf,hm,ho,hk,hc,t,k]
   all_goals exact fz
 | false =>
  have t:=wF l i e [97,108,108] hl hi c
  rw[c] at hr
  simp only[ah,av] at hr
  have g:=N _ _ hi hr
  obtain⟨⟨u,v⟩,g2⟩:=g
  refine⟨⟨u,v⟩,?_⟩
  obtain⟨y,j,q⟩:=r
  refine bB aNZ ?_
  cases q with
  | true =>
   have k:∀ K,cKp f [.ptr 0 0] [pT l i e] K↔K ⟨true,[aaJ l j e],[pT l j e]⟩:=λK=>aH.k g2 K
   simp only[↓zA,sevalprocAttr,aDt,bz,zLX,pT,zP,hf,hm,ho,hk,hc,t,k]
   all_goals exact fz
  | false =>
   have k:∀ K,cKp f [.ptr 0 0] [pT l i e] K↔K ⟨false,[qyE y],[pT l j e]⟩:=λK=>aH.k g2 K
   simp only[↓zA,sevalprocAttr,aDt,bz,zLX,pT,zP,zBS,hf,hm,ho,hk,hc,t,k]
   all_goals exact fz
def amH(F:Fs)(l:List Tn)(i:Nat):Rz Qy:=wantR (bH l i [115,101,108,101,99,116]) y0 λj=>ajO F l j
def aF4{l:List Tn}{F:Fs}(H:FP l F){i:Nat}(hi:i<=l.length):Pl l i (amH F l i):=.wR aC aC λ_=>.mono (aCl H aC) aC
abbrev atu(di:Bool)(its:List Im):List X:=[.of (ci 1),.of (cb false),.nil,.of (cb di),.own (.cell 2 4) 138 12 (fl imC its) its.length,.nil,.nil,.nil,.nil,.nil,.of (ci (-1)),.of (ci 0)]
def am6(F:Fs)(l:List Tn)(di:Bool)(n:Nat)(its:List Im)(j:Nat):Rz Qy:=if isT l j [44] then aga F l di n its (j+1) else ahu F l di its j
def arE(F:Fs)(l:List Tn)(di:Bool)(n:Nat)(its:List Im)(i:Nat):aga F l di (n+1) its i=(aec F l i).on (λ_=>aiH di its [] [] [] []) λx j=>am6 F l di n (its++[x]) j:=rfl
def agw:=fU (fZ @Tryz.f257.eq_1 @zq @bbj @aeN @ab5 @bbi @a8T @bcY) (fZ @aTN @acD @aSu @ak2 @awU @bG @ep @acv) (fY @eG @fq @ahr @acC @bO @zT0 (kf apG))
def aBe{l:List Tn}{e:Int}{F:Fs}(hl:l.length<LB)(H:PY l e F)(i:Nat)(r:Qy×Nat×Bool)(hi:i<=l.length)(c1:isT l i [115,101,108,101,99,116]=true)(c2:isT l (i+1) [100,105,115,116,105,110,99,116]=true)(hr:aga F l true (l.length+1) [] (i+2)=some r):aH Tryz.prog pr 257 [.ptr 0 0] [pT l i e] (bz l e qyE r []):=by
 have b1:=fF c1
 have t1:=wT l i e [115,101,108,101,99,116] hl c1
 have t2:=wT l (i+1) e [100,105,115,116,105,110,99,116] hl c2
 have b2:=fF c2
 rw[arE] at hr
 cases e1:aec F l (i+2) with
 | none=>rw[e1] at hr;cases hr
 | some q =>
 obtain⟨a,j,q⟩:=q
 have g:=alA hl H _ _ aC e1
 obtain⟨u,v⟩:=g.1
 dsimp only at u v
 rw[e1] at hr
 cases q with
 | true =>
  have k:=g.bad
  cases hr
  refine bB apG ?_
  simp only[↓zA,sevalprocAttr,agw,bz,pT,zP,bh,t1,t2,k]
  all_goals exact fz
 | false =>
 have k:=g.ok
 simp only[Rz.on,cj] at hr
 refine bB apG ?_
 simp only[↓zA,sevalprocAttr,agw,bz,pT,bh,t1,t2,k,acv]
 refine aaj _ _ (λn s=>∃ its j,s.fr 0=.ptr 0 0/\s.fr 2=.ptr 1 0/\s.fr 3=.ptr 2 0/\s.objs=[pT l j e,.var 38 qyZ,.var 38 (atu true its)]/\am6 F l true n its j=some r/\j<=l.length/\its.length<=j) ?_ l.length _ ?_
 .rintro n ⟨frn,obn,ckn⟩ ⟨its,j,f0,f2,f3,fo,E,hj,hk⟩
  dsimp only at f0 f2 f3 fo
  have hL:its.length+1<=LIM:=by unfold LIM;unfold LB at hl;omega
  have hit:(its.length+1<=LIM)=True:=aa hL
  rcases eW l j e [44] hl with ⟨c1,b1,t1⟩|⟨c1,t1⟩
  .cases n with
   | zero=>simp only[am6,c1,au,aga] at E;cases E
   | succ m =>
   simp only[am6,c1,au,arE] at E
   rcases eR (aec F l (j+1)) λ_=>alA hl H _ _ aC with e2|⟨a2,j2,e2,⟨u2,v2⟩,k2⟩|⟨a2,j2,e2,⟨u2,v2⟩,k2⟩
   rotate_left
   .simp only[zRZ,sevalprocAttr,e2] at E
    cases E
    simp only[↓zA,sevalprocAttr,agw,pT,zP,bh,zLX,acv, *]
    all_goals exact fz
   .simp only[zRZ,sevalprocAttr,e2] at E
    simp only[↓zA,sevalprocAttr,agw,pT,zP,bh,zLX,bG,eG,acv,ec, *]
    refine⟨m,aP m,its++[a2],j2,?_,E,v2,by simp only[aeX];omega⟩
    simp only[atu]
    simp only[zVW]
    all_goals rfl
   all_goals (simp only[ahu,ah5,ah7,ah6,aaS,zRZ,sevalprocAttr, *] at E <;> cases E)
  rcases eW l j e [102,114,111,109] hl with _|_
  rcases eR (F.fr (j+1) []) λ_=>H.fr _ _ aC with _|⟨_,_,_⟩|⟨a4,j4,_⟩
  rotate_left 2
  rcases eW l j4 e [119,104,101,114,101] hl with _|_
  rcases eR (F.or (j4+1) []) λ_=>H.or _ _ aC with _|⟨_,_,_⟩|⟨a6,j6,_⟩
  rotate_left 2
  rcases eW l j6 e [103,114,111,117,112] hl with _|_
  rcases eW l (j6+1) e [98,121] hl with _|_
  rcases eR (aa1 F l (j6+2)) λ_=>acE hl H _ _ aC with _|⟨_,_,_⟩|⟨a9,j9,_⟩
  rotate_left 2
  rcases eW l j9 e [104,97,118,105,110,103] hl with _|_
  rcases eR (F.or (j9+1) []) λ_=>H.or _ _ aC with _|⟨_,_,_⟩|⟨a11,j11,_⟩
  rotate_left 5
  rcases eW l j6 e [104,97,118,105,110,103] hl with _|_
  rcases eR (F.or (j6+1) []) λ_=>H.or _ _ aC with _|⟨_,_,_⟩|⟨a13,j13,_⟩
  rotate_left 4
  rcases eW l j4 e [103,114,111,117,112] hl with _|_
  rcases eW l (j4+1) e [98,121] hl with _|_
  rcases eR (aa1 F l (j4+2)) λ_=>acE hl H _ _ aC with _|⟨_,_,_⟩|⟨a16,j16,_⟩
  rotate_left 2
  rcases eW l j16 e [104,97,118,105,110,103] hl with _|_
  rcases eR (F.or (j16+1) []) λ_=>H.or _ _ aC with _|⟨_,_,_⟩|⟨a18,j18,_⟩
  rotate_left 5
  rcases eW l j4 e [104,97,118,105,110,103] hl with _|_
  rcases eR (F.or (j4+1) []) λ_=>H.or _ _ aC with _|⟨_,_,_⟩|⟨a20,j20,_⟩
  rotate_left 4
  rcases eW l j e [119,104,101,114,101] hl with _|_
  rcases eR (F.or (j+1) []) λ_=>H.or _ _ aC with _|⟨_,_,_⟩|⟨a22,j22,_⟩
  rotate_left 2
  rcases eW l j22 e [103,114,111,117,112] hl with _|_
  rcases eW l (j22+1) e [98,121] hl with _|_
  rcases eR (aa1 F l (j22+2)) λ_=>acE hl H _ _ aC with _|⟨_,_,_⟩|⟨a25,j25,_⟩
  rotate_left 2
  rcases eW l j25 e [104,97,118,105,110,103] hl with _|_
  rcases eR (F.or (j25+1) []) λ_=>H.or _ _ aC with _|⟨_,_,_⟩|⟨a27,j27,_⟩
  rotate_left 5
  rcases eW l j22 e [104,97,118,105,110,103] hl with _|_
  rcases eR (F.or (j22+1) []) λ_=>H.or _ _ aC with _|⟨_,_,_⟩|⟨a29,j29,_⟩
  rotate_left 4
  rcases eW l j e [103,114,111,117,112] hl with _|_
  rcases eW l (j+1) e [98,121] hl with _|_
  rcases eR (aa1 F l (j+2)) λ_=>acE hl H _ _ aC with _|⟨_,_,_⟩|⟨a32,j32,_⟩
  rotate_left 2
  rcases eW l j32 e [104,97,118,105,110,103] hl with _|_
  rcases eR (F.or (j32+1) []) λ_=>H.or _ _ aC with _|⟨_,_,_⟩|⟨a34,j34,_⟩
  rotate_left 5
  rcases eW l j e [104,97,118,105,110,103] hl with _|_
  rcases eR (F.or (j+1) []) λ_=>H.or _ _ aC with _|⟨_,_,_⟩|⟨a36,j36,_⟩
  rotate_left 4
  all_goals (simp only[am6,ahu,ah5,ah7,ah6,aaS,zRZ,sevalprocAttr,↓reduceIte, *] at E <;> cases E <;> (simp only[↓zA,sevalprocAttr,agw,pT,zP,bh,zLX,bG,eG, *];all_goals exact fz))
 .simp only[↓zA,sevalprocAttr,agw,pT]
  refine⟨[a],j,?_,hr,v,by simp only[abP];omega⟩
  simp only[atu]
  simp only[zVW]
  all_goals rfl
def azq{l:List Tn}{e:Int}{F:Fs}(hl:l.length<LB)(H:PY l e F)(i:Nat)(r:Qy×Nat×Bool)(hi:i<=l.length)(c1:isT l i [115,101,108,101,99,116]=true)(c2:isT l (i+1) [100,105,115,116,105,110,99,116]=false)(hr:aga F l false (l.length+1) [] (i+1)=some r):aH Tryz.prog pr 257 [.ptr 0 0] [pT l i e] (bz l e qyE r []):=by
 have b1:=fF c1
 have t1:=wT l i e [115,101,108,101,99,116] hl c1
 have t2:=wF l (i+1) e [100,105,115,116,105,110,99,116] hl aC c2
 rw[arE] at hr
 cases e1:aec F l (i+1) with
 | none=>rw[e1] at hr;cases hr
 | some q =>
 obtain⟨a,j,q⟩:=q
 have g:=alA hl H _ _ aC e1
 obtain⟨u,v⟩:=g.1
 dsimp only at u v
 rw[e1] at hr
 cases q with
 | true =>
  have k:=g.bad
  cases hr
  refine bB apG ?_
  simp only[↓zA,sevalprocAttr,agw,bz,pT,zP,bh,t1,t2,k]
  all_goals exact fz
 | false =>
 have k:=g.ok
 simp only[Rz.on,cj] at hr
 refine bB apG ?_
 simp only[↓zA,sevalprocAttr,agw,bz,pT,bh,t1,t2,k,acv]
 refine aaj _ _ (λn s=>∃ its j,s.fr 0=.ptr 0 0/\s.fr 2=.ptr 1 0/\s.fr 3=.ptr 2 0/\s.objs=[pT l j e,.var 38 qyZ,.var 38 (atu false its)]/\am6 F l false n its j=some r/\j<=l.length/\its.length<=j) ?_ l.length _ ?_
 .rintro n ⟨frn,obn,ckn⟩ ⟨its,j,f0,f2,f3,fo,E,hj,hk⟩
  dsimp only at f0 f2 f3 fo
  have hL:its.length+1<=LIM:=by unfold LIM;unfold LB at hl;omega
  have hit:(its.length+1<=LIM)=True:=aa hL
  rcases eW l j e [44] hl with ⟨c1,b1,t1⟩|⟨c1,t1⟩
  .cases n with
   | zero=>simp only[am6,c1,au,aga] at E;cases E
   | succ m =>
   simp only[am6,c1,au,arE] at E
   rcases eR (aec F l (j+1)) λ_=>alA hl H _ _ aC with e2|⟨a2,j2,e2,⟨u2,v2⟩,k2⟩|⟨a2,j2,e2,⟨u2,v2⟩,k2⟩
   rotate_left
   .simp only[zRZ,sevalprocAttr,e2] at E
    cases E
    simp only[↓zA,sevalprocAttr,agw,pT,zP,bh,zLX,acv, *]
    all_goals exact fz
   .simp only[zRZ,sevalprocAttr,e2] at E
    simp only[↓zA,sevalprocAttr,agw,pT,zP,bh,zLX,bG,eG,acv,ec, *]
    refine⟨m,aP m,its++[a2],j2,?_,E,v2,by simp only[aeX];omega⟩
    simp only[atu]
    simp only[zVW]
    all_goals rfl
   all_goals (simp only[ahu,ah5,ah7,ah6,aaS,zRZ,sevalprocAttr, *] at E <;> cases E)
  rcases eW l j e [102,114,111,109] hl with _|_
  rcases eR (F.fr (j+1) []) λ_=>H.fr _ _ aC with _|⟨_,_,_⟩|⟨a4,j4,_⟩
  rotate_left 2
  rcases eW l j4 e [119,104,101,114,101] hl with _|_
  rcases eR (F.or (j4+1) []) λ_=>H.or _ _ aC with _|⟨_,_,_⟩|⟨a6,j6,_⟩
  rotate_left 2
  rcases eW l j6 e [103,114,111,117,112] hl with _|_
  rcases eW l (j6+1) e [98,121] hl with _|_
  rcases eR (aa1 F l (j6+2)) λ_=>acE hl H _ _ aC with _|⟨_,_,_⟩|⟨a9,j9,_⟩
  rotate_left 2
  rcases eW l j9 e [104,97,118,105,110,103] hl with _|_
  rcases eR (F.or (j9+1) []) λ_=>H.or _ _ aC with _|⟨_,_,_⟩|⟨a11,j11,_⟩
  rotate_left 5
  rcases eW l j6 e [104,97,118,105,110,103] hl with _|_
  rcases eR (F.or (j6+1) []) λ_=>H.or _ _ aC with _|⟨_,_,_⟩|⟨a13,j13,_⟩
  rotate_left 4
  rcases eW l j4 e [103,114,111,117,112] hl with _|_
  rcases eW l (j4+1) e [98,121] hl with _|_
  rcases eR (aa1 F l (j4+2)) λ_=>acE hl H _ _ aC with _|⟨_,_,_⟩|⟨a16,j16,_⟩
  rotate_left 2
  rcases eW l j16 e [104,97,118,105,110,103] hl with _|_
  rcases eR (F.or (j16+1) []) λ_=>H.or _ _ aC with _|⟨_,_,_⟩|⟨a18,j18,_⟩
  rotate_left 5
  rcases eW l j4 e [104,97,118,105,110,103] hl with _|_
  rcases eR (F.or (j4+1) []) λ_=>H.or _ _ aC with _|⟨_,_,_⟩|⟨a20,j20,_⟩
  rotate_left 4
  rcases eW l j e [119,104,101,114,101] hl with _|_
  rcases eR (F.or (j+1) []) λ_=>H.or _ _ aC with _|⟨_,_,_⟩|⟨a22,j22,_⟩
  rotate_left 2
  rcases eW l j22 e [103,114,111,117,112] hl with _|_
  rcases eW l (j22+1) e [98,121] hl with _|_
  rcases eR (aa1 F l (j22+2)) λ_=>acE hl H _ _ aC with _|⟨_,_,_⟩|⟨a25,j25,_⟩
  rotate_left 2
  rcases eW l j25 e [104,97,118,105,110,103] hl with _|_
  rcases eR (F.or (j25+1) []) λ_=>H.or _ _ aC with _|⟨_,_,_⟩|⟨a27,j27,_⟩
  rotate_left 5
  rcases eW l j22 e [104,97,118,105,110,103] hl with _|_
  rcases eR (F.or (j22+1) []) λ_=>H.or _ _ aC with _|⟨_,_,_⟩|⟨a29,j29,_⟩
  rotate_left 4
  rcases eW l j e [103,114,111,117,112] hl with _|_
  rcases eW l (j+1) e [98,121] hl with _|_
  rcases eR (aa1 F l (j+2)) λ_=>acE hl H _ _ aC with _|⟨_,_,_⟩|⟨a32,j32,_⟩
  rotate_left 2
  rcases eW l j32 e [104,97,118,105,110,103] hl with _|_
  rcases eR (F.or (j32+1) []) λ_=>H.or _ _ aC with _|⟨_,_,_⟩|⟨a34,j34,_⟩
  rotate_left 5
  rcases eW l j e [104,97,118,105,110,103] hl with _|_
  rcases eR (F.or (j+1) []) λ_=>H.or _ _ aC with _|⟨_,_,_⟩|⟨a36,j36,_⟩
  rotate_left 4
  all_goals (simp only[am6,ahu,ah5,ah7,ah6,aaS,zRZ,sevalprocAttr,↓reduceIte, *] at E <;> cases E <;> (simp only[↓zA,sevalprocAttr,agw,pT,zP,bh,zLX,bG,eG, *];all_goals exact fz))
 .simp only[↓zA,sevalprocAttr,agw,pT]
  refine⟨[a],j,?_,hr,v,by simp only[abP];omega⟩
  simp only[atu]
  simp only[zVW]
  all_goals rfl
def aBf{l:List Tn}{e:Int}{F:Fs}(hl:l.length<LB)(H:PY l e F)(i:Nat)(r:Qy×Nat×Bool)(hi:i<=l.length)(hr:amH F l i=some r):GP 257 [.ptr 0 0] [pT l i e] l e [] qyE i r:=by
 refine⟨Pl.at (aF4 H.fp hi) hr,?_⟩
 unfold amH bH at hr
 cases c1:isT l i [115,101,108,101,99,116] with
 | false =>
  have t1:=wF l i e [115,101,108,101,99,116] hl hi c1
  rw[c1] at hr
  cases hr
  refine bB apG ?_
  simp only[↓zA,sevalprocAttr,agw,bz,pT,zP,t1]
  all_goals exact fz
 | true =>
  rw[c1] at hr
  simp only[au,wantR,ajO] at hr
  cases c2:isT l (i+1) [100,105,115,116,105,110,99,116] with
  | true =>
   rw[c2] at hr
   exact aBe hl H i r hi c1 c2 hr
  | false =>
   rw[c2] at hr
   exact azq hl H i r hi c1 c2 hr
def aIe(F:Fs)(l:List Tn)(i:Nat):acx F l i []=if isT l i [40] then (F.qy (i+1) []).on id (λq j=>wantE (bH l j [41]) q) else amH F l i:=rfl
def aov{l:List Tn}{e:Int}{F:Fs}(hl:l.length<LB)(H:PY l e F)(i:Nat)(r:Qy×Nat×Bool)(hi:i<=l.length)(hr:acx F l i []=some r):GP 172 [.ptr 0 0] [pT l i e] l e [] qyE i r:=by
 refine⟨Pl.at (aqx H.fp hi) hr,?_⟩
 rcases eW l i e [40] hl with _|_
 rcases eR (F.qy (i+1) []) λ_=>H.qy _ _ aC with _|⟨_,_,_⟩|⟨a2,j2,_⟩
 rotate_left 2
 rcases eW l j2 e [41] hl with _|_
 rotate_left 2
 rcases eR (amH F l i) λ_=>aBf hl H _ _ aC with _|⟨_,_,_⟩|⟨a4,j4,_⟩
 rotate_left 3
 all_goals (simp only[aIe,zRZ,sevalprocAttr,↓reduceIte, *] at hr <;> cases hr <;> (refine bB aFG ?_;simp only[Tryz.f172,↓zA,sevalprocAttr,aPn,bz,pT,zP,bh, *];all_goals exact fz))
def aEx{l:List Tn}{e:Int}{F:Fs}(i:Nat)(x:Qy)(cs:List C)(hx:cs=qyC x)(r:Qy×Nat×Bool)(hi:i<=l.length)(hr:acx F l i [x]=some r):GP 172 [.ptr 0 0] [pTq l i e,.row 38 cs] l e deQ qyE i r:=by
 cases hr
 subst hx
 exact⟨⟨ae _,hi⟩,aMd l i e x⟩
def ajL:=ai (fW @Tryz.f74.eq_1 @zq @bbo @a9E @bbn) (fW @ab5 @a2f @ep @zT0 (kf ayZ))
def aip{l:List Tn}{e:Int}{F:Fs}(hl:l.length<LB)(H:PY l e F)(i:Nat)(r:Qy×Nat×Bool)(hi:i<=l.length)(hr:aaE F l i []=some r):GP 74 [.ptr 0 0] [pT l i e] l e [] qyE i r:=by
 refine⟨Pl.at (alC H.fp hi) hr,?_⟩
 unfold aaE ah3 at hr
 cases e1:acx F l i [] with
 | none=>rw[e1] at hr;cases hr
 | some q =>
 obtain⟨a,j,q⟩:=q
 have g:=aov hl H i _ hi e1
 obtain⟨u,v⟩:=g.1
 dsimp only at u v
 rw[e1] at hr
 cases q with
 | true =>
  have k:=g.bad
  cases hr
  refine bB ayZ ?_
  simp only[↓zA,sevalprocAttr,ajL,bz,pT,zP,k]
  all_goals exact fz
 | false =>
 have k:=g.ok
 simp only[Rz.on] at hr
 refine bB ayZ ?_
 simp only[↓zA,sevalprocAttr,ajL,bz,pT,k]
 refine aaj _ _ (λn s=>∃ q j,s.fr 0=.ptr 0 0/\s.fr 2=.ptr 1 0/\s.fr 3=.ptr 2 0/\s.objs=[pT l j e,.var 38 qyZ,.var 38 (qyV q)]/\adb (acx F l) l [([105,110,116,101,114,115,101,99,116],3)] n q j=some r/\j<=l.length) ?_ (l.length+1) _ ?_
 .rintro n ⟨frn,obn,ckn⟩ ⟨q,j,f0,f2,f3,fo,E,hj⟩
  dsimp only at f0 f2 f3 fo
  cases n with
  | zero=>simp only[adb] at E;cases E
  | succ n =>
  simp only[adb,opT] at E
  cases c:isT l j [105,110,116,101,114,115,101,99,116] with
  | false =>
   have t:=wF l j e [105,110,116,101,114,115,101,99,116] hl hj c
   rw[c] at E
   simp only[ah,av] at E
   cases E
   simp only[↓zA,sevalprocAttr,ajL,pT,zP,f0,f2,f3,fo,t]
   all_goals exact fz
  | true =>
   have hj1:=fF c
   have t:=wT l j e [105,110,116,101,114,115,101,99,116] hl c
   rw[c] at E
   simp only[au] at E
   cases e2:acx F l (if isT l (j+1) [97,108,108]=true then j+2 else j+1) [] with
   | none=>rw[e2] at E;cases E
   | some r2 =>
   have g2:=aiG (e:=e) hl 345 172 aI (aA aI) aIu aPD aDc (acx F l) (λi r h1 h2=>aov hl H i r h1 h2) 3 (ci q.op) (cb q.al) (slC qyC q.ks) (cb q.di) (slC imC q.its) (slC fmC q.fr) (slC xpC q.wh) (slC xpC q.gr) (slC xpC q.hv) (slC odC q.od) (ci q.li) (ci q.sk) (j+1) r2 aC e2
   obtain⟨y,j2,q2⟩:=r2
   obtain⟨u2,v2⟩:=g2.1
   dsimp only at u2 v2
   rw[e2] at E
   cases q2 with
   | true =>
    have k2:=g2.bad
    cases E
    simp only[↓zA,sevalprocAttr,ajL,pT,zP,f0,f3,fo,t,k2]
    all_goals exact fz
   | false =>
    have k2:=g2.ok
    simp only[Rz.on] at E
    simp only[↓zA,sevalprocAttr,ajL,pT,f0,f2,f3,fo,t,k2]
    refine⟨n,aP n,_,j2,?_,E,v2⟩
    simp only[qyV,qyL]
    simp only[zVW]
    all_goals rfl
 .simp only[↓zA,sevalprocAttr,ajL,pT]
  exact⟨a,j,rfl,hr,v⟩
def aAX{l:List Tn}{e:Int}{F:Fs}(hl:l.length<LB)(H:PY l e F)(i:Nat)(x:Qy)(cs:List C)(hx:cs=qyC x)(r:Qy×Nat×Bool)(hi:i<=l.length)(hr:aaE F l i [x]=some r):GP 74 [.ptr 0 0] [pTq l i e,.row 38 cs] l e deQ qyE i r:=by
 refine⟨Pl.at (alC H.fp hi) hr,?_⟩
 unfold aaE ah3 at hr
 have lv:adq (some (.row 38 cs))=true:=by rw[hx,ad6];rfl
 cases e1:acx F l i [x] with
 | none=>rw[e1] at hr;cases hr
 | some q =>
 obtain⟨a,j,q⟩:=q
 have g:=aEx (e:=e) (F:=F) i x cs hx _ hi e1
 obtain⟨u,v⟩:=g.1
 dsimp only at u v
 rw[e1] at hr
 cases q with
 | true =>
  have k:=g.bad
  cases hr
  refine bB ayZ ?_
  simp only[↓zA,sevalprocAttr,ajL,bz,pT,pTq,zP,k,lv]
  all_goals exact fz
 | false =>
 have k:=g.ok
 simp only[Rz.on] at hr
 refine bB ayZ ?_
 simp only[↓zA,sevalprocAttr,ajL,bz,pT,pTq,k,lv]
 refine aaj _ _ (λn s=>∃ q j,s.fr 0=.ptr 0 0/\s.fr 2=.ptr 2 0/\s.fr 3=.ptr 3 0/\s.objs=[pT l j e,.row 38 [],.var 38 qyZ,.var 38 (qyV q)]/\adb (acx F l) l [([105,110,116,101,114,115,101,99,116],3)] n q j=some r/\j<=l.length) ?_ (l.length+1) _ ?_
 .rintro n ⟨frn,obn,ckn⟩ ⟨q,j,f0,f2,f3,fo,E,hj⟩
  dsimp only at f0 f2 f3 fo
  cases n with
  | zero=>simp only[adb] at E;cases E
  | succ n =>
  simp only[adb,opT] at E
  cases c:isT l j [105,110,116,101,114,115,101,99,116] with
  | false =>
   have t:=wF l j e [105,110,116,101,114,115,101,99,116] hl hj c
   rw[c] at E
   simp only[ah,av] at E
   cases E
   simp only[↓zA,sevalprocAttr,ajL,pT,zP,f0,f2,f3,fo,t]
   all_goals exact fz
  | true =>
   have hj1:=fF c
   have t:=wT l j e [105,110,116,101,114,115,101,99,116] hl c
   rw[c] at E
   simp only[au] at E
   cases e2:acx F l (if isT l (j+1) [97,108,108]=true then j+2 else j+1) [] with
   | none=>rw[e2] at E;cases E
   | some r2 =>
   have g2:=aiG (e:=e) hl 345 172 aI (aA aI) aIu aPD aDc (acx F l) (λi r h1 h2=>aov hl H i r h1 h2) 3 (ci q.op) (cb q.al) (slC qyC q.ks) (cb q.di) (slC imC q.its) (slC fmC q.fr) (slC xpC q.wh) (slC xpC q.gr) (slC xpC q.hv) (slC odC q.od) (ci q.li) (ci q.sk) (j+1) r2 aC e2
   obtain⟨y,j2,q2⟩:=r2
   obtain⟨u2,v2⟩:=g2.1
   dsimp only at u2 v2
   rw[e2] at E
   cases q2 with
   | true =>
    have k2:=g2.bad
    cases E
    simp only[↓zA,sevalprocAttr,ajL,pT,zP,f0,f3,fo,t,k2]
    all_goals exact fz
   | false =>
    have k2:=g2.ok
    simp only[Rz.on] at E
    simp only[↓zA,sevalprocAttr,ajL,pT,f0,f2,f3,fo,t,k2]
    refine⟨n,aP n,_,j2,?_,E,v2⟩
    simp only[qyV,qyL]
    simp only[zVW]
    all_goals rfl
 .simp only[↓zA,sevalprocAttr,ajL,pT]
  exact⟨a,j,rfl,hr,v⟩

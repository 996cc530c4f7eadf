/- A part. Conditions: none. -/
import Derived.Test.YtghkmcffifpkeaaGreatPa21
set_option linter.all false
set_option maxRecDepth 100000
set_option maxHeartbeats 64000000
namespace Go.Proofs.YtghkmcffifpkeaaGreat
open Pe Tab
abbrev aQB(a:Qy):List X:=[.of (ci a.op),.of (cb a.al),.of (slC qyC a.ks),.of (cb a.di),.of (slC imC a.its),.of (slC fmC a.fr),.of (slC xpC a.wh),.of (slC xpC a.gr),.of (slC xpC a.hv),.of (slC odC a.od),.of (ci a.li),.of (ci a.sk)]
abbrev abr(o:Int)(al:Bool)(a b:Qy):List X:=[.of (ci o),.of (cb al),.own (.cell 1 2) 38 12 (fl qyC [a,b]) 2,.of (cb false),.nil,.nil,.nil,.nil,.nil,.nil,.of (ci (-1)),.of (ci 0)]
def SK(K:List X)(q:Qy):Prop:=K=aQB q\/∃ o al a b,q=fv o al a b/\K=abr o al a b
def aac:=ai (hM @Tryz.f82.eq_1 @zq @aV6 @aV3 @aV2 @aV1) (hM @bi @cW @dm @cO @zT0 (kf apT))
def alS{l:List Tn}(i:Nat)(pc:C)(r:Qy×Nat×Bool)(g:GD 175 [tkX l,au i,.of pc] l qyE i r):GD 82 [tkX l,au i,.of pc,au 2] l qyE i r:=by
 refine⟨g.1,?_⟩
 obtain⟨a,j,b⟩:=r
 cases b with
 | true =>
  have k:=g.bad
  refine bB apT ?_
  simp only[↓zA,sevalprocAttr,aac,ca,k,ce,aQ,bi]
  all_goals exact fz
 | false =>
  have k:=g.ok
  refine bB apT ?_
  simp only[↓zA,sevalprocAttr,aac,ca,k,bx,aQ,bi]
  all_goals exact fz
def aEr{l:List Tn}(hl:l.length<LB)(nx:Nat->List Qy->Rz Qy)
  (N:∀ i r,i<=l.length->nx i []=some r->GD 82 [tkX l,au i,abs,au 2] l qyE i r) (i:Nat) (pre:List Qy) (pc:C) (r:Qy×Nat×Bool) (hi:i<=l.length)
  (Np:∀ r,nx i pre=some r->GD 82 [tkX l,au i,.of pc,au 2] l qyE i r) (hr:ahZ nx l [([105,110,116,101,114,115,101,99,116],3)] i pre=some r):GD 82 [tkX l,au i,.of pc,au 1] l qyE i r:=by
 unfold ahZ at hr
 have hm:IntKind.i64.wrap 2=2:=by decide
 cases e1:nx i pre with
 | none=>rw[e1] at hr;cases hr
 | some q =>
 have g:=Np _ e1
 obtain⟨a,j,q⟩:=q
 obtain⟨u,v⟩:=g.1
 dsimp only at u v
 rw[e1] at hr
 cases q with
 | true =>
  have k:=g.bad
  cases hr
  refine⟨⟨u,v⟩,?_⟩
  refine bB apT ?_
  simp only[↓zA,sevalprocAttr,aac,ca,k,hm,ce,aQ,bi]
  rw[ajA]
  simp only[↓zA,sevalprocAttr,aac,cR,aQ,bi]
  all_goals exact fz
 | false =>
 have k:=g.ok
 simp only[Rz.on] at hr
 have P:j<=r.2.1/\r.2.1<=l.length:=Pl.at (apq (nx:=nx) (λ{i} h a j b e=>(N i (a,j,b) h e).1) [([105,110,116,101,114,115,101,99,116],3)] _ _ v) hr
 refine⟨⟨by omega,P.2⟩,?_⟩
 refine bB apT ?_
 simp only[↓zA,sevalprocAttr,aac,k,hm,aQ,bi]
 refine eT _ _ (λn s=>∃ (q:Qy) (j:Nat) (b:Bool) (K:List X) (J:List Ob),SK K q/\s.fr 0=tkX l/\s.fr 1=au j/\s.fr 3=au 1/\s.fr 8=.ptr 0 0/\s.fr 11=.ptr 1 0/\s.fr 12=au (adz l j b)/\s.objs=.var 38 aBs::.var 38 K::J/\(if b=true then r=(q,j,true) else aai nx l [([105,110,116,101,114,115,101,99,116],3)] n q j=some r)/\j<=l.length) ?_ (l.length+1) _ ?_
 .rintro n ⟨frn,obn,ckn⟩ ⟨q,j,b,K,J,hK,f0,f1,f3,f8,f11,f12,fo,E,hj⟩
  dsimp only at f0 f1 f3 f8 f11 f12 fo
  rcases hK with hK|⟨o1,o2,o3,o4,hq,hK⟩
  .subst hK
   cases b with
   | true =>
    simp only[ah] at E
    subst E
    simp only[↓zA,sevalprocAttr,aac,ca,f1,f8,f11,f12,fo,cR,ce,aQ,bi]
    all_goals exact fz
   | false =>
   simp only[ab,ap] at E
   cases n with
   | zero=>simp only[aai] at E;cases E
   | succ n =>
      have hw_j:IntKind.i64.wrap (((j:Nat):Int)+1)=((j+1:Nat):Int):=aW (j) (by unfold LB at hl;omega)
      rcases gW l (j) [105,110,116,101,114,115,101,99,116] hl with ⟨c1,b1,t1⟩|⟨c1,t1⟩
      have s1:=dF l j [117,110,105,111,110] hl aC (ae3 c1 [117,110,105,111,110] aI)
      have s2:=dF l j [101,120,99,101,112,116] hl aC (ae3 c1 [101,120,99,101,112,116] aI)
      have hw_j_1:IntKind.i64.wrap (((j+1:Nat):Int)+1)=((j+2:Nat):Int):=aW (j+1) (by unfold LB at hl;omega)
      rcases gW l (j+1) [97,108,108] hl with ⟨c2,b2,t2⟩|⟨c2,t2⟩
      simp only[aai,opT,ah,c1,c2] at E
      rcases gR (nx (j+2) []) λ_=>N (j+2) _ aC with e3|⟨a3,j3,e3,⟨u3,v3⟩,k3⟩|⟨a3,j3,e3,⟨u3,v3⟩,k3⟩
      rotate_left
      .simp only[e3,Rz.on,ae] at E
       subst E
       simp only[↓zA,sevalprocAttr,aac,bx,zBS,aQ,bi,f0,f1,f3,f8,f11,f12,fo,hm,hw_j,t1,s1,s2,hw_j_1,t2,k3]
       refine⟨n,aD n,fv 3 true q a3,j3,true,_,_,.inr ⟨_,_,_,_,rfl,?_⟩,rfl,rfl,rfl,by simp only[ah],v3⟩
       simp only[abr,eA,fJ,ep,slC,aaW,aU]
       try rfl
      .simp only[e3,Rz.on] at E
       simp only[↓zA,sevalprocAttr,aac,bx,zBS,aQ,bi,f0,f1,f3,f8,f11,f12,fo,hm,hw_j,t1,s1,s2,hw_j_1,t2,k3]
       refine⟨n,aD n,fv 3 true q a3,j3,false,_,_,.inr ⟨_,_,_,_,rfl,?_⟩,rfl,rfl,rfl,by simp only[ab,ap];exact E,v3⟩
       simp only[abr,eA,fJ,ep,slC,aaW,aU]
       try rfl
      simp only[aai,opT,ah,ap,ab,c1,c2] at E
      rcases gR (nx (j+1) []) λ_=>N (j+1) _ aC with e4|⟨a4,j4,e4,⟨u4,v4⟩,k4⟩|⟨a4,j4,e4,⟨u4,v4⟩,k4⟩
      rotate_left
      .simp only[e4,Rz.on,ae] at E
       subst E
       simp only[↓zA,sevalprocAttr,aac,bx,zBS,aQ,bi,f0,f1,f3,f8,f11,f12,fo,hm,hw_j,t1,s1,s2,t2,k4]
       refine⟨n,aD n,fv 3 false q a4,j4,true,_,_,.inr ⟨_,_,_,_,rfl,?_⟩,rfl,rfl,rfl,by simp only[ah],v4⟩
       simp only[abr,eA,fJ,ep,slC,aaW,aU]
       try rfl
      .simp only[e4,Rz.on] at E
       simp only[↓zA,sevalprocAttr,aac,bx,zBS,aQ,bi,f0,f1,f3,f8,f11,f12,fo,hm,hw_j,t1,s1,s2,t2,k4]
       refine⟨n,aD n,fv 3 false q a4,j4,false,_,_,.inr ⟨_,_,_,_,rfl,?_⟩,rfl,rfl,rfl,by simp only[ab,ap];exact E,v4⟩
       simp only[abr,eA,fJ,ep,slC,aaW,aU]
       try rfl
      rotate_left
      all_goals (simp only[aai,opT,zRZ,sevalprocAttr,↓reduceIte, *] at E <;> cases E <;> (simp only[↓zA,sevalprocAttr,aac,ca,bx,aQ,bi, *];all_goals exact fz))
  .subst hK hq
   cases b with
   | true =>
    simp only[ah] at E
    subst E
    simp only[↓zA,sevalprocAttr,aac,ca,f1,f8,f11,f12,fo,cR,ce,aQ,bi]
    all_goals exact fz
   | false =>
   simp only[ab,ap] at E
   cases n with
   | zero=>simp only[aai] at E;cases E
   | succ n =>
      have hw_j:IntKind.i64.wrap (((j:Nat):Int)+1)=((j+1:Nat):Int):=aW (j) (by unfold LB at hl;omega)
      rcases gW l (j) [105,110,116,101,114,115,101,99,116] hl with ⟨c1,b1,t1⟩|⟨c1,t1⟩
      have s1:=dF l j [117,110,105,111,110] hl aC (ae3 c1 [117,110,105,111,110] aI)
      have s2:=dF l j [101,120,99,101,112,116] hl aC (ae3 c1 [101,120,99,101,112,116] aI)
      have hw_j_1:IntKind.i64.wrap (((j+1:Nat):Int)+1)=((j+2:Nat):Int):=aW (j+1) (by unfold LB at hl;omega)
      rcases gW l (j+1) [97,108,108] hl with ⟨c2,b2,t2⟩|⟨c2,t2⟩
      simp only[aai,opT,ah,c1,c2] at E
      rcases gR (nx (j+2) []) λ_=>N (j+2) _ aC with e3|⟨a3,j3,e3,⟨u3,v3⟩,k3⟩|⟨a3,j3,e3,⟨u3,v3⟩,k3⟩
      rotate_left
      .simp only[e3,Rz.on,ae] at E
       subst E
       simp only[↓zA,sevalprocAttr,aac,bx,zBS,aQ,bi,f0,f1,f3,f8,f11,f12,fo,hm,hw_j,t1,s1,s2,hw_j_1,t2,k3]
       refine⟨n,aD n,fv 3 true (fv o1 o2 o3 o4) a3,j3,true,_,_,.inr ⟨_,_,_,_,rfl,?_⟩,rfl,rfl,rfl,by simp only[ah],v3⟩
       simp only[abr,fv,zMk,fZ,eA,fJ,ep,slC,aaW,aU]
       try rfl
      .simp only[e3,Rz.on] at E
       simp only[↓zA,sevalprocAttr,aac,bx,zBS,aQ,bi,f0,f1,f3,f8,f11,f12,fo,hm,hw_j,t1,s1,s2,hw_j_1,t2,k3]
       refine⟨n,aD n,fv 3 true (fv o1 o2 o3 o4) a3,j3,false,_,_,.inr ⟨_,_,_,_,rfl,?_⟩,rfl,rfl,rfl,by simp only[ab,ap];exact E,v3⟩
       simp only[abr,fv,zMk,fZ,eA,fJ,ep,slC,aaW,aU]
       try rfl
      simp only[aai,opT,ah,ap,ab,c1,c2] at E
      rcases gR (nx (j+1) []) λ_=>N (j+1) _ aC with e4|⟨a4,j4,e4,⟨u4,v4⟩,k4⟩|⟨a4,j4,e4,⟨u4,v4⟩,k4⟩
      rotate_left
      .simp only[e4,Rz.on,ae] at E
       subst E
       simp only[↓zA,sevalprocAttr,aac,bx,zBS,aQ,bi,f0,f1,f3,f8,f11,f12,fo,hm,hw_j,t1,s1,s2,t2,k4]
       refine⟨n,aD n,fv 3 false (fv o1 o2 o3 o4) a4,j4,true,_,_,.inr ⟨_,_,_,_,rfl,?_⟩,rfl,rfl,rfl,by simp only[ah],v4⟩
       simp only[abr,fv,zMk,fZ,eA,fJ,ep,slC,aaW,aU]
       try rfl
      .simp only[e4,Rz.on] at E
       simp only[↓zA,sevalprocAttr,aac,bx,zBS,aQ,bi,f0,f1,f3,f8,f11,f12,fo,hm,hw_j,t1,s1,s2,t2,k4]
       refine⟨n,aD n,fv 3 false (fv o1 o2 o3 o4) a4,j4,false,_,_,.inr ⟨_,_,_,_,rfl,?_⟩,rfl,rfl,rfl,by simp only[ab,ap];exact E,v4⟩
       simp only[abr,fv,zMk,fZ,eA,fJ,ep,slC,aaW,aU]
       try rfl
      rotate_left
      all_goals (simp only[aai,opT,zRZ,sevalprocAttr,↓reduceIte, *] at E <;> cases E <;> (simp only[↓zA,sevalprocAttr,aac,ca,bx,aQ,bi, *];all_goals exact fz))
 .simp only[↓zA,sevalprocAttr,aac]
  exact⟨a,j,false,_,[],.inl rfl,rfl,rfl,rfl,by simp only[ab,ap];exact hr,v⟩
def aEs{l:List Tn}(hl:l.length<LB)(nx:Nat->List Qy->Rz Qy)
  (N:∀ i r,i<=l.length->nx i []=some r->GD 82 [tkX l,au i,abs,au 1] l qyE i r) (i:Nat) (pre:List Qy) (pc:C) (r:Qy×Nat×Bool) (hi:i<=l.length)
  (Np:∀ r,nx i pre=some r->GD 82 [tkX l,au i,.of pc,au 1] l qyE i r) (hr:ahZ nx l [([117,110,105,111,110],2),([101,120,99,101,112,116],4)] i pre=some r):GD 82 [tkX l,au i,.of pc,au 0] l qyE i r:=by
 unfold ahZ at hr
 have hm:IntKind.i64.wrap 1=1:=by decide
 cases e1:nx i pre with
 | none=>rw[e1] at hr;cases hr
 | some q =>
 have g:=Np _ e1
 obtain⟨a,j,q⟩:=q
 obtain⟨u,v⟩:=g.1
 dsimp only at u v
 rw[e1] at hr
 cases q with
 | true =>
  have k:=g.bad
  cases hr
  refine⟨⟨u,v⟩,?_⟩
  refine bB apT ?_
  simp only[↓zA,sevalprocAttr,aac,ca,k,hm,ce,aQ,bi]
  rw[ajA]
  simp only[↓zA,sevalprocAttr,aac,cR,aQ,bi]
  all_goals exact fz
 | false =>
 have k:=g.ok
 simp only[Rz.on] at hr
 have P:j<=r.2.1/\r.2.1<=l.length:=Pl.at (apq (nx:=nx) (λ{i} h a j b e=>(N i (a,j,b) h e).1) [([117,110,105,111,110],2),([101,120,99,101,112,116],4)] _ _ v) hr
 refine⟨⟨by omega,P.2⟩,?_⟩
 refine bB apT ?_
 simp only[↓zA,sevalprocAttr,aac,k,hm,aQ,bi]
 refine eT _ _ (λn s=>∃ (q:Qy) (j:Nat) (b:Bool) (K:List X) (J:List Ob),SK K q/\s.fr 0=tkX l/\s.fr 1=au j/\s.fr 3=au 0/\s.fr 8=.ptr 0 0/\s.fr 11=.ptr 1 0/\s.fr 12=au (adz l j b)/\s.objs=.var 38 aBs::.var 38 K::J/\(if b=true then r=(q,j,true) else aai nx l [([117,110,105,111,110],2),([101,120,99,101,112,116],4)] n q j=some r)/\j<=l.length) ?_ (l.length+1) _ ?_
 .rintro n ⟨frn,obn,ckn⟩ ⟨q,j,b,K,J,hK,f0,f1,f3,f8,f11,f12,fo,E,hj⟩
  dsimp only at f0 f1 f3 f8 f11 f12 fo
  rcases hK with hK|⟨o1,o2,o3,o4,hq,hK⟩
  .subst hK
   cases b with
   | true =>
    simp only[ah] at E
    subst E
    simp only[↓zA,sevalprocAttr,aac,ca,f1,f8,f11,f12,fo,cR,ce,aQ,bi]
    all_goals exact fz
   | false =>
   simp only[ab,ap] at E
   cases n with
   | zero=>simp only[aai] at E;cases E
   | succ n =>
      have hw_j:IntKind.i64.wrap (((j:Nat):Int)+1)=((j+1:Nat):Int):=aW (j) (by unfold LB at hl;omega)
      rcases gWX l (j) [117,110,105,111,110] hl with ⟨c1,b1,t1,x1⟩|⟨c1,t1⟩
      have zz:=dO2 l j [117,110,105,111,110] [101,120,99,101,112,116] hl aC (b:=true) (by simp only[bF,c1,x1,uL,sevalprocAttr,cY,aH])
      have hw_j_1:IntKind.i64.wrap (((j+1:Nat):Int)+1)=((j+2:Nat):Int):=aW (j+1) (by unfold LB at hl;omega)
      rcases gW l (j+1) [97,108,108] hl with ⟨c2,b2,t2⟩|⟨c2,t2⟩
      simp only[aai,opT,ah,c1,c2] at E
      rcases gR (nx (j+2) []) λ_=>N (j+2) _ aC with e3|⟨a3,j3,e3,⟨u3,v3⟩,k3⟩|⟨a3,j3,e3,⟨u3,v3⟩,k3⟩
      rotate_left
      .simp only[e3,Rz.on,ae] at E
       subst E
       simp only[↓zA,sevalprocAttr,aac,bx,zBS,aQ,bi,f0,f1,f3,f8,f11,f12,fo,hm,uL,hw_j,t1,x1,zz,hw_j_1,t2,k3]
       refine⟨n,aD n,fv 2 true q a3,j3,true,_,_,.inr ⟨_,_,_,_,rfl,?_⟩,rfl,rfl,rfl,by simp only[ah],v3⟩
       simp only[abr,eA,fJ,ep,slC,aaW,aU]
       try rfl
      .simp only[e3,Rz.on] at E
       simp only[↓zA,sevalprocAttr,aac,bx,zBS,aQ,bi,f0,f1,f3,f8,f11,f12,fo,hm,uL,hw_j,t1,x1,zz,hw_j_1,t2,k3]
       refine⟨n,aD n,fv 2 true q a3,j3,false,_,_,.inr ⟨_,_,_,_,rfl,?_⟩,rfl,rfl,rfl,by simp only[ab,ap];exact E,v3⟩
       simp only[abr,eA,fJ,ep,slC,aaW,aU]
       try rfl
      simp only[aai,opT,ah,ap,ab,c1,c2] at E
      rcases gR (nx (j+1) []) λ_=>N (j+1) _ aC with e4|⟨a4,j4,e4,⟨u4,v4⟩,k4⟩|⟨a4,j4,e4,⟨u4,v4⟩,k4⟩
      rotate_left
      .simp only[e4,Rz.on,ae] at E
       subst E
       simp only[↓zA,sevalprocAttr,aac,bx,zBS,aQ,bi,f0,f1,f3,f8,f11,f12,fo,hm,uL,hw_j,t1,x1,zz,t2,k4]
       refine⟨n,aD n,fv 2 false q a4,j4,true,_,_,.inr ⟨_,_,_,_,rfl,?_⟩,rfl,rfl,rfl,by simp only[ah],v4⟩
       simp only[abr,eA,fJ,ep,slC,aaW,aU]
       try rfl
      .simp only[e4,Rz.on] at E
       simp only[↓zA,sevalprocAttr,aac,bx,zBS,aQ,bi,f0,f1,f3,f8,f11,f12,fo,hm,uL,hw_j,t1,x1,zz,t2,k4]
       refine⟨n,aD n,fv 2 false q a4,j4,false,_,_,.inr ⟨_,_,_,_,rfl,?_⟩,rfl,rfl,rfl,by simp only[ab,ap];exact E,v4⟩
       simp only[abr,eA,fJ,ep,slC,aaW,aU]
       try rfl
      rcases gWX l (j) [101,120,99,101,112,116] hl with ⟨c5,b5,t5,x5⟩|⟨c5,t5⟩
      have zz:=dO2 l j [117,110,105,111,110] [101,120,99,101,112,116] hl aC (b:=true) (by simp only[bF,c1,c5,sevalprocAttr,aH,aY])
      have hw_j_1:IntKind.i64.wrap (((j+1:Nat):Int)+1)=((j+2:Nat):Int):=aW (j+1) (by unfold LB at hl;omega)
      rcases gW l (j+1) [97,108,108] hl with ⟨c6,b6,t6⟩|⟨c6,t6⟩
      simp only[aai,opT,ah,ap,ab,c1,c5,c6] at E
      rcases gR (nx (j+2) []) λ_=>N (j+2) _ aC with e7|⟨a7,j7,e7,⟨u7,v7⟩,k7⟩|⟨a7,j7,e7,⟨u7,v7⟩,k7⟩
      rotate_left
      .simp only[e7,Rz.on,ae] at E
       subst E
       simp only[↓zA,sevalprocAttr,aac,bx,zBS,aQ,bi,f0,f1,f3,f8,f11,f12,fo,hm,hw_j,t1,t5,zz,hw_j_1,t6,k7]
       refine⟨n,aD n,fv 4 true q a7,j7,true,_,_,.inr ⟨_,_,_,_,rfl,?_⟩,rfl,rfl,rfl,by simp only[ah],v7⟩
       simp only[abr,eA,fJ,ep,slC,aaW,aU]
       try rfl
      .simp only[e7,Rz.on] at E
       simp only[↓zA,sevalprocAttr,aac,bx,zBS,aQ,bi,f0,f1,f3,f8,f11,f12,fo,hm,hw_j,t1,t5,zz,hw_j_1,t6,k7]
       refine⟨n,aD n,fv 4 true q a7,j7,false,_,_,.inr ⟨_,_,_,_,rfl,?_⟩,rfl,rfl,rfl,by simp only[ab,ap];exact E,v7⟩
       simp only[abr,eA,fJ,ep,slC,aaW,aU]
       try rfl
      simp only[aai,opT,ah,ap,ab,c1,c5,c6] at E
      rcases gR (nx (j+1) []) λ_=>N (j+1) _ aC with e8|⟨a8,j8,e8,⟨u8,v8⟩,k8⟩|⟨a8,j8,e8,⟨u8,v8⟩,k8⟩
      rotate_left
      .simp only[e8,Rz.on,ae] at E
       subst E
       simp only[↓zA,sevalprocAttr,aac,bx,zBS,aQ,bi,f0,f1,f3,f8,f11,f12,fo,hm,hw_j,t1,t5,zz,t6,k8]
       refine⟨n,aD n,fv 4 false q a8,j8,true,_,_,.inr ⟨_,_,_,_,rfl,?_⟩,rfl,rfl,rfl,by simp only[ah],v8⟩
       simp only[abr,eA,fJ,ep,slC,aaW,aU]
       try rfl
      .simp only[e8,Rz.on] at E
       simp only[↓zA,sevalprocAttr,aac,bx,zBS,aQ,bi,f0,f1,f3,f8,f11,f12,fo,hm,hw_j,t1,t5,zz,t6,k8]
       refine⟨n,aD n,fv 4 false q a8,j8,false,_,_,.inr ⟨_,_,_,_,rfl,?_⟩,rfl,rfl,rfl,by simp only[ab,ap];exact E,v8⟩
       simp only[abr,eA,fJ,ep,slC,aaW,aU]
       try rfl
      have zz:=dO2 l j [117,110,105,111,110] [101,120,99,101,112,116] hl aC (b:=false) (by simp only[bF,c1,c5,sevalprocAttr,aH])
      rotate_left
      all_goals (simp only[aai,opT,zRZ,sevalprocAttr,↓reduceIte, *] at E <;> cases E <;> (simp only[↓zA,sevalprocAttr,aac,ca,bx,zBS,aQ,bi, *];all_goals exact fz))
  .subst hK hq
   cases b with
   | true =>
    simp only[ah] at E
    subst E
    simp only[↓zA,sevalprocAttr,aac,ca,f1,f8,f11,f12,fo,cR,ce,aQ,bi]
    all_goals exact fz
   | false =>
   simp only[ab,ap] at E
   cases n with
   | zero=>simp only[aai] at E;cases E
   | succ n =>
      have hw_j:IntKind.i64.wrap (((j:Nat):Int)+1)=((j+1:Nat):Int):=aW (j) (by unfold LB at hl;omega)
      rcases gWX l (j) [117,110,105,111,110] hl with ⟨c1,b1,t1,x1⟩|⟨c1,t1⟩
      have zz:=dO2 l j [117,110,105,111,110] [101,120,99,101,112,116] hl aC (b:=true) (by simp only[bF,c1,x1,uL,sevalprocAttr,cY,aH])
      have hw_j_1:IntKind.i64.wrap (((j+1:Nat):Int)+1)=((j+2:Nat):Int):=aW (j+1) (by unfold LB at hl;omega)
      rcases gW l (j+1) [97,108,108] hl with ⟨c2,b2,t2⟩|⟨c2,t2⟩
      simp only[aai,opT,ah,c1,c2] at E
      rcases gR (nx (j+2) []) λ_=>N (j+2) _ aC with e3|⟨a3,j3,e3,⟨u3,v3⟩,k3⟩|⟨a3,j3,e3,⟨u3,v3⟩,k3⟩
      rotate_left
      .simp only[e3,Rz.on,ae] at E
       subst E
       simp only[↓zA,sevalprocAttr,aac,bx,zBS,aQ,bi,f0,f1,f3,f8,f11,f12,fo,hm,uL,hw_j,t1,x1,zz,hw_j_1,t2,k3]
       refine⟨n,aD n,fv 2 true (fv o1 o2 o3 o4) a3,j3,true,_,_,.inr ⟨_,_,_,_,rfl,?_⟩,rfl,rfl,rfl,by simp only[ah],v3⟩
       simp only[abr,fv,zMk,fZ,eA,fJ,ep,slC,aaW,aU]
       try rfl
      .simp only[e3,Rz.on] at E
       simp only[↓zA,sevalprocAttr,aac,bx,zBS,aQ,bi,f0,f1,f3,f8,f11,f12,fo,hm,uL,hw_j,t1,x1,zz,hw_j_1,t2,k3]
       refine⟨n,aD n,fv 2 true (fv o1 o2 o3 o4) a3,j3,false,_,_,.inr ⟨_,_,_,_,rfl,?_⟩,rfl,rfl,rfl,by simp only[ab,ap];exact E,v3⟩
       simp only[abr,fv,zMk,fZ,eA,fJ,ep,slC,aaW,aU]
       try rfl
      simp only[aai,opT,ah,ap,ab,c1,c2] at E
      rcases gR (nx (j+1) []) λ_=>N (j+1) _ aC with e4|⟨a4,j4,e4,⟨u4,v4⟩,k4⟩|⟨a4,j4,e4,⟨u4,v4⟩,k4⟩
      rotate_left
      .simp only[e4,Rz.on,ae] at E
       subst E
       simp only[↓zA,sevalprocAttr,aac,bx,zBS,aQ,bi,f0,f1,f3,f8,f11,f12,fo,hm,uL,hw_j,t1,x1,zz,t2,k4]
       refine⟨n,aD n,fv 2 false (fv o1 o2 o3 o4) a4,j4,true,_,_,.inr ⟨_,_,_,_,rfl,?_⟩,rfl,rfl,rfl,by simp only[ah],v4⟩
       simp only[abr,fv,zMk,fZ,eA,fJ,ep,slC,aaW,aU]
       try rfl
      .simp only[e4,Rz.on] at E
       simp only[↓zA,sevalprocAttr,aac,bx,zBS,aQ,bi,f0,f1,f3,f8,f11,f12,fo,hm,uL,hw_j,t1,x1,zz,t2,k4]
       refine⟨n,aD n,fv 2 false (fv o1 o2 o3 o4) a4,j4,false,_,_,.inr ⟨_,_,_,_,rfl,?_⟩,rfl,rfl,rfl,by simp only[ab,ap];exact E,v4⟩
       simp only[abr,fv,zMk,fZ,eA,fJ,ep,slC,aaW,aU]
       try rfl
      rcases gWX l (j) [101,120,99,101,112,116] hl with ⟨c5,b5,t5,x5⟩|⟨c5,t5⟩
      have zz:=dO2 l j [117,110,105,111,110] [101,120,99,101,112,116] hl aC (b:=true) (by simp only[bF,c1,c5,sevalprocAttr,aH,aY])
      have hw_j_1:IntKind.i64.wrap (((j+1:Nat):Int)+1)=((j+2:Nat):Int):=aW (j+1) (by unfold LB at hl;omega)
      rcases gW l (j+1) [97,108,108] hl with ⟨c6,b6,t6⟩|⟨c6,t6⟩
      simp only[aai,opT,ah,ap,ab,c1,c5,c6] at E
      rcases gR (nx (j+2) []) λ_=>N (j+2) _ aC with e7|⟨a7,j7,e7,⟨u7,v7⟩,k7⟩|⟨a7,j7,e7,⟨u7,v7⟩,k7⟩
      rotate_left
      .simp only[e7,Rz.on,ae] at E
       subst E
       simp only[↓zA,sevalprocAttr,aac,bx,zBS,aQ,bi,f0,f1,f3,f8,f11,f12,fo,hm,hw_j,t1,t5,zz,hw_j_1,t6,k7]
       refine⟨n,aD n,fv 4 true (fv o1 o2 o3 o4) a7,j7,true,_,_,.inr ⟨_,_,_,_,rfl,?_⟩,rfl,rfl,rfl,by simp only[ah],v7⟩
       simp only[abr,fv,zMk,fZ,eA,fJ,ep,slC,aaW,aU]
       try rfl
      .simp only[e7,Rz.on] at E
       simp only[↓zA,sevalprocAttr,aac,bx,zBS,aQ,bi,f0,f1,f3,f8,f11,f12,fo,hm,hw_j,t1,t5,zz,hw_j_1,t6,k7]
       refine⟨n,aD n,fv 4 true (fv o1 o2 o3 o4) a7,j7,false,_,_,.inr ⟨_,_,_,_,rfl,?_⟩,rfl,rfl,rfl,by simp only[ab,ap];exact E,v7⟩
       simp only[abr,fv,zMk,fZ,eA,fJ,ep,slC,aaW,aU]
       try rfl
      simp only[aai,opT,ah,ap,ab,c1,c5,c6] at E
      rcases gR (nx (j+1) []) λ_=>N (j+1) _ aC with e8|⟨a8,j8,e8,⟨u8,v8⟩,k8⟩|⟨a8,j8,e8,⟨u8,v8⟩,k8⟩
      rotate_left
      .simp only[e8,Rz.on,ae] at E
       subst E
       simp only[↓zA,sevalprocAttr,aac,bx,zBS,aQ,bi,f0,f1,f3,f8,f11,f12,fo,hm,hw_j,t1,t5,zz,t6,k8]
       refine⟨n,aD n,fv 4 false (fv o1 o2 o3 o4) a8,j8,true,_,_,.inr ⟨_,_,_,_,rfl,?_⟩,rfl,rfl,rfl,by simp only[ah],v8⟩
       simp only[abr,fv,zMk,fZ,eA,fJ,ep,slC,aaW,aU]
       try rfl
      .simp only[e8,Rz.on] at E
       simp only[↓zA,sevalprocAttr,aac,bx,zBS,aQ,bi,f0,f1,f3,f8,f11,f12,fo,hm,hw_j,t1,t5,zz,t6,k8]
       refine⟨n,aD n,fv 4 false (fv o1 o2 o3 o4) a8,j8,false,_,_,.inr ⟨_,_,_,_,rfl,?_⟩,rfl,rfl,rfl,by simp only[ab,ap];exact E,v8⟩
       simp only[abr,fv,zMk,fZ,eA,fJ,ep,slC,aaW,aU]
       try rfl
      have zz:=dO2 l j [117,110,105,111,110] [101,120,99,101,112,116] hl aC (b:=false) (by simp only[bF,c1,c5,sevalprocAttr,aH])
      rotate_left
      all_goals (simp only[aai,opT,zRZ,sevalprocAttr,↓reduceIte, *] at E <;> cases E <;> (simp only[↓zA,sevalprocAttr,aac,ca,bx,zBS,aQ,bi, *];all_goals exact fz))
 .simp only[↓zA,sevalprocAttr,aac]
  exact⟨a,j,false,_,[],.inl rfl,rfl,rfl,rfl,by simp only[ab,ap];exact hr,v⟩

/- A part. Conditions: none. -/
import Derived.Test.YtghkmcffifpkeaaGreatPa20
set_option linter.all false
set_option maxRecDepth 100000
set_option maxHeartbeats 64000000
namespace Go.Proofs.YtghkmcffifpkeaaGreat
open Pe Tab
abbrev aH5(l:List Od):X:=.of (slC odC l)
def LsK{α:Type}(K:X)(f:α->List C)(e z clk:Nat)(A:List α):Prop:=(K=.nil/\A=[])\/∃ c x i,c<clk/\K=.own (.nm c x i) e z (fl f A) A.length
def lsA{α:Type}{f:α->List C}{A:List α}{y:α}{clk c x i e z n:Nat}{cs:List C}(h1:cs=fl f A++f y)(h2:n=A.length+1)(h:c<clk):LsK (.own (.nm c x i) e z cs n) f e z clk (A++[y]):=.inr (akY h1 h2 h)
def afv:=ai (hU @Tryz.f85.eq_1 @zq @aV7 @cW @aeg @aex @cO) (hM @fH @Q9 @P3 @Q3 @zT0 (kf aJg))
def ar0{l:List Tn}(hl:l.length<LB)(i:Nat)(r:List Od×Nat×Bool)(hi:i<=l.length)(hr:aii l i=some r):GD 85 [tkX l,au i] l aH5 i r:=by
 refine⟨Pl.at (aAD hi) hr,?_⟩
 have hw_i:IntKind.i64.wrap (((i:Nat):Int)+1)=((i+1:Nat):Int):=aW (i) (by unfold LB at hl;omega)
 cases c0:isT l i [98,121] with
 | false =>
  have t0:=dF l i [98,121] hl aC c0
  simp only[aii,wantR,eE,c0,ab,ap,ae] at hr
  cases hr
  refine bB aJg ?_
  simp only[↓zA,sevalprocAttr,afv,ca,t0,cR,ce,aQ]
  all_goals exact fz
 | true =>
 have b0:=fe c0
 have t0:=dT l i [98,121] hl c0
 simp only[aii,wantR,eE,c0,ah] at hr
 refine bB aJg ?_
 simp only[↓zA,sevalprocAttr,afv,t0,aQ]
 refine eT _ _ (λn s=>∃ (os:List Od) (j:Nat) (K:X) (J:List Ob),LsK K odC 126 3 s.clk os/\s.fr 0=tkX l/\s.fr 1=au j/\s.fr 8=K/\s.objs=J/\byL l n os j=some r/\j<=l.length/\os.length<=j) ?_ (l.length+1) _ ?_
 .rintro n ⟨frn,obn,ckn⟩ ⟨os,j,K,J,hK,f0,f1,f8,fo,E,hj,hk⟩
  dsimp only at f0 f1 f8 fo hK
  cases n with
  | zero=>simp only[byL] at E;cases E
  | succ n =>
   unfold byL at E
   rcases hK with ⟨hK,hK'⟩|⟨c,x,i',hc,hK⟩
   .subst hK hK'
    have hw_j:IntKind.i64.wrap (((j:Nat):Int)+1)=((j+1:Nat):Int):=aW (j) (by unfold LB at hl;omega)
    rcases gK2 l (j) hl with ⟨c1,b1,t1⟩|⟨c1,t1⟩
    have gx:=gL (l:=l) (i:=j) aC
    have hw_j_1:IntKind.i64.wrap (((j+1:Nat):Int)+1)=((j+2:Nat):Int):=aW (j+1) (by unfold LB at hl;omega)
    have hw_j_2:IntKind.i64.wrap (((j+2:Nat):Int)+1)=((j+3:Nat):Int):=aW (j+2) (by unfold LB at hl;omega)
    rcases gW l (j+1) [100,101,115,99] hl with ⟨c2,b2,t2⟩|⟨c2,t2⟩
    have z2:=dO2 l (j+1) [97,115,99] [100,101,115,99] hl aC (b:=true) (by simp only[bF,c2,sevalprocAttr,aH,aY])
    rcases gW l (j+2) [44] hl with ⟨c3,b3,t3⟩|⟨c3,t3⟩
    .simp only[abA,acW,bF,aY,cf,aH,sevalprocAttr,↓reduceIte,c1,c2,c3] at E
     simp only[↓zA,sevalprocAttr,afv,zBS,aQ,f0,f1,f8,fo,aaS,hw_j,t1,gx,hw_j_1,hw_j_2,t2,z2,t3]
     and_intros
     all_goals first|exact okN _ _ aC _|exact⟨n,aD n,[]++[⟨(bN l j).s,0,true⟩],j+3,_,_,lsA rfl rfl aC,rfl,rfl,rfl,E,by omega,by simp only[abQ];omega⟩|rfl|trace_state
    rotate_left
    rcases gW l (j+1) [97,115,99] hl with ⟨c4,b4,t4⟩|⟨c4,t4⟩
    have z4:=dO2 l (j+1) [97,115,99] [100,101,115,99] hl aC (b:=true) (by simp only[bF,c2,c4,sevalprocAttr,aH])
    rcases gW l (j+2) [44] hl with ⟨c5,b5,t5⟩|⟨c5,t5⟩
    .simp only[abA,acW,bF,cf,aH,sevalprocAttr,↓reduceIte,c1,c2,c4,c5] at E
     simp only[↓zA,sevalprocAttr,afv,zBS,aQ,f0,f1,f8,fo,aaS,hw_j,t1,gx,hw_j_1,hw_j_2,t2,z4,t5]
     and_intros
     all_goals first|exact okN _ _ aC _|exact⟨n,aD n,[]++[⟨(bN l j).s,0,false⟩],j+3,_,_,lsA rfl rfl aC,rfl,rfl,rfl,E,by omega,by simp only[abQ];omega⟩|rfl|trace_state
    rotate_left
    have z5:=dO2 l (j+1) [97,115,99] [100,101,115,99] hl aC (b:=false) (by simp only[bF,c2,c4,sevalprocAttr,aH])
    rcases gW l (j+1) [44] hl with ⟨c6,b6,t6⟩|⟨c6,t6⟩
    .simp only[abA,acW,bF,cf,aH,zRZ,sevalprocAttr,↓reduceIte,c1,c2,c4,c6] at E
     simp only[↓zA,sevalprocAttr,afv,zBS,aQ,f0,f1,f8,fo,aaS,hw_j,t1,gx,hw_j_1,t2,z5,t6]
     and_intros
     all_goals first|exact okN _ _ aC _|exact⟨n,aD n,[]++[⟨(bN l j).s,0,false⟩],j+2,_,_,lsA rfl rfl aC,rfl,rfl,rfl,E,by omega,by simp only[abQ];omega⟩|rfl|trace_state
    rotate_left
    rcases gK3 l (j) hl with ⟨c7,b7,t7⟩|⟨c7,t7⟩
    have gy:=gL (l:=l) (i:=j) aC
    rcases eP (0<(bN l j).n) with ⟨c8,d8⟩|⟨c8,d8⟩
    have gx:=gL (l:=l) (i:=j) aC
    have hw_j_1:IntKind.i64.wrap (((j+1:Nat):Int)+1)=((j+2:Nat):Int):=aW (j+1) (by unfold LB at hl;omega)
    have hw_j_2:IntKind.i64.wrap (((j+2:Nat):Int)+1)=((j+3:Nat):Int):=aW (j+2) (by unfold LB at hl;omega)
    rcases gW l (j+1) [100,101,115,99] hl with ⟨c9,b9,t9⟩|⟨c9,t9⟩
    have z9:=dO2 l (j+1) [97,115,99] [100,101,115,99] hl aC (b:=true) (by simp only[bF,c9,sevalprocAttr,aH,aY])
    rcases gW l (j+2) [44] hl with ⟨c10,b10,t10⟩|⟨c10,t10⟩
    .simp only[abA,bF,aY,aH,zRZ,sevalprocAttr,↓reduceIte,c1,c7,d8,c9,c10] at E
     simp only[↓zA,sevalprocAttr,afv,zBS,aQ,f0,f1,f8,fo,aaS,hw_j,t1,t7,gy,d8,hw_j_1,hw_j_2,t9,z9,t10]
     and_intros
     all_goals first|exact okN _ _ aC _|exact⟨n,aD n,[]++[⟨[],(bN l j).n,true⟩],j+3,_,_,lsA rfl rfl aC,rfl,rfl,rfl,E,by omega,by simp only[abQ];omega⟩|rfl|trace_state
    rotate_left
    rcases gW l (j+1) [97,115,99] hl with ⟨c11,b11,t11⟩|⟨c11,t11⟩
    have z11:=dO2 l (j+1) [97,115,99] [100,101,115,99] hl aC (b:=true) (by simp only[bF,c9,c11,sevalprocAttr,aH])
    rcases gW l (j+2) [44] hl with ⟨c12,b12,t12⟩|⟨c12,t12⟩
    .simp only[abA,bF,aY,aH,zRZ,sevalprocAttr,↓reduceIte,c1,c7,d8,c9,c11,c12] at E
     simp only[↓zA,sevalprocAttr,afv,zBS,aQ,f0,f1,f8,fo,aaS,hw_j,t1,t7,gy,d8,hw_j_1,hw_j_2,t9,z11,t12]
     and_intros
     all_goals first|exact okN _ _ aC _|exact⟨n,aD n,[]++[⟨[],(bN l j).n,false⟩],j+3,_,_,lsA rfl rfl aC,rfl,rfl,rfl,E,by omega,by simp only[abQ];omega⟩|rfl|trace_state
    rotate_left
    have z12:=dO2 l (j+1) [97,115,99] [100,101,115,99] hl aC (b:=false) (by simp only[bF,c9,c11,sevalprocAttr,aH])
    rcases gW l (j+1) [44] hl with ⟨c13,b13,t13⟩|⟨c13,t13⟩
    .simp only[abA,bF,aY,aH,zRZ,sevalprocAttr,↓reduceIte,c1,c7,d8,c9,c11,c13] at E
     simp only[↓zA,sevalprocAttr,afv,zBS,aQ,f0,f1,f8,fo,aaS,hw_j,t1,t7,gy,d8,hw_j_1,t9,z12,t13]
     and_intros
     all_goals first|exact okN _ _ aC _|exact⟨n,aD n,[]++[⟨[],(bN l j).n,false⟩],j+2,_,_,lsA rfl rfl aC,rfl,rfl,rfl,E,by omega,by simp only[abQ];omega⟩|rfl|trace_state
    rotate_left 3
    all_goals (simp only[abA,acW,bF,aY,cf,aH,zRZ,sevalprocAttr,↓reduceIte, *] at E <;> cases E <;> (simp only[↓zA,sevalprocAttr,afv,ca,acD,bx,ce,zBS,aQ,aaS, *];and_intros;all_goals first|exact okN _ _ aC _|rfl|(simp only[aH5,slC,alt,agu,bp];rfl)|(simp only[zVW];done)|(simp only[zVW];rfl)|trace_state))
   .subst hK
    have hz0:(c=ckn)=False:=aj aC
    have hz1:∀ n,(c=ckn+n)=False:=λn=>aj aC
    have hz2:∀ n m,(c=ckn+n+m)=False:=λn m=>aj aC
    have hz3:∀ n m p,(c=ckn+n+m+p)=False:=λn m p=>aj aC
    have hw_j:IntKind.i64.wrap (((j:Nat):Int)+1)=((j+1:Nat):Int):=aW (j) (by unfold LB at hl;omega)
    rcases gK2 l (j) hl with ⟨c1,b1,t1⟩|⟨c1,t1⟩
    have gx:=gL (l:=l) (i:=j) aC
    have hL:(os.length+1<=LIM)=True:=aa (by unfold LIM;unfold LB at hl;omega)
    have hw_j_1:IntKind.i64.wrap (((j+1:Nat):Int)+1)=((j+2:Nat):Int):=aW (j+1) (by unfold LB at hl;omega)
    have hw_j_2:IntKind.i64.wrap (((j+2:Nat):Int)+1)=((j+3:Nat):Int):=aW (j+2) (by unfold LB at hl;omega)
    rcases gW l (j+1) [100,101,115,99] hl with ⟨c2,b2,t2⟩|⟨c2,t2⟩
    have z2:=dO2 l (j+1) [97,115,99] [100,101,115,99] hl aC (b:=true) (by simp only[bF,c2,sevalprocAttr,aH,aY])
    rcases gW l (j+2) [44] hl with ⟨c3,b3,t3⟩|⟨c3,t3⟩
    .simp only[abA,acW,bF,aY,cf,aH,sevalprocAttr,↓reduceIte,c1,c2,c3] at E
     simp only[↓zA,sevalprocAttr,afv,zBS,aQ,f0,f1,f8,fo,hw_j,t1,gx,hL,hw_j_1,hw_j_2,t2,z2,t3]
     and_intros
     all_goals first|exact okN _ _ aC _|exact⟨n,aD n,os++[⟨(bN l j).s,0,true⟩],j+3,_,_,lsA rfl rfl aC,rfl,rfl,rfl,E,by omega,by simp only[abQ];omega⟩|rfl|trace_state
    rotate_left
    rcases gW l (j+1) [97,115,99] hl with ⟨c4,b4,t4⟩|⟨c4,t4⟩
    have z4:=dO2 l (j+1) [97,115,99] [100,101,115,99] hl aC (b:=true) (by simp only[bF,c2,c4,sevalprocAttr,aH])
    rcases gW l (j+2) [44] hl with ⟨c5,b5,t5⟩|⟨c5,t5⟩
    .simp only[abA,acW,bF,cf,aH,sevalprocAttr,↓reduceIte,c1,c2,c4,c5] at E
     simp only[↓zA,sevalprocAttr,afv,zBS,aQ,f0,f1,f8,fo,hw_j,t1,gx,hL,hw_j_1,hw_j_2,t2,z4,t5]
     and_intros
     all_goals first|exact okN _ _ aC _|exact⟨n,aD n,os++[⟨(bN l j).s,0,false⟩],j+3,_,_,lsA rfl rfl aC,rfl,rfl,rfl,E,by omega,by simp only[abQ];omega⟩|rfl|trace_state
    rotate_left
    have z5:=dO2 l (j+1) [97,115,99] [100,101,115,99] hl aC (b:=false) (by simp only[bF,c2,c4,sevalprocAttr,aH])
    rcases gW l (j+1) [44] hl with ⟨c6,b6,t6⟩|⟨c6,t6⟩
    .simp only[abA,acW,bF,cf,aH,zRZ,sevalprocAttr,↓reduceIte,c1,c2,c4,c6] at E
     simp only[↓zA,sevalprocAttr,afv,zBS,aQ,f0,f1,f8,fo,hw_j,t1,gx,hL,hw_j_1,t2,z5,t6]
     and_intros
     all_goals first|exact okN _ _ aC _|exact⟨n,aD n,os++[⟨(bN l j).s,0,false⟩],j+2,_,_,lsA rfl rfl aC,rfl,rfl,rfl,E,by omega,by simp only[abQ];omega⟩|rfl|trace_state
    rotate_left
    rcases gK3 l (j) hl with ⟨c7,b7,t7⟩|⟨c7,t7⟩
    have gy:=gL (l:=l) (i:=j) aC
    rcases eP (0<(bN l j).n) with ⟨c8,d8⟩|⟨c8,d8⟩
    have gx:=gL (l:=l) (i:=j) aC
    have hL:(os.length+1<=LIM)=True:=aa (by unfold LIM;unfold LB at hl;omega)
    have hw_j_1:IntKind.i64.wrap (((j+1:Nat):Int)+1)=((j+2:Nat):Int):=aW (j+1) (by unfold LB at hl;omega)
    have hw_j_2:IntKind.i64.wrap (((j+2:Nat):Int)+1)=((j+3:Nat):Int):=aW (j+2) (by unfold LB at hl;omega)
    rcases gW l (j+1) [100,101,115,99] hl with ⟨c9,b9,t9⟩|⟨c9,t9⟩
    have z9:=dO2 l (j+1) [97,115,99] [100,101,115,99] hl aC (b:=true) (by simp only[bF,c9,sevalprocAttr,aH,aY])
    rcases gW l (j+2) [44] hl with ⟨c10,b10,t10⟩|⟨c10,t10⟩
    .simp only[abA,bF,aY,aH,zRZ,sevalprocAttr,↓reduceIte,c1,c7,d8,c9,c10] at E
     simp only[↓zA,sevalprocAttr,afv,zBS,aQ,f0,f1,f8,fo,hw_j,t1,t7,gy,d8,hL,hw_j_1,hw_j_2,t9,z9,t10]
     and_intros
     all_goals first|exact okN _ _ aC _|exact⟨n,aD n,os++[⟨[],(bN l j).n,true⟩],j+3,_,_,lsA rfl rfl aC,rfl,rfl,rfl,E,by omega,by simp only[abQ];omega⟩|rfl|trace_state
    rotate_left
    rcases gW l (j+1) [97,115,99] hl with ⟨c11,b11,t11⟩|⟨c11,t11⟩
    have z11:=dO2 l (j+1) [97,115,99] [100,101,115,99] hl aC (b:=true) (by simp only[bF,c9,c11,sevalprocAttr,aH])
    rcases gW l (j+2) [44] hl with ⟨c12,b12,t12⟩|⟨c12,t12⟩
    .simp only[abA,bF,aY,aH,zRZ,sevalprocAttr,↓reduceIte,c1,c7,d8,c9,c11,c12] at E
     simp only[↓zA,sevalprocAttr,afv,zBS,aQ,f0,f1,f8,fo,hw_j,t1,t7,gy,d8,hL,hw_j_1,hw_j_2,t9,z11,t12]
     and_intros
     all_goals first|exact okN _ _ aC _|exact⟨n,aD n,os++[⟨[],(bN l j).n,false⟩],j+3,_,_,lsA rfl rfl aC,rfl,rfl,rfl,E,by omega,by simp only[abQ];omega⟩|rfl|trace_state
    rotate_left
    have z12:=dO2 l (j+1) [97,115,99] [100,101,115,99] hl aC (b:=false) (by simp only[bF,c9,c11,sevalprocAttr,aH])
    rcases gW l (j+1) [44] hl with ⟨c13,b13,t13⟩|⟨c13,t13⟩
    .simp only[abA,bF,aY,aH,zRZ,sevalprocAttr,↓reduceIte,c1,c7,d8,c9,c11,c13] at E
     simp only[↓zA,sevalprocAttr,afv,zBS,aQ,f0,f1,f8,fo,hw_j,t1,t7,gy,d8,hL,hw_j_1,t9,z12,t13]
     and_intros
     all_goals first|exact okN _ _ aC _|exact⟨n,aD n,os++[⟨[],(bN l j).n,false⟩],j+2,_,_,lsA rfl rfl aC,rfl,rfl,rfl,E,by omega,by simp only[abQ];omega⟩|rfl|trace_state
    rotate_left 3
    all_goals (simp only[abA,acW,bF,aY,cf,aH,zRZ,sevalprocAttr,↓reduceIte, *] at E <;> cases E <;> (simp only[↓zA,sevalprocAttr,afv,ca,acD,bx,ce,zBS,aQ, *];and_intros;all_goals first|exact okN _ _ aC _|rfl|(simp only[aH5,slC,alt,agu,bp];rfl)|(simp only[zVW];done)|(simp only[zVW];rfl)|trace_state))
 .simp only[↓zA,sevalprocAttr,afv]
  exact⟨[],i+1,_,_,.inl ⟨rfl,rfl⟩,rfl,rfl,rfl,hr,b0,bn _⟩

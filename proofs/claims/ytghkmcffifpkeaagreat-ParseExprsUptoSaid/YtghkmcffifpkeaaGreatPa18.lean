/- A part. Conditions: none. -/
import Derived.Test.YtghkmcffifpkeaaGreatPa17
set_option linter.all false
set_option maxRecDepth 100000
set_option maxHeartbeats 64000000
namespace Go.Proofs.YtghkmcffifpkeaaGreat
open Pe Tab
def aqA{l:List Tn}{F:Fs}(hl:l.length<LB)(H:PD l F)(i:Nat)(r:Qy×Nat×Bool)(hi:i<=l.length)(c0:isT l i [100,105,115,116,105,110,99,116]=true)(hr:aer F l true (l.length+1) [] (i+1)=some r):aF Tryz.prog pr 258 [tkX l,au i] [] (ca l qyE r):=by
 have hw_i:IntKind.i64.wrap (((i:Nat):Int)+1)=((i+1:Nat):Int):=aW (i) (by unfold LB at hl;omega)
 have t0:=dT l i [100,105,115,116,105,110,99,116] hl c0
 have b0:=fe c0
 refine bB aCD ?_
 simp only[Tryz.f258,↓zA,sevalprocAttr,agC,aQ,bi,hw_i,t0]
 refine eT _ _ (λn s=>∃ (its:List Im) (j:Nat) (K:List X),SeD true K its/\s.fr 0=tkX l/\s.fr 1=au j/\s.fr 4=.ptr 0 0/\s.fr 7=.ptr 1 0/\s.objs=[.var 38 aBs,.var 38 K]/\aer F l true n its j=some r/\j<=l.length/\its.length<=j) ?_ (l.length+1) _ ?_
 .rintro n ⟨frn,obn,ckn⟩ ⟨its,j,K,hK,f0,f1,f4,f7,fo,E,hj,hk⟩
  dsimp only at f0 f1 f4 f7 fo
  have hit:(its.length+1<=LIM)=True:=aa (by unfold LIM;unfold LB at hl;omega)
  cases n with
  | zero=>simp only[aer] at E;cases E
  | succ n =>
   unfold aer at E
   rcases hK with ⟨hK,hK'⟩|hK
   .subst hK hK'
    rcases gR (adF F l j) λ_=>aho hl H _ _ aC with e1|⟨a1,j1,e1,⟨u1,v1⟩,k1⟩|⟨a1,j1,e1,⟨u1,v1⟩,k1⟩
    rotate_left 2
    have hw_j1:IntKind.i64.wrap (((j1:Nat):Int)+1)=((j1+1:Nat):Int):=aW (j1) (by unfold LB at hl;omega)
    rcases gW l (j1) [44] hl with ⟨c2,b2,t2⟩|⟨c2,t2⟩
    .simp only[Rz.on,ah,e1,c2] at E
     simp only[Tryz.f258,↓zA,sevalprocAttr,agC,aQ,aZ,bi,bG,f0,f1,f4,f7,fo,gF,aaS,aeu,k1,hw_j1,t2]
     refine⟨n,aD n,[]++[a1],j1+1,ai9 true ([]++[a1]),.inr rfl,rfl,?_,E,by omega,by simp only[abQ];omega⟩
     simp only[ai9]
     simp only[zVW]
     all_goals rfl
    rcases gW l (j1) [102,114,111,109] hl with ⟨c3,b3,t3⟩|⟨c3,t3⟩
    rcases gR (F.fr (j1+1) []) λ_=>H.fr _ _ aC with e4|⟨a4,j4,e4,⟨u4,v4⟩,k4⟩|⟨a4,j4,e4,⟨u4,v4⟩,k4⟩
    rotate_left 2
    rcases gR (eC F l (j4) [119,104,101,114,101]) λ_=>cL hl H _ _ _ aC with e5|⟨a5,j5,e5,⟨u5,v5⟩,k5⟩|⟨a5,j5,e5,⟨u5,v5⟩,k5⟩
    rotate_left 2
    have hw_j5:IntKind.i64.wrap (((j5:Nat):Int)+1)=((j5+1:Nat):Int):=aW (j5) (by unfold LB at hl;omega)
    rcases gW l (j5) [103,114,111,117,112] hl with ⟨c6,b6,t6⟩|⟨c6,t6⟩
    have hw_j5_1:IntKind.i64.wrap (((j5+1:Nat):Int)+1)=((j5+2:Nat):Int):=aW (j5+1) (by unfold LB at hl;omega)
    rcases gW l (j5+1) [98,121] hl with ⟨c7,b7,t7⟩|⟨c7,t7⟩
    rcases gR (aag F l (j5+2)) λ_=>abU hl H _ _ aC with e8|⟨a8,j8,e8,⟨u8,v8⟩,k8⟩|⟨a8,j8,e8,⟨u8,v8⟩,k8⟩
    rotate_left 2
    rcases gR (eC F l (j8) [104,97,118,105,110,103]) λ_=>cL hl H _ _ _ aC with e9|⟨a9,j9,e9,⟨u9,v9⟩,k9⟩|⟨a9,j9,e9,⟨u9,v9⟩,k9⟩
    rotate_left 4
    rcases gR (eC F l (j5) [104,97,118,105,110,103]) λ_=>cL hl H _ _ _ aC with e10|⟨a10,j10,e10,⟨u10,v10⟩,k10⟩|⟨a10,j10,e10,⟨u10,v10⟩,k10⟩
    rotate_left 3
    rcases gR (eC F l (j1) [119,104,101,114,101]) λ_=>cL hl H _ _ _ aC with e11|⟨a11,j11,e11,⟨u11,v11⟩,k11⟩|⟨a11,j11,e11,⟨u11,v11⟩,k11⟩
    rotate_left 2
    have hw_j11:IntKind.i64.wrap (((j11:Nat):Int)+1)=((j11+1:Nat):Int):=aW (j11) (by unfold LB at hl;omega)
    rcases gW l (j11) [103,114,111,117,112] hl with ⟨c12,b12,t12⟩|⟨c12,t12⟩
    have hw_j11_1:IntKind.i64.wrap (((j11+1:Nat):Int)+1)=((j11+2:Nat):Int):=aW (j11+1) (by unfold LB at hl;omega)
    rcases gW l (j11+1) [98,121] hl with ⟨c13,b13,t13⟩|⟨c13,t13⟩
    rcases gR (aag F l (j11+2)) λ_=>abU hl H _ _ aC with e14|⟨a14,j14,e14,⟨u14,v14⟩,k14⟩|⟨a14,j14,e14,⟨u14,v14⟩,k14⟩
    rotate_left 2
    rcases gR (eC F l (j14) [104,97,118,105,110,103]) λ_=>cL hl H _ _ _ aC with e15|⟨a15,j15,e15,⟨u15,v15⟩,k15⟩|⟨a15,j15,e15,⟨u15,v15⟩,k15⟩
    rotate_left 4
    rcases gR (eC F l (j11) [104,97,118,105,110,103]) λ_=>cL hl H _ _ _ aC with e16|⟨a16,j16,e16,⟨u16,v16⟩,k16⟩|⟨a16,j16,e16,⟨u16,v16⟩,k16⟩
    rotate_left 3
    all_goals (simp only[ahm,ah0,ah3,ah2,zRZ,sevalprocAttr,↓reduceIte, *] at E <;> cases E <;> (simp only[Tryz.f258,↓zA,sevalprocAttr,agC,ca,cR,bx,ce,aQ,aZ,bi,bG,gF,aaS,aeu, *];all_goals exact fz))
   .subst hK
    rcases gR (adF F l j) λ_=>aho hl H _ _ aC with e17|⟨a17,j17,e17,⟨u17,v17⟩,k17⟩|⟨a17,j17,e17,⟨u17,v17⟩,k17⟩
    rotate_left 2
    have hw_j17:IntKind.i64.wrap (((j17:Nat):Int)+1)=((j17+1:Nat):Int):=aW (j17) (by unfold LB at hl;omega)
    rcases gW l (j17) [44] hl with ⟨c18,b18,t18⟩|⟨c18,t18⟩
    .simp only[Rz.on,ah,e17,c18] at E
     simp only[Tryz.f258,↓zA,sevalprocAttr,agC,aQ,aZ,bi,bG,f0,f1,f4,f7,fo,gF,hit,gO,aeu,k17,hw_j17,t18]
     refine⟨n,aD n,its++[a17],j17+1,ai9 true (its++[a17]),.inr rfl,rfl,?_,E,by omega,by simp only[abQ];omega⟩
     simp only[ai9]
     simp only[zVW]
     all_goals rfl
    rcases gW l (j17) [102,114,111,109] hl with ⟨c19,b19,t19⟩|⟨c19,t19⟩
    rcases gR (F.fr (j17+1) []) λ_=>H.fr _ _ aC with e20|⟨a20,j20,e20,⟨u20,v20⟩,k20⟩|⟨a20,j20,e20,⟨u20,v20⟩,k20⟩
    rotate_left 2
    rcases gR (eC F l (j20) [119,104,101,114,101]) λ_=>cL hl H _ _ _ aC with e21|⟨a21,j21,e21,⟨u21,v21⟩,k21⟩|⟨a21,j21,e21,⟨u21,v21⟩,k21⟩
    rotate_left 2
    have hw_j21:IntKind.i64.wrap (((j21:Nat):Int)+1)=((j21+1:Nat):Int):=aW (j21) (by unfold LB at hl;omega)
    rcases gW l (j21) [103,114,111,117,112] hl with ⟨c22,b22,t22⟩|⟨c22,t22⟩
    have hw_j21_1:IntKind.i64.wrap (((j21+1:Nat):Int)+1)=((j21+2:Nat):Int):=aW (j21+1) (by unfold LB at hl;omega)
    rcases gW l (j21+1) [98,121] hl with ⟨c23,b23,t23⟩|⟨c23,t23⟩
    rcases gR (aag F l (j21+2)) λ_=>abU hl H _ _ aC with e24|⟨a24,j24,e24,⟨u24,v24⟩,k24⟩|⟨a24,j24,e24,⟨u24,v24⟩,k24⟩
    rotate_left 2
    rcases gR (eC F l (j24) [104,97,118,105,110,103]) λ_=>cL hl H _ _ _ aC with e25|⟨a25,j25,e25,⟨u25,v25⟩,k25⟩|⟨a25,j25,e25,⟨u25,v25⟩,k25⟩
    rotate_left 4
    rcases gR (eC F l (j21) [104,97,118,105,110,103]) λ_=>cL hl H _ _ _ aC with e26|⟨a26,j26,e26,⟨u26,v26⟩,k26⟩|⟨a26,j26,e26,⟨u26,v26⟩,k26⟩
    rotate_left 3
    rcases gR (eC F l (j17) [119,104,101,114,101]) λ_=>cL hl H _ _ _ aC with e27|⟨a27,j27,e27,⟨u27,v27⟩,k27⟩|⟨a27,j27,e27,⟨u27,v27⟩,k27⟩
    rotate_left 2
    have hw_j27:IntKind.i64.wrap (((j27:Nat):Int)+1)=((j27+1:Nat):Int):=aW (j27) (by unfold LB at hl;omega)
    rcases gW l (j27) [103,114,111,117,112] hl with ⟨c28,b28,t28⟩|⟨c28,t28⟩
    have hw_j27_1:IntKind.i64.wrap (((j27+1:Nat):Int)+1)=((j27+2:Nat):Int):=aW (j27+1) (by unfold LB at hl;omega)
    rcases gW l (j27+1) [98,121] hl with ⟨c29,b29,t29⟩|⟨c29,t29⟩
    rcases gR (aag F l (j27+2)) λ_=>abU hl H _ _ aC with e30|⟨a30,j30,e30,⟨u30,v30⟩,k30⟩|⟨a30,j30,e30,⟨u30,v30⟩,k30⟩
    rotate_left 2
    rcases gR (eC F l (j30) [104,97,118,105,110,103]) λ_=>cL hl H _ _ _ aC with e31|⟨a31,j31,e31,⟨u31,v31⟩,k31⟩|⟨a31,j31,e31,⟨u31,v31⟩,k31⟩
    rotate_left 4
    rcases gR (eC F l (j27) [104,97,118,105,110,103]) λ_=>cL hl H _ _ _ aC with e32|⟨a32,j32,e32,⟨u32,v32⟩,k32⟩|⟨a32,j32,e32,⟨u32,v32⟩,k32⟩
    rotate_left 3
    all_goals (simp only[ahm,ah0,ah3,ah2,zRZ,sevalprocAttr,↓reduceIte, *] at E <;> cases E <;> (simp only[Tryz.f258,↓zA,sevalprocAttr,agC,ca,cR,bx,ce,aQ,aZ,bi,bG,gF,gO,aeu, *];all_goals exact fz))
 .simp only[↓zA,sevalprocAttr,agC]
  exact⟨[],i+1,_,.inl ⟨rfl,rfl⟩,rfl,rfl,hr,by omega,bn _⟩

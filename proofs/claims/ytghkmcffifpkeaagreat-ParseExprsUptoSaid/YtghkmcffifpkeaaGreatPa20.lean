/- A part. Conditions: none. -/
import Derived.Test.YtghkmcffifpkeaaGreatPa19
set_option linter.all false
set_option maxRecDepth 100000
set_option maxHeartbeats 64000000
namespace Go.Proofs.YtghkmcffifpkeaaGreat
open Pe Tab
def aqB{l:List Tn}{F:Fs}(hl:l.length<LB)(H:PD l F)(i:Nat)(r:Qy×Nat×Bool)(hi:i<=l.length)(hr:ajI F l i=some r):GD 258 [tkX l,au i] l qyE i r:=by
 refine⟨Pl.at (arR H.fp hi) hr,?_⟩
 unfold ajI at hr
 cases c0:isT l i [100,105,115,116,105,110,99,116] with
 | true=>rw[c0] at hr;exact aqA hl H i r hi c0 hr
 | false=>rw[c0] at hr;exact apw hl H i r hi c0 hr
def aEP(F:Fs)(l:List Tn)(i:Nat):acs F l i []=if isT l i [40] then (F.qy (i+1) []).on id (λq j=>wantE (eE l j [41]) q) else wantR (eE l i [115,101,108,101,99,116]) y0 λj=>ajI F l j:=rfl
def aKC:=ib @Tryz.f175.eq_1 @zq @aV0 @aVZ @bi @cW @dm @zT0 (kf aCJ)
def ajM{l:List Tn}{F:Fs}(hl:l.length<LB)(H:PD l F)(i:Nat)(r:Qy×Nat×Bool)(hi:i<=l.length)(hr:acs F l i []=some r):GD 175 [tkX l,au i,abs] l qyE i r:=by
 refine⟨Pl.at (apC H.fp hi) hr,?_⟩
 have hw_i:IntKind.i64.wrap (((i:Nat):Int)+1)=((i+1:Nat):Int):=aW (i) (by unfold LB at hl;omega)
 rcases gW l (i) [40] hl with ⟨c1,b1,t1⟩|⟨c1,t1⟩
 rcases gR (F.qy (i+1) []) λ_=>H.qy _ _ aC with e2|⟨a2,j2,e2,⟨u2,v2⟩,k2⟩|⟨a2,j2,e2,⟨u2,v2⟩,k2⟩
 rotate_left 2
 have hw_j2:IntKind.i64.wrap (((j2:Nat):Int)+1)=((j2+1:Nat):Int):=aW (j2) (by unfold LB at hl;omega)
 rcases gW l (j2) [41] hl with ⟨c3,b3,t3⟩|⟨c3,t3⟩
 rotate_left 2
 rcases gW l (i) [115,101,108,101,99,116] hl with ⟨c4,b4,t4⟩|⟨c4,t4⟩
 rcases gR (ajI F l (i+1)) λ_=>aqB hl H _ _ aC with e5|⟨a5,j5,e5,⟨u5,v5⟩,k5⟩|⟨a5,j5,e5,⟨u5,v5⟩,k5⟩
 rotate_left 4
 all_goals (simp only[aEP,zRZ,sevalprocAttr,↓reduceIte, *] at hr <;> cases hr <;> (refine bB aCJ ?_;simp only[↓zA,sevalprocAttr,aKC,ca,cR,bx,ce,aQ,bi, *];all_goals exact fz))
def auc{l:List Tn}{F:Fs}(i:Nat)(x:Qy)(cs:List C)(hx:cs=qyC x)(r:Qy×Nat×Bool)(hi:i<=l.length)(hr:acs F l i [x]=some r):GD 175 [tkX l,au i,.of (.sl cs 1)] l qyE i r:=by
 cases hr
 subst hx
 refine⟨⟨am _,hi⟩,?_⟩
 rw[ep]
 refine bB aCJ ?_
 simp only[↓zA,sevalprocAttr,aKC,ca,bx,bx,bi]
 all_goals exact fz

/-
  An abstract machine for Go code over plain data: a region that draws its order: the order of the text serves. Conditions: none.
-/
import Derived.Test.YtemdljoideegeaaGreatDoorPa3
set_option linter.defProp false
set_option linter.unusedSectionVars false
set_option maxRecDepth 100000
set_option maxHeartbeats 64000000
namespace Go.Pe
open Go.RowKit
theorem aat (t:Tk):∀ xs:List X,X.drops t xs=xs.map (X.drop t)
 | []=>rfl
 | x::r=>by simp[X.drops,aat t r]
def ajL (t:Tk):∀ x:X,(x.drop t).rd=x.rd :=
 X.rec (motive_1:=fun x=>(x.drop t).rd=x.rd) (motive_2:=fun xs=>X.rds (X.drops t xs)=X.rds xs)
  (fun _=>rfl) rfl (fun t' e z cs n=>by simp only[X.drop];split <;> simp[X.rd]) (fun _ _=>rfl) (fun _=>rfl) (fun _ _ _=>rfl)
  (fun xs ih=>by simp[X.drop,X.rd,ih]) (fun _ _=>rfl) (fun _ _ _=>rfl) rfl (fun x xs ih1 ih2=>by simp[X.drops,X.rds,ih1,ih2])
theorem an4 (t:Tk):∀ xs:List X,X.rds (xs.map (X.drop t))=X.rds xs
 | []=>rfl
 | x::r=>by simp[X.rds,ajL,an4 t r]
def drop_drop (t u:Tk):∀ x:X,(x.drop t).drop u=(x.drop u).drop t :=
 X.rec (motive_1:=fun x=>(x.drop t).drop u=(x.drop u).drop t) (motive_2:=fun xs=>X.drops u (X.drops t xs)=X.drops t (X.drops u xs))
  (fun _=>rfl) rfl
  (fun t' e z cs n=>by
   by_cases h1:t'=t
   .by_cases h2:t'=u
    .subst h1;subst h2;simp[X.drop]
    .subst h1;simp[X.drop,h2]
   .by_cases h2:t'=u
    .subst h2;simp[X.drop,h1]
    .simp[X.drop,h1,h2])
  (fun _ _=>rfl) (fun _=>rfl) (fun f xs ih=>by simp[X.drop,ih])
  (fun xs ih=>by simp[X.drop,ih]) (fun xs ih=>by simp[X.drop,ih])
  (fun o ty z=>by
   cases o with
   | none=>rfl
   | some t' =>
    by_cases h1:t'=t
    .by_cases h2:t'=u
     .subst h1;subst h2;simp[X.drop,afg]
     .subst h1;simp[X.drop,afg,h2]
    .by_cases h2:t'=u
     .subst h2;simp[X.drop,afg,h1]
     .simp[X.drop,afg,h1,h2])
  rfl (fun x xs ih1 ih2=>by simp[X.drops,ih1,ih2])
def ip (t t':Tk) (e z:Nat) (cs:List C) (n:Nat):(X.own t' e z cs n).drop t=.of (.sl cs n)∨(X.own t' e z cs n).drop t=.own t' e z cs n:=by
 simp only[X.drop]
 split
 .exact .inl rfl
 .exact .inr rfl
def aqI (t:Tk) (o:Option C):(o.map X.of).map (X.drop t)=o.map X.of:=by cases o <;> rfl
def ads (t:Tk) (x:X):acg (x.drop t)=acg x:=by
 cases x with
 | own t' e z cs n=>rcases ip t t' e z cs n with h|h <;> rw[h] <;> rfl
 | _=>rfl
def au5 (t:Tk) (x:X):ac1 (x.drop t)=ac1 x:=by
 cases x with
 | own t' e z cs n=>rcases ip t t' e z cs n with h|h <;> rw[h] <;> rfl
 | _=>rfl
def aji (t:Tk) (x:X):acL (x.drop t)=acL x:=by
 cases x with
 | own t' e z cs n=>rcases ip t t' e z cs n with h|h <;> rw[h] <;> rfl
 | _=>rfl
def anR (t:Tk) (x:X):d5 (x.drop t)=(d5 x).map (List.map (X.drop t)):=by
 cases x with
 | own t' e z cs n=>simp only[X.drop];split <;> simp[d5,X.drop, *]
 | of c=>cases c <;> simp[X.drop,d5]
 | _=>simp[X.drop,d5,aat]
def akT (t:Tk) (v:Value):(abT v).drop t=abT v:=by
 unfold abT
 split <;> rfl
def ahj (T:TT) (t:Tk) (ty:Nat) (xs:List X):gR T ty (xs.map (X.drop t))=(gR T ty xs).map (X.drop t):=by
 unfold gR
 split
 .rfl
 .rename_i d _
  simp only[gJ]
  split
  .split
   .simp[X.drop,aat,List.map_take]
   .cases xs <;> simp
  .rfl
def eX (t:Tk) (s:S) (x:Operand):(s.drop (some t)).ev x=(s.ev x).drop t:=by
 cases x <;> simp[S.ev,S.drop,X.drop,akT]
def aI5 (t:Tk) (x:X):afq (x.drop t)=afq x:=by
 cases x with
 | own t' e z cs n=>rcases ip t t' e z cs n with h|h <;> rw[h] <;> rfl
 | _=>simp[X.drop,afq]
theorem aln (t:Tk) (s:S):∀ l:List Operand,abF (l.map (s.drop (some t)).ev)=abF (l.map s.ev)
 | []=>rfl
 | x::r=>by simp only[aV,abF,eX,aI5,aln t s r]
def aEn (t:Tk) {x y:X} (h:afq x=some y):y.drop t=y:=by
 cases x <;> simp only[afq,ae,reduceCtorEq] at h <;> subst h <;> rfl
theorem ajE (t:Tk):∀ (l ys:List X),abF l=some ys→X.drops t ys=ys
 | [],ys,h=>by simp only[abF,ae] at h;subst h;rfl
 | x::r,ys,h=>by
  simp only[abF] at h
  split at h
  .rename_i y q h1 h2
   simp only[ae] at h
   subst h
   simp only[X.drops]
   rw[aEn t h1,ajE t r q h2]
  .cases h
theorem akO (t:Tk) (s:S):∀ l,aay (s.drop (some t)).ev l=aay s.ev l
 | []=>rfl
 | x::r=>by simp[aay,eX,ajL,akO t s r]
theorem ajt (t:Tk) (s:S):∀ l,jn (s.drop (some t)).ev l=(jn s.ev l).map (List.map fun p=>(p.1,p.2.map (X.drop t)))
 | []=>rfl
 | (i,x)::r=>by
  simp only[jn,eX,anR,ajt t s r]
  cases d5 (s.ev x) <;> cases jn s.ev r <;> simp
theorem aib (place:Nat→Option (Nat×Nat)) (t:Tk):∀ (qs:List (Nat×List X)) (cells:List X),iY place (cells.map (X.drop t)) (qs.map fun p=>(p.1,p.2.map (X.drop t)))=(iY place cells qs).map (List.map (X.drop t))
 | [],cells=>rfl
 | (i,xs)::r,cells=>by
  simp only[aV,iY]
  cases place i with
  | none=>rfl
  | some p =>
   obtain⟨off,size⟩:=p
   simp only[gJ]
   split
   .rw[← aib place t r]
    simp[List.map_take,ady]
   .rfl
def gP (t:Tk):Out→Out
 | none=>none
 | some (x,u)=>if u=some t then none else some (x.drop t,u)
def gY (t:Tk):gP t none=none:=rfl
def iu (t:Tk) (x:X):gP t (out x)=out (x.drop t):=by simp[gP,out]
def aa0 (t:Tk) (x:Option X):gP t (dB x)=dB (x.map (X.drop t)):=by cases x <;> simp[gP,dB]
def abK (t:Tk) (c:Prop) [Decidable c] (a b:Out):gP t (if c then a else b)=if c then gP t a else gP t b:=by split <;> rfl
def ahZ (t:Tk) (d:TD):(ik d).map (X.drop t)=ik d:=by
 simp[ik,akT]
def arI (t:Tk) (s:S) (r:Nat):(s.drop (some t)).objs[r]?=(s.objs[r]?).map (Ob.drop t):=by simp[S.drop]
def aDl (T:TT) (t:Tk) (s:S) (ty:Nat) (x:X):acQ T (s.drop (some t)).objs ty (x.drop t)=gP t (acQ T s.objs ty x):=by
 cases x with
 | ptr r off =>
  simp only[X.drop,acQ,arI]
  cases s.objs[r]? with
  | none=>rfl
  | some ob =>
   cases ob with
   | var ty xs=>simp only[bH,Ob.drop,aat,← ady,ahj,aa0]
   | map es=>rfl
 | of c =>
  cases c <;> simp only[X.drop,acQ,gY,aa0,aqI]
 | own t' e z cs n=>rcases ip t t' e z cs n with h|h <;> rw[h] <;> rfl
 | _=>rfl
def apN (T:TT) (t:Tk) (ty f:Nat) (x:X):abm T ty f (x.drop t)=gP t (abm T ty f x):=by
 unfold abm
 cases aiN T ty f with
 | none=>rfl
 | some p =>
  obtain⟨o,z⟩:=p
  simp only[abK,gY]
  split
  .cases x with
   | of c=>cases c <;> simp[X.drop,gP,out]
   | own t' e z cs n=>rcases ip t t' e z cs n with h|h <;> rw[h] <;> rfl
   | _=>simp[X.drop,gP,out]
  .rfl
def axx (T:TT) (t:Tk) (ty f:Nat) (x:X):afB T ty f (x.drop t)=gP t (afB T ty f x):=by
 unfold afB
 split
 .split
  .cases x with
   | of c =>
    cases c <;> simp only[X.drop,gY,aa0,aqI]
   | own t' e z cs n=>rcases ip t t' e z cs n with h|h <;> rw[h] <;> rfl
   | agg xs=>simp only[X.drop,aat,← ady,ahj,aa0]
   | _=>rfl
  .rfl
 .rfl
def apH (T:TT) (t:Tk) (ty:Nat) (x i:X):dG T ty (x.drop t) (i.drop t)=gP t (dG T ty x i):=by
 unfold dG
 rw[ads]
 split
 .rfl
 .split
  .rw[aji]
   split
   .simp only[abK,gY,iu,X.drop]
   .rfl
  .split
   .simp only[abK,gY]
    split
    .cases x with
     | of c=>cases c <;> simp[X.drop,gP,out]
     | own t' e z cs n=>rcases ip t t' e z cs n with h|h <;> rw[h] <;> rfl
     | _=>simp[X.drop,gP,out]
    .rfl
   .rfl
  .rfl
def axr (T:TT) (t:Tk) (ty:Nat) (x i:X):adb T ty (x.drop t) (i.drop t)=gP t (adb T ty x i):=by
 unfold adb
 rw[ads]
 split
 .rfl
 .cases x with
  | of c =>
   cases c with
   | lit v =>
    cases v with
    | string st =>
     simp only[X.drop]
     split
     .simp[gP,out,X.drop]
     .rfl
    | _=>rfl
   | agg cs =>
    simp only[X.drop]
    split
    .split
     .rename_i n e _ _ _ _ _ _ _ d _
      simp only[abK,gY,aa0,aqI]
     .rfl
    .rfl
   | _=>rfl
  | own t' e z cs n=>rcases ip t t' e z cs n with h|h <;> rw[h] <;> rfl
  | agg xs =>
   simp only[X.drop,aat]
   split
   .split
    .simp only[abK,gY,aa0,← ady,ahj]
    .rfl
   .rfl
  | _=>rfl
def ar1 (t:Tk) (d:Int) (x:Option X):acY d (x.map (X.drop t))=acY d x:=by
 cases x <;> simp[acY,ads]
def awQ (T:TT) (t:Tk) (ty:Nat) (x:X) (lo hi:Option X):aao T ty (x.drop t) (lo.map (X.drop t)) (hi.map (X.drop t))=gP t (aao T ty x lo hi):=by
 have slice:∀ y:X,(∀ s,y≠.of (.lit (.string s)))→aao T ty y lo hi=match elemOf T ty,acL y with
  | some (_,d),some (cs,n) =>
   match acY 0 lo,acY (n:Int) hi with
   | some l,some h=>if 0≤l∧l≤h∧h≤(n:Int)∧cs.length=n*d.size then out (.of (.sl ((cs.drop (l.toNat*d.size)).take ((h.toNat-l.toNat)*d.size)) (h.toNat-l.toNat))) else none
   | _,_=>none
  | _,_=>none:=by
  intro y hy
  unfold aao
  split
  .rename_i st;exact (hy st rfl).elim
  .rfl
 have slice':∀ y:X,(∀ s,y≠.of (.lit (.string s)))→aao T ty y (lo.map (X.drop t)) (hi.map (X.drop t))=match elemOf T ty,acL y with
  | some (_,d),some (cs,n) =>
   match acY 0 lo,acY (n:Int) hi with
   | some l,some h=>if 0≤l∧l≤h∧h≤(n:Int)∧cs.length=n*d.size then out (.of (.sl ((cs.drop (l.toNat*d.size)).take ((h.toNat-l.toNat)*d.size)) (h.toNat-l.toNat))) else none
   | _,_=>none
  | _,_=>none:=by
  intro y hy
  unfold aao
  split
  .rename_i st;exact (hy st rfl).elim
  .simp only[ar1]
   rfl
 have fin:(match elemOf T ty,acL x with
  | some (_,d),some (cs,n) =>
   match acY 0 lo,acY (n:Int) hi with
   | some l,some h=>if 0≤l∧l≤h∧h≤(n:Int)∧cs.length=n*d.size then out (.of (.sl ((cs.drop (l.toNat*d.size)).take ((h.toNat-l.toNat)*d.size)) (h.toNat-l.toNat))) else none
   | _,_=>none
  | _,_=>none)=gP t (match elemOf T ty,acL x with
  | some (_,d),some (cs,n) =>
   match acY 0 lo,acY (n:Int) hi with
   | some l,some h=>if 0≤l∧l≤h∧h≤(n:Int)∧cs.length=n*d.size then out (.of (.sl ((cs.drop (l.toNat*d.size)).take ((h.toNat-l.toNat)*d.size)) (h.toNat-l.toNat))) else none
   | _,_=>none
  | _,_=>none):=by
  split
  .split
   .simp only[abK,gY,iu,X.drop]
   .rfl
  .rfl
 by_cases hstr:∃ st,x=.of (.lit (.string st))
 .obtain⟨st,rfl⟩:=hstr
  simp only[X.drop,aao,ar1]
  split
  .split
   .simp only[abK,gY,iu,X.drop]
   .rfl
  .rfl
 .have h1:∀ s,x≠.of (.lit (.string s)):=fun s e=>hstr ⟨s,e⟩
  have h2:∀ s,x.drop t≠.of (.lit (.string s)):=fun s e=>by
   cases x with
   | own t' e' z cs n=>simp only[X.drop] at e;split at e <;> cases e
   | of c=>exact h1 s e
   | _=>simp[X.drop] at e
  rw[slice' _ h2,slice _ h1,aji]
  exact fin
def aHh (t:Tk) (u:Option TypeDesc) (x:X):abx u (x.drop t)=gP t (abx u x):=by
 cases x with
 | of c =>
  cases c with
  | lit v=>cases v <;> simp only[X.drop,abx,acL,gY,abK,iu]
  | _=>simp only[X.drop,abx,acL,gY,abK,iu]
 | own t' e z cs n=>simp only[X.drop];split <;> simp only[abx,acL,abK,gY,iu,X.drop]
 | _=>simp only[X.drop,abx,acL,gY,abK,iu]
def apV (T:TT) (t:Tk) (d:Option TD) (x:X):ajh T d (x.drop t)=gP t (ajh T d x):=by
 unfold ajh
 rw[aji]
 split
 .split
  .rename_i cs _ _ _
   cases aef cs <;> simp[dB,gP,X.drop]
  .rfl
 .rfl
def apU (T:TT) (a b:Nat) (y:X):Out:=match (T b).map (·.und) with
 | some TypeDesc.string=>ajh T (T a) y
 | _=>none
def aEb (T:TT) (t:Tk) (a b:Nat) (x:X):apU T a b (x.drop t)=gP t (apU T a b x):=by
 unfold apU
 split
 .exact apV T t (T a) x
 .rfl
def aau (T:TT) (a b:Nat) (y:X) (hy:∀ c,y≠.of (.lit c)):ad4 T a b y=apU T a b y:=by
 unfold ad4 apU
 generalize (T b).map (·.und)=u
 generalize T a=d
 split
 .exact absurd rfl (hy _)
 .exact absurd rfl (hy _)
 .rfl
 .split
  .simp_all
  .rfl
def asB (T:TT) (t:Tk) (a b:Nat) (x:X):ad4 T a b (x.drop t)=gP t (ad4 T a b x):=by
 have hN:=aEb T t a b x
 cases x with
 | of c =>
  have hB:=apV T t (T a) (.of c)
  simp only[X.drop] at hB ⊢
  unfold ad4
  split
  .simp[gP,out,X.drop]
  .simp[gP,out,X.drop]
  .exact hB
  .rfl
 | own t' e z cs n =>
  have e1:=aau T a b (.own t' e z cs n) (fun c h=>by cases h)
  have e2:=aau T a b ((X.own t' e z cs n).drop t) (fun c h=>by rcases ip t t' e z cs n with h'|h' <;> rw[h'] at h <;> cases h)
  rw[e1,e2]
  exact hN
 | nil=>rw[aau T a b _ (fun c h=>by cases h),aau T a b _ (fun c h=>by cases h)];exact hN
 | ptr r o=>rw[aau T a b _ (fun c h=>by cases h),aau T a b _ (fun c h=>by cases h)];exact hN
 | mp r=>rw[aau T a b _ (fun c h=>by cases h),aau T a b _ (fun c h=>by cases h)];exact hN
 | clo f l=>rw[aau T a b _ (fun c h=>by cases h),aau T a b _ (fun c h=>by cases h)];exact hN
 | agg l=>rw[aau T a b _ (fun c h=>by cases h),aau T a b _ (fun c h=>by cases h)];exact hN
 | tup l=>rw[aau T a b _ (fun c h=>by cases h),aau T a b _ (fun c h=>by cases h)];exact hN
 | nw o ty z=>rw[aau T a b _ (fun c h=>by cases h),aau T a b _ (fun c h=>by cases h)];exact hN
def ak2 (t:Tk) (x:X):fY (x.drop t)=fY x:=by
 cases x with
 | own t' e z cs n=>rcases ip t t' e z cs n with h|h <;> rw[h] <;> rfl
 | _=>rfl
def aDi (t:Tk) (s:S) (x:X):acP (s.drop (some t)).objs (x.drop t)=acP s.objs x:=by
 cases x with
 | own t' e z cs n=>rcases ip t t' e z cs n with h|h <;> rw[h] <;> rfl
 | mp r =>
  simp only[X.drop,acP,arI]
  cases s.objs[r]? with
  | none=>rfl
  | some ob=>cases ob <;> rfl
 | of c =>
  cases c with
  | lit v=>cases v with
   | map m=>cases m <;> rfl
   | _=>rfl
  | _=>rfl
 | _=>rfl
def aBJ (T:TT) (t:Tk) (et:Nat):(ah0 T et).map (X.drop t)=ah0 T et:=by
 unfold ah0
 split
 .rw[← ahj,ahZ]
 .rfl
def au2 (T:TT) (t:Tk) (s:S) (ty:Nat) (x kx:X) (ok:Bool):jf T (s.drop (some t)).objs ty (x.drop t) (kx.drop t) ok=gP t (jf T s.objs ty x kx ok):=by
 unfold jf
 rw[ak2,aDi]
 split
 .rename_i kind et kv es _ _ _
  split
  .rename_i i _
   rw[aa0]
   cases es[i]? with
   | none=>rfl
   | some p=>cases ok <;> rfl
  .rw[aa0]
   congr 1
   have h:=aBJ T t et
   cases hz:ah0 T et with
   | none=>rfl
   | some z =>
    rw[hz] at h
    simp only[bH,ae] at h
    cases ok with
    | true=>simp[X.drop,X.drops,h]
    | false=>simp[h]
  .rfl
 .rfl
def axQ (T:TT) (t:Tk) (st xt e:Nat) (x:X):agQ T st xt e (x.drop t)=agQ T st xt e x:=by
 unfold agQ
 rw[aji]
 split
 .rfl
 .cases x with
  | own t' e z cs n=>rcases ip t t' e z cs n with h|h <;> rw[h]
  | _=>rfl
def awj (T:TT) (t tk:Tk) (ht:t≠tk) (st xt:Nat) (x y:X):js T tk st xt (x.drop t) (y.drop t)=gP t (js T tk st xt x y):=by
 unfold js
 split
 .rw[axQ]
  split
  .split
   .cases x with
    | own t' e z cs n =>
     simp only[X.drop]
     by_cases he:t'=t
     .subst he
      simp only[aA]
      split
      .simp[gP]
      .rfl
     .simp only[he,aQ,abK,gY]
      split
      .simp[gP,he,X.drop,Ne.symm ht]
      .rfl
    | nil =>
     simp only[X.drop,abK,gY]
     split
     .simp[gP,X.drop,Ne.symm ht]
     .rfl
    | _=>simp[X.drop,gP]
   .rfl
  .rfl
 .rfl
def axh (t:Tk) (clk ix:Nat) (ht:∀ i,t≠.nm clk ix i):∀ x:X,(x.tr (fun _=>none) (acf clk ix)).drop t=x.tr (fun _=>none) (acf clk ix) :=
 X.rec (motive_1:=fun x=>(x.tr (fun _=>none) (acf clk ix)).drop t=x.tr (fun _=>none) (acf clk ix)) (motive_2:=fun xs=>X.drops t (X.trs (fun _=>none) (acf clk ix) xs)=X.trs (fun _=>none) (acf clk ix) xs)
  (fun _=>rfl) rfl
  (fun t' e z cs n=>by
   simp only[X.tr]
   split
   .rename_i t2 h2
    have:t2≠t:=by
     unfold acf at h2
     split at h2
     .cases h2;exact Ne.symm (ht _)
     .cases h2
    simp[X.drop,this]
   .rfl)
  (fun _ _=>rfl) (fun _=>rfl) (fun f xs ih=>by simp only[X.tr,X.drop,ih]) (fun xs ih=>by simp only[X.tr,X.drop,ih]) (fun xs ih=>by simp only[X.tr,X.drop,ih])
  (fun o ty z=>by
   cases o with
   | none=>rfl
   | some t' =>
    simp only[X.tr,dD,X.drop]
    cases h2:acf clk ix t' with
    | none=>rfl
    | some t2 =>
     have:t2≠t:=by
      unfold acf at h2
      split at h2
      .cases h2;exact Ne.symm (ht _)
      .cases h2
     simp[afg,this])
  rfl
  (fun x xs h1 h2=>by simp only[X.trs,X.drops,h1,h2])
def aDa (t:Tk) (clk ix:Nat) (ht:∀ i,t≠.nm clk ix i) (xs:List X):(agD clk ix xs).map (X.drop t)=agD clk ix xs:=by
 unfold agD
 induction xs with
 | nil=>rfl
 | cons x xs ih=>simp only[X.trs,aV,axh t clk ix ht,ih]
def aF9 (t:Tk) (xs:List X):(aen xs).drop t=aen (xs.map (X.drop t)):=by
 match xs with
 | []=>simp[aen,X.drop,aat]
 | [x]=>simp[aen]
 | x::y::r=>simp[aen,X.drop,aat]
def aEq (P:Program) (E:En) (t:Tk) (clk ix f:Nat) (ht:∀ i,t≠.nm clk ix i) (cs:List C):aey P E clk ix f cs=gP t (aey P E clk ix f cs):=by
 unfold aey
 split
 .split
  .rw[iu,aF9,aDa t _ _ ht]
  .rfl
 .rfl
def aG6 (t:Tk) (x y:X):auZ (x.drop t) (y.drop t)=gP t (auZ x y):=by
 unfold auZ
 rw[ads,ads]
 split
 .rw[iu];rfl
 .rfl
def aG8 (t:Tk) (x y:X):aob (x.drop t) (y.drop t)=gP t (aob x y):=by
 unfold aob
 rw[ads,ads]
 split
 .rw[iu];rfl
 .rfl
def aEa (T:TT) (t:Tk) (a b:Nat) (x:X):afN T a b (x.drop t)=gP t (afN T a b x):=by
 have hN:=asB T t a b x
 unfold afN
 cases hu:(T b).map (·.und) with
 | none=>exact hN
 | some u =>
  cases u with
  | slice e =>
   cases x with
   | of c =>
    cases c with
    | lit v =>
     cases v with
     | string s =>
      simp only[X.drop,atv]
      split <;> simp[gP,out,X.drop]
     | _=>exact hN
    | _=>exact hN
   | own t' e' z cs n =>
    rcases ip t t' e' z cs n with h|h <;> rw[h] at hN ⊢ <;> exact hN
   | _=>exact hN
  | _=>exact hN
def atH (P:Program) (T:TT) (E:En) (t:Tk) (s:S) (ix:Nat) (ht:∀ i,t≠.nm s.clk ix i) (cal:Callee) (args:List Operand) (tys:List Nat) :
  af5 P T E (s.drop (some t)) ix cal args tys=gP t (af5 P T E s ix cal args tys):=by
 unfold af5
 split
 .rw[eX,aHh]
 .rw[eX,eX];exact awj T t _ (ht 0) _ _ _ _
 .rw[eX,eX,aG6]
 .rw[eX,eX,aG8]
 .rename_i f
  rw[akO,eX]
  cases hf:s.ev f with
  | of c =>
   cases c <;> simp only[X.drop,gY]
   split
   .exact aEq P E t s.clk ix _ ht _
   .rfl
  | own t' e z cs n=>rcases ip t t' e z cs n with h|h <;> rw[h] <;> rfl
  | _=>rfl
 .rfl
def atG (P:Program) (T:TT) (E:En) (t:Tk) (s:S) (ix:Nat) (ht:∀ i,t≠.nm s.clk ix i) (o:Oper):val P T E (s.drop (some t)) ix o=gP t (val P T E s ix o):=by
 unfold val
 split
 .rw[eX,iu]
 .rw[eX,iu]
 .rw[eX,au5,eX,eX]
  split
  .rename_i b _
   cases b <;> simp[iu]
  .rfl
 .rename_i op ty x y yt _
  rw[eX,eX]
  unfold gS
  rw[ak2,ak2,ajL,ajL]
  split
  .rename_i u v _ _
   cases aaK ((T ty).map (·.und)) op u v <;> rfl
  .unfold ahK
   split
   .rename_i cs ds _ _
    split
    .cases ad0 P T ty cs ds <;> rfl
    .cases ad0 P T ty cs ds <;> rfl
    .rfl
   .rfl
 .rename_i op ty x _
  rw[eX]
  cases s.ev x with
  | of c =>
   cases c <;> simp only[X.drop,gY,aa0]
   rename_i u
   cases aoJ op u <;> rfl
  | own t' e z cs n=>rcases ip t t' e z cs n with h|h <;> rw[h] <;> rfl
  | _=>rfl
 .rw[eX];exact aDl T t s _ _
 .rw[eX,apN]
 .rw[eX,axx]
 .rw[eX,eX,apH]
 .rw[eX,eX,axr]
 .rename_i ty x lo hi _
  rw[eX,← awQ]
  congr 1
  .cases lo <;> simp[eX]
  .cases hi <;> simp[eX]
 .rename_i ty ps _
  rw[ajt]
  cases T ty with
  | none=>rfl
  | some d =>
   cases jn s.ev ps.toList with
   | none=>rfl
   | some qs =>
    simp only[bH]
    split
    .have h1:=aib (fun i=>d.fields[i]?) t qs (ik d)
     rw[ahZ] at h1
     rw[h1,aa0]
     cases iY (fun i=>d.fields[i]?) (ik d) qs <;> simp[X.drop,aat]
    .split
     .rename_i de _
      have h1:=aib (fun i=>some (i*de.size,de.size)) t qs (ik d)
      rw[ahZ] at h1
      rw[h1,aa0]
      cases iY (fun i=>some (i*de.size,de.size)) (ik d) qs <;> simp[X.drop,aat]
     .rfl
    .rfl
 .rename_i ty n ps _
  rw[ajt]
  cases elemOf T ty with
  | none=>rfl
  | some ed =>
   obtain⟨e,d⟩:=ed
   cases jn s.ev ps.toList with
   | none=>rfl
   | some qs =>
    simp only[bH]
    split
    .have h0:((List.replicate n (ik d)).flatten).map (X.drop t)=(List.replicate n (ik d)).flatten:=by
      rw[List.map_flatten,List.map_replicate,ahZ]
     have h1:=aib (fun i=>some (i*d.size,d.size)) t qs ((List.replicate n (ik d)).flatten)
     rw[h0] at h1
     rw[h1]
     cases iY (fun i=>some (i*d.size,d.size)) ((List.replicate n (ik d)).flatten) qs with
     | none=>rfl
     | some xs =>
      simp only[bH,an4]
      cases X.rds xs with
      | none=>rfl
      | some cs =>
       simp only[iu,X.drop]
       rw[aj (fun e=>ht 0 e.symm)]
       rfl
    .rfl
 .rename_i x i _
  rw[eX]
  cases s.ev x with
  | of c =>
   cases c <;> simp only[X.drop,gY,aa0]
   rename_i cs
   cases cs[i]? <;> rfl
  | own t' e z cs n=>rcases ip t t' e z cs n with h|h <;> rw[h] <;> rfl
  | tup xs=>simp[X.drop,aat,aa0]
  | _=>rfl
 .rename_i x _
  rw[eX]
  cases s.ev x with
  | of c=>cases c <;> simp only[X.drop,gY,iu]
  | own t' e z cs n=>rcases ip t t' e z cs n with h|h <;> rw[h] <;> rfl
  | _=>simp[X.drop,gP,out]
 .rw[akO]
  split
  .split
   .simp[iu,X.drop]
   .rw[aln]
    cases h:abF _ with
    | none=>rfl
    | some ys=>simp[ajD,iu,X.drop,ajE t _ _ h]
  .split
   .rw[aln]
    cases h:abF _ with
    | none=>rfl
    | some ys=>simp[ajD,iu,X.drop,ajE t _ _ h]
   .rfl
 .rw[eX,aEa]
 .rw[eX,eX];exact au2 T t s _ _ _ _
 .rw[eX,ajL]
  split
  .simp[iu,X.drop]
  .rfl
 .exact atH P T E t s ix ht _ _ _
 .split
  .split
   .rw[iu]
    simp only[S.drop,X.drop,afg]
    rw[aj (fun e=>ht 0 e.symm)]
   .rfl
  .rfl
 .rename_i ty d x _
  have h1:gA ((s.drop (some t)).ev x)=gA (s.ev x):=by
   unfold gA
   rw[eX,anR]
   cases d5 (s.ev x) with
   | none=>rfl
   | some l=>simp only[bH,dD,an4]
  rw[h1]
  have h2:(s.drop (some t)).fr d=(s.fr d).drop t:=rfl
  rw[h2]
  cases hT:T ty with
  | none=>rfl
  | some td =>
   cases hf:s.fr d with
   | nw ok ty' z =>
    cases ok with
    | none=>rfl
    | some tk =>
    by_cases hk:tk=t
    .subst hk
     simp only[X.drop,afg,aA]
     cases gA (s.ev x) with
     | none=>rfl
     | some cs =>
      cases o.guard with
      | some g=>rfl
      | none =>
       cases o.dst with
       | some d'=>rfl
       | none =>
        simp only
        split
        .simp[gP]
        .rfl
    .simp only[X.drop,afg,hk,aQ]
     cases gA (s.ev x) with
     | none=>rfl
     | some cs =>
      cases o.guard with
      | some g=>rfl
      | none =>
       cases o.dst with
       | some d'=>rfl
       | none =>
        simp only
        split
        .simp[gP,hk,X.drop]
        .rfl
   | own t' e z cs n=>rcases ip t t' e z cs n with h|h <;> rw[h] <;> rfl
   | _=>rfl
 .rfl
end Go.Pe

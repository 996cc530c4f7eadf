/-
  An abstract machine for Go code over plain data: a region that draws its order: the order of the text serves. Conditions: none.
-/
import Derived.Test.YtemdljoideegeaaGreatDoorPa3
set_option linter.defProp false
set_option linter.unusedSectionVars false
set_option maxRecDepth 100000
set_option maxHeartbeats 64000000
namespace Go.Pe
open Go.RowKit
theorem aat (t:Tk):∀ xs:List X,X.drops t xs=xs.map (X.drop t)
 | []=>rfl
 | x::r=>by simp[X.drops,aat t r]
def ajJ (t:Tk):∀ x:X,(x.drop t).rd=x.rd :=
 X.rec (motive_1:=fun x=>(x.drop t).rd=x.rd) (motive_2:=fun xs=>X.rds (X.drops t xs)=X.rds xs)
  (fun _=>rfl) rfl (fun t' e z cs n=>by simp only[X.drop];split <;> simp[X.rd]) (fun _ _=>rfl) (fun _=>rfl) (fun _ _ _=>rfl)
  (fun xs ih=>by simp[X.drop,X.rd,ih]) (fun _ _=>rfl) (fun _ _ _=>rfl) rfl (fun x xs ih1 ih2=>by simp[X.drops,X.rds,ih1,ih2])
theorem an2 (t:Tk):∀ xs:List X,X.rds (xs.map (X.drop t))=X.rds xs
 | []=>rfl
 | x::r=>by simp[X.rds,ajJ,an2 t r]
def drop_drop (t u:Tk):∀ x:X,(x.drop t).drop u=(x.drop u).drop t :=
 X.rec (motive_1:=fun x=>(x.drop t).drop u=(x.drop u).drop t) (motive_2:=fun xs=>X.drops u (X.drops t xs)=X.drops t (X.drops u xs))
  (fun _=>rfl) rfl
  (fun t' e z cs n=>by
   by_cases h1:t'=t
   .by_cases h2:t'=u
    .subst h1;subst h2;simp[X.drop]
    .subst h1;simp[X.drop,h2]
   .by_cases h2:t'=u
    .subst h2;simp[X.drop,h1]
    .simp[X.drop,h1,h2])
  (fun _ _=>rfl) (fun _=>rfl) (fun f xs ih=>by simp[X.drop,ih])
  (fun xs ih=>by simp[X.drop,ih]) (fun xs ih=>by simp[X.drop,ih])
  (fun o ty z=>by
   cases o with
   | none=>rfl
   | some t' =>
    by_cases h1:t'=t
    .by_cases h2:t'=u
     .subst h1;subst h2;simp[X.drop,afe]
     .subst h1;simp[X.drop,afe,h2]
    .by_cases h2:t'=u
     .subst h2;simp[X.drop,afe,h1]
     .simp[X.drop,afe,h1,h2])
  rfl (fun x xs ih1 ih2=>by simp[X.drops,ih1,ih2])
def iw (t t':Tk) (e z:Nat) (cs:List C) (n:Nat):(X.own t' e z cs n).drop t=.of (.sl cs n)∨(X.own t' e z cs n).drop t=.own t' e z cs n:=by
 simp only[X.drop]
 split
 .exact .inl rfl
 .exact .inr rfl
def aqG (t:Tk) (o:Option C):(o.map X.of).map (X.drop t)=o.map X.of:=by cases o <;> rfl
def adq (t:Tk) (x:X):ace (x.drop t)=ace x:=by
 cases x with
 | own t' e z cs n=>rcases iw t t' e z cs n with h|h <;> rw[h] <;> rfl
 | _=>rfl
def au3 (t:Tk) (x:X):acZ (x.drop t)=acZ x:=by
 cases x with
 | own t' e z cs n=>rcases iw t t' e z cs n with h|h <;> rw[h] <;> rfl
 | _=>rfl
def ajg (t:Tk) (x:X):acJ (x.drop t)=acJ x:=by
 cases x with
 | own t' e z cs n=>rcases iw t t' e z cs n with h|h <;> rw[h] <;> rfl
 | _=>rfl
def anP (t:Tk) (x:X):eu (x.drop t)=(eu x).map (List.map (X.drop t)):=by
 cases x with
 | own t' e z cs n=>simp only[X.drop];split <;> simp[eu,X.drop, *]
 | of c=>cases c <;> simp[X.drop,eu]
 | _=>simp[X.drop,eu,aat]
def akR (t:Tk) (v:Value):(abR v).drop t=abR v:=by
 unfold abR
 split <;> rfl
def ahh (T:TT) (t:Tk) (ty:Nat) (xs:List X):gX T ty (xs.map (X.drop t))=(gX T ty xs).map (X.drop t):=by
 unfold gX
 split
 .rfl
 .rename_i d _
  simp only[gP]
  split
  .split
   .simp[X.drop,aat,List.map_take]
   .cases xs <;> simp
  .rfl
def fe (t:Tk) (s:S) (x:Operand):(s.drop (some t)).ev x=(s.ev x).drop t:=by
 cases x <;> simp[S.ev,S.drop,X.drop,akR]
def aI3 (t:Tk) (x:X):afo (x.drop t)=afo x:=by
 cases x with
 | own t' e z cs n=>rcases iw t t' e z cs n with h|h <;> rw[h] <;> rfl
 | _=>simp[X.drop,afo]
theorem alk (t:Tk) (s:S):∀ l:List Operand,abE (l.map (s.drop (some t)).ev)=abE (l.map s.ev)
 | []=>rfl
 | x::r=>by simp only[aV,abE,fe,aI3,alk t s r]
def aEl (t:Tk) {x y:X} (h:afo x=some y):y.drop t=y:=by
 cases x <;> simp only[afo,ae,reduceCtorEq] at h <;> subst h <;> rfl
theorem ajC (t:Tk):∀ (l ys:List X),abE l=some ys→X.drops t ys=ys
 | [],ys,h=>by simp only[abE,ae] at h;subst h;rfl
 | x::r,ys,h=>by
  simp only[abE] at h
  split at h
  .rename_i y q h1 h2
   simp only[ae] at h
   subst h
   simp only[X.drops]
   rw[aEl t h1,ajC t r q h2]
  .cases h
theorem akM (t:Tk) (s:S):∀ l,aay (s.drop (some t)).ev l=aay s.ev l
 | []=>rfl
 | x::r=>by simp[aay,fe,ajJ,akM t s r]
theorem ajr (t:Tk) (s:S):∀ l,js (s.drop (some t)).ev l=(js s.ev l).map (List.map fun p=>(p.1,p.2.map (X.drop t)))
 | []=>rfl
 | (i,x)::r=>by
  simp only[js,fe,anP,ajr t s r]
  cases eu (s.ev x) <;> cases js s.ev r <;> simp
theorem ah9 (place:Nat→Option (Nat×Nat)) (t:Tk):∀ (qs:List (Nat×List X)) (cells:List X),jb place (cells.map (X.drop t)) (qs.map fun p=>(p.1,p.2.map (X.drop t)))=(jb place cells qs).map (List.map (X.drop t))
 | [],cells=>rfl
 | (i,xs)::r,cells=>by
  simp only[aV,jb]
  cases place i with
  | none=>rfl
  | some p =>
   obtain⟨off,size⟩:=p
   simp only[gP]
   split
   .rw[← ah9 place t r]
    simp[List.map_take,adv]
   .rfl
def gW (t:Tk):Out→Out
 | none=>none
 | some (x,u)=>if u=some t then none else some (x.drop t,u)
def hX (t:Tk):gW t none=none:=rfl
def iA (t:Tk) (x:X):gW t (out x)=out (x.drop t):=by simp[gW,out]
def aaZ (t:Tk) (x:Option X):gW t (dE x)=dE (x.map (X.drop t)):=by cases x <;> simp[gW,dE]
def abI (t:Tk) (c:Prop) [Decidable c] (a b:Out):gW t (if c then a else b)=if c then gW t a else gW t b:=by split <;> rfl
def ahX (t:Tk) (d:TD):(iq d).map (X.drop t)=iq d:=by
 simp[iq,akR]
def arF (t:Tk) (s:S) (r:Nat):(s.drop (some t)).objs[r]?=(s.objs[r]?).map (Ob.drop t):=by simp[S.drop]
def aDj (T:TT) (t:Tk) (s:S) (ty:Nat) (x:X):acO T (s.drop (some t)).objs ty (x.drop t)=gW t (acO T s.objs ty x):=by
 cases x with
 | ptr r off =>
  simp only[X.drop,acO,arF]
  cases s.objs[r]? with
  | none=>rfl
  | some ob =>
   cases ob with
   | var ty xs=>simp only[bH,Ob.drop,aat,← adv,ahh,aaZ]
   | map es=>rfl
 | of c =>
  cases c <;> simp only[X.drop,acO,hX,aaZ,aqG]
 | own t' e z cs n=>rcases iw t t' e z cs n with h|h <;> rw[h] <;> rfl
 | _=>rfl
def apL (T:TT) (t:Tk) (ty f:Nat) (x:X):abl T ty f (x.drop t)=gW t (abl T ty f x):=by
 unfold abl
 cases aiL T ty f with
 | none=>rfl
 | some p =>
  obtain⟨o,z⟩:=p
  simp only[abI,hX]
  split
  .cases x with
   | of c=>cases c <;> simp[X.drop,gW,out]
   | own t' e z cs n=>rcases iw t t' e z cs n with h|h <;> rw[h] <;> rfl
   | _=>simp[X.drop,gW,out]
  .rfl
def axv (T:TT) (t:Tk) (ty f:Nat) (x:X):afz T ty f (x.drop t)=gW t (afz T ty f x):=by
 unfold afz
 split
 .split
  .cases x with
   | of c =>
    cases c <;> simp only[X.drop,hX,aaZ,aqG]
   | own t' e z cs n=>rcases iw t t' e z cs n with h|h <;> rw[h] <;> rfl
   | agg xs=>simp only[X.drop,aat,← adv,ahh,aaZ]
   | _=>rfl
  .rfl
 .rfl
def apF (T:TT) (t:Tk) (ty:Nat) (x i:X):dL T ty (x.drop t) (i.drop t)=gW t (dL T ty x i):=by
 unfold dL
 rw[adq]
 split
 .rfl
 .split
  .rw[ajg]
   split
   .simp only[abI,hX,iA,X.drop]
   .rfl
  .split
   .simp only[abI,hX]
    split
    .cases x with
     | of c=>cases c <;> simp[X.drop,gW,out]
     | own t' e z cs n=>rcases iw t t' e z cs n with h|h <;> rw[h] <;> rfl
     | _=>simp[X.drop,gW,out]
    .rfl
   .rfl
  .rfl
def axp (T:TT) (t:Tk) (ty:Nat) (x i:X):ac9 T ty (x.drop t) (i.drop t)=gW t (ac9 T ty x i):=by
 unfold ac9
 rw[adq]
 split
 .rfl
 .cases x with
  | of c =>
   cases c with
   | lit v =>
    cases v with
    | string st =>
     simp only[X.drop]
     split
     .simp[gW,out,X.drop]
     .rfl
    | _=>rfl
   | agg cs =>
    simp only[X.drop]
    split
    .split
     .rename_i n e _ _ _ _ _ _ _ d _
      simp only[abI,hX,aaZ,aqG]
     .rfl
    .rfl
   | _=>rfl
  | own t' e z cs n=>rcases iw t t' e z cs n with h|h <;> rw[h] <;> rfl
  | agg xs =>
   simp only[X.drop,aat]
   split
   .split
    .simp only[abI,hX,aaZ,← adv,ahh]
    .rfl
   .rfl
  | _=>rfl
def arZ (t:Tk) (d:Int) (x:Option X):acW d (x.map (X.drop t))=acW d x:=by
 cases x <;> simp[acW,adq]
def awO (T:TT) (t:Tk) (ty:Nat) (x:X) (lo hi:Option X):aao T ty (x.drop t) (lo.map (X.drop t)) (hi.map (X.drop t))=gW t (aao T ty x lo hi):=by
 have slice:∀ y:X,(∀ s,y≠.of (.lit (.string s)))→aao T ty y lo hi=match elemOf T ty,acJ y with
  | some (_,d),some (cs,n) =>
   match acW 0 lo,acW (n:Int) hi with
   | some l,some h=>if 0≤l∧l≤h∧h≤(n:Int)∧cs.length=n*d.size then out (.of (.sl ((cs.drop (l.toNat*d.size)).take ((h.toNat-l.toNat)*d.size)) (h.toNat-l.toNat))) else none
   | _,_=>none
  | _,_=>none:=by
  intro y hy
  unfold aao
  split
  .rename_i st;exact (hy st rfl).elim
  .rfl
 have slice':∀ y:X,(∀ s,y≠.of (.lit (.string s)))→aao T ty y (lo.map (X.drop t)) (hi.map (X.drop t))=match elemOf T ty,acJ y with
  | some (_,d),some (cs,n) =>
   match acW 0 lo,acW (n:Int) hi with
   | some l,some h=>if 0≤l∧l≤h∧h≤(n:Int)∧cs.length=n*d.size then out (.of (.sl ((cs.drop (l.toNat*d.size)).take ((h.toNat-l.toNat)*d.size)) (h.toNat-l.toNat))) else none
   | _,_=>none
  | _,_=>none:=by
  intro y hy
  unfold aao
  split
  .rename_i st;exact (hy st rfl).elim
  .simp only[arZ]
   rfl
 have fin:(match elemOf T ty,acJ x with
  | some (_,d),some (cs,n) =>
   match acW 0 lo,acW (n:Int) hi with
   | some l,some h=>if 0≤l∧l≤h∧h≤(n:Int)∧cs.length=n*d.size then out (.of (.sl ((cs.drop (l.toNat*d.size)).take ((h.toNat-l.toNat)*d.size)) (h.toNat-l.toNat))) else none
   | _,_=>none
  | _,_=>none)=gW t (match elemOf T ty,acJ x with
  | some (_,d),some (cs,n) =>
   match acW 0 lo,acW (n:Int) hi with
   | some l,some h=>if 0≤l∧l≤h∧h≤(n:Int)∧cs.length=n*d.size then out (.of (.sl ((cs.drop (l.toNat*d.size)).take ((h.toNat-l.toNat)*d.size)) (h.toNat-l.toNat))) else none
   | _,_=>none
  | _,_=>none):=by
  split
  .split
   .simp only[abI,hX,iA,X.drop]
   .rfl
  .rfl
 by_cases hstr:∃ st,x=.of (.lit (.string st))
 .obtain⟨st,rfl⟩:=hstr
  simp only[X.drop,aao,arZ]
  split
  .split
   .simp only[abI,hX,iA,X.drop]
   .rfl
  .rfl
 .have h1:∀ s,x≠.of (.lit (.string s)):=fun s e=>hstr ⟨s,e⟩
  have h2:∀ s,x.drop t≠.of (.lit (.string s)):=fun s e=>by
   cases x with
   | own t' e' z cs n=>simp only[X.drop] at e;split at e <;> cases e
   | of c=>exact h1 s e
   | _=>simp[X.drop] at e
  rw[slice' _ h2,slice _ h1,ajg]
  exact fin
def aHf (t:Tk) (u:Option TypeDesc) (x:X):abw u (x.drop t)=gW t (abw u x):=by
 cases x with
 | of c =>
  cases c with
  | lit v=>cases v <;> simp only[X.drop,abw,acJ,hX,abI,iA]
  | _=>simp only[X.drop,abw,acJ,hX,abI,iA]
 | own t' e z cs n=>simp only[X.drop];split <;> simp only[abw,acJ,abI,hX,iA,X.drop]
 | _=>simp only[X.drop,abw,acJ,hX,abI,iA]
def apT (T:TT) (t:Tk) (d:Option TD) (x:X):ajf T d (x.drop t)=gW t (ajf T d x):=by
 unfold ajf
 rw[ajg]
 split
 .split
  .rename_i cs _ _ _
   cases aec cs <;> simp[dE,gW,X.drop]
  .rfl
 .rfl
def apS (T:TT) (a b:Nat) (y:X):Out:=match (T b).map (·.und) with
 | some TypeDesc.string=>ajf T (T a) y
 | _=>none
def aD9 (T:TT) (t:Tk) (a b:Nat) (x:X):apS T a b (x.drop t)=gW t (apS T a b x):=by
 unfold apS
 split
 .exact apT T t (T a) x
 .rfl
def aau (T:TT) (a b:Nat) (y:X) (hy:∀ c,y≠.of (.lit c)):ad1 T a b y=apS T a b y:=by
 unfold ad1 apS
 generalize (T b).map (·.und)=u
 generalize T a=d
 split
 .exact absurd rfl (hy _)
 .exact absurd rfl (hy _)
 .rfl
 .split
  .simp_all
  .rfl
def asz (T:TT) (t:Tk) (a b:Nat) (x:X):ad1 T a b (x.drop t)=gW t (ad1 T a b x):=by
 have hN:=aD9 T t a b x
 cases x with
 | of c =>
  have hB:=apT T t (T a) (.of c)
  simp only[X.drop] at hB ⊢
  unfold ad1
  split
  .simp[gW,out,X.drop]
  .simp[gW,out,X.drop]
  .exact hB
  .rfl
 | own t' e z cs n =>
  have e1:=aau T a b (.own t' e z cs n) (fun c h=>by cases h)
  have e2:=aau T a b ((X.own t' e z cs n).drop t) (fun c h=>by rcases iw t t' e z cs n with h'|h' <;> rw[h'] at h <;> cases h)
  rw[e1,e2]
  exact hN
 | nil=>rw[aau T a b _ (fun c h=>by cases h),aau T a b _ (fun c h=>by cases h)];exact hN
 | ptr r o=>rw[aau T a b _ (fun c h=>by cases h),aau T a b _ (fun c h=>by cases h)];exact hN
 | mp r=>rw[aau T a b _ (fun c h=>by cases h),aau T a b _ (fun c h=>by cases h)];exact hN
 | clo f l=>rw[aau T a b _ (fun c h=>by cases h),aau T a b _ (fun c h=>by cases h)];exact hN
 | agg l=>rw[aau T a b _ (fun c h=>by cases h),aau T a b _ (fun c h=>by cases h)];exact hN
 | tup l=>rw[aau T a b _ (fun c h=>by cases h),aau T a b _ (fun c h=>by cases h)];exact hN
 | nw o ty z=>rw[aau T a b _ (fun c h=>by cases h),aau T a b _ (fun c h=>by cases h)];exact hN
def ak0 (t:Tk) (x:X):gk (x.drop t)=gk x:=by
 cases x with
 | own t' e z cs n=>rcases iw t t' e z cs n with h|h <;> rw[h] <;> rfl
 | _=>rfl
def aDg (t:Tk) (s:S) (x:X):acN (s.drop (some t)).objs (x.drop t)=acN s.objs x:=by
 cases x with
 | own t' e z cs n=>rcases iw t t' e z cs n with h|h <;> rw[h] <;> rfl
 | mp r =>
  simp only[X.drop,acN,arF]
  cases s.objs[r]? with
  | none=>rfl
  | some ob=>cases ob <;> rfl
 | of c =>
  cases c with
  | lit v=>cases v with
   | map m=>cases m <;> rfl
   | _=>rfl
  | _=>rfl
 | _=>rfl
def aBH (T:TT) (t:Tk) (et:Nat):(ahY T et).map (X.drop t)=ahY T et:=by
 unfold ahY
 split
 .rw[← ahh,ahX]
 .rfl
def au0 (T:TT) (t:Tk) (s:S) (ty:Nat) (x kx:X) (ok:Bool):jk T (s.drop (some t)).objs ty (x.drop t) (kx.drop t) ok=gW t (jk T s.objs ty x kx ok):=by
 unfold jk
 rw[ak0,aDg]
 split
 .rename_i kind et kv es _ _ _
  split
  .rename_i i _
   rw[aaZ]
   cases es[i]? with
   | none=>rfl
   | some p=>cases ok <;> rfl
  .rw[aaZ]
   congr 1
   have h:=aBH T t et
   cases hz:ahY T et with
   | none=>rfl
   | some z =>
    rw[hz] at h
    simp only[bH,ae] at h
    cases ok with
    | true=>simp[X.drop,X.drops,h]
    | false=>simp[h]
  .rfl
 .rfl
def axO (T:TT) (t:Tk) (st xt e:Nat) (x:X):agO T st xt e (x.drop t)=agO T st xt e x:=by
 unfold agO
 rw[ajg]
 split
 .rfl
 .cases x with
  | own t' e z cs n=>rcases iw t t' e z cs n with h|h <;> rw[h]
  | _=>rfl
def awg (T:TT) (t tk:Tk) (ht:t≠tk) (st xt:Nat) (x y:X):jy T tk st xt (x.drop t) (y.drop t)=gW t (jy T tk st xt x y):=by
 unfold jy
 split
 .rw[axO]
  split
  .split
   .cases x with
    | own t' e z cs n =>
     simp only[X.drop]
     by_cases he:t'=t
     .subst he
      simp only[aA]
      split
      .simp[gW]
      .rfl
     .simp only[he,aQ,abI,hX]
      split
      .simp[gW,he,X.drop,d5 ht]
      .rfl
    | nil =>
     simp only[X.drop,abI,hX]
     split
     .simp[gW,X.drop,d5 ht]
     .rfl
    | _=>simp[X.drop,gW]
   .rfl
  .rfl
 .rfl
def axf (t:Tk) (clk ix:Nat) (ht:∀ i,t≠.nm clk ix i):∀ x:X,(x.tr (fun _=>none) (acd clk ix)).drop t=x.tr (fun _=>none) (acd clk ix) :=
 X.rec (motive_1:=fun x=>(x.tr (fun _=>none) (acd clk ix)).drop t=x.tr (fun _=>none) (acd clk ix)) (motive_2:=fun xs=>X.drops t (X.trs (fun _=>none) (acd clk ix) xs)=X.trs (fun _=>none) (acd clk ix) xs)
  (fun _=>rfl) rfl
  (fun t' e z cs n=>by
   simp only[X.tr]
   split
   .rename_i t2 h2
    have:t2≠t:=by
     unfold acd at h2
     split at h2
     .cases h2;exact d5 (ht _)
     .cases h2
    simp[X.drop,this]
   .rfl)
  (fun _ _=>rfl) (fun _=>rfl) (fun f xs ih=>by simp only[X.tr,X.drop,ih]) (fun xs ih=>by simp only[X.tr,X.drop,ih]) (fun xs ih=>by simp only[X.tr,X.drop,ih])
  (fun o ty z=>by
   cases o with
   | none=>rfl
   | some t' =>
    simp only[X.tr,dG,X.drop]
    cases h2:acd clk ix t' with
    | none=>rfl
    | some t2 =>
     have:t2≠t:=by
      unfold acd at h2
      split at h2
      .cases h2;exact d5 (ht _)
      .cases h2
     simp[afe,this])
  rfl
  (fun x xs h1 h2=>by simp only[X.trs,X.drops,h1,h2])
def aC8 (t:Tk) (clk ix:Nat) (ht:∀ i,t≠.nm clk ix i) (xs:List X):(agB clk ix xs).map (X.drop t)=agB clk ix xs:=by
 unfold agB
 induction xs with
 | nil=>rfl
 | cons x xs ih=>simp only[X.trs,aV,axf t clk ix ht,ih]
def aF7 (t:Tk) (xs:List X):(aek xs).drop t=aek (xs.map (X.drop t)):=by
 match xs with
 | []=>simp[aek,X.drop,aat]
 | [x]=>simp[aek]
 | x::y::r=>simp[aek,X.drop,aat]
def aEo (P:Program) (E:En) (t:Tk) (clk ix f:Nat) (ht:∀ i,t≠.nm clk ix i) (cs:List C):aew P E clk ix f cs=gW t (aew P E clk ix f cs):=by
 unfold aew
 split
 .split
  .rw[iA,aF7,aC8 t _ _ ht]
  .rfl
 .rfl
def aG4 (t:Tk) (x y:X):auX (x.drop t) (y.drop t)=gW t (auX x y):=by
 unfold auX
 rw[adq,adq]
 split
 .rw[iA];rfl
 .rfl
def aG6 (t:Tk) (x y:X):an9 (x.drop t) (y.drop t)=gW t (an9 x y):=by
 unfold an9
 rw[adq,adq]
 split
 .rw[iA];rfl
 .rfl
def aD8 (T:TT) (t:Tk) (a b:Nat) (x:X):afL T a b (x.drop t)=gW t (afL T a b x):=by
 have hN:=asz T t a b x
 unfold afL
 cases hu:(T b).map (·.und) with
 | none=>exact hN
 | some u =>
  cases u with
  | slice e =>
   cases x with
   | of c =>
    cases c with
    | lit v =>
     cases v with
     | string s =>
      simp only[X.drop,att]
      split <;> simp[gW,out,X.drop]
     | _=>exact hN
    | _=>exact hN
   | own t' e' z cs n =>
    rcases iw t t' e' z cs n with h|h <;> rw[h] at hN ⊢ <;> exact hN
   | _=>exact hN
  | _=>exact hN
def atF (P:Program) (T:TT) (E:En) (t:Tk) (s:S) (ix:Nat) (ht:∀ i,t≠.nm s.clk ix i) (cal:Callee) (args:List Operand) (tys:List Nat) :
  af3 P T E (s.drop (some t)) ix cal args tys=gW t (af3 P T E s ix cal args tys):=by
 unfold af3
 split
 .rw[fe,aHf]
 .rw[fe,fe];exact awg T t _ (ht 0) _ _ _ _
 .rw[fe,fe,aG4]
 .rw[fe,fe,aG6]
 .rename_i f
  rw[akM,fe]
  cases hf:s.ev f with
  | of c =>
   cases c <;> simp only[X.drop,hX]
   split
   .exact aEo P E t s.clk ix _ ht _
   .rfl
  | own t' e z cs n=>rcases iw t t' e z cs n with h|h <;> rw[h] <;> rfl
  | _=>rfl
 .rfl
def atE (P:Program) (T:TT) (E:En) (t:Tk) (s:S) (ix:Nat) (ht:∀ i,t≠.nm s.clk ix i) (o:Oper):val P T E (s.drop (some t)) ix o=gW t (val P T E s ix o):=by
 unfold val
 split
 .rw[fe,iA]
 .rw[fe,iA]
 .rw[fe,au3,fe,fe]
  split
  .rename_i b _
   cases b <;> simp[iA]
  .rfl
 .rename_i op ty x y yt _
  rw[fe,fe]
  unfold gY
  rw[ak0,ak0,ajJ,ajJ]
  split
  .rename_i u v _ _
   cases aaK ((T ty).map (·.und)) op u v <;> rfl
  .unfold ahI
   split
   .rename_i cs ds _ _
    split
    .cases adX P T ty cs ds <;> rfl
    .cases adX P T ty cs ds <;> rfl
    .rfl
   .rfl
 .rename_i op ty x _
  rw[fe]
  cases s.ev x with
  | of c =>
   cases c <;> simp only[X.drop,hX,aaZ]
   rename_i u
   cases aoH op u <;> rfl
  | own t' e z cs n=>rcases iw t t' e z cs n with h|h <;> rw[h] <;> rfl
  | _=>rfl
 .rw[fe];exact aDj T t s _ _
 .rw[fe,apL]
 .rw[fe,axv]
 .rw[fe,fe,apF]
 .rw[fe,fe,axp]
 .rename_i ty x lo hi _
  rw[fe,← awO]
  congr 1
  .cases lo <;> simp[fe]
  .cases hi <;> simp[fe]
 .rename_i ty ps _
  rw[ajr]
  cases T ty with
  | none=>rfl
  | some d =>
   cases js s.ev ps.toList with
   | none=>rfl
   | some qs =>
    simp only[bH]
    split
    .have h1:=ah9 (fun i=>d.fields[i]?) t qs (iq d)
     rw[ahX] at h1
     rw[h1,aaZ]
     cases jb (fun i=>d.fields[i]?) (iq d) qs <;> simp[X.drop,aat]
    .split
     .rename_i de _
      have h1:=ah9 (fun i=>some (i*de.size,de.size)) t qs (iq d)
      rw[ahX] at h1
      rw[h1,aaZ]
      cases jb (fun i=>some (i*de.size,de.size)) (iq d) qs <;> simp[X.drop,aat]
     .rfl
    .rfl
 .rename_i ty n ps _
  rw[ajr]
  cases elemOf T ty with
  | none=>rfl
  | some ed =>
   obtain⟨e,d⟩:=ed
   cases js s.ev ps.toList with
   | none=>rfl
   | some qs =>
    simp only[bH]
    split
    .have h0:((List.replicate n (iq d)).flatten).map (X.drop t)=(List.replicate n (iq d)).flatten:=by
      rw[List.map_flatten,List.map_replicate,ahX]
     have h1:=ah9 (fun i=>some (i*d.size,d.size)) t qs ((List.replicate n (iq d)).flatten)
     rw[h0] at h1
     rw[h1]
     cases jb (fun i=>some (i*d.size,d.size)) ((List.replicate n (iq d)).flatten) qs with
     | none=>rfl
     | some xs =>
      simp only[bH,an2]
      cases X.rds xs with
      | none=>rfl
      | some cs =>
       simp only[iA,X.drop]
       rw[aj (fun e=>ht 0 e.symm)]
       rfl
    .rfl
 .rename_i x i _
  rw[fe]
  cases s.ev x with
  | of c =>
   cases c <;> simp only[X.drop,hX,aaZ]
   rename_i cs
   cases cs[i]? <;> rfl
  | own t' e z cs n=>rcases iw t t' e z cs n with h|h <;> rw[h] <;> rfl
  | tup xs=>simp[X.drop,aat,aaZ]
  | _=>rfl
 .rename_i x _
  rw[fe]
  cases s.ev x with
  | of c=>cases c <;> simp only[X.drop,hX,iA]
  | own t' e z cs n=>rcases iw t t' e z cs n with h|h <;> rw[h] <;> rfl
  | _=>simp[X.drop,gW,out]
 .rw[akM]
  split
  .split
   .simp[iA,X.drop]
   .rw[alk]
    cases h:abE _ with
    | none=>rfl
    | some ys=>simp[ajB,iA,X.drop,ajC t _ _ h]
  .split
   .rw[alk]
    cases h:abE _ with
    | none=>rfl
    | some ys=>simp[ajB,iA,X.drop,ajC t _ _ h]
   .rfl
 .rw[fe,aD8]
 .rw[fe,fe];exact au0 T t s _ _ _ _
 .rw[fe,ajJ]
  split
  .simp[iA,X.drop]
  .rfl
 .exact atF P T E t s ix ht _ _ _
 .split
  .split
   .rw[iA]
    simp only[S.drop,X.drop,afe]
    rw[aj (fun e=>ht 0 e.symm)]
   .rfl
  .rfl
 .rename_i ty d x _
  have h1:gH ((s.drop (some t)).ev x)=gH (s.ev x):=by
   unfold gH
   rw[fe,anP]
   cases eu (s.ev x) with
   | none=>rfl
   | some l=>simp only[bH,dG,an2]
  rw[h1]
  have h2:(s.drop (some t)).fr d=(s.fr d).drop t:=rfl
  rw[h2]
  cases hT:T ty with
  | none=>rfl
  | some td =>
   cases hf:s.fr d with
   | nw ok ty' z =>
    cases ok with
    | none=>rfl
    | some tk =>
    by_cases hk:tk=t
    .subst hk
     simp only[X.drop,afe,aA]
     cases gH (s.ev x) with
     | none=>rfl
     | some cs =>
      cases o.guard with
      | some g=>rfl
      | none =>
       cases o.dst with
       | some d'=>rfl
       | none =>
        simp only
        split
        .simp[gW]
        .rfl
    .simp only[X.drop,afe,hk,aQ]
     cases gH (s.ev x) with
     | none=>rfl
     | some cs =>
      cases o.guard with
      | some g=>rfl
      | none =>
       cases o.dst with
       | some d'=>rfl
       | none =>
        simp only
        split
        .simp[gW,hk,X.drop]
        .rfl
   | own t' e z cs n=>rcases iw t t' e z cs n with h|h <;> rw[h] <;> rfl
   | _=>rfl
 .rfl
end Go.Pe

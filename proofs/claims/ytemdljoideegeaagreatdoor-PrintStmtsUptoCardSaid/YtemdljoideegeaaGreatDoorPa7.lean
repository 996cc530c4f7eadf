/-
  An abstract machine for Go code over plain data: rules by which the evaluator is run on symbols. Conditions: none.
-/
import Derived.Test.YtemdljoideegeaaGreatDoorPa6
set_option linter.defProp false
set_option linter.unusedSectionVars false
set_option maxRecDepth 100000
set_option maxHeartbeats 64000000
namespace Go.Pe
def Orc.le (a b:Orc):Prop:=∀ f xs obs an,a f xs obs=some an→b f xs obs=some an
structure En.le (a b:En):Prop where
 orc:Orc.le a.orc b.orc
 obj:a.obj=b.obj
 tk:a.tk=b.tk
 mt:a.mt=b.mt
def aEp {P:Program} {E E':En} (h:En.le E E') {clk ix f:Nat} {cs:List C} {y:X×Option Tk} (hv:aey P E clk ix f cs=some y):aey P E' clk ix f cs=some y:=by
 unfold aey at *
 rw[← h.obj]
 split at hv
 .rename_i hc
  rw[aE hc]
  split at hv
  .rename_i rs hr
   rw[h.orc _ _ _ _ hr]
   exact hv
  .cases hv
 .cases hv
def aJX {P:Program} {T:TT} {E E':En} (h:En.le E E') {s:S} {ix:Nat} {o:Oper} {y:X×Option Tk} (hv:val P T E s ix o=some y):val P T E' s ix o=some y:=by
 unfold val at *
 split at hv <;> (try exact hv)
 unfold af5 at *
 split at hv
 .exact hv
 .exact hv
 .exact hv
 .exact hv
 .split at hv
  .exact aEp h hv
  .cases hv
 .cases hv
def agp {P:Program} {T:TT} {E E':En} (h:En.le E E') {s:S} {ix:Nat} {o:Oper} {y:Option X×S} (hv:gW P T E s ix o=some y):gW P T E' s ix o=some y:=by
 unfold gW at *
 split at hv
 .rename_i x t hx
  rw[aJX h hx]
  exact hv
 .cases hv
def ai2 {P:Program} {T:TT} {E E':En} (h:En.le E E') {dr:Bool} {s:S} {ix:Nat} {o:Oper} {y:Option X×S} (hv:abY P T E dr s ix o=some y):abY P T E' dr s ix o=some y:=by
 unfold abY at *
 split at hv
 .rename_i hd
  rw[aE hd]
  exact agp h hv
 .rename_i hd
  rw[aj hd]
  split at hv
  .rw[← h.mt]
   split at hv
   .rename_i hm
    rw[aE hm]
    exact hv
   .rename_i hm
    rw[aj hm]
    exact agp h hv
  .rw[← h.mt]
   exact hv
  .rw[← h.mt]
   split at hv
   .split at hv
    .rename_i hm
     rw[aE hm]
     exact hv
    .rename_i hm
     rw[aj hm]
     exact agp h hv
   .exact hv
  .exact hv
  .exact hv
  .exact hv
  .exact hv
  .exact hv
  .split at hv
   .rename_i g us htg
    rw[← h.obj]
    split at hv
    .rename_i ho
     rw[aE ho]
     unfold aho at *
     rw[← h.tk]
     split at hv
     .rename_i hc
      rw[aE hc]
      simp only at hv ⊢
      split at hv
      .rename_i obs hobs
       split at hv
       .rename_i an han
        rw[h.orc _ _ _ _ han]
        exact hv
       .cases hv
      .cases hv
     .cases hv
    .rename_i ho
     rw[aj ho]
     exact agp h hv
   .cases hv
  .exact agp h hv
theorem agL {P:Program} {T:TT} {E E':En} (h:En.le E E') {dr:Bool} {ops:Array Oper} {y:Option X×S}:∀ (l:List Oper) (n:Nat) (s:S),abE P T E dr ops n l s=some y→abE P T E' dr ops n l s=some y
 | [],_,_,hv=>hv
 | o::l,n,s,hv=>by
  have hst:∀ z,df P T E dr ops s n o=some z→df P T E' dr ops s n o=some z:=fun z h1=>by
   unfold df at *
   split at h1
   .exact ai2 h h1
   .exact h1
   .cases h1
  simp only[abE] at hv ⊢
  split at hv
  .rename_i s1 h1
   rw[hst _ h1]
   exact agL h l _ _ hv
  .rename_i x s1 h1
   rw[hst _ h1]
   exact hv
  .cases hv
def aLg {P:Program} {E E':En} (h:En.le E E') {o:Op} {es:List (Value×C)} (hv:mkA P E o=some es):mkA P E' o=some es:=by
 unfold mkA at *
 split at hv
 .split at hv
  .rename_i hc
   rw[aE hc]
   split at hv
   .rename_i es' ho
    rw[h.orc _ _ _ _ ho]
    exact hv
   .cases hv
  .cases hv
 .cases hv
def ak0 {P:Program} {E E':En} (h:En.le E E') {s s':S} {o:Oper} (hv:mkS P E s o=some s'):mkS P E' s o=some s':=by
 unfold mkS at *
 simp only[aP] at hv
 obtain⟨es,h1,rfl⟩:=hv
 rw[aLg h h1]
 rfl
def aeZ {P:Program} {T:TT} {E E':En} (h:En.le E E') {dr:Bool} {ops:Array Oper} {n:Nat} {o:Oper} {s:S} {z:Option X×S} (h1:df P T E dr ops s n o=some z):df P T E' dr ops s n o=some z:=by
 unfold df at *
 split at h1
 .exact ai2 h h1
 .exact h1
 .cases h1
theorem ajy {P:Program} {T:TT} {E E':En} (h:En.le E E') {ops:Array Oper} {y:Option X×S}:∀ (l:List Oper) (n:Nat) (s:S),abI P T E ops n l s=some y→abI P T E' ops n l s=some y
 | [],_,_,hv=>by simp[abI] at hv
 | [o],n,s,hv=>by
  simp only[abI] at hv ⊢
  split at hv
  .rename_i s1 h1
   rw[aeZ h h1]
   exact hv
  .cases hv
 | o::o'::l,n,s,hv=>by
  simp only[abI] at hv ⊢
  split at hv
  .rename_i s1 h1
   rw[aeZ h h1]
   exact ajy h (o'::l) _ _ hv
  .cases hv
def aIQ {P:Program} {T:TT} {E E':En} (h:En.le E E') {ops:Array Oper} {l:List Oper} {s:S} {y:Option X×S} (hv:ald P T E ops l s=some y):ald P T E' ops l s=some y:=by
 unfold ald at *
 split at hv
 .rename_i hm
  rw[aE hm]
  exact ajy h _ _ _ hv
 .rename_i hm
  rw[aj hm]
  cases l with
  | nil=>cases hv
  | cons o r =>
   simp only at hv ⊢
   split at hv
   .rename_i s1 h1
    rw[ak0 h h1]
    exact agL h _ _ _ hv
   .cases hv
theorem arW {P:Program} {T:TT} {E E':En} (h:En.le E E') {ops:Array Oper}:∀ (l:List Oper) (n:Nat) (s:S) {y:Option X×S},agK P T E ops n l s=some y→agK P T E' ops n l s=some y
 | [],_,_,_,hv=>by simp[agK] at hv
 | [_],_,_,_,hv=>by simp[agK] at hv
 | [o,o'],n,s,y,hv=>by
  simp only[agK] at hv ⊢
  split at hv
  .rename_i s1 h1
   rw[aeZ h h1]
   simp only
   split at hv
   .rename_i s2 h2
    rw[aeZ h h2]
    exact hv
   .cases hv
  .cases hv
 | o::o'::o''::l,n,s,y,hv=>by
  simp only[agK] at hv ⊢
  split at hv
  rotate_left
  .cases hv
  rename_i hf
  rw[aE hf]
  split at hv
  .rename_i s1 h1
   rw[aeZ h h1]
   exact arW h (o'::o''::l) _ _ hv
  .cases hv
def akS {P:Program} {T:TT} {E E':En} (h:En.le E E') {dr:Bool} {ops:Array Oper} {s s':S} {k:Nat} {o:Oper} (hv:okS (df P T E dr ops s k o)=some s'):okS (df P T E' dr ops s k o)=some s':=by
 rw[aeZ h (aeJ hv)];rfl
def aKx {P:Program} {T:TT} {E E':En} (h:En.le E E') {ops:Array Oper} {t:Bool} {s s':S} {k:Nat} {o:Oper} (hv:stX P T E ops t s k o=some s'):stX P T E' ops t s k o=some s':=by
 unfold stX at *
 rw[← h.obj]
 split at hv
 .rename_i c;rw[aE c];exact akS h hv
 .rename_i c
  rw[aj c]
  split at hv
  .rename_i c2;rw[aE c2];exact ak0 h hv
  .rename_i c2;rw[aj c2];exact akS h hv
theorem aoq {P:Program} {T:TT} {E E':En} (h:En.le E E') {ops:Array Oper} {n:Nat}:∀ (l:List Oper) (k:Nat) (b:Bool) (s:S) {s':S},evD P T E ops n k b l s=some s'→evD P T E' ops n k b l s=some s'
 | [],_,_,_,_,hv=>hv
 | o::l,k,b,s,s',hv=>by
  unfold evD at hv ⊢
  rw[← h.obj]
  split at hv
  .cases hv
  rename_i c
  rw[aj c]
  split at hv
  .rename_i s1 h1
   rw[aKx h h1]
   exact aoq h l _ _ _ hv
  .cases hv
def avE {P:Program} {T:TT} {E E':En} (h:En.le E E') {draw:Bool} {ops:Array Oper} {s:S} {y:Option X×S} (hv:evR P T E draw ops s=some y):evR P T E' draw ops s=some y:=by
 unfold evR at *
 rw[← h.obj]
 by_cases htl:(draw&&tlB ops.toList)=true
 .rw[aE htl] at hv ⊢
  exact arW h _ _ _ hv
 rw[aj htl] at hv ⊢
 by_cases htn:(draw&&!(abS E.obj ops.toList == 0))=true
 .rw[aE htn] at hv ⊢
  simp only[aP] at hv ⊢
  obtain⟨t,ht,rfl⟩:=hv
  exact⟨t,aoq h _ _ _ _ ht,rfl⟩
 rw[aj htn] at hv ⊢
 split at hv
 .rename_i hm
  rw[aE hm]
  exact aIQ h hv
 .rename_i hm
  rw[aj hm]
  exact agL h _ _ _ hv
def amm {P:Program} {T:TT} {pr:Pr} {a b:Code→S→Option (Ex×S)} (h:∀ c s r,a c s=some r→b c s=some r):En.le (ajA P T pr a) (ajA P T pr b) where
 obj:=rfl
 tk:=rfl
 mt:=rfl
 orc:=by
  intro f xs obs an hr
  simp only[ajA,apb] at *
  split at hr
  .rename_i r' hp;simpa [hp] using hr
  .unfold amr at *
   split at hr
   .rename_i hc
    rw[aE hc]
    split at hr
    .rename_i s1 h1;rw[h _ _ _ h1];exact hr
    .rename_i s1 h1;rw[h _ _ _ h1];exact hr
    .rename_i x s1 h1;rw[h _ _ _ h1];exact hr
    .cases hr
   .cases hr
def ag6 (P:Program) (T:TT) (pr:Pr) (n:Nat) (a b:Code) (s:S):evC P T pr (n+1) (.seq a b) s=match evC P T pr n a s with
  | some (.normal,s')=>evC P T pr n b s'
  | r=>r:=rfl
def ae9 (P:Program) (T:TT) (pr:Pr) (n i:Nat) (c:Code) (s:S):evC P T pr (n+1) (.block i c) s=match evC P T pr n c s with
  | some (.exit j,s')=>some (if j=i then .normal else .exit j,s')
  | r=>r:=rfl
def ajg (P:Program) (T:TT) (pr:Pr) (n:Nat) (c:Operand) (a b:Code) (s:S):evC P T pr (n+1) (.cond c a b) s=match ac1 (s.ev c) with
  | some true=>evC P T pr n a s
  | some false=>evC P T pr n b s
  | none=>none:=rfl
def age (P:Program) (T:TT) (pr:Pr) (n:Nat) (c:Code) (s:S):evC P T pr (n+1) (.loop c) s=match evC P T pr n c s with
  | some (.normal,s')=>evC P T pr n (.loop c) s'
  | r=>r:=rfl
def ahn (P:Program) (T:TT) (pr:Pr) (n id:Nat) (ops:Array Oper) (draw:Bool) (s:S):evC P T pr (n+1) (.region id ops draw) s=match evR P T (ajA P T pr (evC P T pr n)) draw ops s with
  | some (none,s')=>some (.normal,{s' with clk:=s'.clk+1})
  | some (some x,s')=>some (.pan x,{s' with clk:=s'.clk+1})
  | none=>none:=rfl
theorem avG {P:Program} {T:TT} {pr:Pr}:∀ (n:Nat) (c:Code) (s:S) (r:Ex×S),evC P T pr n c s=some r→evC P T pr (n+1) c s=some r
 | 0,c,s,r,h=>by simp[evC] at h
 | n+1,c,s,r,h=>by
  have ih:=avG (P:=P) (T:=T) (pr:=pr) n
  cases c with
  | seq a b =>
   rw[ag6] at h ⊢
   split at h
   .rename_i s1 h1;rw[ih _ _ _ h1];exact ih _ _ _ h
   .rename_i hne
    cases h2:evC P T pr n a s with
    | none=>rw[h2] at h;cases h
    | some p =>
     obtain⟨e,s1⟩:=p
     rw[ih _ _ _ h2]
     cases e with
     | normal=>exact (hne s1 h2).elim
     | exit i=>rw[h2] at h;exact h
     | ret=>rw[h2] at h;exact h
     | pan x=>rw[h2] at h;exact h
  | block i c =>
   rw[ae9] at h ⊢
   cases h2:evC P T pr n c s with
   | none=>rw[h2] at h;cases h
   | some p=>rw[ih _ _ _ h2];rw[h2] at h;exact h
  | cond c a b =>
   rw[ajg] at h ⊢
   split at h
   .exact ih _ _ _ h
   .exact ih _ _ _ h
   .cases h
  | loop c =>
   rw[age] at h ⊢
   cases h2:evC P T pr n c s with
   | none=>rw[h2] at h;cases h
   | some p =>
    obtain⟨e,s1⟩:=p
    rw[ih _ _ _ h2]
    rw[h2] at h
    cases e with
    | normal=>exact ih _ _ _ h
    | exit i=>exact h
    | ret=>exact h
    | pan x=>exact h
  | region id ops draw =>
   rw[ahn] at h ⊢
   split at h
   .rename_i s1 h1
    rw[avE (amm ih) h1]
    exact h
   .rename_i x s1 h1
    rw[avE (amm ih) h1]
    exact h
   .cases h
  | skip=>simpa only [evC] using h
  | ret=>simpa only [evC] using h
  | exit i=>simpa only [evC] using h
  | _=>simp[evC] at h
def aiP {P:Program} {T:TT} {pr:Pr} {n m:Nat} (h:n≤m) {c:Code} {s:S} {r:Ex×S} (hr:evC P T pr n c s=some r):evC P T pr m c s=some r:=by
 induction m with
 | zero =>
  obtain rfl:n=0:=by omega
  exact hr
 | succ m ih =>
  rcases ap n (m+1) with g|g
  .exact avG m c s r (ih (by omega))
  .obtain rfl:n=m+1:=by omega
   exact hr
section
variable (P:Program) (pr:Pr)
def enN (n:Nat):En:=ajA P (TT.of P) pr (evC P (TT.of P) pr n)
theorem ace {n m:Nat} (h:n≤m):En.le (enN P pr n) (enN P pr m):=amm fun _ _ _ hr=>aiP h hr
def aN (f:Nat) (xs:List X) (obs:List Ob) (an:An):Prop:=∃ n,(enN P pr n).orc f xs obs=some an
def bp (f:Nat) (xs:List X) (obs:List Ob) (K:An→Prop):Prop:=∃ an,aN P pr f xs obs an∧K an
def WC (c:Code) (s:S) (Q:Ex→S→Prop):Prop:=∃ n e s',evC P (TT.of P) pr n c s=some (e,s')∧Q e s'
def WO (dr:Bool) (ops:Array Oper) (k:Nat) (l:List Oper) (s:S) (Q:Option X→S→Prop):Prop:=∃ n e s',abE P (TT.of P) (enN P pr n) dr ops k l s=some (e,s')∧Q e s'
def SO (dr:Bool) (k:Nat) (o:Oper) (s:S) (Q:Option X→S→Prop):Prop:=∃ n e s',abY P (TT.of P) (enN P pr n) dr s k o=some (e,s')∧Q e s'
def WS (ops:Array Oper) (l:List Oper) (s:S) (Q:Option X→S→Prop):Prop:=∃ n e s',ald P (TT.of P) (enN P pr n) ops l s=some (e,s')∧Q e s'
def WD (ops:Array Oper) (n k:Nat) (b:Bool) (l:List Oper) (s:S) (Q:Option X→S→Prop):Prop:=∃ m s',evD P (TT.of P) (enN P pr m) ops n k b l s=some s'∧Q none s'
def tlQ:Nat→(Nat→Prop)→Prop→Prop
 | 0,_,b=>b
 | n+1,a,_=>a (n+1)
def WOT (ops:Array Oper) (k:Nat) (l:List Oper) (s:S) (Q:Option X→S→Prop):Prop:=∃ n e s',agK P (TT.of P) (enN P pr n) ops k l s=some (e,s')∧Q e s'
def WOB (ops:Array Oper) (k:Nat) (l:List Oper) (s:S) (Q:Option X→S→Prop):Prop:=∃ n e s',abI P (TT.of P) (enN P pr n) ops k l s=some (e,s')∧Q e s'
def aoK (b:Code) (Q:Ex→S→Prop):Ex→S→Prop
 | .normal,s=>WC P pr b s Q
 | .exit i,s=>Q (.exit i) s
 | .ret,s=>Q .ret s
 | .pan x,s=>Q (.pan x) s
def ake (i:Nat) (Q:Ex→S→Prop):Ex→S→Prop
 | .normal,s=>Q .normal s
 | .exit j,s=>if j=i then Q .normal s else Q (.exit j) s
 | .ret,s=>Q .ret s
 | .pan x,s=>Q (.pan x) s
def ags (Q:Ex→S→Prop):Option X→S→Prop
 | none,s=>Q .normal {s with clk:=s.clk+1}
 | some x,s=>Q (.pan x) {s with clk:=s.clk+1}
def ai7 (F:S→Prop) (Q:Option X→S→Prop):Option X→S→Prop
 | none,s=>F s
 | some x,s=>Q (some x) s
def atx:Option Bool→Prop→Prop→Prop
 | some b,p,q=>if b=true then p else q
 | none,_,_=>False
def acI:Option Bool→Prop→Prop→Prop
 | some true,p,_=>p
 | some false,_,q=>q
 | none,_,_=>False
variable {P pr}
theorem aN.unique {f:Nat} {xs:List X} {obs:List Ob} {r r':An} (h:aN P pr f xs obs r) (h':aN P pr f xs obs r'):r=r':=by
 obtain⟨n,hn⟩:=h
 obtain⟨m,hm⟩:=h'
 have h1:=(ace P pr (jj n m)).orc _ _ _ _ hn
 have h2:=(ace P pr (iU n m)).orc _ _ _ _ hm
 exact bn (h1.symm.trans h2)
theorem aN.k {f:Nat} {xs:List X} {obs:List Ob} {r:An} (h:aN P pr f xs obs r) (K:An→Prop):bp P pr f xs obs K↔K r :=
 ⟨fun⟨_,h1,h2⟩=>h.unique h1▸h2,fun h2=>⟨r,h,h2⟩⟩
theorem Z10 (s:S) (Q:Ex→S→Prop):WC P pr .skip s Q↔Q .normal s :=
 ⟨fun⟨n,e,s',h,hq⟩=>by
  cases n with
  | zero=>simp[evC] at h
  | succ n=>simp only[evC,dR] at h;obtain⟨rfl,rfl⟩:=h;exact hq,fun h=>⟨1,_,_,rfl,h⟩⟩
theorem Zy (s:S) (Q:Ex→S→Prop):WC P pr .ret s Q↔Q .ret s :=
 ⟨fun⟨n,e,s',h,hq⟩=>by
  cases n with
  | zero=>simp[evC] at h
  | succ n=>simp only[evC,dR] at h;obtain⟨rfl,rfl⟩:=h;exact hq,fun h=>⟨1,_,_,rfl,h⟩⟩
theorem Zv (i:Nat) (s:S) (Q:Ex→S→Prop):WC P pr (.exit i) s Q↔Q (.exit i) s :=
 ⟨fun⟨n,e,s',h,hq⟩=>by
  cases n with
  | zero=>simp[evC] at h
  | succ n=>simp only[evC,dR] at h;obtain⟨rfl,rfl⟩:=h;exact hq,fun h=>⟨1,_,_,rfl,h⟩⟩
theorem Zz (a b:Code) (s:S) (Q:Ex→S→Prop):WC P pr (.seq a b) s Q↔WC P pr a s (aoK P pr b Q):=by
 constructor
 .rintro⟨n,e,s',h,hq⟩
  cases n with
  | zero=>simp[evC] at h
  | succ n =>
   rw[ag6] at h
   split at h
   .rename_i s1 h1;exact⟨n,.normal,s1,h1,n,e,s',h,hq⟩
   .rename_i hne
    refine⟨n,e,s',h,?_⟩
    cases e with
    | normal=>exact (hne s' h).elim
    | exit i=>exact hq
    | ret=>exact hq
    | pan x=>exact hq
 .rintro⟨n,e,s',h,hq⟩
  cases e with
  | normal =>
   obtain⟨m,e2,s2,h2,hq2⟩:=hq
   refine⟨max n m+1,e2,s2,?_,hq2⟩
   rw[ag6]
   simp only[aiP (jj n m) h,aiP (iU n m) h2]
  | exit i=>exact⟨n+1,.exit i,s',by rw[ag6];simp only[h],hq⟩
  | ret=>exact⟨n+1,.ret,s',by rw[ag6];simp only[h],hq⟩
  | pan x=>exact⟨n+1,.pan x,s',by rw[ag6];simp only[h],hq⟩
theorem Zt (i:Nat) (c:Code) (s:S) (Q:Ex→S→Prop):WC P pr (.block i c) s Q↔WC P pr c s (ake i Q):=by
 constructor
 .rintro⟨n,e,s',h,hq⟩
  cases n with
  | zero=>simp[evC] at h
  | succ n =>
   rw[ae9] at h
   split at h
   .rename_i j s1 h1
    simp only[dR] at h
    obtain⟨rfl,rfl⟩:=h
    refine⟨n,_,_,h1,?_⟩
    simp only[ake]
    split
    .rename_i e;rw[aE e] at hq;exact hq
    .rename_i e;rw[aj e] at hq;exact hq
   .rename_i hne
    refine⟨n,e,s',h,?_⟩
    cases e with
    | normal=>exact hq
    | exit j=>exact (hne j s' h).elim
    | ret=>exact hq
    | pan x=>exact hq
 .rintro⟨n,e,s',h,hq⟩
  cases e with
  | normal=>exact⟨n+1,.normal,s',by rw[ae9];simp only[h],hq⟩
  | exit j =>
   refine⟨n+1,if j=i then .normal else .exit j,s',by rw[ae9];simp only[h],?_⟩
   simp only[ake] at hq
   split
   .rename_i e;rw[aE e] at hq;exact hq
   .rename_i e;rw[aj e] at hq;exact hq
  | ret=>exact⟨n+1,.ret,s',by rw[ae9];simp only[h],hq⟩
  | pan x=>exact⟨n+1,.pan x,s',by rw[ae9];simp only[h],hq⟩
theorem Zu (c:Operand) (a b:Code) (s:S) (Q:Ex→S→Prop):WC P pr (.cond c a b) s Q↔atx (ac1 (s.ev c)) (WC P pr a s Q) (WC P pr b s Q):=by
 constructor
 .rintro⟨n,e,s',h,hq⟩
  cases n with
  | zero=>simp[evC] at h
  | succ n =>
   rw[ajg] at h
   split at h
   .rename_i hc;rw[hc];exact⟨n,e,s',h,hq⟩
   .rename_i hc;rw[hc];exact⟨n,e,s',h,hq⟩
   .cases h
 .intro h
  cases hc:ac1 (s.ev c) with
  | none=>rw[hc] at h;exact h.elim
  | some t =>
   rw[hc] at h
   cases t with
   | true=>obtain⟨n,e,s',h,hq⟩:=h;exact⟨n+1,e,s',by rw[ajg];simp only[hc,h],hq⟩
   | false=>obtain⟨n,e,s',h,hq⟩:=h;exact⟨n+1,e,s',by rw[ajg];simp only[hc,h],hq⟩
theorem aqb (id:Nat) (ops:Array Oper) (draw:Bool) (s:S) (Q:Ex→S→Prop):WC P pr (.region id ops draw) s Q↔∃ n e s',evR P (TT.of P) (enN P pr n) draw ops s=some (e,s')∧ags Q e s':=by
 constructor
 .rintro⟨n,e,s',h,hq⟩
  cases n with
  | zero=>simp[evC] at h
  | succ n =>
   rw[ahn] at h
   split at h
   .rename_i s1 h1
    simp only[dR] at h
    obtain⟨rfl,rfl⟩:=h
    exact⟨n,none,s1,h1,hq⟩
   .rename_i x s1 h1
    simp only[dR] at h
    obtain⟨rfl,rfl⟩:=h
    exact⟨n,some x,s1,h1,hq⟩
   .cases h
 .rintro⟨n,e,s1,h1,hq⟩
  cases e with
  | none =>
   refine⟨n+1,.normal,_,?_,hq⟩
   unfold enN at h1
   rw[ahn]
   simp only[h1]
  | some x =>
   refine⟨n+1,.pan x,_,?_,hq⟩
   unfold enN at h1
   rw[ahn]
   simp only[h1]
theorem aEK (id:Nat) (ops:Array Oper) (s:S) (Q:Ex→S→Prop):WC P pr (.region id ops false) s Q↔WO P pr false ops 0 ops.toList s (ags Q):=by
 rw[aqb]
 simp only[evR,aZ,aW,aQ]
 rfl
theorem aEJ (id:Nat) (ops:Array Oper) (s:S) (Q:Ex→S→Prop):WC P pr (.region id ops true) s Q↔if tlB ops.toList=true then WOT P pr ops 0 ops.toList s (ags Q) else tlQ (abS pr.obj ops.toList) (fun n=>WD P pr ops n 0 false ops.toList s (ags Q)) (if jm ops.toList=true then WOB P pr ops 0 ops.toList s (ags Q) else if ag1 pr.obj ops.toList=true then WS P pr ops ops.toList s (ags Q) else WO P pr true ops 0 ops.toList s (ags Q)):=by
 rw[aqb]
 have e:∀ n,(enN P pr n).obj=pr.obj:=fun n=>rfl
 simp only[evR,aX,e,spB]
 by_cases htl:tlB ops.toList=true
 .simp only[htl,aA]
  rfl
 simp only[htl,aW,aQ]
 cases htn:abS pr.obj ops.toList with
 | succ n =>
  simp only[tlQ,show (n+1 == 0)=false from rfl,dZ,aA,aP,bf]
  constructor
  .rintro⟨m,e,s',⟨t,ht,rfl,rfl⟩,hq⟩
   exact⟨m,t,ht,hq⟩
  .rintro⟨m,t,ht,hq⟩
   exact⟨m,none,t,⟨t,ht,rfl,rfl⟩,hq⟩
 | zero =>
 simp only[tlQ,show (0 == 0)=true from rfl,fk,aW,aQ]
 cases h1:jm ops.toList with
 | true =>
  simp only[eZ,aA]
  unfold WOB
  simp only[ald,h1,aA]
 | false =>
  cases h2:ag1 pr.obj ops.toList with
  | true=>simp only[dv,aA,aW,aQ];rfl
  | false=>simp only[adX,aW,aQ];rfl
theorem a0a (ops:Array Oper) (n k:Nat) (b:Bool) (s:S) (Q:Option X→S→Prop):WD P pr ops n k b [] s Q↔Q none s :=
 ⟨fun⟨m,s',h,hq⟩=>by simp only[evD,ae] at h;subst h;exact hq,fun h=>⟨0,s,rfl,h⟩⟩
def ahf:Bool→Prop→Prop→Prop
 | true,a,_=>a
 | false,_,b=>b
def mkK (K:List (Value×C)→Prop):An→Prop
 | ⟨false,[.mp 0],[.map es]⟩=>K es
 | _=>False
def mkQ (P:Program) (pr:Pr) (K:List (Value×C)→Prop):Op→Prop
 | .call {callee:=.value (.func g),..}=>ak P g=true∧bp P pr g [] [] (mkK K)
 | _=>False
theorem aRo {o:Oper} (hk:ic pr.obj o.op=true) (s:S) (K:S→Prop):(∃ n s',mkS P (enN P pr n) s o=some s'∧K s')↔mkQ P pr (fun es=>K ({s with objs:=s.objs++[Ob.map es]}.put o.dst (.mp s.objs.length))) o.op:=by
 unfold ic at hk
 split at hk
 rotate_left
 .cases hk
 rename_i g args tys hop
 unfold mkS
 simp only[mkQ,hop,mkA]
 by_cases hc:ak P g=true
 rotate_left
 .simp[hc]
 simp only[hc,aA,cW,aP]
 constructor
 .rintro⟨n,s',⟨es,h,rfl⟩,hq⟩
  split at h
  .rename_i es' h2
   simp only[ae] at h
   subst h
   exact⟨_,⟨n,h2⟩,hq⟩
  .cases h
 .rintro⟨an,⟨n,h⟩,hq⟩
  unfold mkK at hq
  split at hq
  .rename_i es
   exact⟨n,_,⟨es,by rw[h];rfl,rfl⟩,hq⟩
  .exact hq.elim
theorem aTy (ops:Array Oper) (n k:Nat) (b:Bool) (o:Oper) (l:List Oper) (s:S) (Q:Option X→S→Prop) :
  WD P pr ops n k b (o::l) s Q↔ahf (decide (l.length<n)) (acI (fy ops s o) (SO P pr false k o s (ai7 (fun s'=>WD P pr ops n (k+1) b l s' Q) fun _ _=>False)) (WD P pr ops n (k+1) b l (s.put o.dst (.of .undef)) Q))
   (ahf (ic pr.obj o.op&&o.guard.isNone) (b=false∧mkQ P pr (fun es=>WD P pr ops n (k+1) true l ({s with objs:=s.objs++[Ob.map es]}.put o.dst (.mp s.objs.length)) Q) o.op)
    (acI (fy ops s o) (SO P pr true k o s (ai7 (fun s'=>WD P pr ops n (k+1) b l s' Q) fun _ _=>False)) (WD P pr ops n (k+1) b l (s.put o.dst (.of .undef)) Q))):=by
 have key:∀ (dr:Bool) (b':Bool),(∃ m s1,okS (df P (TT.of P) (enN P pr m) dr ops s k o)=some s1∧WD P pr ops n (k+1) b' l s1 Q)↔acI (fy ops s o) (SO P pr dr k o s (ai7 (fun s'=>WD P pr ops n (k+1) b' l s' Q) fun _ _=>False)) (WD P pr ops n (k+1) b' l (s.put o.dst (.of .undef)) Q):=fun dr b'=>by
  cases hg:fy ops s o with
  | none=>simp[df,hg,okS,acI]
  | some g =>
   cases g with
   | false =>
    simp only[df,hg,acI,okS,ae]
    exact⟨fun⟨_,_,e,h⟩=>by subst e;exact h,fun h=>⟨0,_,rfl,h⟩⟩
   | true =>
    simp only[df,hg,acI]
    constructor
    .rintro⟨m,s1,h1,h2⟩
     exact⟨m,none,s1,aeJ h1,h2⟩
    .rintro⟨m,e,s1,h1,h2⟩
     cases e with
     | none=>exact⟨m,s1,by rw[h1];rfl,h2⟩
     | some x=>exact h2.elim
 have both:∀ (b':Bool) (f:En→Option S),(∀ n m s',n≤m→f (enN P pr n)=some s'→f (enN P pr m)=some s')→((∃ m s',(match f (enN P pr m) with
   | some s1=>evD P (TT.of P) (enN P pr m) ops n (k+1) b' l s1
   | none=>none)=some s'∧Q none s')↔∃ m s1,f (enN P pr m)=some s1∧WD P pr ops n (k+1) b' l s1 Q):=fun b' f hf=>by
  constructor
  .rintro⟨m,s',h,hq⟩
   split at h
   .rename_i s1 h1;exact⟨m,s1,h1,m,s',h,hq⟩
   .cases h
  .rintro⟨m,s1,h1,m',s',h2,hq⟩
   refine⟨max m m',s',?_,hq⟩
   rw[hf m _ s1 (jj m m') h1]
   exact aoq (ace P pr (iU m m')) _ _ _ _ h2
 have hobj:∀ m,(enN P pr m).obj=pr.obj:=fun _=>rfl
 unfold WD
 simp only[evD,stX,kM,hobj]
 cases hl:decide (l.length<n) with
 | true =>
  simp only[fk,aZ,cO,aW,aQ,aA,eI,ahf]
  exact (both b (fun E=>okS (df P (TT.of P) E false ops s k o)) (fun n m s' h hv=>akS (ace P pr h) hv)).trans (key false b)
 | false =>
  simp only[dZ,aX,ahf,aW,aQ]
  cases hk:(ic pr.obj o.op&&o.guard.isNone) with
  | false =>
   simp only[cO,aW,aQ,eI]
   exact (both b (fun E=>okS (df P (TT.of P) E true ops s k o)) (fun n m s' h hv=>akS (ace P pr h) hv)).trans (key true b)
  | true =>
   cases b with
   | true=>simp
   | false =>
    simp only[dK,aW,aQ,aA,eZ,cW]
    rw[ab] at hk
    exact (both true (fun E=>mkS P E s o) (fun n m s' h hv=>ak0 (ace P pr h) hv)).trans (aRo hk.1 s _)
theorem acu {g:Nat} {es:List (Value×C)} (hg:aN P pr g [] [] ⟨false,[.mp 0],[.map es]⟩) (hc:ak P g=true) (ho:pr.obj g=true) (ops:Array Oper) (d:Option Nat) (tys:Array Nat) (ty:Nat) (po:String) (af:Array Edge) (r:List Oper) (s:S) (Q:Option X→S→Prop) :
  jm (⟨d,.call {callee:=.value (.func g),args:=#[],argTypes:=tys},ty,po,af,none⟩::r)=false→(WS P pr ops (⟨d,.call {callee:=.value (.func g),args:=#[],argTypes:=tys},ty,po,af,none⟩::r) s Q↔WO P pr true ops 1 r ({s with objs:=s.objs++[Ob.map es]}.put d (.mp s.objs.length)) Q):=by
 intro hm
 have hS:∀ n s1,mkS P (enN P pr n) s ⟨d,.call {callee:=.value (.func g),args:=#[],argTypes:=tys},ty,po,af,none⟩=some s1→s1={s with objs:=s.objs++[Ob.map es]}.put d (.mp s.objs.length):=fun n s1 h=>by
  unfold mkS at h
  simp only[aP,mkA,hc,aA] at h
  obtain⟨es',h1,rfl⟩:=h
  split at h1
  .rename_i es2 h2
   simp only[ae] at h1
   subst h1
   have:=hg.unique ⟨n,h2⟩
   simp only[An.mk.injEq,abH,Ob.map.injEq,gh,cW] at this
   rw[this]
  .cases h1
 constructor
 .rintro⟨n,e,s',h,hq⟩
  unfold ald at h
  rw[hm,aj (by decide)] at h
  simp only at h
  split at h
  .rename_i s1 h1
   obtain rfl:=hS n s1 h1
   exact⟨n,e,s',h,hq⟩
  .cases h
 .rintro⟨n,e,s',h,hq⟩
  obtain⟨m,hm2⟩:=hg
  refine⟨max n m,e,s',?_,hq⟩
  unfold ald
  rw[hm,aj (by decide)]
  have h1:mkS P (enN P pr (max n m)) s ⟨d,.call {callee:=.value (.func g),args:=#[],argTypes:=tys},ty,po,af,none⟩=some ({s with objs:=s.objs++[Ob.map es]}.put d (.mp s.objs.length)):=by
   refine ak0 (ace P pr (iU n m)) ?_
   unfold mkS mkA
   simp only[hc,aA,hm2,bH]
  simp only[h1]
  exact agL (ace P pr (jj n m)) _ _ _ h
theorem aTz (c:Code) (s:S) (Q:Ex→S→Prop):WC P pr (.loop c) s Q↔WC P pr c s (aoK P pr (.loop c) Q):=by
 constructor
 .rintro⟨n,e,s',h,hq⟩
  cases n with
  | zero=>simp[evC] at h
  | succ n =>
   rw[age] at h
   split at h
   .rename_i s1 h1;exact⟨n,.normal,s1,h1,n,e,s',h,hq⟩
   .rename_i hne
    refine⟨n,e,s',h,?_⟩
    cases e with
    | normal=>exact (hne s' h).elim
    | exit i=>exact hq
    | ret=>exact hq
    | pan x=>exact hq
 .rintro⟨n,e,s',h,hq⟩
  cases e with
  | normal =>
   obtain⟨m,e2,s2,h2,hq2⟩:=hq
   refine⟨max n m+1,e2,s2,?_,hq2⟩
   rw[age]
   simp only[aiP (jj n m) h,aiP (iU n m) h2]
  | exit i=>exact⟨n+1,.exit i,s',by rw[age];simp only[h],hq⟩
  | ret=>exact⟨n+1,.ret,s',by rw[age];simp only[h],hq⟩
  | pan x=>exact⟨n+1,.pan x,s',by rw[age];simp only[h],hq⟩
theorem a0b (c:Code) (Q:Ex→S→Prop) (I:Nat→S→Prop) (h:∀ m s,I m s→WC P pr c s (fun e s'=>match e with
  | .normal=>∃ m',m'<m∧I m' s'
  | .exit i=>Q (.exit i) s'
  | .ret=>Q .ret s'
  | .pan x=>Q (.pan x) s')):∀ (m:Nat) (s:S),I m s→WC P pr (.loop c) s Q:=by
 intro m
 induction m using Nat.strongRecOn with
 | _ m ih =>
  intro s hs
  rw[aTz]
  obtain⟨n,e,s',h1,hq⟩:=h m s hs
  refine⟨n,e,s',h1,?_⟩
  cases e with
  | normal=>obtain⟨m',hm,hI⟩:=hq;exact ih m' hm s' hI
  | exit i=>exact hq
  | ret=>exact hq
  | pan x=>exact hq
theorem WC.mono {c:Code} {s:S} {Q Q':Ex→S→Prop} (h:WC P pr c s Q) (hq:∀ e s,Q e s→Q' e s):WC P pr c s Q' :=
 let ⟨n,e,s',h1,h2⟩:=h;⟨n,e,s',h1,hq _ _ h2⟩
theorem Z14 (dr:Bool) (ops:Array Oper) (k:Nat) (s:S) (Q:Option X→S→Prop):WO P pr dr ops k [] s Q↔Q none s :=
 ⟨fun⟨n,e,s',h,hq⟩=>by simp only[abE,dR] at h;obtain⟨rfl,rfl⟩:=h;exact hq,fun h=>⟨0,none,s,rfl,h⟩⟩
theorem Z13 (dr:Bool) (ops:Array Oper) (k:Nat) (o:Oper) (l:List Oper) (s:S) (Q:Option X→S→Prop) :
  WO P pr dr ops k (o::l) s Q↔acI (fy ops s o) (SO P pr dr k o s (ai7 (fun s'=>WO P pr dr ops (k+1) l s' Q) Q)) (WO P pr dr ops (k+1) l (s.put o.dst (.of .undef)) Q):=by
 constructor
 .rintro⟨n,e,s',h,hq⟩
  simp only[abE] at h
  cases hg:fy ops s o with
  | none=>simp[df,hg] at h
  | some b =>
   cases b with
   | false =>
    simp only[df,hg] at h
    exact⟨n,e,s',h,hq⟩
   | true =>
    simp only[df,hg] at h
    split at h
    .rename_i s1 h1;exact⟨n,none,s1,h1,n,e,s',h,hq⟩
    .rename_i x s1 h1
     simp only[dR] at h
     obtain⟨rfl,rfl⟩:=h
     exact⟨n,some x,s1,h1,hq⟩
    .cases h
 .intro h
  cases hg:fy ops s o with
  | none=>rw[hg] at h;exact h.elim
  | some b =>
   rw[hg] at h
   cases b with
   | true =>
    obtain⟨n,e1,s1,h1,h⟩:=h
    cases e1 with
    | none =>
     obtain⟨m,e,s',h2,hq⟩:=h
     refine⟨max n m,e,s',?_,hq⟩
     simp only[abE,df,hg,ai2 (ace P pr (jj n m)) h1]
     exact agL (ace P pr (iU n m)) _ _ _ h2
    | some x=>exact⟨n,some x,s1,by simp only[abE,df,hg,h1],h⟩
   | false =>
    obtain⟨n,e,s',h2,hq⟩:=h
    exact⟨n,e,s',by simp only[abE,df,hg];exact h2,hq⟩
def aUT (Q:Option X→S→Prop):Option X→S→Prop
 | none,s=>Q none s
 | some _,_=>False
def aWN:Bool→Prop→Prop
 | true,p=>p
 | false,_=>False
theorem Z12 (ops:Array Oper) (k:Nat) (o:Oper) (s:S) (Q:Option X→S→Prop) :
  WOB P pr ops k [o] s Q↔acI (fy ops s o) (SO P pr false k o s (aUT Q)) (Q none (s.put o.dst (.of .undef))):=by
 constructor
 .rintro⟨n,e,s',h,hq⟩
  simp only[abI] at h
  cases hg:fy ops s o with
  | none=>simp[df,hg] at h
  | some b =>
   cases b with
   | false =>
    simp only[df,hg,dR] at h
    obtain⟨rfl,rfl⟩:=h
    exact hq
   | true =>
    simp only[df,hg] at h
    split at h
    .rename_i s1 h1
     simp only[dR] at h
     obtain⟨rfl,rfl⟩:=h
     exact⟨n,none,s1,h1,hq⟩
    .cases h
 .intro h
  cases hg:fy ops s o with
  | none=>rw[hg] at h;exact h.elim
  | some b =>
   rw[hg] at h
   cases b with
   | true =>
    obtain⟨n,e1,s1,h1,h⟩:=h
    cases e1 with
    | none=>exact⟨n,none,s1,by simp only[abI,df,hg,h1],h⟩
    | some x=>exact h.elim
   | false=>exact⟨0,none,_,by simp only[abI,df,hg],h⟩
theorem Z11 (ops:Array Oper) (k:Nat) (o o':Oper) (l:List Oper) (s:S) (Q:Option X→S→Prop) :
  WOB P pr ops k (o::o'::l) s Q↔acI (fy ops s o) (SO P pr true k o s (ai7 (fun s'=>WOB P pr ops (k+1) (o'::l) s' Q) fun _ _=>False)) (WOB P pr ops (k+1) (o'::l) (s.put o.dst (.of .undef)) Q):=by
 constructor
 .rintro⟨n,e,s',h,hq⟩
  simp only[abI] at h
  cases hg:fy ops s o with
  | none=>simp[df,hg] at h
  | some b =>
   cases b with
   | false =>
    simp only[df,hg] at h
    exact⟨n,e,s',h,hq⟩
   | true =>
    simp only[df,hg] at h
    split at h
    .rename_i s1 h1;exact⟨n,none,s1,h1,n,e,s',h,hq⟩
    .cases h
 .intro h
  cases hg:fy ops s o with
  | none=>rw[hg] at h;exact h.elim
  | some b =>
   rw[hg] at h
   cases b with
   | true =>
    obtain⟨n,e1,s1,h1,h⟩:=h
    cases e1 with
    | none =>
     obtain⟨m,e,s',h2,hq⟩:=h
     refine⟨max n m,e,s',?_,hq⟩
     simp only[abI,df,hg,ai2 (ace P pr (jj n m)) h1]
     exact ajy (ace P pr (iU n m)) _ _ _ h2
    | some x=>exact h.elim
   | false =>
    obtain⟨n,e,s',h2,hq⟩:=h
    exact⟨n,e,s',by simp only[abI,df,hg];exact h2,hq⟩
def abZ (Q:S→Prop):Option S→Prop
 | some s=>Q s
 | none=>False
def aaQ (s:S) (d:Option Nat) (af:Array Edge) (K:S→Prop):Out→Prop
 | none=>False
 | some (x,none)=>K (s.put d x)
 | some (x,some t)=>abg s.clk af.toList (some t)=true∧K ((s.drop (some t)).put d x)
theorem aae {dr:Bool} {k:Nat} {o:Oper} {s:S} {Q:Option X→S→Prop} (v:Out) (hst:∀ n,abY P (TT.of P) (enN P pr n) dr s k o=gW P (TT.of P) (enN P pr n) s k o) (h:∀ n,val P (TT.of P) (enN P pr n) s k o=v):SO P pr dr k o s Q↔aaQ s (fv o) o.after (Q none) v:=by
 constructor
 .rintro⟨n,e,s',h1,hq⟩
  rw[hst,gW,h n] at h1
  split at h1
  .rename_i x t
   split at h1
   .rename_i hok
    simp only[dR] at h1
    obtain⟨rfl,rfl⟩:=h1
    cases t with
    | none=>exact hq
    | some t=>exact⟨hok,hq⟩
   .cases h1
  .cases h1
 .intro hv
  match v,h,hv with
  | some (x,none),h,hv=>exact⟨0,none,_,by rw[hst,gW,h 0];simp only[abg,aA];rfl,hv⟩
  | some (x,some t),h,hv=>exact⟨0,none,_,by rw[hst,gW,h 0];simp only[hv.1,aA],hv.2⟩
section
variable (dr:Bool) (k:Nat) (d:Option Nat) (ty:Nat) (po:String) (af:Array Edge) (g:Option (Nat×Bool)) (s:S) (Q:Option X→S→Prop)
theorem Zm (x:Operand):SO P pr dr k ⟨d,.move x,ty,po,af,g⟩ s Q↔Q none (s.put d (s.ev x)):=aae (out (s.ev x)) (fun _=>by cases dr <;> rfl) fun _=>rfl
theorem Z2 (x:Operand):SO P pr dr k ⟨d,.assign x,ty,po,af,g⟩ s Q↔Q none (s.put d (s.ev x)):=aae (out (s.ev x)) (fun _=>by cases dr <;> rfl) fun _=>rfl
def aCM (s:S) (a b:Operand):Option Bool→Out
 | some b'=>out (if b' then s.ev a else s.ev b)
 | none=>none
theorem Zp (c a b:Operand):SO P pr dr k ⟨d,.pick c a b,ty,po,af,g⟩ s Q↔aaQ s d af (Q none) (aCM s a b (ac1 (s.ev c))) :=
 aae _ (fun _=>by cases dr <;> rfl) fun _=>by simp only[val,aCM];cases ac1 (s.ev c) <;> rfl
theorem Z3 (op:BinOp) (t:Nat) (x y:Operand) (yt:Nat):SO P pr dr k ⟨d,.binOp op t x y yt,ty,po,af,g⟩ s Q↔aaQ s d af (Q none) (gS P (TT.of P) t ((TT.of P t).map (·.und)) op (s.ev x) (s.ev y)) :=
 aae _ (fun _=>by cases dr <;> rfl) fun _=>rfl
def unX (op:UnOp):X→Out
 | .of (.lit a)=>dB ((aoJ op a).map fun v=>.of (.lit v))
 | _=>none
theorem Zs (op:UnOp) (t:Nat) (x:Operand):SO P pr dr k ⟨d,.unOp op t x,ty,po,af,g⟩ s Q↔aaQ s d af (Q none) (unX op (s.ev x)):=aae _ (fun _=>by cases dr <;> rfl) fun _=>rfl
theorem Zg (t:Nat) (a:Operand):SO P pr dr k ⟨d,.load t a,ty,po,af,g⟩ s Q↔aaQ s d af (Q none) (acQ (TT.of P) s.objs t (s.ev a)):=aae _ (fun _=>by cases dr <;> rfl) fun _=>rfl
theorem Zc (t:Nat) (x:Operand) (f:Nat):SO P pr dr k ⟨d,.fieldAddr t x f,ty,po,af,g⟩ s Q↔aaQ s d af (Q none) (abm (TT.of P) t f (s.ev x)):=aae _ (fun _=>by cases dr <;> rfl) fun _=>rfl
theorem Ze (t:Nat) (x i:Operand):SO P pr dr k ⟨d,.indexAddr t x i,ty,po,af,g⟩ s Q↔aaQ s d af (Q none) (dG (TT.of P) t (s.ev x) (s.ev i)):=aae _ (fun _=>by cases dr <;> rfl) fun _=>rfl
theorem Zd (t:Nat) (x i:Operand):SO P pr dr k ⟨d,.index t x i,ty,po,af,g⟩ s Q↔aaQ s d af (Q none) (adb (TT.of P) t (s.ev x) (s.ev i)):=aae _ (fun _=>by cases dr <;> rfl) fun _=>rfl
theorem Zq (t:Nat) (x:Operand) (lo hi:Option Operand):SO P pr dr k ⟨d,.slice t x lo hi none,ty,po,af,g⟩ s Q↔aaQ s d af (Q none) (aao (TT.of P) t (s.ev x) (lo.map s.ev) (hi.map s.ev)):=aae _ (fun _=>by cases dr <;> rfl) fun _=>rfl
theorem Z9 (a b:Nat) (x:Operand):SO P pr dr k ⟨d,.convert a b x,ty,po,af,g⟩ s Q↔aaQ s d af (Q none) (afN (TT.of P) a b (s.ev x)):=aae _ (fun _=>by cases dr <;> rfl) fun _=>rfl
def avD (i:Nat):X→Out
 | .tup xs=>dB (xs[i]?)
 | .of (.tup cs)=>dB ((cs[i]?).map .of)
 | _=>none
theorem Za (x:Operand) (i:Nat):SO P pr dr k ⟨d,.extract x i,ty,po,af,g⟩ s Q↔aaQ s d af (Q none) (avD i (s.ev x)):=aae _ (fun _=>by cases dr <;> rfl) fun _=>rfl
def aWq:X→Out
 | .ptr r off=>out (.ptr r off)
 | .of (.ref cs)=>out (.of (.ref cs))
 | _=>none
theorem Zn (x:Operand):SO P pr dr k ⟨d,.nilCheck x,ty,po,af,g⟩ s Q↔aaQ s d af (Q none) (aWq (s.ev x)):=aae _ (fun _=>by cases dr <;> rfl) fun _=>rfl
def fnX (f:Nat) (xs:List X):Option (List C)→Out
 | some cs=>out (.of (.fn f cs))
 | none=>ajD (2*f) (abF xs)
theorem aJA (f:Nat) (x:Operand) (l:List Operand):SO P pr dr k ⟨d,.makeFunc (.func f) (x::l).toArray #[],ty,po,af,g⟩ s Q↔aaQ s d af (Q none) (ajD (2*f+1) (abF ((x::l).map s.ev))):=aae _ (fun _=>by cases dr <;> rfl) fun _=>by simp[val]
theorem Zi (f:Nat) (caps:Array Operand):SO P pr dr k ⟨d,.makeFunc (.func f) #[] caps,ty,po,af,g⟩ s Q↔aaQ s d af (Q none) (fnX f (caps.toList.map s.ev) (aay s.ev caps.toList)):=aae _ (fun _=>by cases dr <;> rfl) fun _=>rfl
def amv (P:Program) (t:Nat):Option TD→Option (List (Nat×List X))→Out
 | some d,some qs=>match d.und with
  | .struct _=>dB ((iY (fun i=>d.fields[i]?) (ik d) qs).map .agg)
  | .array _ e=>match TT.of P e with
   | some de=>dB ((iY (fun i=>some (i*de.size,de.size)) (ik d) qs).map .agg)
   | none=>none
  | _=>none
 | _,_=>none
theorem Z5 (t:Nat) (ps:Array (Nat×Operand)):SO P pr dr k ⟨d,.build t ps,ty,po,af,g⟩ s Q↔aaQ s d af (Q none) (amv P t (TT.of P t) (jn s.ev ps.toList)) :=
 aae _ (fun _=>by cases dr <;> rfl) fun _=>by simp only[val,amv];cases TT.of P t <;> cases jn s.ev ps.toList <;> rfl
def dY (t:Tk) (n:Nat):Option (Nat×TD)→Option (List (Nat×List X))→Out
 | some (e,d),some qs =>
  if n*d.size≤16777216∧0<d.size∧d.zero.length=d.size then match iY (fun i=>some (i*d.size,d.size)) ((List.replicate n (ik d)).flatten) qs with
   | some xs=>match X.rds xs with
    | some cs=>out (.own t e d.size cs n)
    | none=>none
   | none=>none
  else none
 | _,_=>none
theorem Z6 (t n:Nat) (ps:Array (Nat×Operand)):SO P pr dr k ⟨d,.buildSlice t n ps,ty,po,af,g⟩ s Q↔aaQ s d af (Q none) (dY (.nm s.clk k 0) n (elemOf (TT.of P) t) (jn s.ev ps.toList)) :=
 aae _ (fun _=>by cases dr <;> rfl) fun _=>by simp only[val,dY];cases elemOf (TT.of P) t <;> cases jn s.ev ps.toList <;> rfl
theorem Zf (x:Operand) (t:Nat):SO P pr dr k ⟨d,.call {callee:=.builtin .len,args:=#[x],argTypes:=#[t]},ty,po,af,g⟩ s Q↔aaQ s d af (Q none) (abx ((TT.of P t).map (·.und)) (s.ev x)):=aae _ (fun _=>by cases dr <;> rfl) fun _=>rfl
theorem a0p (a b:Operand) (ts:Array Nat):SO P pr dr k ⟨d,.call {callee:=.builtin .max,args:=#[a,b],argTypes:=ts},ty,po,af,g⟩ s Q↔aaQ s d af (Q none) (aob (s.ev a) (s.ev b)):=aae _ (fun _=>by cases dr <;> rfl) fun _=>rfl
theorem Z1 (a b:Operand) (st xt:Nat):SO P pr dr k ⟨d,.call {callee:=.builtin .append,args:=#[a,b],argTypes:=#[st,xt]},ty,po,af,g⟩ s Q↔aaQ s d af (Q none) (js (TT.of P) (.nm s.clk k 0) st xt (s.ev a) (s.ev b)):=aae _ (fun _=>by cases dr <;> rfl) fun _=>rfl
def auA (s:S) (k:Nat) (d:Option Nat) (Q:Option X→S→Prop):An→Prop
 | ⟨false,rs,[]⟩=>Q none (s.put d (aen (agD s.clk k rs)))
 | _=>False
def ajP (P:Program) (pr:Pr) (s:S) (k:Nat) (d:Option Nat) (Q:Option X→S→Prop) (f:Nat) (caps:List C):Option (List C)→Prop
 | some cs=>ak P f=true∧bp P pr f ((cs++caps).map .of) [] (auA s k d Q)
 | none=>False
def a4L (Q:Option X→S→Prop):Option (Option X×S)→Prop
 | some (e,s)=>Q e s
 | none=>False
def anw (s:S) (k:Nat) (d:Option Nat) (refs:List Nat) (ts:List Tk) (Q:Option X→S→Prop) (an:An):Prop:=a4L Q (anv s k d refs ts an)
def ape (P:Program) (pr:Pr) (s:S) (k:Nat) (d:Option Nat) (refs:List Nat) (ts:List Tk) (Q:Option X→S→Prop) (f:Nat) (us:List X):Option (List Ob)→Prop
 | some obs=>ak P f=true∧bp P pr f (X.trs (pos refs) (aa6 refs ts) us) obs (anw s k d refs ts Q)
 | none=>False
def agw (P:Program) (pr:Pr) (s:S) (k:Nat) (d:Option Nat) (Q:Option X→S→Prop) (f:Nat) (us:List X) (refs:List Nat) (ts:List Tk):Prop :=
 ape P pr s k d refs ts Q f us (je (pos refs) (aa6 refs ts) (aeO ts s.objs) refs)
def aeY (b:Bool) (us:List X):List Tk:=match b with
 | true=>nub (X.toksL us) []
 | false=>[]
def aid (P:Program) (pr:Pr) (dr:Bool) (s:S) (k:Nat) (d:Option Nat) (Q:Option X→S→Prop) (f:Nat) (us:List X) (caps:List C) (cs:Option (List C)):Bool→Prop
 | true=>dr=false∧agw P pr s k d Q f us (aah s.objs 999 (X.refsL us) []) (aeY (pr.tk f) us)
 | false=>ajP P pr s k d Q f caps cs
def agN (P:Program) (pr:Pr) (dr:Bool) (s:S) (k:Nat) (d:Option Nat) (Q:Option X→S→Prop) (args:List X) (cs:Option (List C)):X→Prop
 | .of (.fn f caps)=>aid P pr dr s k d Q f (args++caps.map .of) caps cs (pr.obj f)
 | .clo f caps=>pr.obj (ahX f)=true∧dr=false∧agw P pr s k d Q (ahX f) (alm f caps args) (aah s.objs 999 (X.refsL (alm f caps args)) []) (aeY (pr.tk (ahX f)) (alm f caps args))
 | _=>False
theorem avV (n:Nat) (f:Nat) (us:List X):(∃ e s',aho P (enN P pr n) s k d f us=some (e,s')∧Q e s')→agw P pr s k d Q f us (aah s.objs 999 (X.refsL us) []) (aeY (pr.tk f) us):=by
 rintro⟨e,s',h,hq⟩
 unfold aho at h
 split at h
 rotate_left
 .cases h
 rename_i hc
 simp only at h
 have ht:(if (enN P pr n).tk f=true then nub (X.toksL us) [] else [])=aeY (pr.tk f) us:=by
  show (if pr.tk f=true then _ else _)=_
  cases pr.tk f <;> rfl
 rw[ht] at h
 unfold agw
 split at h
 .rename_i obs hobs
  rw[hobs]
  split at h
  .rename_i an han
   refine⟨hc,an,⟨n,han⟩,?_⟩
   unfold anw
   rw[h]
   exact hq
  .cases h
 .cases h
theorem avU (f:Nat) (us:List X) (h:agw P pr s k d Q f us (aah s.objs 999 (X.refsL us) []) (aeY (pr.tk f) us)):∃ n e s',aho P (enN P pr n) s k d f us=some (e,s')∧Q e s':=by
 unfold agw at h
 cases hobs:je (pos (aah s.objs 999 (X.refsL us) [])) (aa6 (aah s.objs 999 (X.refsL us) []) (aeY (pr.tk f) us)) (aeO (aeY (pr.tk f) us) s.objs) (aah s.objs 999 (X.refsL us) []) with
 | none=>rw[hobs] at h;exact h.elim
 | some obs =>
  rw[hobs] at h
  obtain⟨hc,an,⟨n,han⟩,hb⟩:=h
  unfold anw at hb
  cases hbs:anv s k d (aah s.objs 999 (X.refsL us) []) (aeY (pr.tk f) us) an with
  | none=>rw[hbs] at hb;exact hb.elim
  | some p =>
   obtain⟨e,s'⟩:=p
   rw[hbs] at hb
   refine⟨n,e,s',?_,hb⟩
   unfold aho
   rw[aE hc]
   have ht:(if (enN P pr n).tk f=true then nub (X.toksL us) [] else [])=aeY (pr.tk f) us:=by
    show (if pr.tk f=true then _ else _)=_
    cases pr.tk f <;> rfl
   simp only[ht,hobs,han,hbs]
theorem ah4 (n:Nat) (f:Operand) (args:Array Operand) (tys:Array Nat):gW P (TT.of P) (enN P pr n) s k ⟨d,.call {callee:=.value f,args:=args,argTypes:=tys},ty,po,af,g⟩=match s.ev f,aay s.ev args.toList with
  | .of (.fn f caps),some cs=>(match aey P (enN P pr n) s.clk k f (cs++caps) with
   | some (x,t)=>if abg s.clk af.toList t=true then some (none,(s.drop t).put d x) else none
   | none=>none)
  | _,_=>none:=by
 have e:fv ⟨d,.call {callee:=.value f,args:=args,argTypes:=tys},ty,po,af,g⟩=d:=rfl
 simp only[gW,val,af5,e]
 split <;> rename_i h <;> split at h <;> simp_all
theorem aF2 (f:Operand) (fn:Nat) (caps:List C) (args:Array Operand) (tys:Array Nat) (hf:s.ev f=.of (.fn fn caps)) (ho:pr.obj fn=false) :
  (∃ n e s',gW P (TT.of P) (enN P pr n) s k ⟨d,.call {callee:=.value f,args:=args,argTypes:=tys},ty,po,af,g⟩=some (e,s')∧Q e s')↔ajP P pr s k d Q fn caps (aay s.ev args.toList):=by
 constructor
 .rintro⟨n,e,s',h,hq⟩
  rw[ah4,hf] at h
  cases hr:aay s.ev args.toList with
  | none=>rw[hr] at h;cases h
  | some cs =>
   rw[hr] at h
   simp only at h
   split at h
   .rename_i x t hx
    unfold aey at hx
    split at hx
    .rename_i hc
     simp only[ab] at hc
     split at hx
     .rename_i rs hor
      obtain⟨rfl,rfl⟩:=abt hx
      simp only[abg,aA,dR] at h
      obtain⟨rfl,rfl⟩:=h
      exact⟨hc.1,_,⟨n,hor⟩,hq⟩
     .cases hx
    .cases hx
   .cases h
 .intro h
  cases hr:aay s.ev args.toList with
  | none=>rw[hr] at h;exact h.elim
  | some cs =>
   rw[hr] at h
   obtain⟨hc,an,⟨n,hor⟩,hk⟩:=h
   match an,hor,hk with
   | ⟨false,rs,[]⟩,hor,hk =>
    refine⟨n,none,_,?_,hk⟩
    rw[ah4,hf,hr]
    have:aey P (enN P pr n) s.clk k fn (cs++caps)=out (aen (agD s.clk k rs)):=by
     unfold aey
     have ho':(enN P pr n).obj fn=false:=ho
     rw[aE (by simp[hc,ho']),hor]
    simp only[this,out,abg,aA]
    rfl
theorem awp (f:Operand) (args:Array Operand) (tys:Array Nat):SO P pr dr k ⟨d,.call {callee:=.value f,args:=args,argTypes:=tys},ty,po,af,g⟩ s Q ↔
  agN P pr dr s k d Q (args.toList.map s.ev) (aay s.ev args.toList) (s.ev f):=by
 have hst:∀ n,abY P (TT.of P) (enN P pr n) dr s k ⟨d,.call {callee:=.value f,args:=args,argTypes:=tys},ty,po,af,g⟩=if dr=true then gW P (TT.of P) (enN P pr n) s k ⟨d,.call {callee:=.value f,args:=args,argTypes:=tys},ty,po,af,g⟩ else
   match aht s (.value f) args.toList with
   | some (g',us)=>if pr.obj g'=true then aho P (enN P pr n) s k d g' us else gW P (TT.of P) (enN P pr n) s k ⟨d,.call {callee:=.value f,args:=args,argTypes:=tys},ty,po,af,g⟩
   | none=>none:=fun n=>by
  unfold abY
  rfl
 have hV:∀ (x:X),s.ev f=x→(∀ fn caps,x≠.of (.fn fn caps))→∀ n,gW P (TT.of P) (enN P pr n) s k ⟨d,.call {callee:=.value f,args:=args,argTypes:=tys},ty,po,af,g⟩=none:=fun x hx hne n=>by
  rw[ah4,hx]
  split
  .rename_i h;exact (hne _ _ rfl).elim
  .rfl
 unfold SO
 simp only[hst]
 cases hf:s.ev f with
 | of c =>
  cases c with
  | fn fn caps =>
   simp only[agN,aht,hf]
   cases ho:pr.obj fn with
   | true =>
    simp only[aid]
    cases dr with
    | true =>
     simp only[aA,abV,bD,abu]
     rintro⟨n,e,s',h,_⟩
     rw[ah4,hf] at h
     cases hr:aay s.ev args.toList with
     | none=>rw[hr] at h;cases h
     | some cs =>
      rw[hr] at h
      have:aey P (enN P pr n) s.clk k fn (cs++caps)=none:=by
       unfold aey
       have ho':(enN P pr n).obj fn=true:=ho
       rw[aj (by simp[ho'])]
      simp[this] at h
    | false =>
     simp only[aW,aQ,aA,cW]
     constructor
     .rintro⟨n,e,s',h,hq⟩;exact avV k d s Q n fn _ ⟨e,s',h,hq⟩
     .intro h;exact avU k d s Q fn _ h
   | false =>
    simp only[aid]
    rw[← aF2 k d ty po af g s Q f fn caps args tys hf ho]
    cases dr with
    | true=>simp only[aA]
    | false=>simp only[aW,aQ]
  | _ =>
   simp only[agN,abu]
   rintro⟨n,e,s',h,_⟩
   rw[hV _ hf (fun _ _ e=>by cases e) n] at h
   simp[aht,hf] at h
 | clo fn caps =>
  simp only[agN,aht,hf]
  have hn:=hV _ hf (fun _ _ e=>by cases e)
  cases dr with
  | true =>
   simp only[aA,abV,bD,bJ,abu]
   rintro⟨n,e,s',h,_⟩
   rw[hn] at h
   cases h
  | false =>
   simp only[aW,aQ,cW]
   cases ho:pr.obj (ahX fn) with
   | true =>
    simp only[aA,cW]
    constructor
    .rintro⟨n,e,s',h,hq⟩;exact avV k d s Q n (ahX fn) _ ⟨e,s',h,hq⟩
    .intro h;exact avU k d s Q (ahX fn) _ h
   | false =>
    simp only[aW,aQ,bD,abu]
    rintro⟨n,e,s',h,_⟩
    rw[hn] at h
    cases h
 | _ =>
  simp only[agN,abu]
  rintro⟨n,e,s',h,_⟩
  rw[hV _ hf (fun _ _ e=>by cases e) n] at h
  simp[aht,hf] at h
theorem Z7 (f:Nat) (args:Array Operand) (tys:Array Nat):SO P pr dr k ⟨d,.call {callee:=.value (.func f),args:=args,argTypes:=tys},ty,po,af,g⟩ s Q ↔
  aid P pr dr s k d Q f (args.toList.map s.ev) [] (aay s.ev args.toList) (pr.obj f):=by
 rw[awp]
 simp only[S.ev,agN,bC,cD]
theorem Z8 (t:Nat) (args:Array Operand) (tys:Array Nat):SO P pr dr k ⟨d,.call {callee:=.value (.tmp t),args:=args,argTypes:=tys},ty,po,af,g⟩ s Q ↔
  agN P pr dr s k d Q (args.toList.map s.ev) (aay s.ev args.toList) (s.fr t):=awp dr k d ty po af g s Q (.tmp t) args tys
theorem Zh (t:Nat) (x i:Operand) (ok:Bool):SO P pr dr k ⟨d,.lookup t x i ok,ty,po,af,g⟩ s Q↔aaQ s d af (Q none) (jf (TT.of P) s.objs t (s.ev x) (s.ev i) ok):=aae _ (fun _=>by cases dr <;> rfl) fun _=>rfl
theorem aio {o:Oper} (v:Option S) (h:∀ n,abY P (TT.of P) (enN P pr n) false s k o=v.map fun s=>(none,s)):SO P pr false k o s Q↔abZ (Q none) v:=by
 unfold SO
 simp only[h]
 cases v with
 | none=>simp[abZ]
 | some s' =>
  constructor
  .rintro⟨n,e,s1,h1,h2⟩
   simp only[bH,dR] at h1
   obtain⟨rfl,rfl⟩:=h1
   exact h2
  .intro h1
   exact⟨0,none,s',rfl,h1⟩
def ap9 (s:S) (d:Option Nat) (ty:Nat):Option (List X)→Option S
 | some xs=>some (akh s d ty xs)
 | none=>none
def mtQ (b:Bool) (p q:Prop):Prop:=match b with
 | true=>p
 | false=>q
def nwX (tk:Tk) (t:Nat):Option TD→Out
 | some d=>if 0<d.size then out (.nw (some tk) t d.size) else none
 | none=>none
theorem aJB (t:Nat):SO P pr true k ⟨d,.alloc t,ty,po,af,g⟩ s Q↔aaQ s d af (Q none) (nwX (.nm s.clk k 0) t (TT.of P t)):=aae _ (fun _=>rfl) fun _=>by
 simp only[val]
 cases TT.of P t <;> rfl
theorem Z0 (t:Nat):SO P pr false k ⟨d,.alloc t,ty,po,af,g⟩ s Q↔mtQ (pr.mt po d) (abZ (Q none) (ap9 s d t ((TT.of P t).map ik))) (aaQ s d af (Q none) (nwX (.nm s.clk k 0) t (TT.of P t))):=by
 have e:∀ n,(enN P pr n).mt=pr.mt:=fun _=>rfl
 cases hm:pr.mt po d with
 | true =>
  refine aio k s Q _ fun n=>?_
  simp only[abY,aW,aQ,e,hm,aA]
  cases TT.of P t <;> rfl
 | false =>
  refine aae _ (fun n=>?_) fun _=>?_
  .simp only[abY,aW,aQ,e,hm]
  .simp only[val]
   cases TT.of P t <;> rfl
def aEu:Option TD→Option (List X)→Option (List X)
 | some d,some xs=>if xs.length=d.size then some xs else none
 | _,_=>none
def aEt (s:S) (d:Option Nat):Option TD→Option (List C)→Option S
 | some td,some cs=>if cs.length=td.size∧0<td.size then some (s.put d (.of (.ref cs))) else none
 | _,_=>none
theorem Z4 (t:Nat) (x:Operand):SO P pr false k ⟨d,.box t x,ty,po,af,g⟩ s Q↔mtQ (pr.mt po d) (abZ (Q none) (ap9 s d t (aEu (TT.of P t) (d5 (s.ev x))))) (abZ (Q none) (aEt s d (TT.of P t) (gA (s.ev x)))):=by
 have e:∀ n,(enN P pr n).mt=pr.mt:=fun _=>rfl
 cases hm:pr.mt po d with
 | true =>
  refine aio k s Q _ fun n=>?_
  simp only[abY,aW,aQ,e,hm,aA]
  cases TT.of P t with
  | none=>rfl
  | some td =>
   cases d5 (s.ev x) with
   | none=>rfl
   | some xs=>simp only[aEu];split <;> rfl
 | false =>
  refine aio k s Q _ fun n=>?_
  simp only[abY,aW,aQ,e,hm]
  cases TT.of P t with
  | none=>rfl
  | some td =>
   cases gA (s.ev x) with
   | none=>rfl
   | some xs=>simp only[aEt];split <;> rfl
def alR (s:S) (d:Option Nat):Option TD→X→Option (List X)→Option S
 | some td,.ptr r off,some xs=>ago s d td.size r off xs
 | _,_,_=>none
def atp (s:S) (j t:Nat) (tk:Tk) (ty z:Nat) (af:Array Edge):Option TD→Option (List X)→Option S
 | some d,some xs=>if ty=t∧z=d.size∧xs.length=z∧abg s.clk af.toList (some tk)=true then some (ana (s.drop (some tk)) j t (X.drops tk xs)) else none
 | _,_=>none
def aui (s:S) (j t:Nat) (tk:Tk) (ty z:Nat) (af:Array Edge):Option TD→Option (List C)→Option S
 | some d,some cs=>if ty=t∧z=d.size∧cs.length=z∧abg s.clk af.toList (some tk)=true then some ((s.drop (some tk)).put (some j) (.of (.ref cs))) else none
 | _,_=>none
def stO (dr mt:Bool) (s:S) (j t:Nat) (af:Array Edge) (td:Option TD) (xs:Option (List X)) (cs:Option (List C)):X→Option S
 | .nw (some tk) ty z=>match dr,mt with
  | false,true=>atp s j t tk ty z af td xs
  | _,_=>aui s j t tk ty z af td cs
 | ax=>match dr with
  | false=>alR s none td ax xs
  | true=>none
theorem anI (E:En) (t j:Nat) (x:Operand):gW P (TT.of P) E s k ⟨none,.store t (.tmp j) x,ty,po,af,none⟩=(match s.fr j with
  | .nw (some tk) ty z=>aui s j t tk ty z af (TT.of P t) (gA (s.ev x))
  | _=>none).map fun s=>(none,s):=by
 unfold gW val
 simp only
 cases hf:s.fr j with
 | nw o ty' z =>
  cases o with
  | none =>
   simp only
   cases TT.of P t <;> cases gA (s.ev x) <;> rfl
  | some tk =>
   cases TT.of P t with
   | none=>rfl
   | some td =>
    cases gA (s.ev x) with
    | none=>rfl
    | some cs =>
     simp only[aui]
     by_cases h1:ty'=t∧z=td.size∧cs.length=z
     .rw[aE h1]
      by_cases h2:abg s.clk af.toList (some tk)=true
      .simp only[h2,aA]
       rw[aE ⟨h1.1,h1.2.1,h1.2.2,trivial⟩]
       rfl
      .have h3:abg s.clk af.toList (some tk)=false:=by simpa using h2
       simp only[h3]
       rw[aj (fun h=>by cases h),aj (fun h=>by cases h.2.2.2)]
       rfl
     .rw[aj h1,aj (fun h=>h1 ⟨h.1,h.2.1,h.2.2.1⟩)]
      rfl
 | _ =>
  simp only
  cases TT.of P t <;> cases gA (s.ev x) <;> rfl
theorem Zr (t j:Nat) (x:Operand):SO P pr dr k ⟨none,.store t (.tmp j) x,ty,po,af,none⟩ s Q↔abZ (Q none) (stO dr (pr.mt po (some j)) s j t af (TT.of P t) (d5 (s.ev x)) (gA (s.ev x)) (s.fr j)):=by
 have e:∀ n,(enN P pr n).mt=pr.mt:=fun _=>rfl
 have key:∀ n,abY P (TT.of P) (enN P pr n) dr s k ⟨none,.store t (.tmp j) x,ty,po,af,none⟩=(stO dr (pr.mt po (some j)) s j t af (TT.of P t) (d5 (s.ev x)) (gA (s.ev x)) (s.fr j)).map fun s=>(none,s):=fun n=>by
  cases dr with
  | true =>
   show gW _ _ _ _ _ _=_
   rw[anI]
   cases s.fr j with
   | nw o ty' z=>cases o <;> rfl
   | _=>rfl
  | false =>
   unfold abY
   have ej:s.ev (.tmp j)=s.fr j:=rfl
   simp only[aW,aQ,e,fv,ej]
   cases hf:s.fr j with
   | nw o ty' z =>
    cases o with
    | none =>
     simp only[stO,alR]
     cases TT.of P t <;> (try rfl)
    | some tk =>
     simp only[stO]
     cases hm:pr.mt po (some j) with
     | true =>
      simp only[aA,atp]
      cases TT.of P t with
      | none=>rfl
      | some td =>
       cases d5 (s.ev x) with
       | none=>rfl
       | some xs =>
        simp only[gh]
        split <;> rfl
     | false =>
      simp only[aW,aQ]
      rw[anI,hf]
   | _ =>
    simp only[stO,alR]
    cases TT.of P t with
    | none=>rfl
    | some td=>cases d5 (s.ev x) <;> rfl
 unfold SO
 simp only[key]
 generalize stO dr (pr.mt po (some j)) s j t af (TT.of P t) (d5 (s.ev x)) (gA (s.ev x)) (s.fr j)=v
 cases v with
 | none=>simp[abZ]
 | some s' =>
  constructor
  .rintro⟨n,e,s1,h1,h2⟩
   simp only[bH,dR] at h1
   obtain⟨rfl,rfl⟩:=h1
   exact h2
  .intro h1
   exact⟨0,none,s',rfl,h1⟩
theorem Zk (t:Nat):SO P pr false k ⟨d,.makeMap t none,ty,po,af,g⟩ s Q↔Q none ({s with objs:=s.objs++[Ob.map []]}.put d (.mp s.objs.length)) :=
 aio k s Q (some _) fun n=>rfl
def aeu:Option Ob→Option (List (Value×C))
 | some (.map es)=>some es
 | _=>none
def agv (kind:TypeDesc) (kv:Option Value) (c:Option C) (es:Option (List (Value×C))):Option (List (Value×C)):=match kv,c,es with
 | some kv,some c,some es=>aeG kind kv c es
 | _,_,_=>none
def aCi (s:S) (d:Option Nat) (x:X) (r:Nat):Option (List (Value×C))→Option S
 | some es=>some ({s with objs:=s.objs.set r (Ob.map es)}.put d x)
 | none=>none
def ab7 (s:S) (d:Option Nat) (x:X):X→(Nat→Option (List (Value×C)))→Option S
 | .mp r,F=>aCi s d x r (F r)
 | _,_=>none
theorem aaL {kind:TypeDesc} {et:Nat} (t:Nat) (m kx x:Operand) (ht:acO (TT.of P) t=some (kind,et)):SO P pr false k ⟨d,.mapUpdate t m kx x,ty,po,af,g⟩ s Q ↔
  abZ (Q none) (ab7 s d (.of .undef) (s.ev m) fun r=>agv kind (fY (s.ev kx)) (s.ev x).rd (aeu (s.objs[r]?))) :=
 aio k s Q _ fun n=>by
  simp only[abY,aW,aQ,ht]
  cases s.ev m with
  | mp r =>
   simp only[ab7]
   cases fY (s.ev kx) with
   | none=>rfl
   | some kv =>
    cases (s.ev x).rd with
    | none=>rfl
    | some c =>
     cases hr:s.objs[r]? with
     | none=>simp only[hr];rfl
     | some ob =>
      cases ob with
      | var _ _=>simp only[hr];rfl
      | map es=>simp only[hr,aeu,agv,aCi];cases aeG kind kv c es <;> rfl
  | _=>rfl
theorem acz {kind:TypeDesc} {et:Nat} (t:Nat) (m kx x:Operand) (ht:acO (TT.of P) t=some (kind,et)):SO P pr false k ⟨d,.insert t m kx x,ty,po,af,g⟩ s Q ↔
  abZ (Q none) (ab7 s d (.of .undef) (s.ev m) fun r=>agv kind (fY (s.ev kx)) (s.ev x).rd (aeu (s.objs[r]?))) :=
 aio k s Q _ fun n=>by
  simp only[abY,aW,aQ,ht]
  cases s.ev m with
  | mp r =>
   simp only[ab7]
   cases fY (s.ev kx) with
   | none=>rfl
   | some kv =>
    cases (s.ev x).rd with
    | none=>rfl
    | some c =>
     cases hr:s.objs[r]? with
     | none=>simp only[hr];rfl
     | some ob =>
      cases ob with
      | var _ _=>simp only[hr];rfl
      | map es=>simp only[hr,aeu,agv,aCi];cases aeG kind kv c es <;> rfl
  | _=>rfl
def aUS (Q:Option X→S→Prop) (s:S):Option C→Prop
 | some (.ifc t c)=>Q (some (.of (.ifc t c))) s
 | _=>False
end
def aD0 (P:Program) (b:Bool) (f m:Nat) (an:An):Ex→S→Prop
 | .normal,s=>((ab6 (TT.of P) s (aeg P f)).bind fun rs=>aex m false (afP b rs) s.objs)=some an
 | .ret,s=>((ab6 (TT.of P) s (aeg P f)).bind fun rs=>aex m false (afP b rs) s.objs)=some an
 | .pan x,s=>aex m true [x] s.objs=some an
 | .exit _,_=>False
theorem aN.of_body {f:Nat} {xs:List X} {obs:List Ob} {an:An} (hp:pr.prim f xs obs=none) (hok:aDN P f=true) (har:xs.length≤ap6 P f) (h:WC P pr (amw P f) (agH xs obs) (aD0 P (pr.keep f) f obs.length an)):aN P pr f xs obs an:=by
 obtain⟨n,e,s',h1,hq⟩:=h
 refine⟨n,?_⟩
 unfold enN ajA apb amr
 simp only
 rw[hp]
 simp only[hok,har,da,aA,h1]
 cases e with
 | normal=>exact hq
 | ret=>exact hq
 | pan x=>exact hq
 | exit i=>exact hq.elim
theorem aN.of_prim {f:Nat} {xs:List X} {obs:List Ob} {an:An} (hp:pr.prim f xs obs=some an):aN P pr f xs obs an:=⟨0,by unfold enN ajA apb;simp only;rw[hp]⟩
theorem aN.sound (hm:P.follows .mixedOrders=true) {G:GP} (hpr:PrSound P G pr) {f:Nat} {xs:List X} {obs:List Ob} {an:An} (h:aN P pr f xs obs an):ad5 P G f xs obs an:=by
 obtain⟨n,hn⟩:=h
 exact (apQ hpr (apX hm hpr n)).orc f xs obs an hn
end
end Go.Pe

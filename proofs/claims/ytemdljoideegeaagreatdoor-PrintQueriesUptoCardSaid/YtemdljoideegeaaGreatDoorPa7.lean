/-
  An abstract machine for Go code over plain data: rules by which the evaluator is run on symbols. Conditions: none.
-/
import Derived.Test.YtemdljoideegeaaGreatDoorPa6
set_option linter.defProp false
set_option linter.unusedSectionVars false
set_option maxRecDepth 100000
set_option maxHeartbeats 64000000
namespace Go.Pe
def Orc.le (a b:Orc):Prop:=∀ f xs obs an,a f xs obs=some an→b f xs obs=some an
structure En.le (a b:En):Prop where
 orc:Orc.le a.orc b.orc
 obj:a.obj=b.obj
 tk:a.tk=b.tk
 mt:a.mt=b.mt
def aEn {P:Program} {E E':En} (h:En.le E E') {clk ix f:Nat} {cs:List C} {y:X×Option Tk} (hv:aew P E clk ix f cs=some y):aew P E' clk ix f cs=some y:=by
 unfold aew at *
 rw[← h.obj]
 split at hv
 .rename_i hc
  rw[aE hc]
  split at hv
  .rename_i rs hr
   rw[h.orc _ _ _ _ hr]
   exact hv
  .cases hv
 .cases hv
def aJV {P:Program} {T:TT} {E E':En} (h:En.le E E') {s:S} {ix:Nat} {o:Oper} {y:X×Option Tk} (hv:val P T E s ix o=some y):val P T E' s ix o=some y:=by
 unfold val at *
 split at hv <;> (try exact hv)
 unfold af3 at *
 split at hv
 .exact hv
 .exact hv
 .exact hv
 .exact hv
 .split at hv
  .exact aEn h hv
  .cases hv
 .cases hv
def agn {P:Program} {T:TT} {E E':En} (h:En.le E E') {s:S} {ix:Nat} {o:Oper} {y:Option X×S} (hv:hJ P T E s ix o=some y):hJ P T E' s ix o=some y:=by
 unfold hJ at *
 split at hv
 .rename_i x t hx
  rw[aJV h hx]
  exact hv
 .cases hv
def ai0 {P:Program} {T:TT} {E E':En} (h:En.le E E') {dr:Bool} {s:S} {ix:Nat} {o:Oper} {y:Option X×S} (hv:abW P T E dr s ix o=some y):abW P T E' dr s ix o=some y:=by
 unfold abW at *
 split at hv
 .rename_i hd
  rw[aE hd]
  exact agn h hv
 .rename_i hd
  rw[aj hd]
  split at hv
  .rw[← h.mt]
   split at hv
   .rename_i hm
    rw[aE hm]
    exact hv
   .rename_i hm
    rw[aj hm]
    exact agn h hv
  .rw[← h.mt]
   exact hv
  .rw[← h.mt]
   split at hv
   .split at hv
    .rename_i hm
     rw[aE hm]
     exact hv
    .rename_i hm
     rw[aj hm]
     exact agn h hv
   .exact hv
  .exact hv
  .exact hv
  .exact hv
  .exact hv
  .exact hv
  .split at hv
   .rename_i g us htg
    rw[← h.obj]
    split at hv
    .rename_i ho
     rw[aE ho]
     unfold ahm at *
     rw[← h.tk]
     split at hv
     .rename_i hc
      rw[aE hc]
      simp only at hv ⊢
      split at hv
      .rename_i obs hobs
       split at hv
       .rename_i an han
        rw[h.orc _ _ _ _ han]
        exact hv
       .cases hv
      .cases hv
     .cases hv
    .rename_i ho
     rw[aj ho]
     exact agn h hv
   .cases hv
  .exact agn h hv
theorem agJ {P:Program} {T:TT} {E E':En} (h:En.le E E') {dr:Bool} {ops:Array Oper} {y:Option X×S}:∀ (l:List Oper) (n:Nat) (s:S),abD P T E dr ops n l s=some y→abD P T E' dr ops n l s=some y
 | [],_,_,hv=>hv
 | o::l,n,s,hv=>by
  have hst:∀ z,dh P T E dr ops s n o=some z→dh P T E' dr ops s n o=some z:=fun z h1=>by
   unfold dh at *
   split at h1
   .exact ai0 h h1
   .exact h1
   .cases h1
  simp only[abD] at hv ⊢
  split at hv
  .rename_i s1 h1
   rw[hst _ h1]
   exact agJ h l _ _ hv
  .rename_i x s1 h1
   rw[hst _ h1]
   exact hv
  .cases hv
def aLe {P:Program} {E E':En} (h:En.le E E') {o:Op} {es:List (Value×C)} (hv:mkA P E o=some es):mkA P E' o=some es:=by
 unfold mkA at *
 split at hv
 .split at hv
  .rename_i hc
   rw[aE hc]
   split at hv
   .rename_i es' ho
    rw[h.orc _ _ _ _ ho]
    exact hv
   .cases hv
  .cases hv
 .cases hv
def akY {P:Program} {E E':En} (h:En.le E E') {s s':S} {o:Oper} (hv:mkS P E s o=some s'):mkS P E' s o=some s':=by
 unfold mkS at *
 simp only[aP] at hv
 obtain⟨es,h1,rfl⟩:=hv
 rw[aLe h h1]
 rfl
def aeX {P:Program} {T:TT} {E E':En} (h:En.le E E') {dr:Bool} {ops:Array Oper} {n:Nat} {o:Oper} {s:S} {z:Option X×S} (h1:dh P T E dr ops s n o=some z):dh P T E' dr ops s n o=some z:=by
 unfold dh at *
 split at h1
 .exact ai0 h h1
 .exact h1
 .cases h1
theorem ajw {P:Program} {T:TT} {E E':En} (h:En.le E E') {ops:Array Oper} {y:Option X×S}:∀ (l:List Oper) (n:Nat) (s:S),abG P T E ops n l s=some y→abG P T E' ops n l s=some y
 | [],_,_,hv=>by simp[abG] at hv
 | [o],n,s,hv=>by
  simp only[abG] at hv ⊢
  split at hv
  .rename_i s1 h1
   rw[aeX h h1]
   exact hv
  .cases hv
 | o::o'::l,n,s,hv=>by
  simp only[abG] at hv ⊢
  split at hv
  .rename_i s1 h1
   rw[aeX h h1]
   exact ajw h (o'::l) _ _ hv
  .cases hv
def aIO {P:Program} {T:TT} {E E':En} (h:En.le E E') {ops:Array Oper} {l:List Oper} {s:S} {y:Option X×S} (hv:alb P T E ops l s=some y):alb P T E' ops l s=some y:=by
 unfold alb at *
 split at hv
 .rename_i hm
  rw[aE hm]
  exact ajw h _ _ _ hv
 .rename_i hm
  rw[aj hm]
  cases l with
  | nil=>cases hv
  | cons o r =>
   simp only at hv ⊢
   split at hv
   .rename_i s1 h1
    rw[akY h h1]
    exact agJ h _ _ _ hv
   .cases hv
theorem arU {P:Program} {T:TT} {E E':En} (h:En.le E E') {ops:Array Oper}:∀ (l:List Oper) (n:Nat) (s:S) {y:Option X×S},agI P T E ops n l s=some y→agI P T E' ops n l s=some y
 | [],_,_,_,hv=>by simp[agI] at hv
 | [_],_,_,_,hv=>by simp[agI] at hv
 | [o,o'],n,s,y,hv=>by
  simp only[agI] at hv ⊢
  split at hv
  .rename_i s1 h1
   rw[aeX h h1]
   simp only
   split at hv
   .rename_i s2 h2
    rw[aeX h h2]
    exact hv
   .cases hv
  .cases hv
 | o::o'::o''::l,n,s,y,hv=>by
  simp only[agI] at hv ⊢
  split at hv
  rotate_left
  .cases hv
  rename_i hf
  rw[aE hf]
  split at hv
  .rename_i s1 h1
   rw[aeX h h1]
   exact arU h (o'::o''::l) _ _ hv
  .cases hv
def akQ {P:Program} {T:TT} {E E':En} (h:En.le E E') {dr:Bool} {ops:Array Oper} {s s':S} {k:Nat} {o:Oper} (hv:okS (dh P T E dr ops s k o)=some s'):okS (dh P T E' dr ops s k o)=some s':=by
 rw[aeX h (aeH hv)];rfl
def aKv {P:Program} {T:TT} {E E':En} (h:En.le E E') {ops:Array Oper} {t:Bool} {s s':S} {k:Nat} {o:Oper} (hv:stX P T E ops t s k o=some s'):stX P T E' ops t s k o=some s':=by
 unfold stX at *
 rw[← h.obj]
 split at hv
 .rename_i c;rw[aE c];exact akQ h hv
 .rename_i c
  rw[aj c]
  split at hv
  .rename_i c2;rw[aE c2];exact akY h hv
  .rename_i c2;rw[aj c2];exact akQ h hv
theorem aom {P:Program} {T:TT} {E E':En} (h:En.le E E') {ops:Array Oper} {n:Nat}:∀ (l:List Oper) (k:Nat) (b:Bool) (s:S) {s':S},evD P T E ops n k b l s=some s'→evD P T E' ops n k b l s=some s'
 | [],_,_,_,_,hv=>hv
 | o::l,k,b,s,s',hv=>by
  unfold evD at hv ⊢
  rw[← h.obj]
  split at hv
  .cases hv
  rename_i c
  rw[aj c]
  split at hv
  .rename_i s1 h1
   rw[aKv h h1]
   exact aom h l _ _ _ hv
  .cases hv
def avC {P:Program} {T:TT} {E E':En} (h:En.le E E') {draw:Bool} {ops:Array Oper} {s:S} {y:Option X×S} (hv:evR P T E draw ops s=some y):evR P T E' draw ops s=some y:=by
 unfold evR at *
 rw[← h.obj]
 by_cases htl:(draw&&tlB ops.toList)=true
 .rw[aE htl] at hv ⊢
  exact arU h _ _ _ hv
 rw[aj htl] at hv ⊢
 by_cases htn:(draw&&!(abQ E.obj ops.toList == 0))=true
 .rw[aE htn] at hv ⊢
  simp only[aP] at hv ⊢
  obtain⟨t,ht,rfl⟩:=hv
  exact⟨t,aom h _ _ _ _ ht,rfl⟩
 rw[aj htn] at hv ⊢
 split at hv
 .rename_i hm
  rw[aE hm]
  exact aIO h hv
 .rename_i hm
  rw[aj hm]
  exact agJ h _ _ _ hv
def amk {P:Program} {T:TT} {pr:Pr} {a b:Code→S→Option (Ex×S)} (h:∀ c s r,a c s=some r→b c s=some r):En.le (ajy P T pr a) (ajy P T pr b) where
 obj:=rfl
 tk:=rfl
 mt:=rfl
 orc:=by
  intro f xs obs an hr
  simp only[ajy,ao9] at *
  split at hr
  .rename_i r' hp;simpa [hp] using hr
  .unfold amp at *
   split at hr
   .rename_i hc
    rw[aE hc]
    split at hr
    .rename_i s1 h1;rw[h _ _ _ h1];exact hr
    .rename_i s1 h1;rw[h _ _ _ h1];exact hr
    .rename_i x s1 h1;rw[h _ _ _ h1];exact hr
    .cases hr
   .cases hr
def ag4 (P:Program) (T:TT) (pr:Pr) (n:Nat) (a b:Code) (s:S):evC P T pr (n+1) (.seq a b) s=match evC P T pr n a s with
  | some (.normal,s')=>evC P T pr n b s'
  | r=>r:=rfl
def ae7 (P:Program) (T:TT) (pr:Pr) (n i:Nat) (c:Code) (s:S):evC P T pr (n+1) (.block i c) s=match evC P T pr n c s with
  | some (.exit j,s')=>some (if j=i then .normal else .exit j,s')
  | r=>r:=rfl
def aje (P:Program) (T:TT) (pr:Pr) (n:Nat) (c:Operand) (a b:Code) (s:S):evC P T pr (n+1) (.cond c a b) s=match acZ (s.ev c) with
  | some true=>evC P T pr n a s
  | some false=>evC P T pr n b s
  | none=>none:=rfl
def agc (P:Program) (T:TT) (pr:Pr) (n:Nat) (c:Code) (s:S):evC P T pr (n+1) (.loop c) s=match evC P T pr n c s with
  | some (.normal,s')=>evC P T pr n (.loop c) s'
  | r=>r:=rfl
def ahl (P:Program) (T:TT) (pr:Pr) (n id:Nat) (ops:Array Oper) (draw:Bool) (s:S):evC P T pr (n+1) (.region id ops draw) s=match evR P T (ajy P T pr (evC P T pr n)) draw ops s with
  | some (none,s')=>some (.normal,{s' with clk:=s'.clk+1})
  | some (some x,s')=>some (.pan x,{s' with clk:=s'.clk+1})
  | none=>none:=rfl
theorem avE {P:Program} {T:TT} {pr:Pr}:∀ (n:Nat) (c:Code) (s:S) (r:Ex×S),evC P T pr n c s=some r→evC P T pr (n+1) c s=some r
 | 0,c,s,r,h=>by simp[evC] at h
 | n+1,c,s,r,h=>by
  have ih:=avE (P:=P) (T:=T) (pr:=pr) n
  cases c with
  | seq a b =>
   rw[ag4] at h ⊢
   split at h
   .rename_i s1 h1;rw[ih _ _ _ h1];exact ih _ _ _ h
   .rename_i hne
    cases h2:evC P T pr n a s with
    | none=>rw[h2] at h;cases h
    | some p =>
     obtain⟨e,s1⟩:=p
     rw[ih _ _ _ h2]
     cases e with
     | normal=>exact (hne s1 h2).elim
     | exit i=>rw[h2] at h;exact h
     | ret=>rw[h2] at h;exact h
     | pan x=>rw[h2] at h;exact h
  | block i c =>
   rw[ae7] at h ⊢
   cases h2:evC P T pr n c s with
   | none=>rw[h2] at h;cases h
   | some p=>rw[ih _ _ _ h2];rw[h2] at h;exact h
  | cond c a b =>
   rw[aje] at h ⊢
   split at h
   .exact ih _ _ _ h
   .exact ih _ _ _ h
   .cases h
  | loop c =>
   rw[agc] at h ⊢
   cases h2:evC P T pr n c s with
   | none=>rw[h2] at h;cases h
   | some p =>
    obtain⟨e,s1⟩:=p
    rw[ih _ _ _ h2]
    rw[h2] at h
    cases e with
    | normal=>exact ih _ _ _ h
    | exit i=>exact h
    | ret=>exact h
    | pan x=>exact h
  | region id ops draw =>
   rw[ahl] at h ⊢
   split at h
   .rename_i s1 h1
    rw[avC (amk ih) h1]
    exact h
   .rename_i x s1 h1
    rw[avC (amk ih) h1]
    exact h
   .cases h
  | skip=>simpa only [evC] using h
  | ret=>simpa only [evC] using h
  | exit i=>simpa only [evC] using h
  | _=>simp[evC] at h
def aiN {P:Program} {T:TT} {pr:Pr} {n m:Nat} (h:n≤m) {c:Code} {s:S} {r:Ex×S} (hr:evC P T pr n c s=some r):evC P T pr m c s=some r:=by
 induction m with
 | zero =>
  obtain rfl:n=0:=by omega
  exact hr
 | succ m ih =>
  rcases ap n (m+1) with g|g
  .exact avE m c s r (ih (by omega))
  .obtain rfl:n=m+1:=by omega
   exact hr
section
variable (P:Program) (pr:Pr)
def enN (n:Nat):En:=ajy P (TT.of P) pr (evC P (TT.of P) pr n)
theorem acc {n m:Nat} (h:n≤m):En.le (enN P pr n) (enN P pr m):=amk fun _ _ _ hr=>aiN h hr
def aN (f:Nat) (xs:List X) (obs:List Ob) (an:An):Prop:=∃ n,(enN P pr n).orc f xs obs=some an
def bp (f:Nat) (xs:List X) (obs:List Ob) (K:An→Prop):Prop:=∃ an,aN P pr f xs obs an∧K an
def WC (c:Code) (s:S) (Q:Ex→S→Prop):Prop:=∃ n e s',evC P (TT.of P) pr n c s=some (e,s')∧Q e s'
def WO (dr:Bool) (ops:Array Oper) (k:Nat) (l:List Oper) (s:S) (Q:Option X→S→Prop):Prop:=∃ n e s',abD P (TT.of P) (enN P pr n) dr ops k l s=some (e,s')∧Q e s'
def SO (dr:Bool) (k:Nat) (o:Oper) (s:S) (Q:Option X→S→Prop):Prop:=∃ n e s',abW P (TT.of P) (enN P pr n) dr s k o=some (e,s')∧Q e s'
def WS (ops:Array Oper) (l:List Oper) (s:S) (Q:Option X→S→Prop):Prop:=∃ n e s',alb P (TT.of P) (enN P pr n) ops l s=some (e,s')∧Q e s'
def WD (ops:Array Oper) (n k:Nat) (b:Bool) (l:List Oper) (s:S) (Q:Option X→S→Prop):Prop:=∃ m s',evD P (TT.of P) (enN P pr m) ops n k b l s=some s'∧Q none s'
def tlQ:Nat→(Nat→Prop)→Prop→Prop
 | 0,_,b=>b
 | n+1,a,_=>a (n+1)
def WOT (ops:Array Oper) (k:Nat) (l:List Oper) (s:S) (Q:Option X→S→Prop):Prop:=∃ n e s',agI P (TT.of P) (enN P pr n) ops k l s=some (e,s')∧Q e s'
def WOB (ops:Array Oper) (k:Nat) (l:List Oper) (s:S) (Q:Option X→S→Prop):Prop:=∃ n e s',abG P (TT.of P) (enN P pr n) ops k l s=some (e,s')∧Q e s'
def aoI (b:Code) (Q:Ex→S→Prop):Ex→S→Prop
 | .normal,s=>WC P pr b s Q
 | .exit i,s=>Q (.exit i) s
 | .ret,s=>Q .ret s
 | .pan x,s=>Q (.pan x) s
def akb (i:Nat) (Q:Ex→S→Prop):Ex→S→Prop
 | .normal,s=>Q .normal s
 | .exit j,s=>if j=i then Q .normal s else Q (.exit j) s
 | .ret,s=>Q .ret s
 | .pan x,s=>Q (.pan x) s
def agp (Q:Ex→S→Prop):Option X→S→Prop
 | none,s=>Q .normal {s with clk:=s.clk+1}
 | some x,s=>Q (.pan x) {s with clk:=s.clk+1}
def ai5 (F:S→Prop) (Q:Option X→S→Prop):Option X→S→Prop
 | none,s=>F s
 | some x,s=>Q (some x) s
def atv:Option Bool→Prop→Prop→Prop
 | some b,p,q=>if b=true then p else q
 | none,_,_=>False
def acG:Option Bool→Prop→Prop→Prop
 | some true,p,_=>p
 | some false,_,q=>q
 | none,_,_=>False
variable {P pr}
theorem aN.unique {f:Nat} {xs:List X} {obs:List Ob} {r r':An} (h:aN P pr f xs obs r) (h':aN P pr f xs obs r'):r=r':=by
 obtain⟨n,hn⟩:=h
 obtain⟨m,hm⟩:=h'
 have h1:=(acc P pr (jo n m)).orc _ _ _ _ hn
 have h2:=(acc P pr (iZ n m)).orc _ _ _ _ hm
 exact bn (h1.symm.trans h2)
theorem aN.k {f:Nat} {xs:List X} {obs:List Ob} {r:An} (h:aN P pr f xs obs r) (K:An→Prop):bp P pr f xs obs K↔K r :=
 ⟨fun⟨_,h1,h2⟩=>h.unique h1▸h2,fun h2=>⟨r,h,h2⟩⟩
theorem Z10 (s:S) (Q:Ex→S→Prop):WC P pr .skip s Q↔Q .normal s :=
 ⟨fun⟨n,e,s',h,hq⟩=>by
  cases n with
  | zero=>simp[evC] at h
  | succ n=>simp only[evC,dX] at h;obtain⟨rfl,rfl⟩:=h;exact hq,fun h=>⟨1,_,_,rfl,h⟩⟩
theorem Zy (s:S) (Q:Ex→S→Prop):WC P pr .ret s Q↔Q .ret s :=
 ⟨fun⟨n,e,s',h,hq⟩=>by
  cases n with
  | zero=>simp[evC] at h
  | succ n=>simp only[evC,dX] at h;obtain⟨rfl,rfl⟩:=h;exact hq,fun h=>⟨1,_,_,rfl,h⟩⟩
theorem Zv (i:Nat) (s:S) (Q:Ex→S→Prop):WC P pr (.exit i) s Q↔Q (.exit i) s :=
 ⟨fun⟨n,e,s',h,hq⟩=>by
  cases n with
  | zero=>simp[evC] at h
  | succ n=>simp only[evC,dX] at h;obtain⟨rfl,rfl⟩:=h;exact hq,fun h=>⟨1,_,_,rfl,h⟩⟩
theorem Zz (a b:Code) (s:S) (Q:Ex→S→Prop):WC P pr (.seq a b) s Q↔WC P pr a s (aoI P pr b Q):=by
 constructor
 .rintro⟨n,e,s',h,hq⟩
  cases n with
  | zero=>simp[evC] at h
  | succ n =>
   rw[ag4] at h
   split at h
   .rename_i s1 h1;exact⟨n,.normal,s1,h1,n,e,s',h,hq⟩
   .rename_i hne
    refine⟨n,e,s',h,?_⟩
    cases e with
    | normal=>exact (hne s' h).elim
    | exit i=>exact hq
    | ret=>exact hq
    | pan x=>exact hq
 .rintro⟨n,e,s',h,hq⟩
  cases e with
  | normal =>
   obtain⟨m,e2,s2,h2,hq2⟩:=hq
   refine⟨max n m+1,e2,s2,?_,hq2⟩
   rw[ag4]
   simp only[aiN (jo n m) h,aiN (iZ n m) h2]
  | exit i=>exact⟨n+1,.exit i,s',by rw[ag4];simp only[h],hq⟩
  | ret=>exact⟨n+1,.ret,s',by rw[ag4];simp only[h],hq⟩
  | pan x=>exact⟨n+1,.pan x,s',by rw[ag4];simp only[h],hq⟩
theorem Zt (i:Nat) (c:Code) (s:S) (Q:Ex→S→Prop):WC P pr (.block i c) s Q↔WC P pr c s (akb i Q):=by
 constructor
 .rintro⟨n,e,s',h,hq⟩
  cases n with
  | zero=>simp[evC] at h
  | succ n =>
   rw[ae7] at h
   split at h
   .rename_i j s1 h1
    simp only[dX] at h
    obtain⟨rfl,rfl⟩:=h
    refine⟨n,_,_,h1,?_⟩
    simp only[akb]
    split
    .rename_i e;rw[aE e] at hq;exact hq
    .rename_i e;rw[aj e] at hq;exact hq
   .rename_i hne
    refine⟨n,e,s',h,?_⟩
    cases e with
    | normal=>exact hq
    | exit j=>exact (hne j s' h).elim
    | ret=>exact hq
    | pan x=>exact hq
 .rintro⟨n,e,s',h,hq⟩
  cases e with
  | normal=>exact⟨n+1,.normal,s',by rw[ae7];simp only[h],hq⟩
  | exit j =>
   refine⟨n+1,if j=i then .normal else .exit j,s',by rw[ae7];simp only[h],?_⟩
   simp only[akb] at hq
   split
   .rename_i e;rw[aE e] at hq;exact hq
   .rename_i e;rw[aj e] at hq;exact hq
  | ret=>exact⟨n+1,.ret,s',by rw[ae7];simp only[h],hq⟩
  | pan x=>exact⟨n+1,.pan x,s',by rw[ae7];simp only[h],hq⟩
theorem Zu (c:Operand) (a b:Code) (s:S) (Q:Ex→S→Prop):WC P pr (.cond c a b) s Q↔atv (acZ (s.ev c)) (WC P pr a s Q) (WC P pr b s Q):=by
 constructor
 .rintro⟨n,e,s',h,hq⟩
  cases n with
  | zero=>simp[evC] at h
  | succ n =>
   rw[aje] at h
   split at h
   .rename_i hc;rw[hc];exact⟨n,e,s',h,hq⟩
   .rename_i hc;rw[hc];exact⟨n,e,s',h,hq⟩
   .cases h
 .intro h
  cases hc:acZ (s.ev c) with
  | none=>rw[hc] at h;exact h.elim
  | some t =>
   rw[hc] at h
   cases t with
   | true=>obtain⟨n,e,s',h,hq⟩:=h;exact⟨n+1,e,s',by rw[aje];simp only[hc,h],hq⟩
   | false=>obtain⟨n,e,s',h,hq⟩:=h;exact⟨n+1,e,s',by rw[aje];simp only[hc,h],hq⟩
theorem ap9 (id:Nat) (ops:Array Oper) (draw:Bool) (s:S) (Q:Ex→S→Prop):WC P pr (.region id ops draw) s Q↔∃ n e s',evR P (TT.of P) (enN P pr n) draw ops s=some (e,s')∧agp Q e s':=by
 constructor
 .rintro⟨n,e,s',h,hq⟩
  cases n with
  | zero=>simp[evC] at h
  | succ n =>
   rw[ahl] at h
   split at h
   .rename_i s1 h1
    simp only[dX] at h
    obtain⟨rfl,rfl⟩:=h
    exact⟨n,none,s1,h1,hq⟩
   .rename_i x s1 h1
    simp only[dX] at h
    obtain⟨rfl,rfl⟩:=h
    exact⟨n,some x,s1,h1,hq⟩
   .cases h
 .rintro⟨n,e,s1,h1,hq⟩
  cases e with
  | none =>
   refine⟨n+1,.normal,_,?_,hq⟩
   unfold enN at h1
   rw[ahl]
   simp only[h1]
  | some x =>
   refine⟨n+1,.pan x,_,?_,hq⟩
   unfold enN at h1
   rw[ahl]
   simp only[h1]
theorem aEI (id:Nat) (ops:Array Oper) (s:S) (Q:Ex→S→Prop):WC P pr (.region id ops false) s Q↔WO P pr false ops 0 ops.toList s (agp Q):=by
 rw[ap9]
 simp only[evR,aZ,aW,aQ]
 rfl
theorem aEH (id:Nat) (ops:Array Oper) (s:S) (Q:Ex→S→Prop):WC P pr (.region id ops true) s Q↔if tlB ops.toList=true then WOT P pr ops 0 ops.toList s (agp Q) else tlQ (abQ pr.obj ops.toList) (fun n=>WD P pr ops n 0 false ops.toList s (agp Q)) (if jr ops.toList=true then WOB P pr ops 0 ops.toList s (agp Q) else if agZ pr.obj ops.toList=true then WS P pr ops ops.toList s (agp Q) else WO P pr true ops 0 ops.toList s (agp Q)):=by
 rw[ap9]
 have e:∀ n,(enN P pr n).obj=pr.obj:=fun n=>rfl
 simp only[evR,aX,e,spB]
 by_cases htl:tlB ops.toList=true
 .simp only[htl,aA]
  rfl
 simp only[htl,aW,aQ]
 cases htn:abQ pr.obj ops.toList with
 | succ n =>
  simp only[tlQ,show (n+1 == 0)=false from rfl,eh,aA,aP,bf]
  constructor
  .rintro⟨m,e,s',⟨t,ht,rfl,rfl⟩,hq⟩
   exact⟨m,t,ht,hq⟩
  .rintro⟨m,t,ht,hq⟩
   exact⟨m,none,t,⟨t,ht,rfl,rfl⟩,hq⟩
 | zero =>
 simp only[tlQ,show (0 == 0)=true from rfl,fx,aW,aQ]
 cases h1:jr ops.toList with
 | true =>
  simp only[fg,aA]
  unfold WOB
  simp only[alb,h1,aA]
 | false =>
  cases h2:agZ pr.obj ops.toList with
  | true=>simp only[dw,aA,aW,aQ];rfl
  | false=>simp only[adU,aW,aQ];rfl
theorem aZ8 (ops:Array Oper) (n k:Nat) (b:Bool) (s:S) (Q:Option X→S→Prop):WD P pr ops n k b [] s Q↔Q none s :=
 ⟨fun⟨m,s',h,hq⟩=>by simp only[evD,ae] at h;subst h;exact hq,fun h=>⟨0,s,rfl,h⟩⟩
def ahd:Bool→Prop→Prop→Prop
 | true,a,_=>a
 | false,_,b=>b
def mkK (K:List (Value×C)→Prop):An→Prop
 | ⟨false,[.mp 0],[.map es]⟩=>K es
 | _=>False
def mkQ (P:Program) (pr:Pr) (K:List (Value×C)→Prop):Op→Prop
 | .call {callee:=.value (.func g),..}=>ak P g=true∧bp P pr g [] [] (mkK K)
 | _=>False
theorem aRm {o:Oper} (hk:ik pr.obj o.op=true) (s:S) (K:S→Prop):(∃ n s',mkS P (enN P pr n) s o=some s'∧K s')↔mkQ P pr (fun es=>K ({s with objs:=s.objs++[Ob.map es]}.put o.dst (.mp s.objs.length))) o.op:=by
 unfold ik at hk
 split at hk
 rotate_left
 .cases hk
 rename_i g args tys hop
 unfold mkS
 simp only[mkQ,hop,mkA]
 by_cases hc:ak P g=true
 rotate_left
 .simp[hc]
 simp only[hc,aA,cX,aP]
 constructor
 .rintro⟨n,s',⟨es,h,rfl⟩,hq⟩
  split at h
  .rename_i es' h2
   simp only[ae] at h
   subst h
   exact⟨_,⟨n,h2⟩,hq⟩
  .cases h
 .rintro⟨an,⟨n,h⟩,hq⟩
  unfold mkK at hq
  split at hq
  .rename_i es
   exact⟨n,_,⟨es,by rw[h];rfl,rfl⟩,hq⟩
  .exact hq.elim
theorem aTw (ops:Array Oper) (n k:Nat) (b:Bool) (o:Oper) (l:List Oper) (s:S) (Q:Option X→S→Prop) :
  WD P pr ops n k b (o::l) s Q↔ahd (decide (l.length<n)) (acG (fI ops s o) (SO P pr false k o s (ai5 (fun s'=>WD P pr ops n (k+1) b l s' Q) fun _ _=>False)) (WD P pr ops n (k+1) b l (s.put o.dst (.of .undef)) Q))
   (ahd (ik pr.obj o.op&&o.guard.isNone) (b=false∧mkQ P pr (fun es=>WD P pr ops n (k+1) true l ({s with objs:=s.objs++[Ob.map es]}.put o.dst (.mp s.objs.length)) Q) o.op)
    (acG (fI ops s o) (SO P pr true k o s (ai5 (fun s'=>WD P pr ops n (k+1) b l s' Q) fun _ _=>False)) (WD P pr ops n (k+1) b l (s.put o.dst (.of .undef)) Q))):=by
 have key:∀ (dr:Bool) (b':Bool),(∃ m s1,okS (dh P (TT.of P) (enN P pr m) dr ops s k o)=some s1∧WD P pr ops n (k+1) b' l s1 Q)↔acG (fI ops s o) (SO P pr dr k o s (ai5 (fun s'=>WD P pr ops n (k+1) b' l s' Q) fun _ _=>False)) (WD P pr ops n (k+1) b' l (s.put o.dst (.of .undef)) Q):=fun dr b'=>by
  cases hg:fI ops s o with
  | none=>simp[dh,hg,okS,acG]
  | some g =>
   cases g with
   | false =>
    simp only[dh,hg,acG,okS,ae]
    exact⟨fun⟨_,_,e,h⟩=>by subst e;exact h,fun h=>⟨0,_,rfl,h⟩⟩
   | true =>
    simp only[dh,hg,acG]
    constructor
    .rintro⟨m,s1,h1,h2⟩
     exact⟨m,none,s1,aeH h1,h2⟩
    .rintro⟨m,e,s1,h1,h2⟩
     cases e with
     | none=>exact⟨m,s1,by rw[h1];rfl,h2⟩
     | some x=>exact h2.elim
 have both:∀ (b':Bool) (f:En→Option S),(∀ n m s',n≤m→f (enN P pr n)=some s'→f (enN P pr m)=some s')→((∃ m s',(match f (enN P pr m) with
   | some s1=>evD P (TT.of P) (enN P pr m) ops n (k+1) b' l s1
   | none=>none)=some s'∧Q none s')↔∃ m s1,f (enN P pr m)=some s1∧WD P pr ops n (k+1) b' l s1 Q):=fun b' f hf=>by
  constructor
  .rintro⟨m,s',h,hq⟩
   split at h
   .rename_i s1 h1;exact⟨m,s1,h1,m,s',h,hq⟩
   .cases h
  .rintro⟨m,s1,h1,m',s',h2,hq⟩
   refine⟨max m m',s',?_,hq⟩
   rw[hf m _ s1 (jo m m') h1]
   exact aom (acc P pr (iZ m m')) _ _ _ _ h2
 have hobj:∀ m,(enN P pr m).obj=pr.obj:=fun _=>rfl
 unfold WD
 simp only[evD,stX,kM,hobj]
 cases hl:decide (l.length<n) with
 | true =>
  simp only[fx,aZ,cP,aW,aQ,aA,e7,ahd]
  exact (both b (fun E=>okS (dh P (TT.of P) E false ops s k o)) (fun n m s' h hv=>akQ (acc P pr h) hv)).trans (key false b)
 | false =>
  simp only[eh,aX,ahd,aW,aQ]
  cases hk:(ik pr.obj o.op&&o.guard.isNone) with
  | false =>
   simp only[cP,aW,aQ,e7]
   exact (both b (fun E=>okS (dh P (TT.of P) E true ops s k o)) (fun n m s' h hv=>akQ (acc P pr h) hv)).trans (key true b)
  | true =>
   cases b with
   | true=>simp
   | false =>
    simp only[dQ,aW,aQ,aA,fg,cX]
    rw[ab] at hk
    exact (both true (fun E=>mkS P E s o) (fun n m s' h hv=>akY (acc P pr h) hv)).trans (aRm hk.1 s _)
theorem acr {g:Nat} {es:List (Value×C)} (hg:aN P pr g [] [] ⟨false,[.mp 0],[.map es]⟩) (hc:ak P g=true) (ho:pr.obj g=true) (ops:Array Oper) (d:Option Nat) (tys:Array Nat) (ty:Nat) (po:String) (af:Array Edge) (r:List Oper) (s:S) (Q:Option X→S→Prop) :
  jr (⟨d,.call {callee:=.value (.func g),args:=#[],argTypes:=tys},ty,po,af,none⟩::r)=false→(WS P pr ops (⟨d,.call {callee:=.value (.func g),args:=#[],argTypes:=tys},ty,po,af,none⟩::r) s Q↔WO P pr true ops 1 r ({s with objs:=s.objs++[Ob.map es]}.put d (.mp s.objs.length)) Q):=by
 intro hm
 have hS:∀ n s1,mkS P (enN P pr n) s ⟨d,.call {callee:=.value (.func g),args:=#[],argTypes:=tys},ty,po,af,none⟩=some s1→s1={s with objs:=s.objs++[Ob.map es]}.put d (.mp s.objs.length):=fun n s1 h=>by
  unfold mkS at h
  simp only[aP,mkA,hc,aA] at h
  obtain⟨es',h1,rfl⟩:=h
  split at h1
  .rename_i es2 h2
   simp only[ae] at h1
   subst h1
   have:=hg.unique ⟨n,h2⟩
   simp only[An.mk.injEq,abF,Ob.map.injEq,gz,cX] at this
   rw[this]
  .cases h1
 constructor
 .rintro⟨n,e,s',h,hq⟩
  unfold alb at h
  rw[hm,aj (by decide)] at h
  simp only at h
  split at h
  .rename_i s1 h1
   obtain rfl:=hS n s1 h1
   exact⟨n,e,s',h,hq⟩
  .cases h
 .rintro⟨n,e,s',h,hq⟩
  obtain⟨m,hm2⟩:=hg
  refine⟨max n m,e,s',?_,hq⟩
  unfold alb
  rw[hm,aj (by decide)]
  have h1:mkS P (enN P pr (max n m)) s ⟨d,.call {callee:=.value (.func g),args:=#[],argTypes:=tys},ty,po,af,none⟩=some ({s with objs:=s.objs++[Ob.map es]}.put d (.mp s.objs.length)):=by
   refine akY (acc P pr (iZ n m)) ?_
   unfold mkS mkA
   simp only[hc,aA,hm2,bH]
  simp only[h1]
  exact agJ (acc P pr (jo n m)) _ _ _ h
theorem aTx (c:Code) (s:S) (Q:Ex→S→Prop):WC P pr (.loop c) s Q↔WC P pr c s (aoI P pr (.loop c) Q):=by
 constructor
 .rintro⟨n,e,s',h,hq⟩
  cases n with
  | zero=>simp[evC] at h
  | succ n =>
   rw[agc] at h
   split at h
   .rename_i s1 h1;exact⟨n,.normal,s1,h1,n,e,s',h,hq⟩
   .rename_i hne
    refine⟨n,e,s',h,?_⟩
    cases e with
    | normal=>exact (hne s' h).elim
    | exit i=>exact hq
    | ret=>exact hq
    | pan x=>exact hq
 .rintro⟨n,e,s',h,hq⟩
  cases e with
  | normal =>
   obtain⟨m,e2,s2,h2,hq2⟩:=hq
   refine⟨max n m+1,e2,s2,?_,hq2⟩
   rw[agc]
   simp only[aiN (jo n m) h,aiN (iZ n m) h2]
  | exit i=>exact⟨n+1,.exit i,s',by rw[agc];simp only[h],hq⟩
  | ret=>exact⟨n+1,.ret,s',by rw[agc];simp only[h],hq⟩
  | pan x=>exact⟨n+1,.pan x,s',by rw[agc];simp only[h],hq⟩
theorem aZ9 (c:Code) (Q:Ex→S→Prop) (I:Nat→S→Prop) (h:∀ m s,I m s→WC P pr c s (fun e s'=>match e with
  | .normal=>∃ m',m'<m∧I m' s'
  | .exit i=>Q (.exit i) s'
  | .ret=>Q .ret s'
  | .pan x=>Q (.pan x) s')):∀ (m:Nat) (s:S),I m s→WC P pr (.loop c) s Q:=by
 intro m
 induction m using Nat.strongRecOn with
 | _ m ih =>
  intro s hs
  rw[aTx]
  obtain⟨n,e,s',h1,hq⟩:=h m s hs
  refine⟨n,e,s',h1,?_⟩
  cases e with
  | normal=>obtain⟨m',hm,hI⟩:=hq;exact ih m' hm s' hI
  | exit i=>exact hq
  | ret=>exact hq
  | pan x=>exact hq
theorem WC.mono {c:Code} {s:S} {Q Q':Ex→S→Prop} (h:WC P pr c s Q) (hq:∀ e s,Q e s→Q' e s):WC P pr c s Q' :=
 let ⟨n,e,s',h1,h2⟩:=h;⟨n,e,s',h1,hq _ _ h2⟩
theorem Z14 (dr:Bool) (ops:Array Oper) (k:Nat) (s:S) (Q:Option X→S→Prop):WO P pr dr ops k [] s Q↔Q none s :=
 ⟨fun⟨n,e,s',h,hq⟩=>by simp only[abD,dX] at h;obtain⟨rfl,rfl⟩:=h;exact hq,fun h=>⟨0,none,s,rfl,h⟩⟩
theorem Z13 (dr:Bool) (ops:Array Oper) (k:Nat) (o:Oper) (l:List Oper) (s:S) (Q:Option X→S→Prop) :
  WO P pr dr ops k (o::l) s Q↔acG (fI ops s o) (SO P pr dr k o s (ai5 (fun s'=>WO P pr dr ops (k+1) l s' Q) Q)) (WO P pr dr ops (k+1) l (s.put o.dst (.of .undef)) Q):=by
 constructor
 .rintro⟨n,e,s',h,hq⟩
  simp only[abD] at h
  cases hg:fI ops s o with
  | none=>simp[dh,hg] at h
  | some b =>
   cases b with
   | false =>
    simp only[dh,hg] at h
    exact⟨n,e,s',h,hq⟩
   | true =>
    simp only[dh,hg] at h
    split at h
    .rename_i s1 h1;exact⟨n,none,s1,h1,n,e,s',h,hq⟩
    .rename_i x s1 h1
     simp only[dX] at h
     obtain⟨rfl,rfl⟩:=h
     exact⟨n,some x,s1,h1,hq⟩
    .cases h
 .intro h
  cases hg:fI ops s o with
  | none=>rw[hg] at h;exact h.elim
  | some b =>
   rw[hg] at h
   cases b with
   | true =>
    obtain⟨n,e1,s1,h1,h⟩:=h
    cases e1 with
    | none =>
     obtain⟨m,e,s',h2,hq⟩:=h
     refine⟨max n m,e,s',?_,hq⟩
     simp only[abD,dh,hg,ai0 (acc P pr (jo n m)) h1]
     exact agJ (acc P pr (iZ n m)) _ _ _ h2
    | some x=>exact⟨n,some x,s1,by simp only[abD,dh,hg,h1],h⟩
   | false =>
    obtain⟨n,e,s',h2,hq⟩:=h
    exact⟨n,e,s',by simp only[abD,dh,hg];exact h2,hq⟩
def aUR (Q:Option X→S→Prop):Option X→S→Prop
 | none,s=>Q none s
 | some _,_=>False
def aWL:Bool→Prop→Prop
 | true,p=>p
 | false,_=>False
theorem Z12 (ops:Array Oper) (k:Nat) (o:Oper) (s:S) (Q:Option X→S→Prop) :
  WOB P pr ops k [o] s Q↔acG (fI ops s o) (SO P pr false k o s (aUR Q)) (Q none (s.put o.dst (.of .undef))):=by
 constructor
 .rintro⟨n,e,s',h,hq⟩
  simp only[abG] at h
  cases hg:fI ops s o with
  | none=>simp[dh,hg] at h
  | some b =>
   cases b with
   | false =>
    simp only[dh,hg,dX] at h
    obtain⟨rfl,rfl⟩:=h
    exact hq
   | true =>
    simp only[dh,hg] at h
    split at h
    .rename_i s1 h1
     simp only[dX] at h
     obtain⟨rfl,rfl⟩:=h
     exact⟨n,none,s1,h1,hq⟩
    .cases h
 .intro h
  cases hg:fI ops s o with
  | none=>rw[hg] at h;exact h.elim
  | some b =>
   rw[hg] at h
   cases b with
   | true =>
    obtain⟨n,e1,s1,h1,h⟩:=h
    cases e1 with
    | none=>exact⟨n,none,s1,by simp only[abG,dh,hg,h1],h⟩
    | some x=>exact h.elim
   | false=>exact⟨0,none,_,by simp only[abG,dh,hg],h⟩
theorem Z11 (ops:Array Oper) (k:Nat) (o o':Oper) (l:List Oper) (s:S) (Q:Option X→S→Prop) :
  WOB P pr ops k (o::o'::l) s Q↔acG (fI ops s o) (SO P pr true k o s (ai5 (fun s'=>WOB P pr ops (k+1) (o'::l) s' Q) fun _ _=>False)) (WOB P pr ops (k+1) (o'::l) (s.put o.dst (.of .undef)) Q):=by
 constructor
 .rintro⟨n,e,s',h,hq⟩
  simp only[abG] at h
  cases hg:fI ops s o with
  | none=>simp[dh,hg] at h
  | some b =>
   cases b with
   | false =>
    simp only[dh,hg] at h
    exact⟨n,e,s',h,hq⟩
   | true =>
    simp only[dh,hg] at h
    split at h
    .rename_i s1 h1;exact⟨n,none,s1,h1,n,e,s',h,hq⟩
    .cases h
 .intro h
  cases hg:fI ops s o with
  | none=>rw[hg] at h;exact h.elim
  | some b =>
   rw[hg] at h
   cases b with
   | true =>
    obtain⟨n,e1,s1,h1,h⟩:=h
    cases e1 with
    | none =>
     obtain⟨m,e,s',h2,hq⟩:=h
     refine⟨max n m,e,s',?_,hq⟩
     simp only[abG,dh,hg,ai0 (acc P pr (jo n m)) h1]
     exact ajw (acc P pr (iZ n m)) _ _ _ h2
    | some x=>exact h.elim
   | false =>
    obtain⟨n,e,s',h2,hq⟩:=h
    exact⟨n,e,s',by simp only[abG,dh,hg];exact h2,hq⟩
def abX (Q:S→Prop):Option S→Prop
 | some s=>Q s
 | none=>False
def aaQ (s:S) (d:Option Nat) (af:Array Edge) (K:S→Prop):Out→Prop
 | none=>False
 | some (x,none)=>K (s.put d x)
 | some (x,some t)=>abf s.clk af.toList (some t)=true∧K ((s.drop (some t)).put d x)
theorem aae {dr:Bool} {k:Nat} {o:Oper} {s:S} {Q:Option X→S→Prop} (v:Out) (hst:∀ n,abW P (TT.of P) (enN P pr n) dr s k o=hJ P (TT.of P) (enN P pr n) s k o) (h:∀ n,val P (TT.of P) (enN P pr n) s k o=v):SO P pr dr k o s Q↔aaQ s (fE o) o.after (Q none) v:=by
 constructor
 .rintro⟨n,e,s',h1,hq⟩
  rw[hst,hJ,h n] at h1
  split at h1
  .rename_i x t
   split at h1
   .rename_i hok
    simp only[dX] at h1
    obtain⟨rfl,rfl⟩:=h1
    cases t with
    | none=>exact hq
    | some t=>exact⟨hok,hq⟩
   .cases h1
  .cases h1
 .intro hv
  match v,h,hv with
  | some (x,none),h,hv=>exact⟨0,none,_,by rw[hst,hJ,h 0];simp only[abf,aA];rfl,hv⟩
  | some (x,some t),h,hv=>exact⟨0,none,_,by rw[hst,hJ,h 0];simp only[hv.1,aA],hv.2⟩
section
variable (dr:Bool) (k:Nat) (d:Option Nat) (ty:Nat) (po:String) (af:Array Edge) (g:Option (Nat×Bool)) (s:S) (Q:Option X→S→Prop)
theorem Zm (x:Operand):SO P pr dr k ⟨d,.move x,ty,po,af,g⟩ s Q↔Q none (s.put d (s.ev x)):=aae (out (s.ev x)) (fun _=>by cases dr <;> rfl) fun _=>rfl
theorem Z2 (x:Operand):SO P pr dr k ⟨d,.assign x,ty,po,af,g⟩ s Q↔Q none (s.put d (s.ev x)):=aae (out (s.ev x)) (fun _=>by cases dr <;> rfl) fun _=>rfl
def aCK (s:S) (a b:Operand):Option Bool→Out
 | some b'=>out (if b' then s.ev a else s.ev b)
 | none=>none
theorem Zp (c a b:Operand):SO P pr dr k ⟨d,.pick c a b,ty,po,af,g⟩ s Q↔aaQ s d af (Q none) (aCK s a b (acZ (s.ev c))) :=
 aae _ (fun _=>by cases dr <;> rfl) fun _=>by simp only[val,aCK];cases acZ (s.ev c) <;> rfl
theorem Z3 (op:BinOp) (t:Nat) (x y:Operand) (yt:Nat):SO P pr dr k ⟨d,.binOp op t x y yt,ty,po,af,g⟩ s Q↔aaQ s d af (Q none) (gY P (TT.of P) t ((TT.of P t).map (·.und)) op (s.ev x) (s.ev y)) :=
 aae _ (fun _=>by cases dr <;> rfl) fun _=>rfl
def unX (op:UnOp):X→Out
 | .of (.lit a)=>dE ((aoH op a).map fun v=>.of (.lit v))
 | _=>none
theorem Zs (op:UnOp) (t:Nat) (x:Operand):SO P pr dr k ⟨d,.unOp op t x,ty,po,af,g⟩ s Q↔aaQ s d af (Q none) (unX op (s.ev x)):=aae _ (fun _=>by cases dr <;> rfl) fun _=>rfl
theorem Zg (t:Nat) (a:Operand):SO P pr dr k ⟨d,.load t a,ty,po,af,g⟩ s Q↔aaQ s d af (Q none) (acO (TT.of P) s.objs t (s.ev a)):=aae _ (fun _=>by cases dr <;> rfl) fun _=>rfl
theorem Zc (t:Nat) (x:Operand) (f:Nat):SO P pr dr k ⟨d,.fieldAddr t x f,ty,po,af,g⟩ s Q↔aaQ s d af (Q none) (abl (TT.of P) t f (s.ev x)):=aae _ (fun _=>by cases dr <;> rfl) fun _=>rfl
theorem Ze (t:Nat) (x i:Operand):SO P pr dr k ⟨d,.indexAddr t x i,ty,po,af,g⟩ s Q↔aaQ s d af (Q none) (dL (TT.of P) t (s.ev x) (s.ev i)):=aae _ (fun _=>by cases dr <;> rfl) fun _=>rfl
theorem Zd (t:Nat) (x i:Operand):SO P pr dr k ⟨d,.index t x i,ty,po,af,g⟩ s Q↔aaQ s d af (Q none) (ac9 (TT.of P) t (s.ev x) (s.ev i)):=aae _ (fun _=>by cases dr <;> rfl) fun _=>rfl
theorem Zq (t:Nat) (x:Operand) (lo hi:Option Operand):SO P pr dr k ⟨d,.slice t x lo hi none,ty,po,af,g⟩ s Q↔aaQ s d af (Q none) (aao (TT.of P) t (s.ev x) (lo.map s.ev) (hi.map s.ev)):=aae _ (fun _=>by cases dr <;> rfl) fun _=>rfl
theorem Z9 (a b:Nat) (x:Operand):SO P pr dr k ⟨d,.convert a b x,ty,po,af,g⟩ s Q↔aaQ s d af (Q none) (afL (TT.of P) a b (s.ev x)):=aae _ (fun _=>by cases dr <;> rfl) fun _=>rfl
def avB (i:Nat):X→Out
 | .tup xs=>dE (xs[i]?)
 | .of (.tup cs)=>dE ((cs[i]?).map .of)
 | _=>none
theorem Za (x:Operand) (i:Nat):SO P pr dr k ⟨d,.extract x i,ty,po,af,g⟩ s Q↔aaQ s d af (Q none) (avB i (s.ev x)):=aae _ (fun _=>by cases dr <;> rfl) fun _=>rfl
def aWo:X→Out
 | .ptr r off=>out (.ptr r off)
 | .of (.ref cs)=>out (.of (.ref cs))
 | _=>none
theorem Zn (x:Operand):SO P pr dr k ⟨d,.nilCheck x,ty,po,af,g⟩ s Q↔aaQ s d af (Q none) (aWo (s.ev x)):=aae _ (fun _=>by cases dr <;> rfl) fun _=>rfl
def fnX (f:Nat) (xs:List X):Option (List C)→Out
 | some cs=>out (.of (.fn f cs))
 | none=>ajB (2*f) (abE xs)
theorem aJy (f:Nat) (x:Operand) (l:List Operand):SO P pr dr k ⟨d,.makeFunc (.func f) (x::l).toArray #[],ty,po,af,g⟩ s Q↔aaQ s d af (Q none) (ajB (2*f+1) (abE ((x::l).map s.ev))):=aae _ (fun _=>by cases dr <;> rfl) fun _=>by simp[val]
theorem Zi (f:Nat) (caps:Array Operand):SO P pr dr k ⟨d,.makeFunc (.func f) #[] caps,ty,po,af,g⟩ s Q↔aaQ s d af (Q none) (fnX f (caps.toList.map s.ev) (aay s.ev caps.toList)):=aae _ (fun _=>by cases dr <;> rfl) fun _=>rfl
def amt (P:Program) (t:Nat):Option TD→Option (List (Nat×List X))→Out
 | some d,some qs=>match d.und with
  | .struct _=>dE ((jb (fun i=>d.fields[i]?) (iq d) qs).map .agg)
  | .array _ e=>match TT.of P e with
   | some de=>dE ((jb (fun i=>some (i*de.size,de.size)) (iq d) qs).map .agg)
   | none=>none
  | _=>none
 | _,_=>none
theorem Z5 (t:Nat) (ps:Array (Nat×Operand)):SO P pr dr k ⟨d,.build t ps,ty,po,af,g⟩ s Q↔aaQ s d af (Q none) (amt P t (TT.of P t) (js s.ev ps.toList)) :=
 aae _ (fun _=>by cases dr <;> rfl) fun _=>by simp only[val,amt];cases TT.of P t <;> cases js s.ev ps.toList <;> rfl
def ef (t:Tk) (n:Nat):Option (Nat×TD)→Option (List (Nat×List X))→Out
 | some (e,d),some qs =>
  if n*d.size≤16777216∧0<d.size∧d.zero.length=d.size then match jb (fun i=>some (i*d.size,d.size)) ((List.replicate n (iq d)).flatten) qs with
   | some xs=>match X.rds xs with
    | some cs=>out (.own t e d.size cs n)
    | none=>none
   | none=>none
  else none
 | _,_=>none
theorem Z6 (t n:Nat) (ps:Array (Nat×Operand)):SO P pr dr k ⟨d,.buildSlice t n ps,ty,po,af,g⟩ s Q↔aaQ s d af (Q none) (ef (.nm s.clk k 0) n (elemOf (TT.of P) t) (js s.ev ps.toList)) :=
 aae _ (fun _=>by cases dr <;> rfl) fun _=>by simp only[val,ef];cases elemOf (TT.of P) t <;> cases js s.ev ps.toList <;> rfl
theorem Zf (x:Operand) (t:Nat):SO P pr dr k ⟨d,.call {callee:=.builtin .len,args:=#[x],argTypes:=#[t]},ty,po,af,g⟩ s Q↔aaQ s d af (Q none) (abw ((TT.of P t).map (·.und)) (s.ev x)):=aae _ (fun _=>by cases dr <;> rfl) fun _=>rfl
theorem a0n (a b:Operand) (ts:Array Nat):SO P pr dr k ⟨d,.call {callee:=.builtin .max,args:=#[a,b],argTypes:=ts},ty,po,af,g⟩ s Q↔aaQ s d af (Q none) (an9 (s.ev a) (s.ev b)):=aae _ (fun _=>by cases dr <;> rfl) fun _=>rfl
theorem Z1 (a b:Operand) (st xt:Nat):SO P pr dr k ⟨d,.call {callee:=.builtin .append,args:=#[a,b],argTypes:=#[st,xt]},ty,po,af,g⟩ s Q↔aaQ s d af (Q none) (jy (TT.of P) (.nm s.clk k 0) st xt (s.ev a) (s.ev b)):=aae _ (fun _=>by cases dr <;> rfl) fun _=>rfl
def auy (s:S) (k:Nat) (d:Option Nat) (Q:Option X→S→Prop):An→Prop
 | ⟨false,rs,[]⟩=>Q none (s.put d (aek (agB s.clk k rs)))
 | _=>False
def ajN (P:Program) (pr:Pr) (s:S) (k:Nat) (d:Option Nat) (Q:Option X→S→Prop) (f:Nat) (caps:List C):Option (List C)→Prop
 | some cs=>ak P f=true∧bp P pr f ((cs++caps).map .of) [] (auy s k d Q)
 | none=>False
def a4J (Q:Option X→S→Prop):Option (Option X×S)→Prop
 | some (e,s)=>Q e s
 | none=>False
def anu (s:S) (k:Nat) (d:Option Nat) (refs:List Nat) (ts:List Tk) (Q:Option X→S→Prop) (an:An):Prop:=a4J Q (ant s k d refs ts an)
def apc (P:Program) (pr:Pr) (s:S) (k:Nat) (d:Option Nat) (refs:List Nat) (ts:List Tk) (Q:Option X→S→Prop) (f:Nat) (us:List X):Option (List Ob)→Prop
 | some obs=>ak P f=true∧bp P pr f (X.trs (pos refs) (aa5 refs ts) us) obs (anu s k d refs ts Q)
 | none=>False
def agu (P:Program) (pr:Pr) (s:S) (k:Nat) (d:Option Nat) (Q:Option X→S→Prop) (f:Nat) (us:List X) (refs:List Nat) (ts:List Tk):Prop :=
 apc P pr s k d refs ts Q f us (jj (pos refs) (aa5 refs ts) (aeM ts s.objs) refs)
def aeW (b:Bool) (us:List X):List Tk:=match b with
 | true=>nub (X.toksL us) []
 | false=>[]
def aib (P:Program) (pr:Pr) (dr:Bool) (s:S) (k:Nat) (d:Option Nat) (Q:Option X→S→Prop) (f:Nat) (us:List X) (caps:List C) (cs:Option (List C)):Bool→Prop
 | true=>dr=false∧agu P pr s k d Q f us (aah s.objs 999 (X.refsL us) []) (aeW (pr.tk f) us)
 | false=>ajN P pr s k d Q f caps cs
def agL (P:Program) (pr:Pr) (dr:Bool) (s:S) (k:Nat) (d:Option Nat) (Q:Option X→S→Prop) (args:List X) (cs:Option (List C)):X→Prop
 | .of (.fn f caps)=>aib P pr dr s k d Q f (args++caps.map .of) caps cs (pr.obj f)
 | .clo f caps=>pr.obj (ahV f)=true∧dr=false∧agu P pr s k d Q (ahV f) (alj f caps args) (aah s.objs 999 (X.refsL (alj f caps args)) []) (aeW (pr.tk (ahV f)) (alj f caps args))
 | _=>False
theorem avT (n:Nat) (f:Nat) (us:List X):(∃ e s',ahm P (enN P pr n) s k d f us=some (e,s')∧Q e s')→agu P pr s k d Q f us (aah s.objs 999 (X.refsL us) []) (aeW (pr.tk f) us):=by
 rintro⟨e,s',h,hq⟩
 unfold ahm at h
 split at h
 rotate_left
 .cases h
 rename_i hc
 simp only at h
 have ht:(if (enN P pr n).tk f=true then nub (X.toksL us) [] else [])=aeW (pr.tk f) us:=by
  show (if pr.tk f=true then _ else _)=_
  cases pr.tk f <;> rfl
 rw[ht] at h
 unfold agu
 split at h
 .rename_i obs hobs
  rw[hobs]
  split at h
  .rename_i an han
   refine⟨hc,an,⟨n,han⟩,?_⟩
   unfold anu
   rw[h]
   exact hq
  .cases h
 .cases h
theorem avS (f:Nat) (us:List X) (h:agu P pr s k d Q f us (aah s.objs 999 (X.refsL us) []) (aeW (pr.tk f) us)):∃ n e s',ahm P (enN P pr n) s k d f us=some (e,s')∧Q e s':=by
 unfold agu at h
 cases hobs:jj (pos (aah s.objs 999 (X.refsL us) [])) (aa5 (aah s.objs 999 (X.refsL us) []) (aeW (pr.tk f) us)) (aeM (aeW (pr.tk f) us) s.objs) (aah s.objs 999 (X.refsL us) []) with
 | none=>rw[hobs] at h;exact h.elim
 | some obs =>
  rw[hobs] at h
  obtain⟨hc,an,⟨n,han⟩,hb⟩:=h
  unfold anu at hb
  cases hbs:ant s k d (aah s.objs 999 (X.refsL us) []) (aeW (pr.tk f) us) an with
  | none=>rw[hbs] at hb;exact hb.elim
  | some p =>
   obtain⟨e,s'⟩:=p
   rw[hbs] at hb
   refine⟨n,e,s',?_,hb⟩
   unfold ahm
   rw[aE hc]
   have ht:(if (enN P pr n).tk f=true then nub (X.toksL us) [] else [])=aeW (pr.tk f) us:=by
    show (if pr.tk f=true then _ else _)=_
    cases pr.tk f <;> rfl
   simp only[ht,hobs,han,hbs]
theorem ah2 (n:Nat) (f:Operand) (args:Array Operand) (tys:Array Nat):hJ P (TT.of P) (enN P pr n) s k ⟨d,.call {callee:=.value f,args:=args,argTypes:=tys},ty,po,af,g⟩=match s.ev f,aay s.ev args.toList with
  | .of (.fn f caps),some cs=>(match aew P (enN P pr n) s.clk k f (cs++caps) with
   | some (x,t)=>if abf s.clk af.toList t=true then some (none,(s.drop t).put d x) else none
   | none=>none)
  | _,_=>none:=by
 have e:fE ⟨d,.call {callee:=.value f,args:=args,argTypes:=tys},ty,po,af,g⟩=d:=rfl
 simp only[hJ,val,af3,e]
 split <;> rename_i h <;> split at h <;> simp_all
theorem aF0 (f:Operand) (fn:Nat) (caps:List C) (args:Array Operand) (tys:Array Nat) (hf:s.ev f=.of (.fn fn caps)) (ho:pr.obj fn=false) :
  (∃ n e s',hJ P (TT.of P) (enN P pr n) s k ⟨d,.call {callee:=.value f,args:=args,argTypes:=tys},ty,po,af,g⟩=some (e,s')∧Q e s')↔ajN P pr s k d Q fn caps (aay s.ev args.toList):=by
 constructor
 .rintro⟨n,e,s',h,hq⟩
  rw[ah2,hf] at h
  cases hr:aay s.ev args.toList with
  | none=>rw[hr] at h;cases h
  | some cs =>
   rw[hr] at h
   simp only at h
   split at h
   .rename_i x t hx
    unfold aew at hx
    split at hx
    .rename_i hc
     simp only[ab] at hc
     split at hx
     .rename_i rs hor
      obtain⟨rfl,rfl⟩:=abs hx
      simp only[abf,aA,dX] at h
      obtain⟨rfl,rfl⟩:=h
      exact⟨hc.1,_,⟨n,hor⟩,hq⟩
     .cases hx
    .cases hx
   .cases h
 .intro h
  cases hr:aay s.ev args.toList with
  | none=>rw[hr] at h;exact h.elim
  | some cs =>
   rw[hr] at h
   obtain⟨hc,an,⟨n,hor⟩,hk⟩:=h
   match an,hor,hk with
   | ⟨false,rs,[]⟩,hor,hk =>
    refine⟨n,none,_,?_,hk⟩
    rw[ah2,hf,hr]
    have:aew P (enN P pr n) s.clk k fn (cs++caps)=out (aek (agB s.clk k rs)):=by
     unfold aew
     have ho':(enN P pr n).obj fn=false:=ho
     rw[aE (by simp[hc,ho']),hor]
    simp only[this,out,abf,aA]
    rfl
theorem awn (f:Operand) (args:Array Operand) (tys:Array Nat):SO P pr dr k ⟨d,.call {callee:=.value f,args:=args,argTypes:=tys},ty,po,af,g⟩ s Q ↔
  agL P pr dr s k d Q (args.toList.map s.ev) (aay s.ev args.toList) (s.ev f):=by
 have hst:∀ n,abW P (TT.of P) (enN P pr n) dr s k ⟨d,.call {callee:=.value f,args:=args,argTypes:=tys},ty,po,af,g⟩=if dr=true then hJ P (TT.of P) (enN P pr n) s k ⟨d,.call {callee:=.value f,args:=args,argTypes:=tys},ty,po,af,g⟩ else
   match ahr s (.value f) args.toList with
   | some (g',us)=>if pr.obj g'=true then ahm P (enN P pr n) s k d g' us else hJ P (TT.of P) (enN P pr n) s k ⟨d,.call {callee:=.value f,args:=args,argTypes:=tys},ty,po,af,g⟩
   | none=>none:=fun n=>by
  unfold abW
  rfl
 have hV:∀ (x:X),s.ev f=x→(∀ fn caps,x≠.of (.fn fn caps))→∀ n,hJ P (TT.of P) (enN P pr n) s k ⟨d,.call {callee:=.value f,args:=args,argTypes:=tys},ty,po,af,g⟩=none:=fun x hx hne n=>by
  rw[ah2,hx]
  split
  .rename_i h;exact (hne _ _ rfl).elim
  .rfl
 unfold SO
 simp only[hst]
 cases hf:s.ev f with
 | of c =>
  cases c with
  | fn fn caps =>
   simp only[agL,ahr,hf]
   cases ho:pr.obj fn with
   | true =>
    simp only[aib]
    cases dr with
    | true =>
     simp only[aA,abT,bD,abt]
     rintro⟨n,e,s',h,_⟩
     rw[ah2,hf] at h
     cases hr:aay s.ev args.toList with
     | none=>rw[hr] at h;cases h
     | some cs =>
      rw[hr] at h
      have:aew P (enN P pr n) s.clk k fn (cs++caps)=none:=by
       unfold aew
       have ho':(enN P pr n).obj fn=true:=ho
       rw[aj (by simp[ho'])]
      simp[this] at h
    | false =>
     simp only[aW,aQ,aA,cX]
     constructor
     .rintro⟨n,e,s',h,hq⟩;exact avT k d s Q n fn _ ⟨e,s',h,hq⟩
     .intro h;exact avS k d s Q fn _ h
   | false =>
    simp only[aib]
    rw[← aF0 k d ty po af g s Q f fn caps args tys hf ho]
    cases dr with
    | true=>simp only[aA]
    | false=>simp only[aW,aQ]
  | _ =>
   simp only[agL,abt]
   rintro⟨n,e,s',h,_⟩
   rw[hV _ hf (fun _ _ e=>by cases e) n] at h
   simp[ahr,hf] at h
 | clo fn caps =>
  simp only[agL,ahr,hf]
  have hn:=hV _ hf (fun _ _ e=>by cases e)
  cases dr with
  | true =>
   simp only[aA,abT,bD,bJ,abt]
   rintro⟨n,e,s',h,_⟩
   rw[hn] at h
   cases h
  | false =>
   simp only[aW,aQ,cX]
   cases ho:pr.obj (ahV fn) with
   | true =>
    simp only[aA,cX]
    constructor
    .rintro⟨n,e,s',h,hq⟩;exact avT k d s Q n (ahV fn) _ ⟨e,s',h,hq⟩
    .intro h;exact avS k d s Q (ahV fn) _ h
   | false =>
    simp only[aW,aQ,bD,abt]
    rintro⟨n,e,s',h,_⟩
    rw[hn] at h
    cases h
 | _ =>
  simp only[agL,abt]
  rintro⟨n,e,s',h,_⟩
  rw[hV _ hf (fun _ _ e=>by cases e) n] at h
  simp[ahr,hf] at h
theorem Z7 (f:Nat) (args:Array Operand) (tys:Array Nat):SO P pr dr k ⟨d,.call {callee:=.value (.func f),args:=args,argTypes:=tys},ty,po,af,g⟩ s Q ↔
  aib P pr dr s k d Q f (args.toList.map s.ev) [] (aay s.ev args.toList) (pr.obj f):=by
 rw[awn]
 simp only[S.ev,agL,bC,cE]
theorem Z8 (t:Nat) (args:Array Operand) (tys:Array Nat):SO P pr dr k ⟨d,.call {callee:=.value (.tmp t),args:=args,argTypes:=tys},ty,po,af,g⟩ s Q ↔
  agL P pr dr s k d Q (args.toList.map s.ev) (aay s.ev args.toList) (s.fr t):=awn dr k d ty po af g s Q (.tmp t) args tys
theorem Zh (t:Nat) (x i:Operand) (ok:Bool):SO P pr dr k ⟨d,.lookup t x i ok,ty,po,af,g⟩ s Q↔aaQ s d af (Q none) (jk (TT.of P) s.objs t (s.ev x) (s.ev i) ok):=aae _ (fun _=>by cases dr <;> rfl) fun _=>rfl
theorem aim {o:Oper} (v:Option S) (h:∀ n,abW P (TT.of P) (enN P pr n) false s k o=v.map fun s=>(none,s)):SO P pr false k o s Q↔abX (Q none) v:=by
 unfold SO
 simp only[h]
 cases v with
 | none=>simp[abX]
 | some s' =>
  constructor
  .rintro⟨n,e,s1,h1,h2⟩
   simp only[bH,dX] at h1
   obtain⟨rfl,rfl⟩:=h1
   exact h2
  .intro h1
   exact⟨0,none,s',rfl,h1⟩
def ap7 (s:S) (d:Option Nat) (ty:Nat):Option (List X)→Option S
 | some xs=>some (akf s d ty xs)
 | none=>none
def mtQ (b:Bool) (p q:Prop):Prop:=match b with
 | true=>p
 | false=>q
def nwX (tk:Tk) (t:Nat):Option TD→Out
 | some d=>if 0<d.size then out (.nw (some tk) t d.size) else none
 | none=>none
theorem aJz (t:Nat):SO P pr true k ⟨d,.alloc t,ty,po,af,g⟩ s Q↔aaQ s d af (Q none) (nwX (.nm s.clk k 0) t (TT.of P t)):=aae _ (fun _=>rfl) fun _=>by
 simp only[val]
 cases TT.of P t <;> rfl
theorem Z0 (t:Nat):SO P pr false k ⟨d,.alloc t,ty,po,af,g⟩ s Q↔mtQ (pr.mt po d) (abX (Q none) (ap7 s d t ((TT.of P t).map iq))) (aaQ s d af (Q none) (nwX (.nm s.clk k 0) t (TT.of P t))):=by
 have e:∀ n,(enN P pr n).mt=pr.mt:=fun _=>rfl
 cases hm:pr.mt po d with
 | true =>
  refine aim k s Q _ fun n=>?_
  simp only[abW,aW,aQ,e,hm,aA]
  cases TT.of P t <;> rfl
 | false =>
  refine aae _ (fun n=>?_) fun _=>?_
  .simp only[abW,aW,aQ,e,hm]
  .simp only[val]
   cases TT.of P t <;> rfl
def aEs:Option TD→Option (List X)→Option (List X)
 | some d,some xs=>if xs.length=d.size then some xs else none
 | _,_=>none
def aEr (s:S) (d:Option Nat):Option TD→Option (List C)→Option S
 | some td,some cs=>if cs.length=td.size∧0<td.size then some (s.put d (.of (.ref cs))) else none
 | _,_=>none
theorem Z4 (t:Nat) (x:Operand):SO P pr false k ⟨d,.box t x,ty,po,af,g⟩ s Q↔mtQ (pr.mt po d) (abX (Q none) (ap7 s d t (aEs (TT.of P t) (eu (s.ev x))))) (abX (Q none) (aEr s d (TT.of P t) (gH (s.ev x)))):=by
 have e:∀ n,(enN P pr n).mt=pr.mt:=fun _=>rfl
 cases hm:pr.mt po d with
 | true =>
  refine aim k s Q _ fun n=>?_
  simp only[abW,aW,aQ,e,hm,aA]
  cases TT.of P t with
  | none=>rfl
  | some td =>
   cases eu (s.ev x) with
   | none=>rfl
   | some xs=>simp only[aEs];split <;> rfl
 | false =>
  refine aim k s Q _ fun n=>?_
  simp only[abW,aW,aQ,e,hm]
  cases TT.of P t with
  | none=>rfl
  | some td =>
   cases gH (s.ev x) with
   | none=>rfl
   | some xs=>simp only[aEr];split <;> rfl
def alP (s:S) (d:Option Nat):Option TD→X→Option (List X)→Option S
 | some td,.ptr r off,some xs=>agm s d td.size r off xs
 | _,_,_=>none
def atm (s:S) (j t:Nat) (tk:Tk) (ty z:Nat) (af:Array Edge):Option TD→Option (List X)→Option S
 | some d,some xs=>if ty=t∧z=d.size∧xs.length=z∧abf s.clk af.toList (some tk)=true then some (am8 (s.drop (some tk)) j t (X.drops tk xs)) else none
 | _,_=>none
def aug (s:S) (j t:Nat) (tk:Tk) (ty z:Nat) (af:Array Edge):Option TD→Option (List C)→Option S
 | some d,some cs=>if ty=t∧z=d.size∧cs.length=z∧abf s.clk af.toList (some tk)=true then some ((s.drop (some tk)).put (some j) (.of (.ref cs))) else none
 | _,_=>none
def stO (dr mt:Bool) (s:S) (j t:Nat) (af:Array Edge) (td:Option TD) (xs:Option (List X)) (cs:Option (List C)):X→Option S
 | .nw (some tk) ty z=>match dr,mt with
  | false,true=>atm s j t tk ty z af td xs
  | _,_=>aug s j t tk ty z af td cs
 | ax=>match dr with
  | false=>alP s none td ax xs
  | true=>none
theorem anG (E:En) (t j:Nat) (x:Operand):hJ P (TT.of P) E s k ⟨none,.store t (.tmp j) x,ty,po,af,none⟩=(match s.fr j with
  | .nw (some tk) ty z=>aug s j t tk ty z af (TT.of P t) (gH (s.ev x))
  | _=>none).map fun s=>(none,s):=by
 unfold hJ val
 simp only
 cases hf:s.fr j with
 | nw o ty' z =>
  cases o with
  | none =>
   simp only
   cases TT.of P t <;> cases gH (s.ev x) <;> rfl
  | some tk =>
   cases TT.of P t with
   | none=>rfl
   | some td =>
    cases gH (s.ev x) with
    | none=>rfl
    | some cs =>
     simp only[aug]
     by_cases h1:ty'=t∧z=td.size∧cs.length=z
     .rw[aE h1]
      by_cases h2:abf s.clk af.toList (some tk)=true
      .simp only[h2,aA]
       rw[aE ⟨h1.1,h1.2.1,h1.2.2,trivial⟩]
       rfl
      .have h3:abf s.clk af.toList (some tk)=false:=by simpa using h2
       simp only[h3]
       rw[aj (fun h=>by cases h),aj (fun h=>by cases h.2.2.2)]
       rfl
     .rw[aj h1,aj (fun h=>h1 ⟨h.1,h.2.1,h.2.2.1⟩)]
      rfl
 | _ =>
  simp only
  cases TT.of P t <;> cases gH (s.ev x) <;> rfl
theorem Zr (t j:Nat) (x:Operand):SO P pr dr k ⟨none,.store t (.tmp j) x,ty,po,af,none⟩ s Q↔abX (Q none) (stO dr (pr.mt po (some j)) s j t af (TT.of P t) (eu (s.ev x)) (gH (s.ev x)) (s.fr j)):=by
 have e:∀ n,(enN P pr n).mt=pr.mt:=fun _=>rfl
 have key:∀ n,abW P (TT.of P) (enN P pr n) dr s k ⟨none,.store t (.tmp j) x,ty,po,af,none⟩=(stO dr (pr.mt po (some j)) s j t af (TT.of P t) (eu (s.ev x)) (gH (s.ev x)) (s.fr j)).map fun s=>(none,s):=fun n=>by
  cases dr with
  | true =>
   show hJ _ _ _ _ _ _=_
   rw[anG]
   cases s.fr j with
   | nw o ty' z=>cases o <;> rfl
   | _=>rfl
  | false =>
   unfold abW
   have ej:s.ev (.tmp j)=s.fr j:=rfl
   simp only[aW,aQ,e,fE,ej]
   cases hf:s.fr j with
   | nw o ty' z =>
    cases o with
    | none =>
     simp only[stO,alP]
     cases TT.of P t <;> (try rfl)
    | some tk =>
     simp only[stO]
     cases hm:pr.mt po (some j) with
     | true =>
      simp only[aA,atm]
      cases TT.of P t with
      | none=>rfl
      | some td =>
       cases eu (s.ev x) with
       | none=>rfl
       | some xs =>
        simp only[gz]
        split <;> rfl
     | false =>
      simp only[aW,aQ]
      rw[anG,hf]
   | _ =>
    simp only[stO,alP]
    cases TT.of P t with
    | none=>rfl
    | some td=>cases eu (s.ev x) <;> rfl
 unfold SO
 simp only[key]
 generalize stO dr (pr.mt po (some j)) s j t af (TT.of P t) (eu (s.ev x)) (gH (s.ev x)) (s.fr j)=v
 cases v with
 | none=>simp[abX]
 | some s' =>
  constructor
  .rintro⟨n,e,s1,h1,h2⟩
   simp only[bH,dX] at h1
   obtain⟨rfl,rfl⟩:=h1
   exact h2
  .intro h1
   exact⟨0,none,s',rfl,h1⟩
theorem Zk (t:Nat):SO P pr false k ⟨d,.makeMap t none,ty,po,af,g⟩ s Q↔Q none ({s with objs:=s.objs++[Ob.map []]}.put d (.mp s.objs.length)) :=
 aim k s Q (some _) fun n=>rfl
def aer:Option Ob→Option (List (Value×C))
 | some (.map es)=>some es
 | _=>none
def agt (kind:TypeDesc) (kv:Option Value) (c:Option C) (es:Option (List (Value×C))):Option (List (Value×C)):=match kv,c,es with
 | some kv,some c,some es=>aeE kind kv c es
 | _,_,_=>none
def aCg (s:S) (d:Option Nat) (x:X) (r:Nat):Option (List (Value×C))→Option S
 | some es=>some ({s with objs:=s.objs.set r (Ob.map es)}.put d x)
 | none=>none
def ab5 (s:S) (d:Option Nat) (x:X):X→(Nat→Option (List (Value×C)))→Option S
 | .mp r,F=>aCg s d x r (F r)
 | _,_=>none
theorem aaL {kind:TypeDesc} {et:Nat} (t:Nat) (m kx x:Operand) (ht:acM (TT.of P) t=some (kind,et)):SO P pr false k ⟨d,.mapUpdate t m kx x,ty,po,af,g⟩ s Q ↔
  abX (Q none) (ab5 s d (.of .undef) (s.ev m) fun r=>agt kind (gk (s.ev kx)) (s.ev x).rd (aer (s.objs[r]?))) :=
 aim k s Q _ fun n=>by
  simp only[abW,aW,aQ,ht]
  cases s.ev m with
  | mp r =>
   simp only[ab5]
   cases gk (s.ev kx) with
   | none=>rfl
   | some kv =>
    cases (s.ev x).rd with
    | none=>rfl
    | some c =>
     cases hr:s.objs[r]? with
     | none=>simp only[hr];rfl
     | some ob =>
      cases ob with
      | var _ _=>simp only[hr];rfl
      | map es=>simp only[hr,aer,agt,aCg];cases aeE kind kv c es <;> rfl
  | _=>rfl
theorem acx {kind:TypeDesc} {et:Nat} (t:Nat) (m kx x:Operand) (ht:acM (TT.of P) t=some (kind,et)):SO P pr false k ⟨d,.insert t m kx x,ty,po,af,g⟩ s Q ↔
  abX (Q none) (ab5 s d (.of .undef) (s.ev m) fun r=>agt kind (gk (s.ev kx)) (s.ev x).rd (aer (s.objs[r]?))) :=
 aim k s Q _ fun n=>by
  simp only[abW,aW,aQ,ht]
  cases s.ev m with
  | mp r =>
   simp only[ab5]
   cases gk (s.ev kx) with
   | none=>rfl
   | some kv =>
    cases (s.ev x).rd with
    | none=>rfl
    | some c =>
     cases hr:s.objs[r]? with
     | none=>simp only[hr];rfl
     | some ob =>
      cases ob with
      | var _ _=>simp only[hr];rfl
      | map es=>simp only[hr,aer,agt,aCg];cases aeE kind kv c es <;> rfl
  | _=>rfl
def aUQ (Q:Option X→S→Prop) (s:S):Option C→Prop
 | some (.ifc t c)=>Q (some (.of (.ifc t c))) s
 | _=>False
end
def aDY (P:Program) (b:Bool) (f m:Nat) (an:An):Ex→S→Prop
 | .normal,s=>((ab4 (TT.of P) s (aed P f)).bind fun rs=>aev m false (afN b rs) s.objs)=some an
 | .ret,s=>((ab4 (TT.of P) s (aed P f)).bind fun rs=>aev m false (afN b rs) s.objs)=some an
 | .pan x,s=>aev m true [x] s.objs=some an
 | .exit _,_=>False
theorem aN.of_body {f:Nat} {xs:List X} {obs:List Ob} {an:An} (hp:pr.prim f xs obs=none) (hok:aDL P f=true) (har:xs.length≤ap4 P f) (h:WC P pr (amu P f) (agF xs obs) (aDY P (pr.keep f) f obs.length an)):aN P pr f xs obs an:=by
 obtain⟨n,e,s',h1,hq⟩:=h
 refine⟨n,?_⟩
 unfold enN ajy ao9 amp
 simp only
 rw[hp]
 simp only[hok,har,db,aA,h1]
 cases e with
 | normal=>exact hq
 | ret=>exact hq
 | pan x=>exact hq
 | exit i=>exact hq.elim
theorem aN.of_prim {f:Nat} {xs:List X} {obs:List Ob} {an:An} (hp:pr.prim f xs obs=some an):aN P pr f xs obs an:=⟨0,by unfold enN ajy ao9;simp only;rw[hp]⟩
theorem aN.sound (hm:P.follows .mixedOrders=true) {G:GP} (hpr:PrSound P G pr) {f:Nat} {xs:List X} {obs:List Ob} {an:An} (h:aN P pr f xs obs an):ad2 P G f xs obs an:=by
 obtain⟨n,hn⟩:=h
 exact (apO hpr (apV hm hpr n)).orc f xs obs an hn
end
end Go.Pe

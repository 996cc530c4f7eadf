/-
  An abstract machine for Go code over plain data: rules by which the evaluator is run on symbols. Conditions: none.
-/
import Derived.Test.YtjajlmjfddohfaaGreatDoorPa4
set_option linter.defProp false
set_option linter.unusedSectionVars false
set_option maxRecDepth 100000
set_option maxHeartbeats 32000000
namespace Go.Pe
open Go.RowKit
def Ex.is (k:Know) (ow:Own):Ex→Exit→Prop
 | .normal,e=>e=.normal
 | .exit i,e=>e=.exit i
 | .ret,e=>e=.ret
 | .pan x,e=>∃ v,e=.panic [{v:=v,recovered:=false}]∧aF k ow x v
section
variable {P:Program} {M0:Base} {k:Know} {ow:Own} {w0 w:World} {N:Nat} {s:S} {tmps:Array Value}
def aqy (tmps:Array Value):ResultVar→Sem Value
 | .tmp t=>pure (tmps.getD t undef)
 | .cell a t=>do loadVar t (← asAddr (tmps.getD a undef))
def WP (P:Program) (n:Nat) (Q:Exit→Act→World→Prop) (a:Act) (w:World):Code→Prop
 | .loop b=>Code.rounds P b Q n a w
 | c=>c.wp P Q a w
theorem WP.wp {P:Program} {n:Nat} {Q:Exit→Act→World→Prop} {a:Act} {w:World} {c:Code} (h:WP P n Q a w c):c.wp P Q a w:=by
 cases c with
 | loop b=>exact wp_loop_rounds n h
 | _=>exact h
def aip (P:Program) (G:GP) (pr:Pr) (n:Nat):Prop :=
 ∀ (M0:Base) (w0:World) (N:Nat) (c:Code) (s:S) (e:Ex) (s':S),M0.G=G→evC P (TT.of P) pr n c s=some (e,s')→aao N c=true →
  ∀ (k:Know) (ow:Own) (w:World) (tmps:Array Value) (Q:Exit→Act→World→Prop),Sim M0 k ow (fun _=>False) w0 w N s tmps →
   (∀ x tmps' w' k' ow',k.le k'→Sim M0 k' ow' (fun _=>False) w0 w' N s' tmps'→e.is k' ow' x→Q x ⟨tmps',[]⟩ w')→WP P n Q ⟨tmps,[]⟩ w c
theorem ae5 (hs:Sim M0 k ow (fun _=>False) w0 w N s tmps):∀ (l:List ResultVar) (us:List X),iU (TT.of P) s l=some us →
  ∃ vs:List Value,(l.mapM (aqy tmps)).run P w=.ok vs w∧aP k ow us vs
 | [],us,h=>by
  simp only[iU,Option.some.injEq] at h
  subst h
  exact⟨[],by simp,by simp[aP]⟩
 | .tmp t::l,us,h=>by
  simp only[iU,Option.map_eq_some_iff] at h
  obtain⟨q,hq,rfl⟩:=h
  obtain⟨vs,h1,h2⟩:=ae5 hs l q hq
  refine⟨tmps.getD t undef::vs,by simp only[List.mapM_cons,aqy,Sem.run_bind,Sem.run_pure,Result.andThen_ok,h1],?_⟩
  simp only[aP]
  exact⟨_,_,rfl,hs.fr t,h2⟩
 | .cell a t::l,us,h=>by
  simp only[iU] at h
  split at h
  .rename_i x e q hl hq
   simp only[Option.some.injEq] at h
   subst h
   obtain⟨vs,h1,h2⟩:=ae5 hs l q hq
   obtain⟨_,u,hr,hx⟩:=alu hs.toHp hl (hs.fr a)
   have hadr:∃ ad,tmps.getD a undef=.pointer (some ad)∧(loadVar t ad).run P w=.ok u w:=by
    simp only[Instr.loadAt,Sem.run_bind] at hr
    cases hv:tmps.getD a undef with
    | pointer p =>
     cases p with
     | none=>rw[hv] at hr;simp[Instr.sureAddr] at hr
     | some ad=>rw[hv] at hr;simp[Instr.sureAddr] at hr;exact⟨ad,rfl,hr⟩
    | _=>rw[hv] at hr;simp[Instr.sureAddr] at hr
   obtain⟨ad,hv,hr⟩:=hadr
   refine⟨u::vs,by simp only[List.mapM_cons,aqy,hv,asAddr,Sem.run_bind,Sem.run_pure,Result.andThen_ok,hr,h1],?_⟩
   simp only[aP]
   exact⟨_,_,rfl,hx,h2⟩
  .cases h
theorem as8 {fn:Func} {us:List Value} (h1:(fn.results.toList.mapM (aqy tmps)).run P w=.ok us w):(results fn tmps).run P w=.ok (agk us) w:=by
 have hres:results fn tmps=(do
   let vs ← fn.results.mapM (aqy tmps)
   pure (if h:vs.size=1 then vs[0] else .tuple vs)):=by
  unfold results
  congr 1
 rw[hres,Array.mapM_eq_mapM_toList]
 simp only[Sem.run_bind,Sem.run_map,h1,Result.andThen_ok,Sem.run_pure]
 congr 1
 match us with
 | []=>rfl
 | [u]=>rfl
 | u::u'::q=>rfl
theorem atw {objs:List Ob} (h:Hp M0 k ow w0 w objs) {m:Nat} {pan:Bool} {rs:List X} {us:List Value} {an:An} (hl:aaZ m pan rs objs=some an) (hrs:aP k ow rs us) :
  ∃ k' ow',an.pan=pan∧Hp M0 k' ow' w0 w an.obs∧k'.m=k.m∧m≤an.obs.length∧(∀ r,r<m→k'.μ r=k.μ r)∧(∀ t p,ow' t=some p→t.older 1 fun _=>False)∧(∀ r off p,ow' (.cell r off)=some p→r<an.obs.length)∧aP k' ow' an.rs us:=by
 unfold aaZ at hl
 simp only[Option.map_eq_some_iff] at hl
 obtain⟨obs,hp,rfl⟩:=hl
 have hn1:=acU objs 999 (X.refsL rs++((objs.take m).map Ob.refs).flatten) (List.range m) List.nodup_range
 obtain⟨q,hq⟩:=ae6 objs 999 (X.refsL rs++((objs.take m).map Ob.refs).flatten) (List.range m)
 have hn2:=(aeP (X.toksL rs) [] List.nodup_nil).filter (fun t=>match t with
  | .nm ..=>true
  | .cell r _=>!decide (r∈fM objs 999 (X.refsL rs++((objs.take m).map Ob.refs).flatten) (List.range m)))
 refine⟨_,_,rfl,h.re hn1 hn2 hp h.good h.below (fun _ _ h=>h) h.m0,rfl,?_,fun r hr=>?_,fun t p ht=>anO ht,fun i off p ht=>?_,aP.tr aqz _ _ hrs⟩
 .rw[aap hp,hq]
  simp
 .simp only[reK]
  rw[hq,List.getElem?_append_left (by simpa using hr)]
  simp[hr]
 .rw[aap hp]
  exact anP ht
theorem aBq {k:Know} {ow:Own} {x:X} {v:Value} (h:aF k ow x v):aF k ow (acR x) v:=by
 unfold acR
 cases hr:x.rd with
 | none=>exact h
 | some c=>simp only[akQ,aF];exact aaW _ _ _ hr h
theorem aFg {k:Know} {ow:Own} (b:Bool):∀ {rs:List X} {us:List Value},aP k ow rs us→aP k ow (ac2 b rs) us:=by
 intro rs us h
 cases b with
 | true=>exact h
 | false =>
  unfold ac2
  simp only
  induction rs generalizing us with
  | nil=>exact h
  | cons x r ih =>
   simp only[aP] at h
   obtain⟨v,l,rfl,h1,h2⟩:=h
   simp only[List.map_cons,aP]
   exact⟨v,l,rfl,aBq h1,ih h2⟩
theorem arY {G:GP} {pr:Pr} {n:Nat} (h:aip P G pr n) {f:Nat} {xs:List X} {obs:List Ob} {an:An} (hc:aie P (TT.of P) pr.keep (evC P (TT.of P) pr n) f xs obs=some an):jl P G f xs obs an:=by
 intro fn hf k ow w vs hhp hold hcl hvs
 unfold aie at hc
 split at hc
 rotate_left
 .cases hc
 rename_i hok
 obtain⟨hok,har⟩:=hok
 have hb:∃ b,fn.body=some b∧aao fn.ntmps b=true∧aig P f=b∧al8 P f=fn.ntmps∧aaV P f=fn.results.toList:=by
  unfold azJ at hok
  simp only[hf,Bool.and_eq_true,Option.isSome_iff_exists] at hok
  obtain⟨⟨b,hb⟩,h2⟩:=hok
  rw[hb] at h2
  exact⟨b,hb,h2,by simp[aig,hf,hb],by simp[al8,hf],by simp[aaV,hf]⟩
 obtain⟨b,hb,hcode,e1,e2,e3⟩:=hb
 have hvl:vs.length≤fn.ntmps:=by rw[hvs.length,← e2];exact har
 have hsim:Sim ⟨G,k.m,iE k ow⟩ k ow (fun _=>False) w w fn.ntmps (acl xs obs) (vs.toArray++Array.replicate (fn.ntmps-vs.toArray.size) undef):={hhp with
  size:=by simp;omega
  fresh:=hold
  cells:=hcl
  fr:=fun j=>by
   simp only[acl]
   have hg:(vs.toArray++Array.replicate (fn.ntmps-vs.toArray.size) undef).getD j undef=vs.getD j undef:=by
    rw[Array.getD_eq_getD_getElem?,List.getD_eq_getElem?_getD]
    rcases Nat.lt_or_ge j vs.length with g|g
    .rw[Array.getElem?_append_left (by simpa using g)]
     simp
    .rw[Array.getElem?_append_right (by simpa using g)]
     rw[List.getElem?_eq_none g]
     simp only[List.size_toArray,Array.getElem?_replicate]
     split <;> rfl
   rw[hg]
   cases hc:xs[j]? with
   | none =>
    have:vs[j]?=none:=by
     rw[List.getElem?_eq_none_iff] at hc ⊢
     rw[hvs.length];exact hc
    rw[List.getD_eq_getElem?_getD,List.getD_eq_getElem?_getD,this,hc]
    simp[aF,Rep]
   | some c =>
    obtain⟨v,hv,hr⟩:=hvs.get j c hc
    rw[List.getD_eq_getElem?_getD,List.getD_eq_getElem?_getD,hv,hc]
    exact hr}
 have fin:∀ (pan:Bool) (rs:List X) (us:List Value) (s:S) (tmps':Array Value) (w':World) (k':Know) (ow':Own),aaZ obs.length pan rs s.objs=some an→k.le k'→Sim ⟨G,k.m,iE k ow⟩ k' ow' (fun _=>False) w w' fn.ntmps s tmps'→aP k' ow' rs us →
   ∀ en,adk pan us en→∃ k' ow' us,adk an.pan us en∧Hp ⟨G,k.m,iE k ow⟩ k' ow' w w' an.obs∧k.m.le k'.m∧obs.length≤an.obs.length∧(∀ r,r<obs.length→k'.μ r=k.μ r) ∧
    (∀ t p,ow' t=some p→t.older 1 fun _=>False)∧(∀ r off p,ow' (.cell r off)=some p→r<an.obs.length)∧aP k' ow' an.rs us:=by
  intro pan rs us s tmps' w' k' ow' hl hle hs' hrs en hen
  obtain⟨k2,ow2,g1,g2,g3,g4,g5,g6,g7,g8⟩:=atw hs'.toHp hl hrs
  refine⟨k2,ow2,us,by rw[g1];exact hen,g2,by rw[g3];exact hle.1,g4,fun r hr=>?_,g6,g7,g8⟩
  rw[g5 r hr]
  obtain⟨b,hb,_⟩:=hhp.obj r _ (List.getElem?_eq_getElem hr)
  rw[hb]
  exact hle.2 _ _ hb
 have key:∀ e s,evC P (TT.of P) pr n b (acl xs obs)=some (e,s)→((e=.normal∨e=.ret)∧((iU (TT.of P) s fn.results.toList).bind fun rs=>aaZ obs.length false (ac2 (pr.keep f) rs) s.objs)=some an)∨(∃ x,e=.pan x∧aaZ obs.length true [x] s.objs=some an) →
   Calls P f vs.toArray w fun e w'=>∃ k' ow' us,adk an.pan us e∧Hp ⟨G,k.m,iE k ow⟩ k' ow' w w' an.obs∧k.m.le k'.m∧obs.length≤an.obs.length∧(∀ r,r<obs.length→k'.μ r=k.μ r) ∧
    (∀ t p,ow' t=some p→t.older 1 fun _=>False)∧(∀ r off p,ow' (.cell r off)=some p→r<an.obs.length)∧aP k' ow' an.rs us:=by
  intro e s hev hres
  refine calls_of_wp hf hb ?_
  refine (h ⟨G,k.m,iE k ow⟩ w fn.ntmps b (acl xs obs) e s rfl hev hcode _ _ w _ _ hsim fun x' tmps' w' k' ow' g1 g2 g3=>?_).wp
  rcases hres with ⟨he,hres⟩|⟨x,rfl,hres⟩
  .simp only[Option.bind_eq_some_iff] at hres
   obtain⟨rs,hrs,hl⟩:=hres
   obtain⟨us,h1,h2⟩:=ae5 (P:=P) g2 fn.results.toList rs hrs
   have hrun:=as8 h1
   have hpost:=fin false (ac2 (pr.keep f) rs) us s tmps' w' k' ow' hl g1 g2 (aFg _ h2) (.returned (agk us)) rfl
   rcases he with rfl|rfl
   .simp only[Ex.is] at g3
    subst g3
    exact⟨rfl,_,hrun,hpost⟩
   .simp only[Ex.is] at g3
    subst g3
    exact⟨rfl,_,hrun,hpost⟩
  .simp only[Ex.is] at g3
   obtain⟨v,rfl,hv⟩:=g3
   exact⟨rfl,fin true [x] [v] s tmps' w' k' ow' hres g1 g2 (by simp[aP,hv]) _ ⟨v,rfl,rfl⟩⟩
 rw[e1,e3] at hc
 split at hc
 .rename_i s hev;exact key _ s hev (.inl ⟨.inl rfl,hc⟩)
 .rename_i s hev;exact key _ s hev (.inl ⟨.inr rfl,hc⟩)
 .rename_i x s hev;exact key _ s hev (.inr ⟨x,rfl,hc⟩)
 .cases hc
structure PrSound (P:Program) (G:GP) (pr:Pr):Prop where
 prim:∀ f xs obs an,pr.prim f xs obs=some an→jl P G f xs obs an
theorem alP {G:GP} {pr:Pr} (hpr:PrSound P G pr) {n:Nat} (h:aip P G pr n):EnSound P G (afe P (TT.of P) pr (evC P (TT.of P) pr n)) where
 orc:=by
  intro f xs obs an h'
  simp only[afe,ak5] at h'
  split at h'
  .rename_i r' hp
   simp only[Option.some.injEq] at h'
   subst h'
   exact hpr.prim f xs obs r' hp
  .exact arY h h'
theorem alZ (hm:P.follows .mixedOrders=true) {G:GP} {pr:Pr} (hpr:PrSound P G pr):∀ n,aip P G pr n
 | 0=>by intro M0 w0 N c s e s' _ h;simp[evC] at h
 | n+1=>by
  have ih:=alZ hm hpr n
  have horc:=alP hpr ih
  intro M0 w0 N c s e s' hG h hok k ow w tmps Q hs hQ
  unfold evC at h
  cases c with
  | skip =>
   simp only[Option.some.injEq,Prod.mk.injEq] at h
   obtain⟨rfl,rfl⟩:=h
   exact wp_skip (hQ _ tmps w k ow (Know.le_refl k) hs rfl)
  | ret =>
   simp only[Option.some.injEq,Prod.mk.injEq] at h
   obtain⟨rfl,rfl⟩:=h
   exact wp_ret (hQ _ tmps w k ow (Know.le_refl k) hs rfl)
  | exit i =>
   simp only[Option.some.injEq,Prod.mk.injEq] at h
   obtain⟨rfl,rfl⟩:=h
   exact wp_exit (hQ _ tmps w k ow (Know.le_refl k) hs rfl)
  | seq a b =>
   simp only[aao,Bool.and_eq_true] at hok
   refine wp_seq ?_
   simp only at h
   split at h
   .rename_i s1 h1
    refine (ih M0 w0 N a s _ s1 hG h1 hok.1 k ow w tmps _ hs fun x tmps' w' k' ow' g1 g2 g3=>?_).wp
    simp only[Ex.is] at g3
    subst g3
    exact (ih M0 w0 N b s1 e s' hG h hok.2 k' ow' w' tmps' Q g2 fun x tmps'' w'' k'' ow'' g3 g4 g5=>hQ x tmps'' w'' k'' ow'' (Know.le_trans g1 g3) g4 g5).wp
   .rename_i hne
    refine (ih M0 w0 N a s e s' hG h hok.1 k ow w tmps _ hs fun x tmps' w' k' ow' g1 g2 g3=>?_).wp
    have hx:=hQ x tmps' w' k' ow' g1 g2 g3
    cases e with
    | normal=>exact (hne s' h).elim
    | exit i=>simp only[Ex.is] at g3;subst g3;exact hx
    | ret=>simp only[Ex.is] at g3;subst g3;exact hx
    | pan x=>simp only[Ex.is] at g3;obtain⟨v,rfl,_⟩:=g3;exact hx
  | block i c =>
   refine wp_block ?_
   simp only at h
   split at h
   .rename_i j s1 h1
    simp only[Option.some.injEq,Prod.mk.injEq] at h
    obtain⟨rfl,rfl⟩:=h
    refine (ih M0 w0 N c s _ s1 hG h1 hok k ow w tmps _ hs fun x tmps' w' k' ow' g1 g2 g3=>?_).wp
    simp only[Ex.is] at g3
    subst g3
    simp only[Exit.inBlock]
    split
    .rename_i e;exact hQ _ tmps' w' k' ow' g1 g2 (by rw[if_pos e];rfl)
    .rename_i e;exact hQ _ tmps' w' k' ow' g1 g2 (by rw[if_neg e];rfl)
   .rename_i hne
    refine (ih M0 w0 N c s e s' hG h hok k ow w tmps _ hs fun x tmps' w' k' ow' g1 g2 g3=>?_).wp
    have hx:=hQ x tmps' w' k' ow' g1 g2 g3
    cases e with
    | normal=>simp only[Ex.is] at g3;subst g3;exact hx
    | exit i=>exact (hne i s' h).elim
    | ret=>simp only[Ex.is] at g3;subst g3;exact hx
    | pan x=>simp only[Ex.is] at g3;obtain⟨v,rfl,_⟩:=g3;exact hx
  | cond c a b =>
   simp only[aao,Bool.and_eq_true] at hok
   simp only at h
   split at h
   .rename_i hc
    exact wp_cond_true (akb hc (hs.ev c)) (ih M0 w0 N a s e s' hG h hok.1 k ow w tmps Q hs hQ).wp
   .rename_i hc
    exact wp_cond_false (akb hc (hs.ev c)) (ih M0 w0 N b s e s' hG h hok.2 k ow w tmps Q hs hQ).wp
   .cases h
  | loop c =>
   simp only at h
   split at h
   .rename_i s1 h1
    refine (ih M0 w0 N c s _ s1 hG h1 hok k ow w tmps _ hs fun x tmps' w' k' ow' g1 g2 g3=>?_).wp
    simp only[Ex.is] at g3
    subst g3
    exact ih M0 w0 N (.loop c) s1 e s' hG h hok k' ow' w' tmps' Q g2 fun x tmps'' w'' k'' ow'' g3 g4 g5=>hQ x tmps'' w'' k'' ow'' (Know.le_trans g1 g3) g4 g5
   .rename_i hne
    refine (ih M0 w0 N c s e s' hG h hok k ow w tmps _ hs fun x tmps' w' k' ow' g1 g2 g3=>?_).wp
    have hx:=hQ x tmps' w' k' ow' g1 g2 g3
    cases e with
    | normal=>exact (hne s' h).elim
    | exit i=>simp only[Ex.is] at g3;subst g3;exact hx
    | ret=>simp only[Ex.is] at g3;subst g3;exact hx
    | pan x=>simp only[Ex.is] at g3;obtain⟨v,rfl,_⟩:=g3;exact hx
  | region id ops draw =>
   subst hG
   simp only[aao] at hok
   simp only at h
   split at h
   .rename_i s1 h1
    simp only[Option.some.injEq,Prod.mk.injEq] at h
    obtain⟨rfl,rfl⟩:=h
    exact ahr hm horc hok hs h1 (fun _ tmps' w' k' ow' g1 g2=>hQ _ tmps' w' k' ow' g1 g2 rfl) (fun x hx=>by cases hx)
   .rename_i x s1 h1
    simp only[Option.some.injEq,Prod.mk.injEq] at h
    obtain⟨rfl,rfl⟩:=h
    exact ahr hm horc hok hs h1 (fun hx=>by cases hx) (fun y hy v tmps' w' k' ow' g1 g2 g3=>by cases hy;exact hQ _ tmps' w' k' ow' g1 g2 ⟨v,rfl,g3⟩)
   .cases h
  | _=>simp at h
end
end Go.Pe
namespace Go.Pe
def Orc.le (a b:Orc):Prop:=∀ f xs obs an,a f xs obs=some an→b f xs obs=some an
structure En.le (a b:En):Prop where
 orc:Orc.le a.orc b.orc
 obj:a.obj=b.obj
 tk:a.tk=b.tk
 mt:a.mt=b.mt
theorem aAc {P:Program} {E E':En} (h:En.le E E') {clk ix f:Nat} {cs:List C} {y:X×Option Tk} (hv:aaF P E clk ix f cs=some y):aaF P E' clk ix f cs=some y:=by
 unfold aaF at *
 rw[← h.obj]
 split at hv
 .rename_i hc
  rw[if_pos hc]
  split at hv
  .rename_i rs hr
   rw[h.orc _ _ _ _ hr]
   exact hv
  .cases hv
 .cases hv
theorem aFA {P:Program} {T:TT} {E E':En} (h:En.le E E') {s:S} {ix:Nat} {o:Oper} {y:X×Option Tk} (hv:val P T E s ix o=some y):val P T E' s ix o=some y:=by
 unfold val at *
 split at hv <;> (try exact hv)
 unfold abN at *
 split at hv
 .exact hv
 .exact hv
 .exact hv
 .exact hv
 .split at hv
  .exact aAc h hv
  .cases hv
 .cases hv
theorem ab3 {P:Program} {T:TT} {E E':En} (h:En.le E E') {s:S} {ix:Nat} {o:Oper} {y:Option X×S} (hv:dK P T E s ix o=some y):dK P T E' s ix o=some y:=by
 unfold dK at *
 split at hv
 .rename_i x t hx
  rw[aFA h hx]
  exact hv
 .cases hv
theorem abQ {P:Program} {T:TT} {E E':En} (h:En.le E E') {dr:Bool} {s:S} {ix:Nat} {o:Oper} {y:Option X×S} (hv:iq P T E dr s ix o=some y):iq P T E' dr s ix o=some y:=by
 unfold iq at *
 split at hv
 .rename_i hd
  rw[if_pos hd]
  exact ab3 h hv
 .rename_i hd
  rw[if_neg hd]
  split at hv
  .rw[← h.mt]
   split at hv
   .rename_i hm
    rw[if_pos hm]
    exact hv
   .rename_i hm
    rw[if_neg hm]
    exact ab3 h hv
  .rw[← h.mt]
   exact hv
  .rw[← h.mt]
   split at hv
   .split at hv
    .rename_i hm
     rw[if_pos hm]
     exact hv
    .rename_i hm
     rw[if_neg hm]
     exact ab3 h hv
   .exact hv
  .exact hv
  .exact hv
  .exact hv
  .exact hv
  .exact hv
  .split at hv
   .rename_i g us htg
    rw[← h.obj]
    split at hv
    .rename_i ho
     rw[if_pos ho]
     unfold ac1 at *
     rw[← h.tk]
     split at hv
     .rename_i hc
      rw[if_pos hc]
      simp only at hv ⊢
      split at hv
      .rename_i obs hobs
       split at hv
       .rename_i an han
        rw[h.orc _ _ _ _ han]
        exact hv
       .cases hv
      .cases hv
     .cases hv
    .rename_i ho
     rw[if_neg ho]
     exact ab3 h hv
   .cases hv
  .exact ab3 h hv
theorem aco {P:Program} {T:TT} {E E':En} (h:En.le E E') {dr:Bool} {ops:Array Oper} {y:Option X×S}:∀ (l:List Oper) (n:Nat) (s:S),hH P T E dr ops n l s=some y→hH P T E' dr ops n l s=some y
 | [],_,_,hv=>hv
 | o::l,n,s,hv=>by
  have hst:∀ z,bv P T E dr ops s n o=some z→bv P T E' dr ops s n o=some z:=fun z h1=>by
   unfold bv at *
   split at h1
   .exact abQ h h1
   .exact h1
   .cases h1
  simp only[hH] at hv ⊢
  split at hv
  .rename_i s1 h1
   rw[hst _ h1]
   exact aco h l _ _ hv
  .rename_i x s1 h1
   rw[hst _ h1]
   exact hv
  .cases hv
theorem aGq {P:Program} {E E':En} (h:En.le E E') {o:Op} {es:List (Value×C)} (hv:mkA P E o=some es):mkA P E' o=some es:=by
 unfold mkA at *
 split at hv
 .split at hv
  .rename_i hc
   rw[if_pos hc]
   split at hv
   .rename_i es' ho
    rw[h.orc _ _ _ _ ho]
    exact hv
   .cases hv
  .cases hv
 .cases hv
theorem arc {P:Program} {E E':En} (h:En.le E E') {s s':S} {o:Oper} (hv:mkS P E s o=some s'):mkS P E' s o=some s':=by
 unfold mkS at *
 simp only[Option.map_eq_some_iff] at hv
 obtain⟨es,h1,rfl⟩:=hv
 rw[aGq h h1]
 rfl
theorem ab4 {P:Program} {T:TT} {E E':En} (h:En.le E E') {dr:Bool} {ops:Array Oper} {n:Nat} {o:Oper} {s:S} {z:Option X×S} (h1:bv P T E dr ops s n o=some z):bv P T E' dr ops s n o=some z:=by
 unfold bv at *
 split at h1
 .exact abQ h h1
 .exact h1
 .cases h1
theorem acY {P:Program} {T:TT} {E E':En} (h:En.le E E') {ops:Array Oper} {y:Option X×S}:∀ (l:List Oper) (n:Nat) (s:S),gm P T E ops n l s=some y→gm P T E' ops n l s=some y
 | [],_,_,hv=>by simp[gm] at hv
 | [o],n,s,hv=>by
  simp only[gm] at hv ⊢
  split at hv
  .rename_i s1 h1
   rw[ab4 h h1]
   exact hv
  .cases hv
 | o::o'::l,n,s,hv=>by
  simp only[gm] at hv ⊢
  split at hv
  .rename_i s1 h1
   rw[ab4 h h1]
   exact acY h (o'::l) _ _ hv
  .cases hv
theorem aEy {P:Program} {T:TT} {E E':En} (h:En.le E E') {ops:Array Oper} {l:List Oper} {s:S} {y:Option X×S} (hv:agI P T E ops l s=some y):agI P T E' ops l s=some y:=by
 unfold agI at *
 split at hv
 .rename_i hm
  rw[if_pos hm]
  exact acY h _ _ _ hv
 .rename_i hm
  rw[if_neg hm]
  cases l with
  | nil=>cases hv
  | cons o r =>
   simp only at hv ⊢
   split at hv
   .rename_i s1 h1
    rw[arc h h1]
    exact aco h _ _ _ hv
   .cases hv
theorem ah3 {P:Program} {T:TT} {E E':En} (h:En.le E E') {ops:Array Oper}:∀ (l:List Oper) (n:Nat) (s:S) {y:Option X×S},jW P T E ops n l s=some y→jW P T E' ops n l s=some y
 | [],_,_,_,hv=>by simp[jW] at hv
 | [_],_,_,_,hv=>by simp[jW] at hv
 | [o,o'],n,s,y,hv=>by
  simp only[jW] at hv ⊢
  split at hv
  .rename_i s1 h1
   rw[ab4 h h1]
   simp only
   split at hv
   .rename_i s2 h2
    rw[ab4 h h2]
    exact hv
   .cases hv
  .cases hv
 | o::o'::o''::l,n,s,y,hv=>by
  simp only[jW] at hv ⊢
  split at hv
  rotate_left
  .cases hv
  rename_i hf
  rw[if_pos hf]
  split at hv
  .rename_i s1 h1
   rw[ab4 h h1]
   exact ah3 h (o'::o''::l) _ _ hv
  .cases hv
theorem arK {P:Program} {T:TT} {E E':En} (h:En.le E E') {draw:Bool} {ops:Array Oper} {s:S} {y:Option X×S} (hv:evR P T E draw ops s=some y):evR P T E' draw ops s=some y:=by
 unfold evR at *
 rw[← h.obj]
 by_cases htl:(draw&&tlB ops.toList)=true
 .rw[if_pos htl] at hv ⊢
  exact ah3 h _ _ _ hv
 rw[if_neg htl] at hv ⊢
 split at hv
 .rename_i hm
  rw[if_pos hm]
  exact aEy h hv
 .rename_i hm
  rw[if_neg hm]
  exact aco h _ _ _ hv
theorem ah5 {P:Program} {T:TT} {pr:Pr} {a b:Code→S→Option (Ex×S)} (h:∀ c s r,a c s=some r→b c s=some r):En.le (afe P T pr a) (afe P T pr b) where
 obj:=rfl
 tk:=rfl
 mt:=rfl
 orc:=by
  intro f xs obs an hr
  simp only[afe,ak5] at *
  split at hr
  .rename_i r' hp;simpa [hp] using hr
  .unfold aie at *
   split at hr
   .rename_i hc
    rw[if_pos hc]
    split at hr
    .rename_i s1 h1;rw[h _ _ _ h1];exact hr
    .rename_i s1 h1;rw[h _ _ _ h1];exact hr
    .rename_i x s1 h1;rw[h _ _ _ h1];exact hr
    .cases hr
   .cases hr
theorem acH (P:Program) (T:TT) (pr:Pr) (n:Nat) (a b:Code) (s:S):evC P T pr (n+1) (.seq a b) s=match evC P T pr n a s with
  | some (.normal,s')=>evC P T pr n b s'
  | r=>r:=rfl
theorem aa2 (P:Program) (T:TT) (pr:Pr) (n i:Nat) (c:Code) (s:S):evC P T pr (n+1) (.block i c) s=match evC P T pr n c s with
  | some (.exit j,s')=>some (if j=i then .normal else .exit j,s')
  | r=>r:=rfl
theorem aeX (P:Program) (T:TT) (pr:Pr) (n:Nat) (c:Operand) (a b:Code) (s:S):evC P T pr (n+1) (.cond c a b) s=match jv (s.ev c) with
  | some true=>evC P T pr n a s
  | some false=>evC P T pr n b s
  | none=>none:=rfl
theorem abV (P:Program) (T:TT) (pr:Pr) (n:Nat) (c:Code) (s:S):evC P T pr (n+1) (.loop c) s=match evC P T pr n c s with
  | some (.normal,s')=>evC P T pr n (.loop c) s'
  | r=>r:=rfl
theorem acZ (P:Program) (T:TT) (pr:Pr) (n id:Nat) (ops:Array Oper) (draw:Bool) (s:S):evC P T pr (n+1) (.region id ops draw) s=match evR P T (afe P T pr (evC P T pr n)) draw ops s with
  | some (none,s')=>some (.normal,{s' with clk:=s'.clk+1})
  | some (some x,s')=>some (.pan x,{s' with clk:=s'.clk+1})
  | none=>none:=rfl
theorem arL {P:Program} {T:TT} {pr:Pr}:∀ (n:Nat) (c:Code) (s:S) (r:Ex×S),evC P T pr n c s=some r→evC P T pr (n+1) c s=some r
 | 0,c,s,r,h=>by simp[evC] at h
 | n+1,c,s,r,h=>by
  have ih:=arL (P:=P) (T:=T) (pr:=pr) n
  cases c with
  | seq a b =>
   rw[acH] at h ⊢
   split at h
   .rename_i s1 h1;rw[ih _ _ _ h1];exact ih _ _ _ h
   .rename_i hne
    cases h2:evC P T pr n a s with
    | none=>rw[h2] at h;cases h
    | some p =>
     obtain⟨e,s1⟩:=p
     rw[ih _ _ _ h2]
     cases e with
     | normal=>exact (hne s1 h2).elim
     | exit i=>rw[h2] at h;exact h
     | ret=>rw[h2] at h;exact h
     | pan x=>rw[h2] at h;exact h
  | block i c =>
   rw[aa2] at h ⊢
   cases h2:evC P T pr n c s with
   | none=>rw[h2] at h;cases h
   | some p=>rw[ih _ _ _ h2];rw[h2] at h;exact h
  | cond c a b =>
   rw[aeX] at h ⊢
   split at h
   .exact ih _ _ _ h
   .exact ih _ _ _ h
   .cases h
  | loop c =>
   rw[abV] at h ⊢
   cases h2:evC P T pr n c s with
   | none=>rw[h2] at h;cases h
   | some p =>
    obtain⟨e,s1⟩:=p
    rw[ih _ _ _ h2]
    rw[h2] at h
    cases e with
    | normal=>exact ih _ _ _ h
    | exit i=>exact h
    | ret=>exact h
    | pan x=>exact h
  | region id ops draw =>
   rw[acZ] at h ⊢
   split at h
   .rename_i s1 h1
    rw[arK (ah5 ih) h1]
    exact h
   .rename_i x s1 h1
    rw[arK (ah5 ih) h1]
    exact h
   .cases h
  | skip=>simpa only [evC] using h
  | ret=>simpa only [evC] using h
  | exit i=>simpa only [evC] using h
  | _=>simp[evC] at h
theorem aem {P:Program} {T:TT} {pr:Pr} {n m:Nat} (h:n≤m) {c:Code} {s:S} {r:Ex×S} (hr:evC P T pr n c s=some r):evC P T pr m c s=some r:=by
 induction m with
 | zero =>
  obtain rfl:n=0:=by omega
  exact hr
 | succ m ih =>
  rcases Nat.lt_or_ge n (m+1) with g|g
  .exact arL m c s r (ih (by omega))
  .obtain rfl:n=m+1:=by omega
   exact hr
section
variable (P:Program) (pr:Pr)
def enN (n:Nat):En:=afe P (TT.of P) pr (evC P (TT.of P) pr n)
theorem iG {n m:Nat} (h:n≤m):En.le (enN P pr n) (enN P pr m):=ah5 fun _ _ _ hr=>aem h hr
def ae (f:Nat) (xs:List X) (obs:List Ob) (an:An):Prop:=∃ n,(enN P pr n).orc f xs obs=some an
def aG (f:Nat) (xs:List X) (obs:List Ob) (K:An→Prop):Prop:=∃ an,ae P pr f xs obs an∧K an
def WC (c:Code) (s:S) (Q:Ex→S→Prop):Prop:=∃ n e s',evC P (TT.of P) pr n c s=some (e,s')∧Q e s'
def WO (dr:Bool) (ops:Array Oper) (k:Nat) (l:List Oper) (s:S) (Q:Option X→S→Prop):Prop:=∃ n e s',hH P (TT.of P) (enN P pr n) dr ops k l s=some (e,s')∧Q e s'
def SO (dr:Bool) (k:Nat) (o:Oper) (s:S) (Q:Option X→S→Prop):Prop:=∃ n e s',iq P (TT.of P) (enN P pr n) dr s k o=some (e,s')∧Q e s'
def WS (ops:Array Oper) (l:List Oper) (s:S) (Q:Option X→S→Prop):Prop:=∃ n e s',agI P (TT.of P) (enN P pr n) ops l s=some (e,s')∧Q e s'
def WOT (ops:Array Oper) (k:Nat) (l:List Oper) (s:S) (Q:Option X→S→Prop):Prop:=∃ n e s',jW P (TT.of P) (enN P pr n) ops k l s=some (e,s')∧Q e s'
def WOB (ops:Array Oper) (k:Nat) (l:List Oper) (s:S) (Q:Option X→S→Prop):Prop:=∃ n e s',gm P (TT.of P) (enN P pr n) ops k l s=some (e,s')∧Q e s'
def akE (b:Code) (Q:Ex→S→Prop):Ex→S→Prop
 | .normal,s=>WC P pr b s Q
 | .exit i,s=>Q (.exit i) s
 | .ret,s=>Q .ret s
 | .pan x,s=>Q (.pan x) s
def afJ (i:Nat) (Q:Ex→S→Prop):Ex→S→Prop
 | .normal,s=>Q .normal s
 | .exit j,s=>if j=i then Q .normal s else Q (.exit j) s
 | .ret,s=>Q .ret s
 | .pan x,s=>Q (.pan x) s
def ado (Q:Ex→S→Prop):Option X→S→Prop
 | none,s=>Q .normal {s with clk:=s.clk+1}
 | some x,s=>Q (.pan x) {s with clk:=s.clk+1}
def alm (F:S→Prop) (Q:Option X→S→Prop):Option X→S→Prop
 | none,s=>F s
 | some x,s=>Q (some x) s
def apN:Option Bool→Prop→Prop→Prop
 | some b,p,q=>if b=true then p else q
 | none,_,_=>False
def abp:Option Bool→Prop→Prop→Prop
 | some true,p,_=>p
 | some false,_,q=>q
 | none,_,_=>False
variable {P pr}
theorem ae.unique {f:Nat} {xs:List X} {obs:List Ob} {r r':An} (h:ae P pr f xs obs r) (h':ae P pr f xs obs r'):r=r':=by
 obtain⟨n,hn⟩:=h
 obtain⟨m,hm⟩:=h'
 have h1:=(iG P pr (Nat.le_max_left n m)).orc _ _ _ _ hn
 have h2:=(iG P pr (Nat.le_max_right n m)).orc _ _ _ _ hm
 exact Option.some.inj (h1.symm.trans h2)
theorem ae.k {f:Nat} {xs:List X} {obs:List Ob} {r:An} (h:ae P pr f xs obs r) (K:An→Prop):aG P pr f xs obs K↔K r :=
 ⟨fun⟨_,h1,h2⟩=>h.unique h1▸h2,fun h2=>⟨r,h,h2⟩⟩
theorem Z10 (s:S) (Q:Ex→S→Prop):WC P pr .skip s Q↔Q .normal s :=
 ⟨fun⟨n,e,s',h,hq⟩=>by
  cases n with
  | zero=>simp[evC] at h
  | succ n=>simp only[evC,Option.some.injEq,Prod.mk.injEq] at h;obtain⟨rfl,rfl⟩:=h;exact hq,fun h=>⟨1,_,_,rfl,h⟩⟩
theorem Zy (s:S) (Q:Ex→S→Prop):WC P pr .ret s Q↔Q .ret s :=
 ⟨fun⟨n,e,s',h,hq⟩=>by
  cases n with
  | zero=>simp[evC] at h
  | succ n=>simp only[evC,Option.some.injEq,Prod.mk.injEq] at h;obtain⟨rfl,rfl⟩:=h;exact hq,fun h=>⟨1,_,_,rfl,h⟩⟩
theorem Zv (i:Nat) (s:S) (Q:Ex→S→Prop):WC P pr (.exit i) s Q↔Q (.exit i) s :=
 ⟨fun⟨n,e,s',h,hq⟩=>by
  cases n with
  | zero=>simp[evC] at h
  | succ n=>simp only[evC,Option.some.injEq,Prod.mk.injEq] at h;obtain⟨rfl,rfl⟩:=h;exact hq,fun h=>⟨1,_,_,rfl,h⟩⟩
theorem Zz (a b:Code) (s:S) (Q:Ex→S→Prop):WC P pr (.seq a b) s Q↔WC P pr a s (akE P pr b Q):=by
 constructor
 .rintro⟨n,e,s',h,hq⟩
  cases n with
  | zero=>simp[evC] at h
  | succ n =>
   rw[acH] at h
   split at h
   .rename_i s1 h1;exact⟨n,.normal,s1,h1,n,e,s',h,hq⟩
   .rename_i hne
    refine⟨n,e,s',h,?_⟩
    cases e with
    | normal=>exact (hne s' h).elim
    | exit i=>exact hq
    | ret=>exact hq
    | pan x=>exact hq
 .rintro⟨n,e,s',h,hq⟩
  cases e with
  | normal =>
   obtain⟨m,e2,s2,h2,hq2⟩:=hq
   refine⟨max n m+1,e2,s2,?_,hq2⟩
   rw[acH]
   simp only[aem (Nat.le_max_left n m) h,aem (Nat.le_max_right n m) h2]
  | exit i=>exact⟨n+1,.exit i,s',by rw[acH];simp only[h],hq⟩
  | ret=>exact⟨n+1,.ret,s',by rw[acH];simp only[h],hq⟩
  | pan x=>exact⟨n+1,.pan x,s',by rw[acH];simp only[h],hq⟩
theorem Zt (i:Nat) (c:Code) (s:S) (Q:Ex→S→Prop):WC P pr (.block i c) s Q↔WC P pr c s (afJ i Q):=by
 constructor
 .rintro⟨n,e,s',h,hq⟩
  cases n with
  | zero=>simp[evC] at h
  | succ n =>
   rw[aa2] at h
   split at h
   .rename_i j s1 h1
    simp only[Option.some.injEq,Prod.mk.injEq] at h
    obtain⟨rfl,rfl⟩:=h
    refine⟨n,_,_,h1,?_⟩
    simp only[afJ]
    split
    .rename_i e;rw[if_pos e] at hq;exact hq
    .rename_i e;rw[if_neg e] at hq;exact hq
   .rename_i hne
    refine⟨n,e,s',h,?_⟩
    cases e with
    | normal=>exact hq
    | exit j=>exact (hne j s' h).elim
    | ret=>exact hq
    | pan x=>exact hq
 .rintro⟨n,e,s',h,hq⟩
  cases e with
  | normal=>exact⟨n+1,.normal,s',by rw[aa2];simp only[h],hq⟩
  | exit j =>
   refine⟨n+1,if j=i then .normal else .exit j,s',by rw[aa2];simp only[h],?_⟩
   simp only[afJ] at hq
   split
   .rename_i e;rw[if_pos e] at hq;exact hq
   .rename_i e;rw[if_neg e] at hq;exact hq
  | ret=>exact⟨n+1,.ret,s',by rw[aa2];simp only[h],hq⟩
  | pan x=>exact⟨n+1,.pan x,s',by rw[aa2];simp only[h],hq⟩
theorem Zu (c:Operand) (a b:Code) (s:S) (Q:Ex→S→Prop):WC P pr (.cond c a b) s Q↔apN (jv (s.ev c)) (WC P pr a s Q) (WC P pr b s Q):=by
 constructor
 .rintro⟨n,e,s',h,hq⟩
  cases n with
  | zero=>simp[evC] at h
  | succ n =>
   rw[aeX] at h
   split at h
   .rename_i hc;rw[hc];exact⟨n,e,s',h,hq⟩
   .rename_i hc;rw[hc];exact⟨n,e,s',h,hq⟩
   .cases h
 .intro h
  cases hc:jv (s.ev c) with
  | none=>rw[hc] at h;exact h.elim
  | some t =>
   rw[hc] at h
   cases t with
   | true=>obtain⟨n,e,s',h,hq⟩:=h;exact⟨n+1,e,s',by rw[aeX];simp only[hc,h],hq⟩
   | false=>obtain⟨n,e,s',h,hq⟩:=h;exact⟨n+1,e,s',by rw[aeX];simp only[hc,h],hq⟩
theorem amb (id:Nat) (ops:Array Oper) (draw:Bool) (s:S) (Q:Ex→S→Prop):WC P pr (.region id ops draw) s Q↔∃ n e s',evR P (TT.of P) (enN P pr n) draw ops s=some (e,s')∧ado Q e s':=by
 constructor
 .rintro⟨n,e,s',h,hq⟩
  cases n with
  | zero=>simp[evC] at h
  | succ n =>
   rw[acZ] at h
   split at h
   .rename_i s1 h1
    simp only[Option.some.injEq,Prod.mk.injEq] at h
    obtain⟨rfl,rfl⟩:=h
    exact⟨n,none,s1,h1,hq⟩
   .rename_i x s1 h1
    simp only[Option.some.injEq,Prod.mk.injEq] at h
    obtain⟨rfl,rfl⟩:=h
    exact⟨n,some x,s1,h1,hq⟩
   .cases h
 .rintro⟨n,e,s1,h1,hq⟩
  cases e with
  | none =>
   refine⟨n+1,.normal,_,?_,hq⟩
   unfold enN at h1
   rw[acZ]
   simp only[h1]
  | some x =>
   refine⟨n+1,.pan x,_,?_,hq⟩
   unfold enN at h1
   rw[acZ]
   simp only[h1]
theorem aAA (id:Nat) (ops:Array Oper) (s:S) (Q:Ex→S→Prop):WC P pr (.region id ops false) s Q↔WO P pr false ops 0 ops.toList s (ado Q):=by
 rw[amb]
 simp only[evR,Bool.false_and,Bool.false_eq_true,if_false]
 rfl
theorem aAz (id:Nat) (ops:Array Oper) (s:S) (Q:Ex→S→Prop):WC P pr (.region id ops true) s Q↔if tlB ops.toList=true then WOT P pr ops 0 ops.toList s (ado Q) else if gd ops.toList=true then WOB P pr ops 0 ops.toList s (ado Q) else if acE pr.obj ops.toList=true then WS P pr ops ops.toList s (ado Q) else WO P pr true ops 0 ops.toList s (ado Q):=by
 rw[amb]
 have e:∀ n,(enN P pr n).obj=pr.obj:=fun n=>rfl
 simp only[evR,Bool.true_and,e,spB]
 by_cases htl:tlB ops.toList=true
 .simp only[htl,if_true]
  rfl
 simp only[htl,Bool.false_eq_true,if_false]
 cases h1:gd ops.toList with
 | true =>
  simp only[Bool.or_true,if_true]
  unfold WOB
  simp only[agI,h1,if_true]
 | false =>
  cases h2:acE pr.obj ops.toList with
  | true=>simp only[Bool.true_or,if_true,Bool.false_eq_true,if_false];rfl
  | false=>simp only[Bool.or_self,Bool.false_eq_true,if_false];rfl
theorem iY {g:Nat} {es:List (Value×C)} (hg:ae P pr g [] [] ⟨false,[.mp 0],[.map es]⟩) (hc:ab P g=true) (ho:pr.obj g=true) (ops:Array Oper) (d:Option Nat) (tys:Array Nat) (ty:Nat) (po:String) (af:Array Edge) (r:List Oper) (s:S) (Q:Option X→S→Prop) :
  gd (⟨d,.call {callee:=.value (.func g),args:=#[],argTypes:=tys},ty,po,af,none⟩::r)=false→(WS P pr ops (⟨d,.call {callee:=.value (.func g),args:=#[],argTypes:=tys},ty,po,af,none⟩::r) s Q↔WO P pr true ops 1 r ({s with objs:=s.objs++[Ob.map es]}.put d (.mp s.objs.length)) Q):=by
 intro hm
 have hS:∀ n s1,mkS P (enN P pr n) s ⟨d,.call {callee:=.value (.func g),args:=#[],argTypes:=tys},ty,po,af,none⟩=some s1→s1={s with objs:=s.objs++[Ob.map es]}.put d (.mp s.objs.length):=fun n s1 h=>by
  unfold mkS at h
  simp only[Option.map_eq_some_iff,mkA,hc,if_true] at h
  obtain⟨es',h1,rfl⟩:=h
  split at h1
  .rename_i es2 h2
   simp only[Option.some.injEq] at h1
   subst h1
   have:=hg.unique ⟨n,h2⟩
   simp only[An.mk.injEq,List.cons.injEq,Ob.map.injEq,and_true,true_and] at this
   rw[this]
  .cases h1
 constructor
 .rintro⟨n,e,s',h,hq⟩
  unfold agI at h
  rw[hm,if_neg (by decide)] at h
  simp only at h
  split at h
  .rename_i s1 h1
   obtain rfl:=hS n s1 h1
   exact⟨n,e,s',h,hq⟩
  .cases h
 .rintro⟨n,e,s',h,hq⟩
  obtain⟨m,hm2⟩:=hg
  refine⟨max n m,e,s',?_,hq⟩
  unfold agI
  rw[hm,if_neg (by decide)]
  have h1:mkS P (enN P pr (max n m)) s ⟨d,.call {callee:=.value (.func g),args:=#[],argTypes:=tys},ty,po,af,none⟩=some ({s with objs:=s.objs++[Ob.map es]}.put d (.mp s.objs.length)):=by
   refine arc (iG P pr (Nat.le_max_right n m)) ?_
   unfold mkS mkA
   simp only[hc,if_true,hm2,Option.map_some]
  simp only[h1]
  exact aco (iG P pr (Nat.le_max_left n m)) _ _ _ h
theorem jb (c:Code) (s:S) (Q:Ex→S→Prop):WC P pr (.loop c) s Q↔WC P pr c s (akE P pr (.loop c) Q):=by
 constructor
 .rintro⟨n,e,s',h,hq⟩
  cases n with
  | zero=>simp[evC] at h
  | succ n =>
   rw[abV] at h
   split at h
   .rename_i s1 h1;exact⟨n,.normal,s1,h1,n,e,s',h,hq⟩
   .rename_i hne
    refine⟨n,e,s',h,?_⟩
    cases e with
    | normal=>exact (hne s' h).elim
    | exit i=>exact hq
    | ret=>exact hq
    | pan x=>exact hq
 .rintro⟨n,e,s',h,hq⟩
  cases e with
  | normal =>
   obtain⟨m,e2,s2,h2,hq2⟩:=hq
   refine⟨max n m+1,e2,s2,?_,hq2⟩
   rw[abV]
   simp only[aem (Nat.le_max_left n m) h,aem (Nat.le_max_right n m) h2]
  | exit i=>exact⟨n+1,.exit i,s',by rw[abV];simp only[h],hq⟩
  | ret=>exact⟨n+1,.ret,s',by rw[abV];simp only[h],hq⟩
  | pan x=>exact⟨n+1,.pan x,s',by rw[abV];simp only[h],hq⟩
theorem aUr (c:Code) (Q:Ex→S→Prop) (I:Nat→S→Prop) (h:∀ m s,I m s→WC P pr c s (fun e s'=>match e with
  | .normal=>∃ m',m'<m∧I m' s'
  | .exit i=>Q (.exit i) s'
  | .ret=>Q .ret s'
  | .pan x=>Q (.pan x) s')):∀ (m:Nat) (s:S),I m s→WC P pr (.loop c) s Q:=by
 intro m
 induction m using Nat.strongRecOn with
 | _ m ih =>
  intro s hs
  rw[jb]
  obtain⟨n,e,s',h1,hq⟩:=h m s hs
  refine⟨n,e,s',h1,?_⟩
  cases e with
  | normal=>obtain⟨m',hm,hI⟩:=hq;exact ih m' hm s' hI
  | exit i=>exact hq
  | ret=>exact hq
  | pan x=>exact hq
theorem WC.mono {c:Code} {s:S} {Q Q':Ex→S→Prop} (h:WC P pr c s Q) (hq:∀ e s,Q e s→Q' e s):WC P pr c s Q' :=
 let ⟨n,e,s',h1,h2⟩:=h;⟨n,e,s',h1,hq _ _ h2⟩
theorem Z14 (dr:Bool) (ops:Array Oper) (k:Nat) (s:S) (Q:Option X→S→Prop):WO P pr dr ops k [] s Q↔Q none s :=
 ⟨fun⟨n,e,s',h,hq⟩=>by simp only[hH,Option.some.injEq,Prod.mk.injEq] at h;obtain⟨rfl,rfl⟩:=h;exact hq,fun h=>⟨0,none,s,rfl,h⟩⟩
theorem Z13 (dr:Bool) (ops:Array Oper) (k:Nat) (o:Oper) (l:List Oper) (s:S) (Q:Option X→S→Prop) :
  WO P pr dr ops k (o::l) s Q↔abp (cD ops s o) (SO P pr dr k o s (alm (fun s'=>WO P pr dr ops (k+1) l s' Q) Q)) (WO P pr dr ops (k+1) l (s.put o.dst (.of .undef)) Q):=by
 constructor
 .rintro⟨n,e,s',h,hq⟩
  simp only[hH] at h
  cases hg:cD ops s o with
  | none=>simp[bv,hg] at h
  | some b =>
   cases b with
   | false =>
    simp only[bv,hg] at h
    exact⟨n,e,s',h,hq⟩
   | true =>
    simp only[bv,hg] at h
    split at h
    .rename_i s1 h1;exact⟨n,none,s1,h1,n,e,s',h,hq⟩
    .rename_i x s1 h1
     simp only[Option.some.injEq,Prod.mk.injEq] at h
     obtain⟨rfl,rfl⟩:=h
     exact⟨n,some x,s1,h1,hq⟩
    .cases h
 .intro h
  cases hg:cD ops s o with
  | none=>rw[hg] at h;exact h.elim
  | some b =>
   rw[hg] at h
   cases b with
   | true =>
    obtain⟨n,e1,s1,h1,h⟩:=h
    cases e1 with
    | none =>
     obtain⟨m,e,s',h2,hq⟩:=h
     refine⟨max n m,e,s',?_,hq⟩
     simp only[hH,bv,hg,abQ (iG P pr (Nat.le_max_left n m)) h1]
     exact aco (iG P pr (Nat.le_max_right n m)) _ _ _ h2
    | some x=>exact⟨n,some x,s1,by simp only[hH,bv,hg,h1],h⟩
   | false =>
    obtain⟨n,e,s',h2,hq⟩:=h
    exact⟨n,e,s',by simp only[hH,bv,hg];exact h2,hq⟩
def aPq (Q:Option X→S→Prop):Option X→S→Prop
 | none,s=>Q none s
 | some _,_=>False
def azI:Bool→Prop→Prop
 | true,p=>p
 | false,_=>False
theorem aOu (ops:Array Oper) (k:Nat) (o o':Oper) (s:S) (Q:Option X→S→Prop) :
  WOT P pr ops k [o,o'] s Q↔abp (cD ops s o) (SO P pr false k o s (alm (fun s'=>WOB P pr ops (k+1) [o'] s' Q) fun _ _=>False)) (WOB P pr ops (k+1) [o'] (s.put o.dst (.of .undef)) Q):=by
 have key:∀ (n:Nat) (s':S),(match bv P (TT.of P) (enN P pr n) false ops s' (k+1) o' with
   | some (none,s'')=>some ((none:Option X),s'')
   | _=>none)=gm P (TT.of P) (enN P pr n) ops (k+1) [o'] s':=fun n s'=>by
  simp only[gm]
  cases bv P (TT.of P) (enN P pr n) false ops s' (k+1) o' with
  | none=>rfl
  | some p=>obtain⟨a,b⟩:=p;cases a <;> rfl
 constructor
 .rintro⟨n,e,s',h,hq⟩
  simp only[jW] at h
  cases hg:cD ops s o with
  | none=>simp[bv,hg] at h
  | some b =>
   cases b with
   | false =>
    simp only[bv,hg] at h
    exact⟨n,e,s',(key n _).symm.trans h,hq⟩
   | true =>
    simp only[bv,hg] at h
    split at h
    .rename_i s1 h1
     exact⟨n,none,s1,h1,n,e,s',(key n _).symm.trans h,hq⟩
    .cases h
 .intro h
  cases hg:cD ops s o with
  | none=>rw[hg] at h;exact h.elim
  | some b =>
   rw[hg] at h
   cases b with
   | true =>
    obtain⟨n,e1,s1,h1,h⟩:=h
    cases e1 with
    | none =>
     obtain⟨m,e,s',h2,hq⟩:=h
     refine⟨max n m,e,s',?_,hq⟩
     have h1':=abQ (iG P pr (Nat.le_max_left n m)) h1
     have h2':=acY (iG P pr (Nat.le_max_right n m)) _ _ _ h2
     simp only[jW,bv,hg,h1']
     exact (key _ _).trans h2'
    | some x=>exact h.elim
   | false =>
    obtain⟨n,e,s',h2,hq⟩:=h
    refine⟨n,e,s',?_,hq⟩
    simp only[jW,bv,hg]
    exact (key _ _).trans h2
theorem aHy (ops:Array Oper) (k:Nat) (o o' o'':Oper) (l:List Oper) (s:S) (Q:Option X→S→Prop) :
  WOT P pr ops k (o::o'::o''::l) s Q↔azI (ja s o) (abp (cD ops s o) (SO P pr true k o s (alm (fun s'=>WOT P pr ops (k+1) (o'::o''::l) s' Q) fun _ _=>False)) (WOT P pr ops (k+1) (o'::o''::l) (s.put o.dst (.of .undef)) Q)):=by
 cases hf:ja s o with
 | false =>
  refine⟨?_,fun h=>h.elim⟩
  rintro⟨n,e,s',h,hq⟩
  simp[jW,hf] at h
 | true =>
  show _↔abp _ _ _
  constructor
  .rintro⟨n,e,s',h,hq⟩
   simp only[jW,hf,if_true] at h
   cases hg:cD ops s o with
   | none=>simp[bv,hg] at h
   | some b =>
    cases b with
    | false =>
     simp only[bv,hg] at h
     exact⟨n,e,s',h,hq⟩
    | true =>
     simp only[bv,hg] at h
     split at h
     .rename_i s1 h1
      exact⟨n,none,s1,h1,n,e,s',h,hq⟩
     .cases h
  .intro h
   cases hg:cD ops s o with
   | none=>rw[hg] at h;exact h.elim
   | some b =>
    rw[hg] at h
    cases b with
    | true =>
     obtain⟨n,e1,s1,h1,h⟩:=h
     cases e1 with
     | none =>
      obtain⟨m,e,s',h2,hq⟩:=h
      refine⟨max n m,e,s',?_,hq⟩
      have h1':=abQ (iG P pr (Nat.le_max_left n m)) h1
      have h2':=ah3 (iG P pr (Nat.le_max_right n m)) _ _ _ h2
      simp only[jW,hf,if_true,bv,hg,h1',h2']
     | some x=>exact h.elim
    | false =>
     obtain⟨n,e,s',h2,hq⟩:=h
     refine⟨n,e,s',?_,hq⟩
     simp only[jW,hf,if_true,bv,hg,h2]
theorem Z12 (ops:Array Oper) (k:Nat) (o:Oper) (s:S) (Q:Option X→S→Prop) :
  WOB P pr ops k [o] s Q↔abp (cD ops s o) (SO P pr false k o s (aPq Q)) (Q none (s.put o.dst (.of .undef))):=by
 constructor
 .rintro⟨n,e,s',h,hq⟩
  simp only[gm] at h
  cases hg:cD ops s o with
  | none=>simp[bv,hg] at h
  | some b =>
   cases b with
   | false =>
    simp only[bv,hg,Option.some.injEq,Prod.mk.injEq] at h
    obtain⟨rfl,rfl⟩:=h
    exact hq
   | true =>
    simp only[bv,hg] at h
    split at h
    .rename_i s1 h1
     simp only[Option.some.injEq,Prod.mk.injEq] at h
     obtain⟨rfl,rfl⟩:=h
     exact⟨n,none,s1,h1,hq⟩
    .cases h
 .intro h
  cases hg:cD ops s o with
  | none=>rw[hg] at h;exact h.elim
  | some b =>
   rw[hg] at h
   cases b with
   | true =>
    obtain⟨n,e1,s1,h1,h⟩:=h
    cases e1 with
    | none=>exact⟨n,none,s1,by simp only[gm,bv,hg,h1],h⟩
    | some x=>exact h.elim
   | false=>exact⟨0,none,_,by simp only[gm,bv,hg],h⟩
theorem Z11 (ops:Array Oper) (k:Nat) (o o':Oper) (l:List Oper) (s:S) (Q:Option X→S→Prop) :
  WOB P pr ops k (o::o'::l) s Q↔abp (cD ops s o) (SO P pr true k o s (alm (fun s'=>WOB P pr ops (k+1) (o'::l) s' Q) fun _ _=>False)) (WOB P pr ops (k+1) (o'::l) (s.put o.dst (.of .undef)) Q):=by
 constructor
 .rintro⟨n,e,s',h,hq⟩
  simp only[gm] at h
  cases hg:cD ops s o with
  | none=>simp[bv,hg] at h
  | some b =>
   cases b with
   | false =>
    simp only[bv,hg] at h
    exact⟨n,e,s',h,hq⟩
   | true =>
    simp only[bv,hg] at h
    split at h
    .rename_i s1 h1;exact⟨n,none,s1,h1,n,e,s',h,hq⟩
    .cases h
 .intro h
  cases hg:cD ops s o with
  | none=>rw[hg] at h;exact h.elim
  | some b =>
   rw[hg] at h
   cases b with
   | true =>
    obtain⟨n,e1,s1,h1,h⟩:=h
    cases e1 with
    | none =>
     obtain⟨m,e,s',h2,hq⟩:=h
     refine⟨max n m,e,s',?_,hq⟩
     simp only[gm,bv,hg,abQ (iG P pr (Nat.le_max_left n m)) h1]
     exact acY (iG P pr (Nat.le_max_right n m)) _ _ _ h2
    | some x=>exact h.elim
   | false =>
    obtain⟨n,e,s',h2,hq⟩:=h
    exact⟨n,e,s',by simp only[gm,bv,hg];exact h2,hq⟩
def iu (Q:S→Prop):Option S→Prop
 | some s=>Q s
 | none=>False
def gz (s:S) (d:Option Nat) (af:Array Edge) (K:S→Prop):Out→Prop
 | none=>False
 | some (x,none)=>K (s.put d x)
 | some (x,some t)=>gJ s.clk af.toList (some t)=true∧K ((s.drop (some t)).put d x)
theorem fG {dr:Bool} {k:Nat} {o:Oper} {s:S} {Q:Option X→S→Prop} (v:Out) (hst:∀ n,iq P (TT.of P) (enN P pr n) dr s k o=dK P (TT.of P) (enN P pr n) s k o) (h:∀ n,val P (TT.of P) (enN P pr n) s k o=v):SO P pr dr k o s Q↔gz s (cG o) o.after (Q none) v:=by
 constructor
 .rintro⟨n,e,s',h1,hq⟩
  rw[hst,dK,h n] at h1
  split at h1
  .rename_i x t
   split at h1
   .rename_i hok
    simp only[Option.some.injEq,Prod.mk.injEq] at h1
    obtain⟨rfl,rfl⟩:=h1
    cases t with
    | none=>exact hq
    | some t=>exact⟨hok,hq⟩
   .cases h1
  .cases h1
 .intro hv
  match v,h,hv with
  | some (x,none),h,hv=>exact⟨0,none,_,by rw[hst,dK,h 0];simp only[gJ,if_true];rfl,hv⟩
  | some (x,some t),h,hv=>exact⟨0,none,_,by rw[hst,dK,h 0];simp only[hv.1,if_true],hv.2⟩
section
variable (dr:Bool) (k:Nat) (d:Option Nat) (ty:Nat) (po:String) (af:Array Edge) (g:Option (Nat×Bool)) (s:S) (Q:Option X→S→Prop)
theorem Zm (x:Operand):SO P pr dr k ⟨d,.move x,ty,po,af,g⟩ s Q↔Q none (s.put d (s.ev x)):=fG (out (s.ev x)) (fun _=>by cases dr <;> rfl) fun _=>rfl
theorem Z2 (x:Operand):SO P pr dr k ⟨d,.assign x,ty,po,af,g⟩ s Q↔Q none (s.put d (s.ev x)):=fG (out (s.ev x)) (fun _=>by cases dr <;> rfl) fun _=>rfl
def ayP (s:S) (a b:Operand):Option Bool→Out
 | some b'=>out (if b' then s.ev a else s.ev b)
 | none=>none
theorem Zp (c a b:Operand):SO P pr dr k ⟨d,.pick c a b,ty,po,af,g⟩ s Q↔gz s d af (Q none) (ayP s a b (jv (s.ev c))) :=
 fG _ (fun _=>by cases dr <;> rfl) fun _=>by simp only[val,ayP];cases jv (s.ev c) <;> rfl
theorem Z3 (op:BinOp) (t:Nat) (x y:Operand) (yt:Nat):SO P pr dr k ⟨d,.binOp op t x y yt,ty,po,af,g⟩ s Q↔gz s d af (Q none) (dX P (TT.of P) t ((TT.of P t).map (·.und)) op (s.ev x) (s.ev y)) :=
 fG _ (fun _=>by cases dr <;> rfl) fun _=>rfl
def unX (op:UnOp):X→Out
 | .of (.lit a)=>bB ((akD op a).map fun v=>.of (.lit v))
 | _=>none
theorem Zs (op:UnOp) (t:Nat) (x:Operand):SO P pr dr k ⟨d,.unOp op t x,ty,po,af,g⟩ s Q↔gz s d af (Q none) (unX op (s.ev x)):=fG _ (fun _=>by cases dr <;> rfl) fun _=>rfl
theorem Zg (t:Nat) (a:Operand):SO P pr dr k ⟨d,.load t a,ty,po,af,g⟩ s Q↔gz s d af (Q none) (j6 (TT.of P) s.objs t (s.ev a)):=fG _ (fun _=>by cases dr <;> rfl) fun _=>rfl
theorem Zc (t:Nat) (x:Operand) (f:Nat):SO P pr dr k ⟨d,.fieldAddr t x f,ty,po,af,g⟩ s Q↔gz s d af (Q none) (gL (TT.of P) t f (s.ev x)):=fG _ (fun _=>by cases dr <;> rfl) fun _=>rfl
theorem Zb (t:Nat) (x:Operand) (f:Nat):SO P pr dr k ⟨d,.field t x f,ty,po,af,g⟩ s Q↔gz s d af (Q none) (aaN (TT.of P) t f (s.ev x)):=fG _ (fun _=>by cases dr <;> rfl) fun _=>rfl
theorem Ze (t:Nat) (x i:Operand):SO P pr dr k ⟨d,.indexAddr t x i,ty,po,af,g⟩ s Q↔gz s d af (Q none) (bF (TT.of P) t (s.ev x) (s.ev i)):=fG _ (fun _=>by cases dr <;> rfl) fun _=>rfl
theorem Zd (t:Nat) (x i:Operand):SO P pr dr k ⟨d,.index t x i,ty,po,af,g⟩ s Q↔gz s d af (Q none) (aak (TT.of P) t (s.ev x) (s.ev i)):=fG _ (fun _=>by cases dr <;> rfl) fun _=>rfl
theorem Zq (t:Nat) (x:Operand) (lo hi:Option Operand):SO P pr dr k ⟨d,.slice t x lo hi none,ty,po,af,g⟩ s Q↔gz s d af (Q none) (fE (TT.of P) t (s.ev x) (lo.map s.ev) (hi.map s.ev)):=fG _ (fun _=>by cases dr <;> rfl) fun _=>rfl
theorem Z9 (a b:Nat) (x:Operand):SO P pr dr k ⟨d,.convert a b x,ty,po,af,g⟩ s Q↔gz s d af (Q none) (adJ (TT.of P) a b (s.ev x)):=fG _ (fun _=>by cases dr <;> rfl) fun _=>rfl
def arI (i:Nat):X→Out
 | .tup xs=>bB (xs[i]?)
 | .of (.tup cs)=>bB ((cs[i]?).map .of)
 | _=>none
theorem Za (x:Operand) (i:Nat):SO P pr dr k ⟨d,.extract x i,ty,po,af,g⟩ s Q↔gz s d af (Q none) (arI i (s.ev x)):=fG _ (fun _=>by cases dr <;> rfl) fun _=>rfl
def fnX (f:Nat):Option (List C)→Out
 | some cs=>out (.of (.fn f cs))
 | none=>none
theorem Zi (f:Nat) (caps:Array Operand):SO P pr dr k ⟨d,.makeFunc (.func f) #[] caps,ty,po,af,g⟩ s Q↔gz s d af (Q none) (fnX f (fN s.ev caps.toList)):=fG _ (fun _=>by cases dr <;> rfl) fun _=>rfl
def asf (P:Program) (t:Nat):Option TD→Option (List (Nat×List X))→Out
 | some d,some qs=>match d.und with
  | .struct _=>bB ((eC (fun i=>d.fields[i]?) (dG d) qs).map .agg)
  | .array _ e=>match TT.of P e with
   | some de=>bB ((eC (fun i=>some (i*de.size,de.size)) (dG d) qs).map .agg)
   | none=>none
  | _=>none
 | _,_=>none
theorem Z5 (t:Nat) (ps:Array (Nat×Operand)):SO P pr dr k ⟨d,.build t ps,ty,po,af,g⟩ s Q↔gz s d af (Q none) (asf P t (TT.of P t) (fe s.ev ps.toList)) :=
 fG _ (fun _=>by cases dr <;> rfl) fun _=>by simp only[val,asf];cases TT.of P t <;> cases fe s.ev ps.toList <;> rfl
def bM (t:Tk) (n:Nat):Option (Nat×TD)→Option (List (Nat×List X))→Out
 | some (e,d),some qs =>
  if n*d.size≤16777216∧0<d.size∧d.zero.length=d.size then match eC (fun i=>some (i*d.size,d.size)) ((List.replicate n (dG d)).flatten) qs with
   | some xs=>match X.rds xs with
    | some cs=>out (.own t e d.size cs n)
    | none=>none
   | none=>none
  else none
 | _,_=>none
theorem Z6 (t n:Nat) (ps:Array (Nat×Operand)):SO P pr dr k ⟨d,.buildSlice t n ps,ty,po,af,g⟩ s Q↔gz s d af (Q none) (bM (.nm s.clk k 0) n (elemOf (TT.of P) t) (fe s.ev ps.toList)) :=
 fG _ (fun _=>by cases dr <;> rfl) fun _=>by simp only[val,bM];cases elemOf (TT.of P) t <;> cases fe s.ev ps.toList <;> rfl
theorem Zf (x:Operand) (t:Nat):SO P pr dr k ⟨d,.call {callee:=.builtin .len,args:=#[x],argTypes:=#[t]},ty,po,af,g⟩ s Q↔gz s d af (Q none) (fh ((TT.of P t).map (·.und)) (s.ev x)):=fG _ (fun _=>by cases dr <;> rfl) fun _=>rfl
theorem aUH (a b:Operand) (ts:Array Nat):SO P pr dr k ⟨d,.call {callee:=.builtin .max,args:=#[a,b],argTypes:=ts},ty,po,af,g⟩ s Q↔gz s d af (Q none) (aj8 (s.ev a) (s.ev b)):=fG _ (fun _=>by cases dr <;> rfl) fun _=>rfl
theorem Z1 (a b:Operand) (st xt:Nat):SO P pr dr k ⟨d,.call {callee:=.builtin .append,args:=#[a,b],argTypes:=#[st,xt]},ty,po,af,g⟩ s Q↔gz s d af (Q none) (dh (TT.of P) (.nm s.clk k 0) st xt (s.ev a) (s.ev b)):=fG _ (fun _=>by cases dr <;> rfl) fun _=>rfl
def aqM (s:S) (k:Nat) (d:Option Nat) (Q:Option X→S→Prop):An→Prop
 | ⟨false,rs,[]⟩=>Q none (s.put d (aaJ (acf s.clk k rs)))
 | _=>False
def afs (P:Program) (pr:Pr) (s:S) (k:Nat) (d:Option Nat) (Q:Option X→S→Prop) (f:Nat) (caps:List C):Option (List C)→Prop
 | some cs=>ab P f=true∧aG P pr f ((cs++caps).map .of) [] (aqM s k d Q)
 | none=>False
def aZ0 (Q:Option X→S→Prop):Option (Option X×S)→Prop
 | some (e,s)=>Q e s
 | none=>False
def ajn (s:S) (k:Nat) (d:Option Nat) (refs:List Nat) (ts:List Tk) (Q:Option X→S→Prop) (an:An):Prop:=aZ0 Q (ajm s k d refs ts an)
def ak8 (P:Program) (pr:Pr) (s:S) (k:Nat) (d:Option Nat) (refs:List Nat) (ts:List Tk) (Q:Option X→S→Prop) (f:Nat) (us:List X):Option (List Ob)→Prop
 | some obs=>ab P f=true∧aG P pr f (X.trs (pos refs) (gY refs ts) us) obs (ajn s k d refs ts Q)
 | none=>False
def acW (P:Program) (pr:Pr) (s:S) (k:Nat) (d:Option Nat) (Q:Option X→S→Prop) (f:Nat) (us:List X) (refs:List Nat) (ts:List Tk):Prop :=
 ak8 P pr s k d refs ts Q f us (eU (pos refs) (gY refs ts) (acp ts s.objs) refs)
def acP (b:Bool) (us:List X):List Tk:=match b with
 | true=>nub (X.toksL us) []
 | false=>[]
def adK (P:Program) (pr:Pr) (dr:Bool) (s:S) (k:Nat) (d:Option Nat) (Q:Option X→S→Prop) (f:Nat) (us:List X) (caps:List C) (cs:Option (List C)):Bool→Prop
 | true=>dr=false∧acW P pr s k d Q f us (fM s.objs 999 (X.refsL us) []) (acP (pr.tk f) us)
 | false=>afs P pr s k d Q f caps cs
def ac0 (P:Program) (pr:Pr) (dr:Bool) (s:S) (k:Nat) (d:Option Nat) (Q:Option X→S→Prop) (args:List X) (cs:Option (List C)):X→Prop
 | .of (.fn f caps)=>adK P pr dr s k d Q f (args++caps.map .of) caps cs (pr.obj f)
 | .clo f caps=>pr.obj f=true∧dr=false∧acW P pr s k d Q f (args++caps) (fM s.objs 999 (X.refsL (args++caps)) []) (acP (pr.tk f) (args++caps))
 | _=>False
theorem ar0 (n:Nat) (f:Nat) (us:List X):(∃ e s',ac1 P (enN P pr n) s k d f us=some (e,s')∧Q e s')→acW P pr s k d Q f us (fM s.objs 999 (X.refsL us) []) (acP (pr.tk f) us):=by
 rintro⟨e,s',h,hq⟩
 unfold ac1 at h
 split at h
 rotate_left
 .cases h
 rename_i hc
 simp only at h
 have ht:(if (enN P pr n).tk f=true then nub (X.toksL us) [] else [])=acP (pr.tk f) us:=by
  show (if pr.tk f=true then _ else _)=_
  cases pr.tk f <;> rfl
 rw[ht] at h
 unfold acW
 split at h
 .rename_i obs hobs
  rw[hobs]
  split at h
  .rename_i an han
   refine⟨hc,an,⟨n,han⟩,?_⟩
   unfold ajn
   rw[h]
   exact hq
  .cases h
 .cases h
theorem arZ (f:Nat) (us:List X) (h:acW P pr s k d Q f us (fM s.objs 999 (X.refsL us) []) (acP (pr.tk f) us)):∃ n e s',ac1 P (enN P pr n) s k d f us=some (e,s')∧Q e s':=by
 unfold acW at h
 cases hobs:eU (pos (fM s.objs 999 (X.refsL us) [])) (gY (fM s.objs 999 (X.refsL us) []) (acP (pr.tk f) us)) (acp (acP (pr.tk f) us) s.objs) (fM s.objs 999 (X.refsL us) []) with
 | none=>rw[hobs] at h;exact h.elim
 | some obs =>
  rw[hobs] at h
  obtain⟨hc,an,⟨n,han⟩,hb⟩:=h
  unfold ajn at hb
  cases hbs:ajm s k d (fM s.objs 999 (X.refsL us) []) (acP (pr.tk f) us) an with
  | none=>rw[hbs] at hb;exact hb.elim
  | some p =>
   obtain⟨e,s'⟩:=p
   rw[hbs] at hb
   refine⟨n,e,s',?_,hb⟩
   unfold ac1
   rw[if_pos hc]
   have ht:(if (enN P pr n).tk f=true then nub (X.toksL us) [] else [])=acP (pr.tk f) us:=by
    show (if pr.tk f=true then _ else _)=_
    cases pr.tk f <;> rfl
   simp only[ht,hobs,han,hbs]
theorem adx (n:Nat) (f:Operand) (args:Array Operand) (tys:Array Nat):dK P (TT.of P) (enN P pr n) s k ⟨d,.call {callee:=.value f,args:=args,argTypes:=tys},ty,po,af,g⟩=match s.ev f,fN s.ev args.toList with
  | .of (.fn f caps),some cs=>(match aaF P (enN P pr n) s.clk k f (cs++caps) with
   | some (x,t)=>if gJ s.clk af.toList t=true then some (none,(s.drop t).put d x) else none
   | none=>none)
  | _,_=>none:=by
 have e:cG ⟨d,.call {callee:=.value f,args:=args,argTypes:=tys},ty,po,af,g⟩=d:=rfl
 simp only[dK,val,abN,e]
 split <;> rename_i h <;> split at h <;> simp_all
theorem aBL (f:Operand) (fn:Nat) (caps:List C) (args:Array Operand) (tys:Array Nat) (hf:s.ev f=.of (.fn fn caps)) (ho:pr.obj fn=false) :
  (∃ n e s',dK P (TT.of P) (enN P pr n) s k ⟨d,.call {callee:=.value f,args:=args,argTypes:=tys},ty,po,af,g⟩=some (e,s')∧Q e s')↔afs P pr s k d Q fn caps (fN s.ev args.toList):=by
 constructor
 .rintro⟨n,e,s',h,hq⟩
  rw[adx,hf] at h
  cases hr:fN s.ev args.toList with
  | none=>rw[hr] at h;cases h
  | some cs =>
   rw[hr] at h
   simp only at h
   split at h
   .rename_i x t hx
    unfold aaF at hx
    split at hx
    .rename_i hc
     simp only[Bool.and_eq_true] at hc
     split at hx
     .rename_i rs hor
      obtain⟨rfl,rfl⟩:=iz hx
      simp only[gJ,if_true,Option.some.injEq,Prod.mk.injEq] at h
      obtain⟨rfl,rfl⟩:=h
      exact⟨hc.1,_,⟨n,hor⟩,hq⟩
     .cases hx
    .cases hx
   .cases h
 .intro h
  cases hr:fN s.ev args.toList with
  | none=>rw[hr] at h;exact h.elim
  | some cs =>
   rw[hr] at h
   obtain⟨hc,an,⟨n,hor⟩,hk⟩:=h
   match an,hor,hk with
   | ⟨false,rs,[]⟩,hor,hk =>
    refine⟨n,none,_,?_,hk⟩
    rw[adx,hf,hr]
    have:aaF P (enN P pr n) s.clk k fn (cs++caps)=out (aaJ (acf s.clk k rs)):=by
     unfold aaF
     have ho':(enN P pr n).obj fn=false:=ho
     rw[if_pos (by simp[hc,ho']),hor]
    simp only[this,out,gJ,if_true]
    rfl
theorem asv (f:Operand) (args:Array Operand) (tys:Array Nat):SO P pr dr k ⟨d,.call {callee:=.value f,args:=args,argTypes:=tys},ty,po,af,g⟩ s Q ↔
  ac0 P pr dr s k d Q (args.toList.map s.ev) (fN s.ev args.toList) (s.ev f):=by
 have hst:∀ n,iq P (TT.of P) (enN P pr n) dr s k ⟨d,.call {callee:=.value f,args:=args,argTypes:=tys},ty,po,af,g⟩=if dr=true then dK P (TT.of P) (enN P pr n) s k ⟨d,.call {callee:=.value f,args:=args,argTypes:=tys},ty,po,af,g⟩ else
   match ac6 s (.value f) args.toList with
   | some (g',us)=>if pr.obj g'=true then ac1 P (enN P pr n) s k d g' us else dK P (TT.of P) (enN P pr n) s k ⟨d,.call {callee:=.value f,args:=args,argTypes:=tys},ty,po,af,g⟩
   | none=>none:=fun n=>by
  unfold iq
  rfl
 have hV:∀ (x:X),s.ev f=x→(∀ fn caps,x≠.of (.fn fn caps))→∀ n,dK P (TT.of P) (enN P pr n) s k ⟨d,.call {callee:=.value f,args:=args,argTypes:=tys},ty,po,af,g⟩=none:=fun x hx hne n=>by
  rw[adx,hx]
  split
  .rename_i h;exact (hne _ _ rfl).elim
  .rfl
 unfold SO
 simp only[hst]
 cases hf:s.ev f with
 | of c =>
  cases c with
  | fn fn caps =>
   simp only[ac0,ac6,hf]
   cases ho:pr.obj fn with
   | true =>
    simp only[adK]
    cases dr with
    | true =>
     simp only[if_true,Bool.true_eq_false,false_and,iff_false]
     rintro⟨n,e,s',h,_⟩
     rw[adx,hf] at h
     cases hr:fN s.ev args.toList with
     | none=>rw[hr] at h;cases h
     | some cs =>
      rw[hr] at h
      have:aaF P (enN P pr n) s.clk k fn (cs++caps)=none:=by
       unfold aaF
       have ho':(enN P pr n).obj fn=true:=ho
       rw[if_neg (by simp[ho'])]
      simp[this] at h
    | false =>
     simp only[Bool.false_eq_true,if_false,if_true,true_and]
     constructor
     .rintro⟨n,e,s',h,hq⟩;exact ar0 k d s Q n fn _ ⟨e,s',h,hq⟩
     .intro h;exact arZ k d s Q fn _ h
   | false =>
    simp only[adK]
    rw[← aBL k d ty po af g s Q f fn caps args tys hf ho]
    cases dr with
    | true=>simp only[if_true]
    | false=>simp only[Bool.false_eq_true,if_false]
  | _ =>
   simp only[ac0,iff_false]
   rintro⟨n,e,s',h,_⟩
   rw[hV _ hf (fun _ _ e=>by cases e) n] at h
   simp[ac6,hf] at h
 | clo fn caps =>
  simp only[ac0,ac6,hf]
  have hn:=hV _ hf (fun _ _ e=>by cases e)
  cases dr with
  | true =>
   simp only[if_true,Bool.true_eq_false,false_and,and_false,iff_false]
   rintro⟨n,e,s',h,_⟩
   rw[hn] at h
   cases h
  | false =>
   simp only[Bool.false_eq_true,if_false,true_and]
   cases ho:pr.obj fn with
   | true =>
    simp only[if_true,true_and]
    constructor
    .rintro⟨n,e,s',h,hq⟩;exact ar0 k d s Q n fn _ ⟨e,s',h,hq⟩
    .intro h;exact arZ k d s Q fn _ h
   | false =>
    simp only[Bool.false_eq_true,if_false,false_and,iff_false]
    rintro⟨n,e,s',h,_⟩
    rw[hn] at h
    cases h
 | _ =>
  simp only[ac0,iff_false]
  rintro⟨n,e,s',h,_⟩
  rw[hV _ hf (fun _ _ e=>by cases e) n] at h
  simp[ac6,hf] at h
theorem Z7 (f:Nat) (args:Array Operand) (tys:Array Nat):SO P pr dr k ⟨d,.call {callee:=.value (.func f),args:=args,argTypes:=tys},ty,po,af,g⟩ s Q ↔
  adK P pr dr s k d Q f (args.toList.map s.ev) [] (fN s.ev args.toList) (pr.obj f):=by
 rw[asv]
 simp only[S.ev,ac0,List.map_nil,List.append_nil]
theorem Z8 (t:Nat) (args:Array Operand) (tys:Array Nat):SO P pr dr k ⟨d,.call {callee:=.value (.tmp t),args:=args,argTypes:=tys},ty,po,af,g⟩ s Q ↔
  ac0 P pr dr s k d Q (args.toList.map s.ev) (fN s.ev args.toList) (s.fr t):=asv dr k d ty po af g s Q (.tmp t) args tys
theorem Zh (t:Nat) (x i:Operand) (ok:Bool):SO P pr dr k ⟨d,.lookup t x i ok,ty,po,af,g⟩ s Q↔gz s d af (Q none) (aaq (TT.of P) s.objs t (s.ev x) (s.ev i) ok):=fG _ (fun _=>by cases dr <;> rfl) fun _=>rfl
theorem adV {o:Oper} (v:Option S) (h:∀ n,iq P (TT.of P) (enN P pr n) false s k o=v.map fun s=>(none,s)):SO P pr false k o s Q↔iu (Q none) v:=by
 unfold SO
 simp only[h]
 cases v with
 | none=>simp[iu]
 | some s' =>
  constructor
  .rintro⟨n,e,s1,h1,h2⟩
   simp only[Option.map_some,Option.some.injEq,Prod.mk.injEq] at h1
   obtain⟨rfl,rfl⟩:=h1
   exact h2
  .intro h1
   exact⟨0,none,s',rfl,h1⟩
def al9 (s:S) (d:Option Nat) (ty:Nat):Option (List X)→Option S
 | some xs=>some (afL s d ty xs)
 | none=>none
def mtQ (b:Bool) (p q:Prop):Prop:=match b with
 | true=>p
 | false=>q
def nwX (tk:Tk) (t:Nat):Option TD→Out
 | some d=>if 0<d.size then out (.nw (some tk) t d.size) else none
 | none=>none
theorem aFm (t:Nat):SO P pr true k ⟨d,.alloc t,ty,po,af,g⟩ s Q↔gz s d af (Q none) (nwX (.nm s.clk k 0) t (TT.of P t)):=fG _ (fun _=>rfl) fun _=>by
 simp only[val]
 cases TT.of P t <;> rfl
theorem Z0 (t:Nat):SO P pr false k ⟨d,.alloc t,ty,po,af,g⟩ s Q↔mtQ (pr.mt po d) (iu (Q none) (al9 s d t ((TT.of P t).map dG))) (gz s d af (Q none) (nwX (.nm s.clk k 0) t (TT.of P t))):=by
 have e:∀ n,(enN P pr n).mt=pr.mt:=fun _=>rfl
 cases hm:pr.mt po d with
 | true =>
  refine adV k s Q _ fun n=>?_
  simp only[iq,Bool.false_eq_true,if_false,e,hm,if_true]
  cases TT.of P t <;> rfl
 | false =>
  refine fG _ (fun n=>?_) fun _=>?_
  .simp only[iq,Bool.false_eq_true,if_false,e,hm]
  .simp only[val]
   cases TT.of P t <;> rfl
def aHo:Option TD→Option (List X)→Option (List X)
 | some d,some xs=>if xs.length=d.size then some xs else none
 | _,_=>none
def aAl (s:S) (d:Option Nat):Option TD→Option (List C)→Option S
 | some td,some cs=>if cs.length=td.size∧0<td.size then some (s.put d (.of (.ref cs))) else none
 | _,_=>none
theorem Z4 (t:Nat) (x:Operand):SO P pr false k ⟨d,.box t x,ty,po,af,g⟩ s Q↔mtQ (pr.mt po d) (iu (Q none) (al9 s d t (aHo (TT.of P t) (bQ (s.ev x))))) (iu (Q none) (aAl s d (TT.of P t) (cX (s.ev x)))):=by
 have e:∀ n,(enN P pr n).mt=pr.mt:=fun _=>rfl
 cases hm:pr.mt po d with
 | true =>
  refine adV k s Q _ fun n=>?_
  simp only[iq,Bool.false_eq_true,if_false,e,hm,if_true]
  cases TT.of P t with
  | none=>rfl
  | some td =>
   cases bQ (s.ev x) with
   | none=>rfl
   | some xs=>simp only[aHo];split <;> rfl
 | false =>
  refine adV k s Q _ fun n=>?_
  simp only[iq,Bool.false_eq_true,if_false,e,hm]
  cases TT.of P t with
  | none=>rfl
  | some td =>
   cases cX (s.ev x) with
   | none=>rfl
   | some xs=>simp only[aAl];split <;> rfl
def ahj (s:S) (d:Option Nat):Option TD→X→Option (List X)→Option S
 | some td,.ptr r off,some xs=>ab2 s d td.size r off xs
 | _,_,_=>none
def apH (s:S) (j t:Nat) (tk:Tk) (ty z:Nat) (af:Array Edge):Option TD→Option (List X)→Option S
 | some d,some xs=>if ty=t∧z=d.size∧xs.length=z∧gJ s.clk af.toList (some tk)=true then some (ai0 (s.drop (some tk)) j t (X.drops tk xs)) else none
 | _,_=>none
def aqD (s:S) (j t:Nat) (tk:Tk) (ty z:Nat) (af:Array Edge):Option TD→Option (List C)→Option S
 | some d,some cs=>if ty=t∧z=d.size∧cs.length=z∧gJ s.clk af.toList (some tk)=true then some ((s.drop (some tk)).put (some j) (.of (.ref cs))) else none
 | _,_=>none
def stO (dr mt:Bool) (s:S) (j t:Nat) (af:Array Edge) (td:Option TD) (xs:Option (List X)) (cs:Option (List C)):X→Option S
 | .nw (some tk) ty z=>match dr,mt with
  | false,true=>apH s j t tk ty z af td xs
  | _,_=>aqD s j t tk ty z af td cs
 | ax=>match dr with
  | false=>ahj s none td ax xs
  | true=>none
theorem ajw (E:En) (t j:Nat) (x:Operand):dK P (TT.of P) E s k ⟨none,.store t (.tmp j) x,ty,po,af,none⟩=(match s.fr j with
  | .nw (some tk) ty z=>aqD s j t tk ty z af (TT.of P t) (cX (s.ev x))
  | _=>none).map fun s=>(none,s):=by
 unfold dK val
 simp only
 cases hf:s.fr j with
 | nw o ty' z =>
  cases o with
  | none =>
   simp only
   cases TT.of P t <;> cases cX (s.ev x) <;> rfl
  | some tk =>
   cases TT.of P t with
   | none=>rfl
   | some td =>
    cases cX (s.ev x) with
    | none=>rfl
    | some cs =>
     simp only[aqD]
     by_cases h1:ty'=t∧z=td.size∧cs.length=z
     .rw[if_pos h1]
      by_cases h2:gJ s.clk af.toList (some tk)=true
      .simp only[h2,if_true]
       rw[if_pos ⟨h1.1,h1.2.1,h1.2.2,trivial⟩]
       rfl
      .have h3:gJ s.clk af.toList (some tk)=false:=by simpa using h2
       simp only[h3]
       rw[if_neg (fun h=>by cases h),if_neg (fun h=>by cases h.2.2.2)]
       rfl
     .rw[if_neg h1,if_neg (fun h=>h1 ⟨h.1,h.2.1,h.2.2.1⟩)]
      rfl
 | _ =>
  simp only
  cases TT.of P t <;> cases cX (s.ev x) <;> rfl
theorem Zr (t j:Nat) (x:Operand):SO P pr dr k ⟨none,.store t (.tmp j) x,ty,po,af,none⟩ s Q↔iu (Q none) (stO dr (pr.mt po (some j)) s j t af (TT.of P t) (bQ (s.ev x)) (cX (s.ev x)) (s.fr j)):=by
 have e:∀ n,(enN P pr n).mt=pr.mt:=fun _=>rfl
 have key:∀ n,iq P (TT.of P) (enN P pr n) dr s k ⟨none,.store t (.tmp j) x,ty,po,af,none⟩=(stO dr (pr.mt po (some j)) s j t af (TT.of P t) (bQ (s.ev x)) (cX (s.ev x)) (s.fr j)).map fun s=>(none,s):=fun n=>by
  cases dr with
  | true =>
   show dK _ _ _ _ _ _=_
   rw[ajw]
   cases s.fr j with
   | nw o ty' z=>cases o <;> rfl
   | _=>rfl
  | false =>
   unfold iq
   have ej:s.ev (.tmp j)=s.fr j:=rfl
   simp only[Bool.false_eq_true,if_false,e,cG,ej]
   cases hf:s.fr j with
   | nw o ty' z =>
    cases o with
    | none =>
     simp only[stO,ahj]
     cases TT.of P t <;> (try rfl)
    | some tk =>
     simp only[stO]
     cases hm:pr.mt po (some j) with
     | true =>
      simp only[if_true,apH]
      cases TT.of P t with
      | none=>rfl
      | some td =>
       cases bQ (s.ev x) with
       | none=>rfl
       | some xs =>
        simp only[and_true]
        split <;> rfl
     | false =>
      simp only[Bool.false_eq_true,if_false]
      rw[ajw,hf]
   | _ =>
    simp only[stO,ahj]
    cases TT.of P t with
    | none=>rfl
    | some td=>cases bQ (s.ev x) <;> rfl
 unfold SO
 simp only[key]
 generalize stO dr (pr.mt po (some j)) s j t af (TT.of P t) (bQ (s.ev x)) (cX (s.ev x)) (s.fr j)=v
 cases v with
 | none=>simp[iu]
 | some s' =>
  constructor
  .rintro⟨n,e,s1,h1,h2⟩
   simp only[Option.map_some,Option.some.injEq,Prod.mk.injEq] at h1
   obtain⟨rfl,rfl⟩:=h1
   exact h2
  .intro h1
   exact⟨0,none,s',rfl,h1⟩
theorem Zk (t:Nat):SO P pr false k ⟨d,.makeMap t none,ty,po,af,g⟩ s Q↔Q none ({s with objs:=s.objs++[Ob.map []]}.put d (.mp s.objs.length)) :=
 adV k s Q (some _) fun n=>rfl
def aiX:Option Ob→Option (List (Value×C))
 | some (.map es)=>some es
 | _=>none
def amO (kind:TypeDesc) (kv:Option Value) (c:Option C) (es:Option (List (Value×C))):Option (List (Value×C)):=match kv,c,es with
 | some kv,some c,some es=>agn kind kv c es
 | _,_,_=>none
def ayu (s:S) (d:Option Nat) (x:X) (r:Nat):Option (List (Value×C))→Option S
 | some es=>some ({s with objs:=s.objs.set r (Ob.map es)}.put d x)
 | none=>none
def adP (s:S) (d:Option Nat) (x:X):X→(Nat→Option (List (Value×C)))→Option S
 | .mp r,F=>ayu s d x r (F r)
 | _,_=>none
theorem ail {kind:TypeDesc} {et:Nat} (t:Nat) (m kx x:Operand) (ht:abC (TT.of P) t=some (kind,et)):SO P pr false k ⟨d,.mapUpdate t m kx x,ty,po,af,g⟩ s Q ↔
  iu (Q none) (adP s d (.of .undef) (s.ev m) fun r=>amO kind (dN (s.ev kx)) (s.ev x).rd (aiX (s.objs[r]?))) :=
 adV k s Q _ fun n=>by
  simp only[iq,Bool.false_eq_true,if_false,ht]
  cases s.ev m with
  | mp r =>
   simp only[adP]
   cases dN (s.ev kx) with
   | none=>rfl
   | some kv =>
    cases (s.ev x).rd with
    | none=>rfl
    | some c =>
     cases hr:s.objs[r]? with
     | none=>simp only[hr];rfl
     | some ob =>
      cases ob with
      | var _ _=>simp only[hr];rfl
      | map es=>simp only[hr,aiX,amO,ayu];cases agn kind kv c es <;> rfl
  | _=>rfl
theorem aoq {kind:TypeDesc} {et:Nat} (t:Nat) (m kx x:Operand) (ht:abC (TT.of P) t=some (kind,et)):SO P pr false k ⟨d,.insert t m kx x,ty,po,af,g⟩ s Q ↔
  iu (Q none) (adP s d (.of .undef) (s.ev m) fun r=>amO kind (dN (s.ev kx)) (s.ev x).rd (aiX (s.objs[r]?))) :=
 adV k s Q _ fun n=>by
  simp only[iq,Bool.false_eq_true,if_false,ht]
  cases s.ev m with
  | mp r =>
   simp only[adP]
   cases dN (s.ev kx) with
   | none=>rfl
   | some kv =>
    cases (s.ev x).rd with
    | none=>rfl
    | some c =>
     cases hr:s.objs[r]? with
     | none=>simp only[hr];rfl
     | some ob =>
      cases ob with
      | var _ _=>simp only[hr];rfl
      | map es=>simp only[hr,aiX,amO,ayu];cases agn kind kv c es <;> rfl
  | _=>rfl
def aPp (Q:Option X→S→Prop) (s:S):Option C→Prop
 | some (.ifc t c)=>Q (some (.of (.ifc t c))) s
 | _=>False
end
def aG6 (P:Program) (b:Bool) (f m:Nat) (an:An):Ex→S→Prop
 | .normal,s=>((iU (TT.of P) s (aaV P f)).bind fun rs=>aaZ m false (ac2 b rs) s.objs)=some an
 | .ret,s=>((iU (TT.of P) s (aaV P f)).bind fun rs=>aaZ m false (ac2 b rs) s.objs)=some an
 | .pan x,s=>aaZ m true [x] s.objs=some an
 | .exit _,_=>False
theorem ae.of_body {f:Nat} {xs:List X} {obs:List Ob} {an:An} (hp:pr.prim f xs obs=none) (hok:azJ P f=true) (har:xs.length≤al8 P f) (h:WC P pr (aig P f) (acl xs obs) (aG6 P (pr.keep f) f obs.length an)):ae P pr f xs obs an:=by
 obtain⟨n,e,s',h1,hq⟩:=h
 refine⟨n,?_⟩
 unfold enN afe ak5 aie
 simp only
 rw[hp]
 simp only[hok,har,and_self,if_true,h1]
 cases e with
 | normal=>exact hq
 | ret=>exact hq
 | pan x=>exact hq
 | exit i=>exact hq.elim
theorem ae.of_prim {f:Nat} {xs:List X} {obs:List Ob} {an:An} (hp:pr.prim f xs obs=some an):ae P pr f xs obs an:=⟨0,by unfold enN afe ak5;simp only;rw[hp]⟩
theorem ae.sound (hm:P.follows .mixedOrders=true) {G:GP} (hpr:PrSound P G pr) {f:Nat} {xs:List X} {obs:List Ob} {an:An} (h:ae P pr f xs obs an):jl P G f xs obs an:=by
 obtain⟨n,hn⟩:=h
 exact (alP hpr (alZ hm hpr n)).orc f xs obs an hn
end
end Go.Pe

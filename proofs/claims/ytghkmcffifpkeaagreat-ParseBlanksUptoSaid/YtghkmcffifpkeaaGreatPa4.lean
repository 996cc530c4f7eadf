/- A part. Conditions: none. -/
import Derived.Test.YtghkmcffifpkeaaGreatPa3
set_option linter.all false
set_option maxRecDepth 100000
set_option maxHeartbeats 64000000
namespace Go.Pe
open RowKit
def Ex.is(k:Know)(ow:Own):Ex->Exit->Prop
 | .normal,e=>e=.normal
 | .exit i,e=>e=.exit i
 | .ret,e=>e=.ret
 | .pan x,e=>∃ v,e=.panic [{v:=v,recovered:=false}]/\aF k ow x v
section
variable {P:Program} {M0:Base} {k:Know} {ow:Own} {w0 w:World} {N:Nat} {s:S} {tmps:Array Value} {ds:List Deferred}
def axO(tmps:Array Value):ResultVar->Sem Value
 | .tmp t=>pure (tmps.getD t undef)
 | .cell a t=>do loadVar t (← asAddr (tmps.getD a undef))
def WP(P:Program)(n:Nat)(Q:Exit->Act->World->Prop)(a:Act)(w:World):Code->Prop
 | .loop b=>Code.rounds P b Q n a w
 | c=>c.wp P Q a w
theorem WP.wp{P:Program}{n:Nat}{Q:Exit->Act->World->Prop}{a:Act}{w:World}{c:Code}(h:WP P n Q a w c):c.wp P Q a w:=by
 cases c with
 | loop b=>exact wp_loop_rounds n h
 | _=>exact h
def ao3(P:Program)(G:GP)(pr:Pr)(n:Nat):Prop :=
 ∀ (M0:Base) (w0:World) (N:Nat) (c:Code) (s:S) (e:Ex) (s':S),M0.G=G->evC P (TT.of P) pr n c s=some (e,s')->aaP pr.mt N c=true ->
  ∀ (k:Know) (ow:Own) (w:World) (tmps:Array Value) (ds:List Deferred) (Q:Exit->Act->World->Prop),Sim M0 k ow (λ_=>False) w0 w N s tmps ->
   (∀ x tmps' w' k' ow',k.le k'->Sim M0 k' ow' (λ_=>False) w0 w' N s' tmps'->e.is k' ow' x->Q x ⟨tmps',ds⟩ w')->WP P n Q ⟨tmps,ds⟩ w c
theorem ag1(hs:Sim M0 k ow (λ_=>False) w0 w N s tmps):∀ (l:List ResultVar) (us:List X),acw (TT.of P) s l=some us ->
  ∃ vs:List Value,(l.mapM (axO tmps)).run P w=.ok vs w/\aR k ow us vs
 | [],us,h=>by
  simp only[acw,ab] at h
  subst h
  exact⟨[],by simp,by simp[aR]⟩
 | .tmp t::l,us,h=>by
  simp only[acw,ar] at h
  obtain⟨q,hq,rfl⟩:=h
  obtain⟨vs,h1,h2⟩:=ag1 hs l q hq
  refine⟨tmps.getD t undef::vs,by simp only[age,axO,Sem.run_bind,Sem.run_pure,Result.andThen_ok,h1],?_⟩
  simp only[aR]
  exact⟨_,_,rfl,hs.fr t,h2⟩
 | .cell a t::l,us,h=>by
  simp only[acw] at h
  split at h
  .rename_i x e q hl hq
   simp only[ab] at h
   subst h
   obtain⟨vs,h1,h2⟩:=ag1 hs l q hq
   obtain⟨_,u,hr,hx⟩:=arZ hs.toHp hl (hs.fr a)
   have hadr:∃ ad,tmps.getD a undef=.pointer (some ad)/\(loadVar t ad).run P w=.ok u w:=by
    simp only[Instr.loadAt,Sem.run_bind] at hr
    cases hv:tmps.getD a undef with
    | pointer p =>
     cases p with
     | none=>rw[hv] at hr;simp[Instr.sureAddr] at hr
     | some ad=>rw[hv] at hr;simp[Instr.sureAddr] at hr;exact⟨ad,rfl,hr⟩
    | _=>rw[hv] at hr;simp[Instr.sureAddr] at hr
   obtain⟨ad,hv,hr⟩:=hadr
   refine⟨u::vs,by simp only[age,axO,hv,asAddr,Sem.run_bind,Sem.run_pure,Result.andThen_ok,hr,h1],?_⟩
   simp only[aR]
   exact⟨_,_,rfl,hx,h2⟩
  .cases h
theorem alP{fn:Func}{us:List Value}(h1:(fn.results.toList.mapM (axO tmps)).run P w=.ok us w):(results fn tmps).run P w=.ok (anb us) w:=by
 have hres:results fn tmps=(do
   let vs ← fn.results.mapM (axO tmps)
   pure (if h:vs.size=1 then vs[0] else .tuple vs)):=by
  unfold results
  congr 1
 rw[hres,Array.mapM_eq_mapM_toList]
 simp only[Sem.run_bind,Sem.run_map,h1,Result.andThen_ok,Sem.run_pure]
 congr 1
 match us with
 | []=>rfl
 | [u]=>rfl
 | u::u'::q=>rfl
theorem ajh{objs:List Ob}(h:Hp M0 k ow w0 w objs){m:Nat}{pan:Bool}{rs:List X}{us:List Value}{an:An}(hl:aeb m pan rs objs=some an)(hrs:aR k ow rs us) :
  ∃ k' ow',an.pan=pan/\Hp M0 k' ow' w0 w an.obs/\k'.m=k.m/\m<=an.obs.length/\(∀ r,r<m->k'.μ r=k.μ r)/\(∀ t p,ow' t=some p->t.older 1 λ_=>False)/\(∀ r off p,ow' (.cell r off)=some p->r<an.obs.length)/\aR k' ow' an.rs us:=by
 unfold aeb at hl
 simp only[ar] at hl
 obtain⟨obs,hp,rfl⟩:=hl
 have hn1:=ajb objs 999 (X.refsL rs++((objs.take m).map Ob.refs).flatten) (List.range m) List.nodup_range
 obtain⟨q,hq⟩:=alQ objs 999 (X.refsL rs++((objs.take m).map Ob.refs).flatten) (List.range m)
 have hn2:=(alv (X.toksL rs) [] ab0).filter (λt=>match t with
  | .nm ..=>true
  | .cell r _=>!decide (r∈dW objs 999 (X.refsL rs++((objs.take m).map Ob.refs).flatten) (List.range m)))
 have hrow:∀ i r (v:Value) (e z n g:Nat) t',(dW objs 999 (X.refsL rs++((objs.take m).map Ob.refs).flatten) (List.range m))[i]?=some r->fM (dW objs 999 (X.refsL rs++((objs.take m).map Ob.refs).flatten) (List.range m)) ((nub (X.toksL rs) []).filter (λt=>match t with
  | .nm ..=>true
  | .cell r _=>!decide (r∈dW objs 999 (X.refsL rs++((objs.take m).map Ob.refs).flatten) (List.range m)))) (abQ r)=some t'->t'=abQ i:=by
  intro i r _ _ _ _ _ t' hi h
  have hm:=bT hi
  unfold fM at h
  split at h
  .rename_i j hps
   have h3:=(List.mem_filter.1 (bT (adJ hps))).2
   simp only[cZ,abJ] at h3
   exact absurd hm h3
  .simp only[ar] at h
   obtain⟨r',h1,rfl⟩:=h
   rw[ajz hn1 hi] at h1
   obtain rfl:=ay h1
   rfl
 refine⟨_,_,rfl,h.re hn1 hn2 hp h.good h.below (λ_ _ h=>h) h.m0 (λi r v e z n g t' hi _ _ _ _ h=>hrow i r v e z n g t' hi h),rfl,?_,λr hr=>?_,λt p ht=>auM ht,λi off p ht=>?_,aR.tr axQ _ _ hrs⟩
 .rw[afA hp,hq]
  simp
 .simp only[reK]
  rw[hq,ba (by simpa using hr)]
  simp[hr]
 .rw[afA hp]
  exact auN ht
theorem aHu{k:Know}{ow:Own}{x:X}{v:Value}(h:aF k ow x v):aF k ow (afT x) v:=by
 unfold afT
 cases hr:x.rd with
 | none=>exact h
 | some c=>simp only[arA,aF];exact agB _ _ _ hr h
theorem aoV{k:Know}{ow:Own}(b:Bool):∀ {rs:List X} {us:List Value},aR k ow rs us->aR k ow (agN b rs) us:=by
 intro rs us h
 cases b with
 | true=>exact h
 | false =>
  unfold agN
  simp only
  induction rs generalizing us with
  | nil=>exact h
  | cons x r ih =>
   simp only[aR] at h
   obtain⟨v,l,rfl,h1,h2⟩:=h
   simp only[aU,aR]
   exact⟨v,l,rfl,aHu h1,ih h2⟩
theorem azx{G:GP}{pr:Pr}{n:Nat}(h:ao3 P G pr n){f:Nat}{xs:List X}{obs:List Ob}{an:An}(hc:amJ P (TT.of P) pr.mt pr.keep (evC P (TT.of P) pr n) f xs obs=some an):aa2 P G f xs obs an:=by
 intro fn hf k ow w vs hhp hold hcl hvs
 unfold amJ at hc
 split at hc
 rotate_left
 .cases hc
 rename_i hok
 obtain⟨hok,har⟩:=hok
 have hb:∃ b,fn.body=some b/\aaP pr.mt fn.ntmps b=true/\amK P f=b/\apP P f=fn.ntmps/\ac3 P f=fn.results.toList:=by
  unfold at4 at hok
  simp only[hf,ap,acH] at hok
  obtain⟨⟨b,hb⟩,h2⟩:=hok
  rw[hb] at h2
  exact⟨b,hb,h2,by simp[amK,hf,hb],by simp[apP,hf],by simp[ac3,hf]⟩
 obtain⟨b,hb,hcode,e1,e2,e3⟩:=hb
 have hvl:vs.length<=fn.ntmps:=by rw[hvs.length,← e2];exact har
 have hsim:Sim ⟨G,k.m,abM k ow⟩ k ow (λ_=>False) w w fn.ntmps (adz xs obs) (vs.toArray++Array.replicate (fn.ntmps-vs.toArray.size) undef):={hhp with
  size:=by simp;omega
  fresh:=hold
  cells:=hcl
  fr:=λj=>by
   simp only[adz]
   have hg:(vs.toArray++Array.replicate (fn.ntmps-vs.toArray.size) undef).getD j undef=vs.getD j undef:=by
    rw[bi,aY]
    rcases aD j vs.length with g|g
    .rw[Array.getElem?_append_left (by simpa using g)]
     simp
    .rw[Array.getElem?_append_right (by simpa using g)]
     rw[aZ g]
     simp only[dG,Array.getElem?_replicate]
     split <;> rfl
   rw[hg]
   cases hc:xs[j]? with
   | none =>
    have:vs[j]?=none:=by
     rw[List.getElem?_eq_none_iff] at hc ⊢
     rw[hvs.length];exact hc
    rw[aY,aY,this,hc]
    simp[aF,Rep]
   | some c =>
    obtain⟨v,hv,hr⟩:=hvs.get j c hc
    rw[aY,aY,hv,hc]
    exact hr}
 have fin:∀ (pan:Bool) (rs:List X) (us:List Value) (s:S) (tmps':Array Value) (w':World) (k':Know) (ow':Own),aeb obs.length pan rs s.objs=some an->k.le k'->Sim ⟨G,k.m,abM k ow⟩ k' ow' (λ_=>False) w w' fn.ntmps s tmps'->aR k' ow' rs us ->
   ∀ en,ahb pan us en->∃ k' ow' us,ahb an.pan us en/\Hp ⟨G,k.m,abM k ow⟩ k' ow' w w' an.obs/\k.m.le k'.m/\obs.length<=an.obs.length/\(∀ r,r<obs.length->k'.μ r=k.μ r) /\
    (∀ t p,ow' t=some p->t.older 1 λ_=>False)/\(∀ r off p,ow' (.cell r off)=some p->r<an.obs.length)/\aR k' ow' an.rs us:=by
  intro pan rs us s tmps' w' k' ow' hl hle hs' hrs en hen
  obtain⟨k2,ow2,g1,g2,g3,g4,g5,g6,g7,g8⟩:=ajh hs'.toHp hl hrs
  refine⟨k2,ow2,us,by rw[g1];exact hen,g2,by rw[g3];exact hle.1,g4,λr hr=>?_,g6,g7,g8⟩
  rw[g5 r hr]
  obtain⟨b,hb,_⟩:=hhp.obj r _ (aM hr)
  rw[hb]
  exact hle.2 _ _ hb
 have key:∀ e s,evC P (TT.of P) pr n b (adz xs obs)=some (e,s)->((e=.normal\/e=.ret)/\((acw (TT.of P) s fn.results.toList).bind λrs=>aeb obs.length false (agN (pr.keep f) rs) s.objs)=some an)\/(∃ x,e=.pan x/\aeb obs.length true [x] s.objs=some an) ->
   Calls P f vs.toArray w λe w'=>∃ k' ow' us,ahb an.pan us e/\Hp ⟨G,k.m,abM k ow⟩ k' ow' w w' an.obs/\k.m.le k'.m/\obs.length<=an.obs.length/\(∀ r,r<obs.length->k'.μ r=k.μ r) /\
    (∀ t p,ow' t=some p->t.older 1 λ_=>False)/\(∀ r off p,ow' (.cell r off)=some p->r<an.obs.length)/\aR k' ow' an.rs us:=by
  intro e s hev hres
  refine calls_of_wp hf hb ?_
  refine (h ⟨G,k.m,abM k ow⟩ w fn.ntmps b (adz xs obs) e s rfl hev hcode _ _ w _ _ _ hsim λx' tmps' w' k' ow' g1 g2 g3=>?_).wp
  rcases hres with ⟨he,hres⟩|⟨x,rfl,hres⟩
  .simp only[bD] at hres
   obtain⟨rs,hrs,hl⟩:=hres
   obtain⟨us,h1,h2⟩:=ag1 (P:=P) g2 fn.results.toList rs hrs
   have hrun:=alP h1
   have hpost:=fin false (agN (pr.keep f) rs) us s tmps' w' k' ow' hl g1 g2 (aoV _ h2) (.returned (anb us)) rfl
   rcases he with rfl|rfl
   .simp only[Ex.is] at g3
    subst g3
    exact⟨rfl,_,hrun,hpost⟩
   .simp only[Ex.is] at g3
    subst g3
    exact⟨rfl,_,hrun,hpost⟩
  .simp only[Ex.is] at g3
   obtain⟨v,rfl,hv⟩:=g3
   exact⟨rfl,fin true [x] [v] s tmps' w' k' ow' hres g1 g2 (by simp[aR,hv]) _ ⟨v,rfl,rfl⟩⟩
 rw[e1,e3] at hc
 split at hc
 .rename_i s hev;exact key _ s hev (.inl ⟨.inl rfl,hc⟩)
 .rename_i s hev;exact key _ s hev (.inl ⟨.inr rfl,hc⟩)
 .rename_i x s hev;exact key _ s hev (.inr ⟨x,rfl,hc⟩)
 .cases hc
structure PrSound (P:Program) (G:GP) (pr:Pr):Prop where
 prim:∀ f xs obs an,pr.prim f xs obs=some an->aa2 P G f xs obs an
theorem anK{G:GP}{pr:Pr}(hpr:PrSound P G pr){n:Nat}(h:ao3 P G pr n):EnSound P G (ai2 P (TT.of P) pr (evC P (TT.of P) pr n)) where
 orc:=by
  intro f xs obs an h'
  simp only[ai2,apm] at h'
  split at h'
  .rename_i r' hp
   simp only[ab] at h'
   subst h'
   exact hpr.prim f xs obs r' hp
  .exact azx h h'
theorem akm(hm:P.follows .mixedOrders=true){G:GP}{pr:Pr}(hpr:PrSound P G pr):∀ n,ao3 P G pr n
 | 0=>by intro M0 w0 N c s e s' _ h;simp[evC] at h
 | n+1=>by
  have ih:=akm hm hpr n
  have horc:=anK hpr ih
  intro M0 w0 N c s e s' hG h hok k ow w tmps ds Q hs hQ
  unfold evC at h
  cases c with
  | skip =>
   simp only[bF] at h
   obtain⟨rfl,rfl⟩:=h
   exact wp_skip (hQ _ tmps w k ow (Know.le_refl k) hs rfl)
  | ret =>
   simp only[bF] at h
   obtain⟨rfl,rfl⟩:=h
   exact wp_ret (hQ _ tmps w k ow (Know.le_refl k) hs rfl)
  | exit i =>
   simp only[bF] at h
   obtain⟨rfl,rfl⟩:=h
   exact wp_exit (hQ _ tmps w k ow (Know.le_refl k) hs rfl)
  | seq a b =>
   simp only[aaP,ap] at hok
   refine wp_seq ?_
   simp only at h
   split at h
   .rename_i s1 h1
    refine (ih M0 w0 N a s _ s1 hG h1 hok.1 k ow w tmps ds _ hs λx tmps' w' k' ow' g1 g2 g3=>?_).wp
    simp only[Ex.is] at g3
    subst g3
    exact (ih M0 w0 N b s1 e s' hG h hok.2 k' ow' w' tmps' ds Q g2 λx tmps'' w'' k'' ow'' g3 g4 g5=>hQ x tmps'' w'' k'' ow'' (Know.le_trans g1 g3) g4 g5).wp
   .rename_i hne
    refine (ih M0 w0 N a s e s' hG h hok.1 k ow w tmps ds _ hs λx tmps' w' k' ow' g1 g2 g3=>?_).wp
    have hx:=hQ x tmps' w' k' ow' g1 g2 g3
    cases e with
    | normal=>exact (hne s' h).elim
    | exit i=>simp only[Ex.is] at g3;subst g3;exact hx
    | ret=>simp only[Ex.is] at g3;subst g3;exact hx
    | pan x=>simp only[Ex.is] at g3;obtain⟨v,rfl,_⟩:=g3;exact hx
  | block i c =>
   refine wp_block ?_
   simp only at h
   split at h
   .rename_i j s1 h1
    simp only[bF] at h
    obtain⟨rfl,rfl⟩:=h
    refine (ih M0 w0 N c s _ s1 hG h1 hok k ow w tmps ds _ hs λx tmps' w' k' ow' g1 g2 g3=>?_).wp
    simp only[Ex.is] at g3
    subst g3
    simp only[Exit.inBlock]
    split
    .rename_i e;exact hQ _ tmps' w' k' ow' g1 g2 (by rw[am e];rfl)
    .rename_i e;exact hQ _ tmps' w' k' ow' g1 g2 (by rw[aj e];rfl)
   .rename_i hne
    refine (ih M0 w0 N c s e s' hG h hok k ow w tmps ds _ hs λx tmps' w' k' ow' g1 g2 g3=>?_).wp
    have hx:=hQ x tmps' w' k' ow' g1 g2 g3
    cases e with
    | normal=>simp only[Ex.is] at g3;subst g3;exact hx
    | exit i=>exact (hne i s' h).elim
    | ret=>simp only[Ex.is] at g3;subst g3;exact hx
    | pan x=>simp only[Ex.is] at g3;obtain⟨v,rfl,_⟩:=g3;exact hx
  | cond c a b =>
   simp only[aaP,ap] at hok
   simp only at h
   split at h
   .rename_i hc
    exact wp_cond_true (akP hc (hs.ev c)) (ih M0 w0 N a s e s' hG h hok.1 k ow w tmps ds Q hs hQ).wp
   .rename_i hc
    exact wp_cond_false (akP hc (hs.ev c)) (ih M0 w0 N b s e s' hG h hok.2 k ow w tmps ds Q hs hQ).wp
   .cases h
  | loop c =>
   simp only at h
   split at h
   .rename_i s1 h1
    refine (ih M0 w0 N c s _ s1 hG h1 hok k ow w tmps ds _ hs λx tmps' w' k' ow' g1 g2 g3=>?_).wp
    simp only[Ex.is] at g3
    subst g3
    exact ih M0 w0 N (.loop c) s1 e s' hG h hok k' ow' w' tmps' ds Q g2 λx tmps'' w'' k'' ow'' g3 g4 g5=>hQ x tmps'' w'' k'' ow'' (Know.le_trans g1 g3) g4 g5
   .rename_i hne
    refine (ih M0 w0 N c s e s' hG h hok k ow w tmps ds _ hs λx tmps' w' k' ow' g1 g2 g3=>?_).wp
    have hx:=hQ x tmps' w' k' ow' g1 g2 g3
    cases e with
    | normal=>exact (hne s' h).elim
    | exit i=>simp only[Ex.is] at g3;subst g3;exact hx
    | ret=>simp only[Ex.is] at g3;subst g3;exact hx
    | pan x=>simp only[Ex.is] at g3;obtain⟨v,rfl,_⟩:=g3;exact hx
  | region id ops draw =>
   subst hG
   simp only[aaP] at hok
   simp only at h
   split at h
   .rename_i s1 h1
    simp only[bF] at h
    obtain⟨rfl,rfl⟩:=h
    exact aom hm horc hok hs h1 (λ_ tmps' w' k' ow' g1 g2=>hQ _ tmps' w' k' ow' g1 g2 rfl) (λx hx=>by cases hx)
   .rename_i x s1 h1
    simp only[bF] at h
    obtain⟨rfl,rfl⟩:=h
    exact aom hm horc hok hs h1 (λhx=>by cases hx) (λy hy v tmps' w' k' ow' g1 g2 g3=>by cases hy;exact hQ _ tmps' w' k' ow' g1 g2 ⟨v,rfl,g3⟩)
   .cases h
  | scope c =>
   simp only[aaP] at hok
   simp only at h
   refine wp_scope_straight ?_
   refine (ih M0 w0 N c s e s' hG h hok k ow w tmps ds _ hs λx tmps' w' k' ow' g1 g2 g3=>?_).wp
   have hx:=hQ x tmps' w' k' ow' g1 g2 g3
   cases e with
   | normal=>simp only[Ex.is] at g3;subst g3;exact hx
   | exit i=>simp only[Ex.is] at g3;subst g3;exact hx
   | ret=>simp only[Ex.is] at g3;subst g3;exact hx
   | pan x=>simp only[Ex.is] at g3;obtain⟨v,rfl,_⟩:=g3;exact hx
  | label l =>
   simp only[bF] at h
   obtain⟨rfl,rfl⟩:=h
   exact wp_label (hQ _ tmps w k ow (Know.le_refl k) hs rfl)
  | _=>simp at h
end
end Go.Pe
namespace Go.Pe
def Orc.le(a b:Orc):Prop:=∀ f xs obs an,a f xs obs=some an->b f xs obs=some an
structure En.le (a b:En):Prop where
 orc:Orc.le a.orc b.orc
 obj:a.obj=b.obj
 tk:a.tk=b.tk
 mt:a.mt=b.mt
def aGp{P:Program}{E E':En}(h:En.le E E'){clk ix f:Nat}{cs:List C}{y:X×Option Tk}(hv:af1 P E clk ix f cs=some y):af1 P E' clk ix f cs=some y:=by
 unfold af1 at *
 rw[← h.obj]
 split at hv
 .rename_i hc
  rw[am hc]
  split at hv
  .rename_i rs hr
   rw[h.orc _ _ _ _ hr]
   exact hv
  .cases hv
 .cases hv
def aKP{P:Program}{T:TT}{E E':En}(h:En.le E E'){s:S}{ix:Nat}{o:Oper}{y:X×Option Tk}(hv:val P T E s ix o=some y):val P T E' s ix o=some y:=by
 unfold val at *
 split at hv <;> (try exact hv)
 unfold afx at *
 split at hv
 .exact hv
 .exact hv
 .exact hv
 .exact hv
 .split at hv
  .exact aGp h hv
  .cases hv
 .cases hv
def agz{P:Program}{T:TT}{E E':En}(h:En.le E E'){s:S}{ix:Nat}{o:Oper}{y:Option X×S}(hv:fh P T E s ix o=some y):fh P T E' s ix o=some y:=by
 unfold fh at *
 split at hv
 .rename_i x t hx
  rw[aKP h hx]
  exact hv
 .cases hv
def ahH{P:Program}{T:TT}{E E':En}(h:En.le E E'){dr:Bool}{s:S}{ix:Nat}{o:Oper}{y:Option X×S}(hv:abm P T E dr s ix o=some y):abm P T E' dr s ix o=some y:=by
 unfold abm at *
 split at hv
 .rename_i hd
  rw[am hd]
  exact agz h hv
 .rename_i hd
  rw[aj hd]
  split at hv
  .rw[← h.mt]
   split at hv
   .rename_i hm
    rw[am hm]
    exact hv
   .rename_i hm
    rw[aj hm]
    exact agz h hv
  .rw[← h.mt]
   exact hv
  .rw[← h.mt]
   split at hv
   .split at hv
    .rename_i hm
     rw[am hm]
     exact hv
    .rename_i hm
     rw[aj hm]
     exact agz h hv
   .exact hv
  .exact hv
  .exact hv
  .exact hv
  .exact hv
  .exact hv
  .split at hv
   .exact hv
   .exact agz h hv
  .split at hv
   .rename_i g us htg
    rw[← h.obj]
    split at hv
    .rename_i ho
     rw[am ho]
     unfold callS at *
     rw[← h.tk]
     split at hv
     .rename_i hc
      rw[am hc]
      simp only at hv ⊢
      split at hv
      .rename_i obs hobs
       split at hv
       .rename_i an han
        rw[h.orc _ _ _ _ han]
        exact hv
       .cases hv
      .cases hv
     .cases hv
    .rename_i ho
     rw[aj ho]
     exact agz h hv
   .cases hv
  .exact agz h hv
theorem afh{P:Program}{T:TT}{E E':En}(h:En.le E E'){dr:Bool}{ops:Array Oper}{y:Option X×S}:∀ (l:List Oper) (n:Nat) (s:S),abs P T E dr ops n l s=some y->abs P T E' dr ops n l s=some y
 | [],_,_,hv=>hv
 | o::l,n,s,hv=>by
  have hst:∀ z,bx P T E dr ops s n o=some z->bx P T E' dr ops s n o=some z:=λz h1=>by
   unfold bx at *
   split at h1
   .exact ahH h h1
   .exact h1
   .cases h1
  simp only[abs] at hv ⊢
  split at hv
  .rename_i s1 h1
   rw[hst _ h1]
   exact afh h l _ _ hv
  .rename_i x s1 h1
   rw[hst _ h1]
   exact hv
  .cases hv
def aM4{P:Program}{E E':En}(h:En.le E E'){o:Op}{es:List (Value×C)}(hv:mkA P E o=some es):mkA P E' o=some es:=by
 unfold mkA at *
 split at hv
 .split at hv
  .rename_i hc
   rw[am hc]
   split at hv
   .rename_i es' ho
    rw[h.orc _ _ _ _ ho]
    exact hv
   .cases hv
  .cases hv
 .cases hv
def aqD{P:Program}{E E':En}(h:En.le E E'){s s':S}{o:Oper}(hv:mkS P E s o=some s'):mkS P E' s o=some s':=by
 unfold mkS at *
 simp only[ar] at hv
 obtain⟨es,h1,rfl⟩:=hv
 rw[aM4 h h1]
 rfl
def ae0{P:Program}{T:TT}{E E':En}(h:En.le E E'){dr:Bool}{ops:Array Oper}{n:Nat}{o:Oper}{s:S}{z:Option X×S}(h1:bx P T E dr ops s n o=some z):bx P T E' dr ops s n o=some z:=by
 unfold bx at *
 split at h1
 .exact ahH h h1
 .exact h1
 .cases h1
theorem alX{P:Program}{T:TT}{E E':En}(h:En.le E E'){ops:Array Oper}{y:Option X×S}:∀ (l:List Oper) (n:Nat) (s:S),acB P T E ops n l s=some y->acB P T E' ops n l s=some y
 | [],_,_,hv=>by simp[acB] at hv
 | [o],n,s,hv=>by
  simp only[acB] at hv ⊢
  split at hv
  .rename_i s1 h1
   rw[ae0 h h1]
   exact hv
  .cases hv
 | o::o'::l,n,s,hv=>by
  simp only[acB] at hv ⊢
  split at hv
  .rename_i s1 h1
   rw[ae0 h h1]
   exact alX h (o'::l) _ _ hv
  .cases hv
def aJy{P:Program}{T:TT}{E E':En}(h:En.le E E'){ops:Array Oper}{l:List Oper}{s:S}{y:Option X×S}(hv:anH P T E ops l s=some y):anH P T E' ops l s=some y:=by
 unfold anH at *
 split at hv
 .rename_i hm
  rw[am hm]
  exact alX h _ _ _ hv
 .rename_i hm
  rw[aj hm]
  cases l with
  | nil=>cases hv
  | cons o r =>
   simp only at hv ⊢
   split at hv
   .rename_i s1 h1
    rw[aqD h h1]
    exact afh h _ _ _ hv
   .cases hv
theorem avf{P:Program}{T:TT}{E E':En}(h:En.le E E'){ops:Array Oper}:∀ (l:List Oper) (n:Nat) (s:S) {y:Option X×S},air P T E ops n l s=some y->air P T E' ops n l s=some y
 | [],_,_,_,hv=>by simp[air] at hv
 | [_],_,_,_,hv=>by simp[air] at hv
 | [o,o'],n,s,y,hv=>by
  simp only[air] at hv ⊢
  split at hv
  .rename_i s1 h1
   rw[ae0 h h1]
   simp only
   split at hv
   .rename_i s2 h2
    rw[ae0 h h2]
    exact hv
   .cases hv
  .cases hv
 | o::o'::o''::l,n,s,y,hv=>by
  simp only[air] at hv ⊢
  split at hv
  rotate_left
  .cases hv
  rename_i hf
  rw[am hf]
  split at hv
  .rename_i s1 h1
   rw[ae0 h h1]
   exact avf h (o'::o''::l) _ _ hv
  .cases hv
def ax8{P:Program}{T:TT}{E E':En}(h:En.le E E'){dr:Bool}{ops:Array Oper}{s s':S}{k:Nat}{o:Oper}(hv:okS (bx P T E dr ops s k o)=some s'):okS (bx P T E' dr ops s k o)=some s':=by
 rw[ae0 h (ahw hv)];rfl
def aLf{P:Program}{T:TT}{E E':En}(h:En.le E E'){ops:Array Oper}{t:Bool}{s s':S}{k:Nat}{o:Oper}(hv:stX P T E ops t s k o=some s'):stX P T E' ops t s k o=some s':=by
 unfold stX at *
 rw[← h.obj]
 split at hv
 .rename_i c;rw[am c];exact ax8 h hv
 .rename_i c
  rw[aj c]
  split at hv
  .rename_i c2;rw[am c2];exact aqD h hv
  .rename_i c2;rw[aj c2];exact ax8 h hv
theorem ay6{P:Program}{T:TT}{E E':En}(h:En.le E E'){ops:Array Oper}{n:Nat}:∀ (l:List Oper) (k:Nat) (b:Bool) (s:S) {s':S},evD P T E ops n k b l s=some s'->evD P T E' ops n k b l s=some s'
 | [],_,_,_,_,hv=>hv
 | o::l,k,b,s,s',hv=>by
  unfold evD at hv ⊢
  rw[← h.obj]
  split at hv
  .cases hv
  rename_i c
  rw[aj c]
  split at hv
  .rename_i s1 h1
   rw[aLf h h1]
   exact ay6 h l _ _ _ hv
  .cases hv
theorem ahB{P:Program}{T:TT}{E E':En}(h:En.le E E'){ops:Array Oper}:∀ (l:List (Nat×Bool)) (D:List Nat) (s:S) {y:List Nat×S},evA P T E ops l D s=some y->evA P T E' ops l D s=some y
 | [],_,_,_,hv=>hv
 | x::l,D,s,y,hv=>by
  unfold evA at hv ⊢
  cases ho:ops[x.1]? with
  | none=>rw[ho] at hv;cases hv
  | some o =>
   rw[ho] at hv
   cases hD:ldD s x.2 o.op with
   | none=>simp only[hD] at hv;cases hv
   | some D1 =>
    simp only[hD] at hv ⊢
    split at hv
    .rename_i s1 h1
     rw[ae0 h h1]
     exact ahB h l _ _ hv
    .cases hv
def aqc{r:Option (Option X×S)}{y:Option X×S}(h:aha r=some y):∃ z,r=some z:=by
 cases r with
 | none=>cases h
 | some z=>exact⟨z,rfl⟩
def aoJ{P:Program}{T:TT}{E E':En}(h:En.le E E'){ops:Array Oper}{D:List Nat}{s:S}{c:Option Nat}{y:Option X×S}(hv:ai1 P T E ops D s c=some y):ai1 P T E' ops D s c=some y:=by
 cases c with
 | none=>exact hv
 | some c =>
  unfold ai1 at hv ⊢
  simp only at hv ⊢
  rw[← h.obj,← h.tk]
  split at hv
  .split at hv
   .rename_i hc
    rw[am hc]
    obtain⟨z,hz⟩:=aqc hv
    rw[ahH h hz,← hz]
    exact hv
   .cases hv
  .cases hv
def ay3{P:Program}{T:TT}{E E':En}(h:En.le E E'){ops:Array Oper}{k:Nat}{s:S}{push:Bool}{l:List Oper}{y:Option X×S}(hv:evT P T E ops k s push l=some y):evT P T E' ops k s push l=some y:=by
 unfold evT at hv ⊢
 split at hv
 .split at hv
  .split at hv
   .exact afh h _ _ _ hv
   .cases hv
  .cases hv
 .exact afh h _ _ _ hv
def aOa{P:Program}{T:TT}{E E':En}(h:En.le E E'){ops:Array Oper}{p:Pn}{s:S}{y:Option X×S}(hv:evP P T E ops p s=some y):evP P T E' ops p s=some y:=by
 unfold evP at hv ⊢
 split at hv
 rotate_left
 .cases hv
 rename_i D s1 h1
 simp only[ahB h _ _ _ h1]
 cases h2:ai1 P T E ops D s1 p.c with
 | none=>rw[h2] at hv;cases hv
 | some z =>
  obtain⟨e,s2⟩:=z
  rw[aoJ h h2]
  rw[h2] at hv
  cases e with
  | some x=>exact hv
  | none =>
   simp only at hv ⊢
   split at hv
   rotate_left
   .cases hv
   rename_i D2 s3 h3
   simp only[ahB h _ _ _ h3]
   exact ay3 h hv
def aJz{P:Program}{T:TT}{E E':En}(h:En.le E E'){ops:Array Oper}{p:Option Pn}{s:S}{y:Option X×S}(hv:ay4 P T E ops s p=some y):ay4 P T E' ops s p=some y:=by
 cases p with
 | none=>cases hv
 | some p=>exact aOa h hv
def anI{P:Program}{T:TT}{E E':En}(h:En.le E E'){draw:Bool}{ops:Array Oper}{s:S}{y:Option X×S}(hv:evR P T E draw ops s=some y):evR P T E' draw ops s=some y:=by
 unfold evR at *
 rw[← h.obj,← h.mt]
 by_cases hpl:(draw&&plB E.mt ops.toList)=true
 .rw[am hpl] at hv ⊢
  exact aJz h hv
 rw[aj hpl] at hv ⊢
 by_cases htl:(draw&&tlB ops.toList)=true
 .rw[am htl] at hv ⊢
  exact avf h _ _ _ hv
 rw[aj htl] at hv ⊢
 by_cases htn:(draw&&!(acL E.obj ops.toList == 0))=true
 .rw[am htn] at hv ⊢
  simp only[ar] at hv ⊢
  obtain⟨t,ht,rfl⟩:=hv
  exact⟨t,ay6 h _ _ _ _ ht,rfl⟩
 rw[aj htn] at hv ⊢
 split at hv
 .rename_i hm
  rw[am hm]
  exact aJy h hv
 .rename_i hm
  rw[aj hm]
  exact afh h _ _ _ hv
def aoM{P:Program}{T:TT}{pr:Pr}{a b:Code->S->Option (Ex×S)}(h:∀ c s r,a c s=some r->b c s=some r):En.le (ai2 P T pr a) (ai2 P T pr b) where
 obj:=rfl
 tk:=rfl
 mt:=rfl
 orc:=by
  intro f xs obs an hr
  simp only[ai2,apm] at *
  split at hr
  .rename_i r' hp;simpa [hp] using hr
  .unfold amJ at *
   split at hr
   .rename_i hc
    rw[am hc]
    split at hr
    .rename_i s1 h1;rw[h _ _ _ h1];exact hr
    .rename_i s1 h1;rw[h _ _ _ h1];exact hr
    .rename_i x s1 h1;rw[h _ _ _ h1];exact hr
    .cases hr
   .cases hr
def ahA(P:Program)(T:TT)(pr:Pr)(n:Nat)(a b:Code)(s:S):evC P T pr (n+1) (.seq a b) s=match evC P T pr n a s with
  | some (.normal,s')=>evC P T pr n b s'
  | r=>r:=rfl
def afj(P:Program)(T:TT)(pr:Pr)(n i:Nat)(c:Code)(s:S):evC P T pr (n+1) (.block i c) s=match evC P T pr n c s with
  | some (.exit j,s')=>some (if j=i then .normal else .exit j,s')
  | r=>r:=rfl
def ajH(P:Program)(T:TT)(pr:Pr)(n:Nat)(c:Operand)(a b:Code)(s:S):evC P T pr (n+1) (.cond c a b) s=match adF (s.ev c) with
  | some true=>evC P T pr n a s
  | some false=>evC P T pr n b s
  | none=>none:=rfl
def agq(P:Program)(T:TT)(pr:Pr)(n:Nat)(c:Code)(s:S):evC P T pr (n+1) (.loop c) s=match evC P T pr n c s with
  | some (.normal,s')=>evC P T pr n (.loop c) s'
  | r=>r:=rfl
def ag9(P:Program)(T:TT)(pr:Pr)(n id:Nat)(ops:Array Oper)(draw:Bool)(s:S):evC P T pr (n+1) (.region id ops draw) s=match evR P T (ai2 P T pr (evC P T pr n)) draw ops s with
  | some (none,s')=>some (.normal,{s' with clk:=s'.clk+1})
  | some (some x,s')=>some (.pan x,{s' with clk:=s'.clk+1})
  | none=>none:=rfl
theorem ay7{P:Program}{T:TT}{pr:Pr}:∀ (n:Nat) (c:Code) (s:S) (r:Ex×S),evC P T pr n c s=some r->evC P T pr (n+1) c s=some r
 | 0,c,s,r,h=>by simp[evC] at h
 | n+1,c,s,r,h=>by
  have ih:=ay7 (P:=P) (T:=T) (pr:=pr) n
  cases c with
  | seq a b =>
   rw[ahA] at h ⊢
   split at h
   .rename_i s1 h1;rw[ih _ _ _ h1];exact ih _ _ _ h
   .rename_i hne
    cases h2:evC P T pr n a s with
    | none=>rw[h2] at h;cases h
    | some p =>
     obtain⟨e,s1⟩:=p
     rw[ih _ _ _ h2]
     cases e with
     | normal=>exact (hne s1 h2).elim
     | exit i=>rw[h2] at h;exact h
     | ret=>rw[h2] at h;exact h
     | pan x=>rw[h2] at h;exact h
  | block i c =>
   rw[afj] at h ⊢
   cases h2:evC P T pr n c s with
   | none=>rw[h2] at h;cases h
   | some p=>rw[ih _ _ _ h2];rw[h2] at h;exact h
  | cond c a b =>
   rw[ajH] at h ⊢
   split at h
   .exact ih _ _ _ h
   .exact ih _ _ _ h
   .cases h
  | loop c =>
   rw[agq] at h ⊢
   cases h2:evC P T pr n c s with
   | none=>rw[h2] at h;cases h
   | some p =>
    obtain⟨e,s1⟩:=p
    rw[ih _ _ _ h2]
    rw[h2] at h
    cases e with
    | normal=>exact ih _ _ _ h
    | exit i=>exact h
    | ret=>exact h
    | pan x=>exact h
  | region id ops draw =>
   rw[ag9] at h ⊢
   split at h
   .rename_i s1 h1
    rw[anI (aoM ih) h1]
    exact h
   .rename_i x s1 h1
    rw[anI (aoM ih) h1]
    exact h
   .cases h
  | scope c=>simp only[evC] at h ⊢;exact ih _ _ _ h
  | label l=>simpa only [evC] using h
  | skip=>simpa only [evC] using h
  | ret=>simpa only [evC] using h
  | exit i=>simpa only [evC] using h
  | _=>simp[evC] at h
def akY{P:Program}{T:TT}{pr:Pr}{n m:Nat}(h:n<=m){c:Code}{s:S}{r:Ex×S}(hr:evC P T pr n c s=some r):evC P T pr m c s=some r:=by
 induction m with
 | zero =>
  obtain rfl:n=0:=by omega
  exact hr
 | succ m ih =>
  rcases aD n (m+1) with g|g
  .exact ay7 m c s r (ih aC)
  .obtain rfl:n=m+1:=by omega
   exact hr
section
variable (P:Program) (pr:Pr)
def enN(n:Nat):En:=ai2 P (TT.of P) pr (evC P (TT.of P) pr n)
theorem abD{n m:Nat}(h:n<=m):En.le (enN P pr n) (enN P pr m):=aoM λ_ _ _ hr=>akY h hr
def aH(f:Nat)(xs:List X)(obs:List Ob)(an:An):Prop:=∃ n,(enN P pr n).orc f xs obs=some an
def abl(f:Nat)(xs:List X)(obs:List Ob)(K:An->Prop):Prop:=∃ an,aH P pr f xs obs an/\K an
def WC(c:Code)(s:S)(Q:Ex->S->Prop):Prop:=∃ n e s',evC P (TT.of P) pr n c s=some (e,s')/\Q e s'
def WO(dr:Bool)(ops:Array Oper)(k:Nat)(l:List Oper)(s:S)(Q:Option X->S->Prop):Prop:=∃ n e s',abs P (TT.of P) (enN P pr n) dr ops k l s=some (e,s')/\Q e s'
def SO(dr:Bool)(k:Nat)(o:Oper)(s:S)(Q:Option X->S->Prop):Prop:=∃ n e s',abm P (TT.of P) (enN P pr n) dr s k o=some (e,s')/\Q e s'
def WS(ops:Array Oper)(l:List Oper)(s:S)(Q:Option X->S->Prop):Prop:=∃ n e s',anH P (TT.of P) (enN P pr n) ops l s=some (e,s')/\Q e s'
def WD(ops:Array Oper)(n k:Nat)(b:Bool)(l:List Oper)(s:S)(Q:Option X->S->Prop):Prop:=∃ m s',evD P (TT.of P) (enN P pr m) ops n k b l s=some s'/\Q none s'
def tlQ:Nat->(Nat->Prop)->Prop->Prop
 | 0,_,b=>b
 | n+1,a,_=>a (n+1)
def WOT(ops:Array Oper)(k:Nat)(l:List Oper)(s:S)(Q:Option X->S->Prop):Prop:=∃ n e s',air P (TT.of P) (enN P pr n) ops k l s=some (e,s')/\Q e s'
def WOB(ops:Array Oper)(k:Nat)(l:List Oper)(s:S)(Q:Option X->S->Prop):Prop:=∃ n e s',acB P (TT.of P) (enN P pr n) ops k l s=some (e,s')/\Q e s'
def WA(ops:Array Oper)(l:List (Nat×Bool))(D:List Nat)(s:S)(K:List Nat->S->Prop):Prop:=∃ n D' s',evA P (TT.of P) (enN P pr n) ops l D s=some (D',s')/\K D' s'
def WCl(ops:Array Oper)(D:List Nat)(s:S)(c:Option Nat)(K:Option X->S->Prop):Prop:=∃ n e s',ai1 P (TT.of P) (enN P pr n) ops D s c=some (e,s')/\K e s'
def WT(push:Bool)(ops:Array Oper)(k:Nat)(l:List Oper)(s:S)(Q:Option X->S->Prop):Prop:=∃ n e s',evT P (TT.of P) (enN P pr n) ops k s push l=some (e,s')/\Q e s'
def plQ(Q:Pn->Prop):Option Pn->Prop
 | some p=>Q p
 | none=>False
def ape(b:Code)(Q:Ex->S->Prop):Ex->S->Prop
 | .normal,s=>WC P pr b s Q
 | .exit i,s=>Q (.exit i) s
 | .ret,s=>Q .ret s
 | .pan x,s=>Q (.pan x) s
def ak3(i:Nat)(Q:Ex->S->Prop):Ex->S->Prop
 | .normal,s=>Q .normal s
 | .exit j,s=>if j=i then Q .normal s else Q (.exit j) s
 | .ret,s=>Q .ret s
 | .pan x,s=>Q (.pan x) s
def afI(Q:Ex->S->Prop):Option X->S->Prop
 | none,s=>Q .normal {s with clk:=s.clk+1}
 | some x,s=>Q (.pan x) {s with clk:=s.clk+1}
def apw(F:S->Prop)(Q:Option X->S->Prop):Option X->S->Prop
 | none,s=>F s
 | some x,s=>Q (some x) s
def aww(ops:Array Oper)(s:S)(Q:Option X->S->Prop)(p:Pn):Prop:=WA P pr ops p.pre [] s λD s1=>WCl P pr ops D s1 p.c (apw (λs2=>WA P pr ops p.mid [] s2 λ_ s3=>WT P pr p.push ops p.m (ops.toList.drop p.m) s3 Q) Q)
def awR:Option Bool->Prop->Prop->Prop
 | some b,p,q=>if b=true then p else q
 | none,_,_=>False
def ajE:Option Bool->Prop->Prop->Prop
 | some true,p,_=>p
 | some false,_,q=>q
 | none,_,_=>False
variable {P pr}
theorem aH.unique{f:Nat}{xs:List X}{obs:List Ob}{r r':An}(h:aH P pr f xs obs r)(h':aH P pr f xs obs r'):r=r':=by
 obtain⟨n,hn⟩:=h
 obtain⟨m,hm⟩:=h'
 have h1:=(abD P pr (aav n m)).orc _ _ _ _ hn
 have h2:=(abD P pr (aaf n m)).orc _ _ _ _ hm
 exact ay (h1.symm.trans h2)
theorem aH.k{f:Nat}{xs:List X}{obs:List Ob}{r:An}(h:aH P pr f xs obs r)(K:An->Prop):abl P pr f xs obs K↔K r :=
 ⟨fun⟨_,h1,h2⟩=>h.unique h1▸h2,λh2=>⟨r,h,h2⟩⟩
theorem Z10(s:S)(Q:Ex->S->Prop):WC P pr .skip s Q↔Q .normal s :=
 ⟨fun⟨n,e,s',h,hq⟩=>by
  cases n with
  | zero=>simp[evC] at h
  | succ n=>simp only[evC,bF] at h;obtain⟨rfl,rfl⟩:=h;exact hq,λh=>⟨1,_,_,rfl,h⟩⟩
theorem Zy(s:S)(Q:Ex->S->Prop):WC P pr .ret s Q↔Q .ret s :=
 ⟨fun⟨n,e,s',h,hq⟩=>by
  cases n with
  | zero=>simp[evC] at h
  | succ n=>simp only[evC,bF] at h;obtain⟨rfl,rfl⟩:=h;exact hq,λh=>⟨1,_,_,rfl,h⟩⟩
theorem Zv(i:Nat)(s:S)(Q:Ex->S->Prop):WC P pr (.exit i) s Q↔Q (.exit i) s :=
 ⟨fun⟨n,e,s',h,hq⟩=>by
  cases n with
  | zero=>simp[evC] at h
  | succ n=>simp only[evC,bF] at h;obtain⟨rfl,rfl⟩:=h;exact hq,λh=>⟨1,_,_,rfl,h⟩⟩
theorem Zz(a b:Code)(s:S)(Q:Ex->S->Prop):WC P pr (.seq a b) s Q↔WC P pr a s (ape P pr b Q):=by
 constructor
 .rintro⟨n,e,s',h,hq⟩
  cases n with
  | zero=>simp[evC] at h
  | succ n =>
   rw[ahA] at h
   split at h
   .rename_i s1 h1;exact⟨n,.normal,s1,h1,n,e,s',h,hq⟩
   .rename_i hne
    refine⟨n,e,s',h,?_⟩
    cases e with
    | normal=>exact (hne s' h).elim
    | exit i=>exact hq
    | ret=>exact hq
    | pan x=>exact hq
 .rintro⟨n,e,s',h,hq⟩
  cases e with
  | normal =>
   obtain⟨m,e2,s2,h2,hq2⟩:=hq
   refine⟨max n m+1,e2,s2,?_,hq2⟩
   rw[ahA]
   simp only[akY (aav n m) h,akY (aaf n m) h2]
  | exit i=>exact⟨n+1,.exit i,s',by rw[ahA];simp only[h],hq⟩
  | ret=>exact⟨n+1,.ret,s',by rw[ahA];simp only[h],hq⟩
  | pan x=>exact⟨n+1,.pan x,s',by rw[ahA];simp only[h],hq⟩
theorem Zt(i:Nat)(c:Code)(s:S)(Q:Ex->S->Prop):WC P pr (.block i c) s Q↔WC P pr c s (ak3 i Q):=by
 constructor
 .rintro⟨n,e,s',h,hq⟩
  cases n with
  | zero=>simp[evC] at h
  | succ n =>
   rw[afj] at h
   split at h
   .rename_i j s1 h1
    simp only[bF] at h
    obtain⟨rfl,rfl⟩:=h
    refine⟨n,_,_,h1,?_⟩
    simp only[ak3]
    split
    .rename_i e;rw[am e] at hq;exact hq
    .rename_i e;rw[aj e] at hq;exact hq
   .rename_i hne
    refine⟨n,e,s',h,?_⟩
    cases e with
    | normal=>exact hq
    | exit j=>exact (hne j s' h).elim
    | ret=>exact hq
    | pan x=>exact hq
 .rintro⟨n,e,s',h,hq⟩
  cases e with
  | normal=>exact⟨n+1,.normal,s',by rw[afj];simp only[h],hq⟩
  | exit j =>
   refine⟨n+1,if j=i then .normal else .exit j,s',by rw[afj];simp only[h],?_⟩
   simp only[ak3] at hq
   split
   .rename_i e;rw[am e] at hq;exact hq
   .rename_i e;rw[aj e] at hq;exact hq
  | ret=>exact⟨n+1,.ret,s',by rw[afj];simp only[h],hq⟩
  | pan x=>exact⟨n+1,.pan x,s',by rw[afj];simp only[h],hq⟩
theorem Zu(c:Operand)(a b:Code)(s:S)(Q:Ex->S->Prop):WC P pr (.cond c a b) s Q↔awR (adF (s.ev c)) (WC P pr a s Q) (WC P pr b s Q):=by
 constructor
 .rintro⟨n,e,s',h,hq⟩
  cases n with
  | zero=>simp[evC] at h
  | succ n =>
   rw[ajH] at h
   split at h
   .rename_i hc;rw[hc];exact⟨n,e,s',h,hq⟩
   .rename_i hc;rw[hc];exact⟨n,e,s',h,hq⟩
   .cases h
 .intro h
  cases hc:adF (s.ev c) with
  | none=>rw[hc] at h;exact h.elim
  | some t =>
   rw[hc] at h
   cases t with
   | true=>obtain⟨n,e,s',h,hq⟩:=h;exact⟨n+1,e,s',by rw[ajH];simp only[hc,h],hq⟩
   | false=>obtain⟨n,e,s',h,hq⟩:=h;exact⟨n+1,e,s',by rw[ajH];simp only[hc,h],hq⟩
theorem aH6(ops:Array Oper)(s:S)(Q:Option X->S->Prop)(p:Pn):(∃ n e s',evP P (TT.of P) (enN P pr n) ops p s=some (e,s')/\Q e s')↔aww P pr ops s Q p:=by
 constructor
 .rintro⟨n,e,s',h,hq⟩
  unfold evP at h
  split at h
  rotate_left
  .cases h
  rename_i D s1 h1
  refine⟨n,D,s1,h1,?_⟩
  cases h2:ai1 P (TT.of P) (enN P pr n) ops D s1 p.c with
  | none=>rw[h2] at h;cases h
  | some z =>
   obtain⟨e2,s2⟩:=z
   rw[h2] at h
   refine⟨n,e2,s2,h2,?_⟩
   cases e2 with
   | some x =>
    simp only[bF] at h
    obtain⟨rfl,rfl⟩:=h
    exact hq
   | none =>
    simp only at h
    split at h
    rotate_left
    .cases h
    rename_i D2 s3 h3
    exact⟨n,D2,s3,h3,n,e,s',h,hq⟩
 .rintro⟨n1,D,s1,h1,n2,e2,s2,h2,h⟩
  cases e2 with
  | some x =>
   refine⟨max n1 n2,some x,s2,?_,h⟩
   unfold evP
   simp only[ahB (abD P pr (aav n1 n2)) _ _ _ h1,aoJ (abD P pr (aaf n1 n2)) h2]
  | none =>
   obtain⟨n3,D2,s3,h3,n4,e,s',h4,hq⟩:=h
   refine⟨max (max n1 n2) (max n3 n4),e,s',?_,hq⟩
   have m1:n1<=max (max n1 n2) (max n3 n4):=by omega
   have m2:n2<=max (max n1 n2) (max n3 n4):=by omega
   have m3:n3<=max (max n1 n2) (max n3 n4):=by omega
   have m4:n4<=max (max n1 n2) (max n3 n4):=by omega
   unfold evP
   simp only[ahB (abD P pr m1) _ _ _ h1,aoJ (abD P pr m2) h2,ahB (abD P pr m3) _ _ _ h3]
   exact ay3 (abD P pr m4) h4
theorem asZ(id:Nat)(ops:Array Oper)(draw:Bool)(s:S)(Q:Ex->S->Prop):WC P pr (.region id ops draw) s Q↔∃ n e s',evR P (TT.of P) (enN P pr n) draw ops s=some (e,s')/\afI Q e s':=by
 constructor
 .rintro⟨n,e,s',h,hq⟩
  cases n with
  | zero=>simp[evC] at h
  | succ n =>
   rw[ag9] at h
   split at h
   .rename_i s1 h1
    simp only[bF] at h
    obtain⟨rfl,rfl⟩:=h
    exact⟨n,none,s1,h1,hq⟩
   .rename_i x s1 h1
    simp only[bF] at h
    obtain⟨rfl,rfl⟩:=h
    exact⟨n,some x,s1,h1,hq⟩
   .cases h
 .rintro⟨n,e,s1,h1,hq⟩
  cases e with
  | none =>
   refine⟨n+1,.normal,_,?_,hq⟩
   unfold enN at h1
   rw[ag9]
   simp only[h1]
  | some x =>
   refine⟨n+1,.pan x,_,?_,hq⟩
   unfold enN at h1
   rw[ag9]
   simp only[h1]
theorem aGT(id:Nat)(ops:Array Oper)(s:S)(Q:Ex->S->Prop):WC P pr (.region id ops false) s Q↔WO P pr false ops 0 ops.toList s (afI Q):=by
 rw[asZ]
 simp only[evR,dL,ah,av]
 rfl
theorem aGS(id:Nat)(ops:Array Oper)(s:S)(Q:Ex->S->Prop):WC P pr (.region id ops true) s Q↔if plB pr.mt ops.toList=true then plQ (aww P pr ops s (afI Q)) (ajA pr.obj ops) else if tlB ops.toList=true then WOT P pr ops 0 ops.toList s (afI Q) else tlQ (acL pr.obj ops.toList) (λn=>WD P pr ops n 0 false ops.toList s (afI Q)) (if abj ops.toList=true then WOB P pr ops 0 ops.toList s (afI Q) else if aiU pr.obj ops.toList=true then WS P pr ops ops.toList s (afI Q) else WO P pr true ops 0 ops.toList s (afI Q)):=by
 rw[asZ]
 have e:∀ n,(enN P pr n).obj=pr.obj:=λn=>rfl
 have e2:∀ n,(enN P pr n).mt=pr.mt:=λn=>rfl
 simp only[evR,dz,e,e2,spB]
 by_cases hpl:plB pr.mt ops.toList=true
 .simp only[hpl,au]
  cases ajA pr.obj ops with
  | none=>exact⟨fun⟨n,e,s',h,_⟩=>by simp[ay4] at h,λh=>h.elim⟩
  | some p=>exact aH6 ops s (afI Q) p
 simp only[hpl,ah,av]
 by_cases htl:tlB ops.toList=true
 .simp only[htl,au]
  rfl
 simp only[htl,ah,av]
 cases htn:acL pr.obj ops.toList with
 | succ n =>
  simp only[tlQ,show (n+1 == 0)=false from rfl,dK,au,ar,aX]
  constructor
  .rintro⟨m,e,s',⟨t,ht,rfl,rfl⟩,hq⟩
   exact⟨m,t,ht,hq⟩
  .rintro⟨m,t,ht,hq⟩
   exact⟨m,none,t,⟨t,ht,rfl,rfl⟩,hq⟩
 | zero =>
 simp only[tlQ,show (0 == 0)=true from rfl,db,ah,av]
 cases h1:abj ops.toList with
 | true =>
  simp only[bj,au]
  unfold WOB
  simp only[anH,h1,au]
 | false =>
  cases h2:aiU pr.obj ops.toList with
  | true=>simp only[eK,au,ah,av];rfl
  | false=>simp only[ahz,ah,av];rfl
def aPG:Bool->Prop->Prop->Prop
 | true,a,_=>a
 | false,_,b=>b
theorem adB{g:Nat}{es:List (Value×C)}(hg:aH P pr g [] [] ⟨false,[.mp 0],[.map es]⟩)(hc:ew P g=true)(ho:pr.obj g=true)(ops:Array Oper)(d:Option Nat)(tys:Array Nat)(ty:Nat)(po:String)(af:Array Edge)(r:List Oper)(s:S)(Q:Option X->S->Prop) :
  abj (⟨d,.call {callee:=.value (.func g),args:=#[],argTypes:=tys},ty,po,af,none⟩::r)=false->(WS P pr ops (⟨d,.call {callee:=.value (.func g),args:=#[],argTypes:=tys},ty,po,af,none⟩::r) s Q↔WO P pr true ops 1 r ({s with objs:=s.objs++[Ob.map es]}.put d (.mp s.objs.length)) Q):=by
 intro hm
 have hS:∀ n s1,mkS P (enN P pr n) s ⟨d,.call {callee:=.value (.func g),args:=#[],argTypes:=tys},ty,po,af,none⟩=some s1->s1={s with objs:=s.objs++[Ob.map es]}.put d (.mp s.objs.length):=λn s1 h=>by
  unfold mkS at h
  simp only[ar,mkA,hc,au] at h
  obtain⟨es',h1,rfl⟩:=h
  split at h1
  .rename_i es2 h2
   simp only[ab] at h1
   subst h1
   have:=hg.unique ⟨n,h2⟩
   simp only[An.mk.injEq,fO,Ob.map.injEq,aaC,cV] at this
   rw[this]
  .cases h1
 constructor
 .rintro⟨n,e,s',h,hq⟩
  unfold anH at h
  rw[hm,aj aI] at h
  simp only at h
  split at h
  .rename_i s1 h1
   obtain rfl:=hS n s1 h1
   exact⟨n,e,s',h,hq⟩
  .cases h
 .rintro⟨n,e,s',h,hq⟩
  obtain⟨m,hm2⟩:=hg
  refine⟨max n m,e,s',?_,hq⟩
  unfold anH
  rw[hm,aj aI]
  have h1:mkS P (enN P pr (max n m)) s ⟨d,.call {callee:=.value (.func g),args:=#[],argTypes:=tys},ty,po,af,none⟩=some ({s with objs:=s.objs++[Ob.map es]}.put d (.mp s.objs.length)):=by
   refine aqD (abD P pr (aaf n m)) ?_
   unfold mkS mkA
   simp only[hc,au,hm2,aG]
  simp only[h1]
  exact afh (abD P pr (aav n m)) _ _ _ h
theorem aDo(c:Code)(s:S)(Q:Ex->S->Prop):WC P pr (.loop c) s Q↔WC P pr c s (ape P pr (.loop c) Q):=by
 constructor
 .rintro⟨n,e,s',h,hq⟩
  cases n with
  | zero=>simp[evC] at h
  | succ n =>
   rw[agq] at h
   split at h
   .rename_i s1 h1;exact⟨n,.normal,s1,h1,n,e,s',h,hq⟩
   .rename_i hne
    refine⟨n,e,s',h,?_⟩
    cases e with
    | normal=>exact (hne s' h).elim
    | exit i=>exact hq
    | ret=>exact hq
    | pan x=>exact hq
 .rintro⟨n,e,s',h,hq⟩
  cases e with
  | normal =>
   obtain⟨m,e2,s2,h2,hq2⟩:=hq
   refine⟨max n m+1,e2,s2,?_,hq2⟩
   rw[agq]
   simp only[akY (aav n m) h,akY (aaf n m) h2]
  | exit i=>exact⟨n+1,.exit i,s',by rw[agq];simp only[h],hq⟩
  | ret=>exact⟨n+1,.ret,s',by rw[agq];simp only[h],hq⟩
  | pan x=>exact⟨n+1,.pan x,s',by rw[agq];simp only[h],hq⟩
theorem aaj (c:Code) (Q:Ex->S->Prop) (I:Nat->S->Prop) (h:∀ m s,I m s->WC P pr c s (λe s'=>match e with
  | .normal=>∃ m',m'<m/\I m' s'
  | .exit i=>Q (.exit i) s'
  | .ret=>Q .ret s'
  | .pan x=>Q (.pan x) s')):∀ (m:Nat) (s:S),I m s->WC P pr (.loop c) s Q:=by
 intro m
 induction m using Nat.strongRecOn with
 | _ m ih =>
  intro s hs
  rw[aDo]
  obtain⟨n,e,s',h1,hq⟩:=h m s hs
  refine⟨n,e,s',h1,?_⟩
  cases e with
  | normal=>obtain⟨m',hm,hI⟩:=hq;exact ih m' hm s' hI
  | exit i=>exact hq
  | ret=>exact hq
  | pan x=>exact hq
theorem WC.mono{c:Code}{s:S}{Q Q':Ex->S->Prop}(h:WC P pr c s Q)(hq:∀ e s,Q e s->Q' e s):WC P pr c s Q' :=
 let ⟨n,e,s',h1,h2⟩:=h;⟨n,e,s',h1,hq _ _ h2⟩
theorem Z14(dr:Bool)(ops:Array Oper)(k:Nat)(s:S)(Q:Option X->S->Prop):WO P pr dr ops k [] s Q↔Q none s :=
 ⟨fun⟨n,e,s',h,hq⟩=>by simp only[abs,bF] at h;obtain⟨rfl,rfl⟩:=h;exact hq,λh=>⟨0,none,s,rfl,h⟩⟩
theorem Z13(dr:Bool)(ops:Array Oper)(k:Nat)(o:Oper)(l:List Oper)(s:S)(Q:Option X->S->Prop) :
  WO P pr dr ops k (o::l) s Q↔ajE (dM ops s o) (SO P pr dr k o s (apw (λs'=>WO P pr dr ops (k+1) l s' Q) Q)) (WO P pr dr ops (k+1) l (s.put o.dst (.of .undef)) Q):=by
 constructor
 .rintro⟨n,e,s',h,hq⟩
  simp only[abs] at h
  cases hg:dM ops s o with
  | none=>simp[bx,hg] at h
  | some b =>
   cases b with
   | false =>
    simp only[bx,hg] at h
    exact⟨n,e,s',h,hq⟩
   | true =>
    simp only[bx,hg] at h
    split at h
    .rename_i s1 h1;exact⟨n,none,s1,h1,n,e,s',h,hq⟩
    .rename_i x s1 h1
     simp only[bF] at h
     obtain⟨rfl,rfl⟩:=h
     exact⟨n,some x,s1,h1,hq⟩
    .cases h
 .intro h
  cases hg:dM ops s o with
  | none=>rw[hg] at h;exact h.elim
  | some b =>
   rw[hg] at h
   cases b with
   | true =>
    obtain⟨n,e1,s1,h1,h⟩:=h
    cases e1 with
    | none =>
     obtain⟨m,e,s',h2,hq⟩:=h
     refine⟨max n m,e,s',?_,hq⟩
     simp only[abs,bx,hg,ahH (abD P pr (aav n m)) h1]
     exact afh (abD P pr (aaf n m)) _ _ _ h2
    | some x=>exact⟨n,some x,s1,by simp only[abs,bx,hg,h1],h⟩
   | false =>
    obtain⟨n,e,s',h2,hq⟩:=h
    exact⟨n,e,s',by simp only[abs,bx,hg];exact h2,hq⟩
def aMe(Q:Option X->S->Prop):Option X->S->Prop
 | none,s=>Q none s
 | some _,_=>False
def opQ(Q:Oper->Prop):Option Oper->Prop
 | some o=>Q o
 | none=>False
def ldQ(Q:List Nat->Prop):Option (List Nat)->Prop
 | some D=>Q D
 | none=>False
def azI(K:Option X->S->Prop):Option X->S->Prop
 | none,s=>K none s
 | some x,s=>K (some x) (blank s)
theorem a2S(ops:Array Oper)(D:List Nat)(s:S)(K:List Nat->S->Prop):WA P pr ops [] D s K↔K D s :=
 ⟨fun⟨_,D',s',h,hq⟩=>by simp only[evA,bF] at h;obtain⟨rfl,rfl⟩:=h;exact hq,λh=>⟨0,D,s,rfl,h⟩⟩
theorem aWC(ops:Array Oper)(i:Nat)(b:Bool)(l:List (Nat×Bool))(D:List Nat)(s:S)(K:List Nat->S->Prop) :
  WA P pr ops ((i,b)::l) D s K↔opQ (λo=>ldQ (λD1=>ajE (dM ops s o) (SO P pr true i o s (aMe λ_ s'=>WA P pr ops l (D1++D) s' K)) (WA P pr ops l (D1++D) (s.put o.dst (.of .undef)) K)) (ldD s b o.op)) ops[i]?:=by
 constructor
 .rintro⟨n,D',s',h,hq⟩
  simp only[evA] at h
  cases ho:ops[i]? with
  | none=>rw[ho] at h;cases h
  | some o =>
   rw[ho] at h
   simp only[opQ] at h ⊢
   cases hD:ldD s b o.op with
   | none=>rw[hD] at h;cases h
   | some D1 =>
    rw[hD] at h
    simp only[ldQ] at h ⊢
    cases hg:dM ops s o with
    | none=>simp[bx,hg] at h
    | some g =>
     cases g with
     | false =>
      simp only[bx,hg] at h
      exact⟨n,D',s',h,hq⟩
     | true =>
      simp only[bx,hg] at h
      split at h
      .rename_i s1 h1;exact⟨n,none,s1,h1,n,D',s',h,hq⟩
      .cases h
 .intro h
  cases ho:ops[i]? with
  | none=>rw[ho] at h;exact h.elim
  | some o =>
   rw[ho] at h
   simp only[opQ] at h
   cases hD:ldD s b o.op with
   | none=>rw[hD] at h;exact h.elim
   | some D1 =>
    rw[hD] at h
    simp only[ldQ] at h
    cases hg:dM ops s o with
    | none=>rw[hg] at h;exact h.elim
    | some g =>
     rw[hg] at h
     cases g with
     | true =>
      obtain⟨n,e1,s1,h1,h⟩:=h
      cases e1 with
      | none =>
       obtain⟨m,D',s',h2,hq⟩:=h
       refine⟨max n m,D',s',?_,hq⟩
       simp only[evA,ho,hD,bx,hg,ahH (abD P pr (aav n m)) h1]
       exact ahB (abD P pr (aaf n m)) _ _ _ h2
      | some x=>exact h.elim
     | false =>
      obtain⟨n,D',s',h2,hq⟩:=h
      exact⟨n,D',s',by simp only[evA,ho,hD,bx,hg];exact h2,hq⟩
theorem aOX(ops:Array Oper)(D:List Nat)(s:S)(K:Option X->S->Prop):WCl P pr ops D s none K↔K none s :=
 ⟨fun⟨_,e,s',h,hq⟩=>by simp only[ai1,bF] at h;obtain⟨rfl,rfl⟩:=h;exact hq,λh=>⟨0,none,s,rfl,h⟩⟩
theorem aOW(ops:Array Oper)(D:List Nat)(s:S)(c:Nat)(K:Option X->S->Prop):WCl P pr ops D s (some c) K↔opQ (λo=>aoQ pr.obj pr.tk s D o.op=true/\SO P pr false c o s (azI K)) ops[c]?:=by
 constructor
 .rintro⟨n,e,s',h,hq⟩
  simp only[ai1] at h
  cases ho:ops[c]? with
  | none=>rw[ho] at h;cases h
  | some o =>
   rw[ho] at h
   simp only[opQ] at h ⊢
   split at h
   .rename_i hc
    refine⟨hc,?_⟩
    obtain⟨⟨e1,s1⟩,h1⟩:=aqc h
    rw[h1] at h
    refine⟨n,e1,s1,h1,?_⟩
    cases e1 with
    | none=>simp only[aha,bF] at h;obtain⟨rfl,rfl⟩:=h;exact hq
    | some x=>simp only[aha,bF] at h;obtain⟨rfl,rfl⟩:=h;exact hq
   .cases h
 .intro h
  cases ho:ops[c]? with
  | none=>rw[ho] at h;exact h.elim
  | some o =>
   rw[ho] at h
   simp only[opQ] at h
   obtain⟨hc,n,e1,s1,h1,h⟩:=h
   cases e1 with
   | none=>exact⟨n,none,s1,by simp only[ai1,ho];rw[am (show aoQ (enN P pr n).obj (enN P pr n).tk s D o.op=true from hc),h1];rfl,h⟩
   | some x=>exact⟨n,some x,blank s1,by simp only[ai1,ho];rw[am (show aoQ (enN P pr n).obj (enN P pr n).tk s D o.op=true from hc),h1];rfl,h⟩
theorem aOV(ops:Array Oper)(k:Nat)(l:List Oper)(s:S)(Q:Option X->S->Prop):WT P pr false ops k l s Q↔WO P pr false ops k l s Q:=bg
def arM(Q:S->Prop):Option S->Prop
 | some s=>Q s
 | none=>False
theorem aWA(ops:Array Oper)(k:Nat)(a b c:Oper)(l:List Oper)(s:S)(Q:Option X->S->Prop):WT P pr true ops k (a::b::c::l) s Q↔arM (λs'=>WO P pr false ops (k+3) l s' Q) (ang (TT.of P) s k a b c):=by
 unfold WT evT
 simp only
 cases ang (TT.of P) s k a b c with
 | none=>exact Iff.intro (λh=>by obtain⟨_,_,_,h,_⟩:=h;cases h) (λh=>by exact absurd h (by simp[arM]))
 | some s1=>exact bg
theorem aOY(c:Code)(s:S)(Q:Ex->S->Prop):WC P pr (.scope c) s Q↔WC P pr c s Q:=by
 constructor
 .rintro⟨n,e,s',h,hq⟩
  cases n with
  | zero=>simp[evC] at h
  | succ n=>exact⟨n,e,s',by simpa only [evC] using h,hq⟩
 .rintro⟨n,e,s',h,hq⟩
  exact⟨n+1,e,s',by simpa only [evC] using h,hq⟩
theorem aOZ(l:Nat)(s:S)(Q:Ex->S->Prop):WC P pr (.label l) s Q↔Q .normal s:=by
 constructor
 .rintro⟨n,e,s',h,hq⟩
  cases n with
  | zero=>simp[evC] at h
  | succ n=>simp only[evC,bF] at h;obtain⟨rfl,rfl⟩:=h;exact hq
 .intro h;exact⟨1,.normal,s,rfl,h⟩
def aZY:Bool->Prop->Prop
 | true,p=>p
 | false,_=>False
theorem Z12(ops:Array Oper)(k:Nat)(o:Oper)(s:S)(Q:Option X->S->Prop) :
  WOB P pr ops k [o] s Q↔ajE (dM ops s o) (SO P pr false k o s (aMe Q)) (Q none (s.put o.dst (.of .undef))):=by
 constructor
 .rintro⟨n,e,s',h,hq⟩
  simp only[acB] at h
  cases hg:dM ops s o with
  | none=>simp[bx,hg] at h
  | some b =>
   cases b with
   | false =>
    simp only[bx,hg,bF] at h
    obtain⟨rfl,rfl⟩:=h
    exact hq
   | true =>
    simp only[bx,hg] at h
    split at h
    .rename_i s1 h1
     simp only[bF] at h
     obtain⟨rfl,rfl⟩:=h
     exact⟨n,none,s1,h1,hq⟩
    .cases h
 .intro h
  cases hg:dM ops s o with
  | none=>rw[hg] at h;exact h.elim
  | some b =>
   rw[hg] at h
   cases b with
   | true =>
    obtain⟨n,e1,s1,h1,h⟩:=h
    cases e1 with
    | none=>exact⟨n,none,s1,by simp only[acB,bx,hg,h1],h⟩
    | some x=>exact h.elim
   | false=>exact⟨0,none,_,by simp only[acB,bx,hg],h⟩
theorem Z11(ops:Array Oper)(k:Nat)(o o':Oper)(l:List Oper)(s:S)(Q:Option X->S->Prop) :
  WOB P pr ops k (o::o'::l) s Q↔ajE (dM ops s o) (SO P pr true k o s (apw (λs'=>WOB P pr ops (k+1) (o'::l) s' Q) λ_ _=>False)) (WOB P pr ops (k+1) (o'::l) (s.put o.dst (.of .undef)) Q):=by
 constructor
 .rintro⟨n,e,s',h,hq⟩
  simp only[acB] at h
  cases hg:dM ops s o with
  | none=>simp[bx,hg] at h
  | some b =>
   cases b with
   | false =>
    simp only[bx,hg] at h
    exact⟨n,e,s',h,hq⟩
   | true =>
    simp only[bx,hg] at h
    split at h
    .rename_i s1 h1;exact⟨n,none,s1,h1,n,e,s',h,hq⟩
    .cases h
 .intro h
  cases hg:dM ops s o with
  | none=>rw[hg] at h;exact h.elim
  | some b =>
   rw[hg] at h
   cases b with
   | true =>
    obtain⟨n,e1,s1,h1,h⟩:=h
    cases e1 with
    | none =>
     obtain⟨m,e,s',h2,hq⟩:=h
     refine⟨max n m,e,s',?_,hq⟩
     simp only[acB,bx,hg,ahH (abD P pr (aav n m)) h1]
     exact alX (abD P pr (aaf n m)) _ _ _ h2
    | some x=>exact h.elim
   | false =>
    obtain⟨n,e,s',h2,hq⟩:=h
    exact⟨n,e,s',by simp only[acB,bx,hg];exact h2,hq⟩
def acb(Q:S->Prop):Option S->Prop
 | some s=>Q s
 | none=>False
def abd(s:S)(d:Option Nat)(af:Array Edge)(K:S->Prop):Out->Prop
 | none=>False
 | some (x,none)=>K (s.put d x)
 | some (x,some t)=>aau s.clk af.toList (some t)=true/\K ((s.drop (some t)).put d x)
theorem aak{dr:Bool}{k:Nat}{o:Oper}{s:S}{Q:Option X->S->Prop}(v:Out)(hst:∀ n,abm P (TT.of P) (enN P pr n) dr s k o=fh P (TT.of P) (enN P pr n) s k o)(h:∀ n,val P (TT.of P) (enN P pr n) s k o=v):SO P pr dr k o s Q↔abd s (dF o) o.after (Q none) v:=by
 constructor
 .rintro⟨n,e,s',h1,hq⟩
  rw[hst,fh,h n] at h1
  split at h1
  .rename_i x t
   split at h1
   .rename_i hok
    simp only[bF] at h1
    obtain⟨rfl,rfl⟩:=h1
    cases t with
    | none=>exact hq
    | some t=>exact⟨hok,hq⟩
   .cases h1
  .cases h1
 .intro hv
  match v,h,hv with
  | some (x,none),h,hv=>exact⟨0,none,_,by rw[hst,fh,h 0];simp only[aau,au];rfl,hv⟩
  | some (x,some t),h,hv=>exact⟨0,none,_,by rw[hst,fh,h 0];simp only[hv.1,au],hv.2⟩
section
variable (dr:Bool) (k:Nat) (d:Option Nat) (ty:Nat) (po:String) (af:Array Edge) (g:Option (Nat×Bool)) (s:S) (Q:Option X->S->Prop)
theorem Zm(x:Operand):SO P pr dr k ⟨d,.move x,ty,po,af,g⟩ s Q↔Q none (s.put d (s.ev x)):=aak (out (s.ev x)) (λ_=>by cases dr <;> rfl) λ_=>rfl
theorem Z2(x:Operand):SO P pr dr k ⟨d,.assign x,ty,po,af,g⟩ s Q↔Q none (s.put d (s.ev x)):=aak (out (s.ev x)) (λ_=>by cases dr <;> rfl) λ_=>rfl
def aEt(s:S)(a b:Operand):Option Bool->Out
 | some b'=>out (if b' then s.ev a else s.ev b)
 | none=>none
theorem Zp(c a b:Operand):SO P pr dr k ⟨d,.pick c a b,ty,po,af,g⟩ s Q↔abd s d af (Q none) (aEt s a b (adF (s.ev c))) :=
 aak _ (λ_=>by cases dr <;> rfl) λ_=>by simp only[val,aEt];cases adF (s.ev c) <;> rfl
theorem Z3(op:BinOp)(t:Nat)(x y:Operand)(yt:Nat):SO P pr dr k ⟨d,.binOp op t x y yt,ty,po,af,g⟩ s Q↔abd s d af (Q none) (fE P (TT.of P) t ((TT.of P t).map (·.und)) op (s.ev x) (s.ev y)) :=
 aak _ (λ_=>by cases dr <;> rfl) λ_=>rfl
def unX(op:UnOp):X->Out
 | .of (.lit a)=>bJ ((arn op a).map λv=>.of (.lit v))
 | _=>none
theorem Zs(op:UnOp)(t:Nat)(x:Operand):SO P pr dr k ⟨d,.unOp op t x,ty,po,af,g⟩ s Q↔abd s d af (Q none) (unX op (s.ev x)):=aak _ (λ_=>by cases dr <;> rfl) λ_=>rfl
theorem Zg(t:Nat)(a:Operand):SO P pr dr k ⟨d,.load t a,ty,po,af,g⟩ s Q↔abd s d af (Q none) (abI (TT.of P) s.objs t (s.ev a)):=aak _ (λ_=>by cases dr <;> rfl) λ_=>rfl
theorem Zc(t:Nat)(x:Operand)(f:Nat):SO P pr dr k ⟨d,.fieldAddr t x f,ty,po,af,g⟩ s Q↔abd s d af (Q none) (fP (TT.of P) t f (s.ev x)):=aak _ (λ_=>by cases dr <;> rfl) λ_=>rfl
theorem Zb(t:Nat)(x:Operand)(f:Nat):SO P pr dr k ⟨d,.field t x f,ty,po,af,g⟩ s Q↔abd s d af (Q none) (ago (TT.of P) t f (s.ev x)):=aak _ (λ_=>by cases dr <;> rfl) λ_=>rfl
theorem Ze(t:Nat)(x i:Operand):SO P pr dr k ⟨d,.indexAddr t x i,ty,po,af,g⟩ s Q↔abd s d af (Q none) (bP (TT.of P) t (s.ev x) (s.ev i)):=aak _ (λ_=>by cases dr <;> rfl) λ_=>rfl
theorem Zd(t:Nat)(x i:Operand):SO P pr dr k ⟨d,.index t x i,ty,po,af,g⟩ s Q↔abd s d af (Q none) (agm (TT.of P) t (s.ev x) (s.ev i)):=aak _ (λ_=>by cases dr <;> rfl) λ_=>rfl
theorem Zq(t:Nat)(x lo:Operand)(hi:Option Operand):SO P pr dr k ⟨d,.slice t x (some lo) hi none,ty,po,af,g⟩ s Q↔abd s d af (Q none) (acA (TT.of P) t (s.ev x) (some (s.ev lo)) (hi.map s.ev)):=aak _ (λ_=>by cases dr <;> rfl) λ_=>rfl
def aqn(A:Prop)(B:Nat->Nat->Nat->Option S)(Q:S->Prop):X->Prop
 | .top r e z=>acb Q (B r e z)
 | _=>A
def atq(dr:Bool)(A B:Prop):Prop:=match dr with
 | true=>A
 | false=>B
theorem aKD(t:Nat)(x:Operand)(hi:Option Operand):SO P pr dr k ⟨d,.slice t x none hi none,ty,po,af,g⟩ s Q↔atq dr (abd s d af (Q none) (acA (TT.of P) t (s.ev x) none (hi.map s.ev))) (aqn (abd s d af (Q none) (acA (TT.of P) t (s.ev x) none (hi.map s.ev))) (λr e z=>aqu (TT.of P) s k d t r e z (elemOf (TT.of P) t) (hiX (hi.map s.ev))) (Q none) (s.ev x)):=by
 cases dr with
 | true=>exact aak _ (λ_=>rfl) λ_=>rfl
 | false =>
  have hx:(∃ r e z,s.ev x=.top r e z)\/∀ A B Q,aqn A B Q (s.ev x)=A:=by
   cases s.ev x with
   | top r e z=>exact .inl ⟨r,e,z,rfl⟩
   | _=>exact .inr λ_ _ _=>rfl
  rcases hx with ⟨r,e,z,hx⟩|hx
  .simp only[atq,hx,aqn]
   have hst:∀ n,abm P (TT.of P) (enN P pr n) false s k ⟨d,.slice t x none hi none,ty,po,af,g⟩=(aqu (TT.of P) s k d t r e z (elemOf (TT.of P) t) (hiX (hi.map s.ev))).map λs=>(none,s):=λn=>by
    unfold abm
    simp only[ah,av,hx]
   cases hp:aqu (TT.of P) s k d t r e z (elemOf (TT.of P) t) (hiX (hi.map s.ev)) with
   | none =>
    refine⟨fun⟨n,e',s',h,_⟩=>?_,λh=>h.elim⟩
    rw[hst n,hp] at h
    cases h
   | some s1 =>
    refine⟨fun⟨n,e',s',h,hq⟩=>?_,λh=>⟨0,none,s1,by rw[hst 0,hp];rfl,h⟩⟩
    rw[hst n,hp] at h
    simp only[aG,bF] at h
    obtain⟨rfl,rfl⟩:=h
    exact hq
  .simp only[atq]
   rw[hx]
   refine aak _ (λn=>?_) λ_=>rfl
   unfold abm
   simp only[ah,av]
   split
   .rename_i r e z h
    have:=hx False (λ_ _ _=>none) (λ_=>True)
    rw[h] at this
    have h2:=hx True (λ_ _ _=>none) (λ_=>True)
    rw[h] at h2
    simp[aqn,acb] at h2
   .rfl
theorem Z9(a b:Nat)(x:Operand):SO P pr dr k ⟨d,.convert a b x,ty,po,af,g⟩ s Q↔abd s d af (Q none) (adU (TT.of P) a b (s.ev x)):=aak _ (λ_=>by cases dr <;> rfl) λ_=>rfl
def anG(i:Nat):X->Out
 | .tup xs=>bJ (xs[i]?)
 | .of (.tup cs)=>bJ ((cs[i]?).map .of)
 | _=>none
theorem Za(x:Operand)(i:Nat):SO P pr dr k ⟨d,.extract x i,ty,po,af,g⟩ s Q↔abd s d af (Q none) (anG i (s.ev x)):=aak _ (λ_=>by cases dr <;> rfl) λ_=>rfl
def aZi:X->Out
 | .ptr r off=>out (.ptr r off)
 | .of (.ref cs)=>out (.of (.ref cs))
 | _=>none
theorem Zn(x:Operand):SO P pr dr k ⟨d,.nilCheck x,ty,po,af,g⟩ s Q↔abd s d af (Q none) (aZi (s.ev x)):=aak _ (λ_=>by cases dr <;> rfl) λ_=>rfl
def fnX(f:Nat)(xs:List X):Option (List C)->Out
 | some cs=>out (.of (.fn f cs))
 | none=>anM (2*f) (acT xs)
theorem aKE(f:Nat)(x:Operand)(l:List Operand):SO P pr dr k ⟨d,.makeFunc (.func f) (x::l).toArray #[],ty,po,af,g⟩ s Q↔abd s d af (Q none) (anM (2*f+1) (acT ((x::l).map s.ev))):=aak _ (λ_=>by cases dr <;> rfl) λ_=>by simp[val]
theorem Zi(f:Nat)(caps:Array Operand):SO P pr dr k ⟨d,.makeFunc (.func f) #[] caps,ty,po,af,g⟩ s Q↔abd s d af (Q none) (fnX f (caps.toList.map s.ev) (abF s.ev caps.toList)):=aak _ (λ_=>by cases dr <;> rfl) λ_=>rfl
def azD(P:Program)(t:Nat):Option TD->Option (List (Nat×List X))->Out
 | some d,some qs=>match d.und with
  | .struct _=>bJ ((aax (λi=>d.fields[i]?) (fw d) qs).map .agg)
  | .array _ e=>match TT.of P e with
   | some de=>bJ ((aax (λi=>some (i*de.size,de.size)) (fw d) qs).map .agg)
   | none=>none
  | _=>none
 | _,_=>none
theorem Z5(t:Nat)(ps:Array (Nat×Operand)):SO P pr dr k ⟨d,.build t ps,ty,po,af,g⟩ s Q↔abd s d af (Q none) (azD P t (TT.of P t) (aad s.ev ps.toList)) :=
 aak _ (λ_=>by cases dr <;> rfl) λ_=>by simp only[val,azD];cases TT.of P t <;> cases aad s.ev ps.toList <;> rfl
def cy(t:Tk)(n:Nat):Option (Nat×TD)->Option (List (Nat×List X))->Out
 | some (e,d),some qs =>
  if n*d.size<=16777216/\0<d.size/\d.zero.length=d.size then match aax (λi=>some (i*d.size,d.size)) ((List.replicate n (fw d)).flatten) qs with
   | some xs=>match X.rds xs with
    | some cs=>out (.own t e d.size cs n)
    | none=>none
   | none=>none
  else none
 | _,_=>none
theorem Z6(t n:Nat)(ps:Array (Nat×Operand)):SO P pr dr k ⟨d,.buildSlice t n ps,ty,po,af,g⟩ s Q↔abd s d af (Q none) (cy (.nm s.clk k 0) n (elemOf (TT.of P) t) (aad s.ev ps.toList)) :=
 aak _ (λ_=>by cases dr <;> rfl) λ_=>by simp only[val,cy];cases elemOf (TT.of P) t <;> cases aad s.ev ps.toList <;> rfl
theorem Zf(x:Operand)(t:Nat):SO P pr dr k ⟨d,.call {callee:=.builtin .len,args:=#[x],argTypes:=#[t]},ty,po,af,g⟩ s Q↔abd s d af (Q none) (aah ((TT.of P t).map (·.und)) (s.ev x)):=aak _ (λ_=>by cases dr <;> rfl) λ_=>rfl
theorem Zl(a b:Operand)(ts:Array Nat):SO P pr dr k ⟨d,.call {callee:=.builtin .min,args:=#[a,b],argTypes:=ts},ty,po,af,g⟩ s Q↔abd s d af (Q none) (aqE (s.ev a) (s.ev b)):=aak _ (λ_=>by cases dr <;> rfl) λ_=>rfl
theorem a3c(a b:Operand)(ts:Array Nat):SO P pr dr k ⟨d,.call {callee:=.builtin .max,args:=#[a,b],argTypes:=ts},ty,po,af,g⟩ s Q↔abd s d af (Q none) (aqF (s.ev a) (s.ev b)):=aak _ (λ_=>by cases dr <;> rfl) λ_=>rfl
theorem Z1(a b:Operand)(st xt:Nat):SO P pr dr k ⟨d,.call {callee:=.builtin .append,args:=#[a,b],argTypes:=#[st,xt]},ty,po,af,g⟩ s Q↔abd s d af (Q none) (dV (TT.of P) (.nm s.clk k 0) st xt (s.ev a) (s.ev b)):=aak _ (λ_=>by cases dr <;> rfl) λ_=>rfl
def aZP(t:Nat):Bool->Option C->Out
 | true,some c=>out (.of (.ifc t c))
 | _,_=>none
theorem Zj(t:Nat)(x:Operand):SO P pr dr k ⟨d,.makeInterface t x,ty,po,af,g⟩ s Q↔abd s d af (Q none) (aZP t (anB ((TT.of P t).map (·.und))) (s.ev x).rd) :=
 aak _ (λ_=>by cases dr <;> rfl) λ_=>by simp only[val,aZP];cases anB ((TT.of P t).map (·.und)) <;> cases (s.ev x).rd <;> rfl
theorem ahl(x:Operand)(xt u:Nat)(ok:Bool):SO P pr dr k ⟨d,.typeAssert x xt u ok,ty,po,af,g⟩ s Q↔abd s d af (Q none) (asX (TT.of P) u (s.ev x) ok):=aak _ (λ_=>by cases dr <;> rfl) λ_=>rfl
def axZ(s:S)(k:Nat)(d:Option Nat)(Q:Option X->S->Prop):An->Prop
 | ⟨false,rs,[]⟩=>Q none (s.put d (afJ (aig s.clk k rs)))
 | _=>False
def ami(P:Program)(pr:Pr)(s:S)(k:Nat)(d:Option Nat)(Q:Option X->S->Prop)(f:Nat)(caps:List C):Option (List C)->Prop
 | some cs=>ew P f=true/\abl P pr f ((cs++caps).map .of) [] (axZ s k d Q)
 | none=>False
def a92(Q:Option X->S->Prop):Option (Option X×S)->Prop
 | some (e,s)=>Q e s
 | none=>False
def alJ(s:S)(k:Nat)(d:Option Nat)(refs:List Nat)(ts:List Tk)(Q:Option X->S->Prop)(an:An):Prop:=a92 Q (af3 s k d refs ts an)
def arS(P:Program)(pr:Pr)(s:S)(k:Nat)(d:Option Nat)(refs:List Nat)(ts:List Tk)(Q:Option X->S->Prop)(f:Nat)(us:List X):Option (List Ob)->Prop
 | some obs=>ew P f=true/\abl P pr f (X.trs (pos refs) (fM refs ts) us) obs (alJ s k d refs ts Q)
 | none=>False
def aie(P:Program)(pr:Pr)(s:S)(k:Nat)(d:Option Nat)(Q:Option X->S->Prop)(f:Nat)(us:List X)(refs:List Nat)(ts:List Tk):Prop :=
 arS P pr s k d refs ts Q f us (akJ (agF s.objs refs) (aaB (pos refs) (fM refs ts) (afv ts s.objs) refs))
def ahe(b:Bool)(us:List X):List Tk:=match b with
 | true=>nub (X.toksL us) []
 | false=>[]
def akp(P:Program)(pr:Pr)(dr:Bool)(s:S)(k:Nat)(d:Option Nat)(Q:Option X->S->Prop)(f:Nat)(us:List X)(caps:List C)(cs:Option (List C)):Bool->Prop
 | true=>dr=false/\aie P pr s k d Q f us (dW s.objs 999 (X.refsL us) []) (ahe (pr.tk f) us)
 | false=>ami P pr s k d Q f caps cs
def aiy(P:Program)(pr:Pr)(dr:Bool)(s:S)(k:Nat)(d:Option Nat)(Q:Option X->S->Prop)(args:List X)(cs:Option (List C)):X->Prop
 | .of (.fn f caps)=>akp P pr dr s k d Q f (args++caps.map .of) caps cs (pr.obj f)
 | .clo f caps=>pr.obj (aiw f)=true/\dr=false/\aie P pr s k d Q (aiw f) (akZ f caps args) (dW s.objs 999 (X.refsL (akZ f caps args)) []) (ahe (pr.tk (aiw f)) (akZ f caps args))
 | _=>False
theorem azA(n:Nat)(f:Nat)(us:List X):(∃ e s',callS P (enN P pr n) s k d f us=some (e,s')/\Q e s')->aie P pr s k d Q f us (dW s.objs 999 (X.refsL us) []) (ahe (pr.tk f) us):=by
 rintro⟨e,s',h,hq⟩
 unfold callS at h
 split at h
 rotate_left
 .cases h
 rename_i hc
 simp only at h
 have ht:(if (enN P pr n).tk f=true then nub (X.toksL us) [] else [])=ahe (pr.tk f) us:=by
  show (if pr.tk f=true then _ else _)=_
  cases pr.tk f <;> rfl
 rw[ht] at h
 unfold aie
 split at h
 .rename_i obs hobs
  rw[hobs]
  split at h
  .rename_i an han
   refine⟨hc,an,⟨n,han⟩,?_⟩
   unfold alJ
   rw[h]
   exact hq
  .cases h
 .cases h
theorem azz(f:Nat)(us:List X)(h:aie P pr s k d Q f us (dW s.objs 999 (X.refsL us) []) (ahe (pr.tk f) us)):∃ n e s',callS P (enN P pr n) s k d f us=some (e,s')/\Q e s':=by
 unfold aie at h
 cases hobs:akJ (agF s.objs (dW s.objs 999 (X.refsL us) [])) (aaB (pos (dW s.objs 999 (X.refsL us) [])) (fM (dW s.objs 999 (X.refsL us) []) (ahe (pr.tk f) us)) (afv (ahe (pr.tk f) us) s.objs) (dW s.objs 999 (X.refsL us) [])) with
 | none=>rw[hobs] at h;exact h.elim
 | some obs =>
  rw[hobs] at h
  obtain⟨hc,an,⟨n,han⟩,hb⟩:=h
  unfold alJ at hb
  cases hbs:af3 s k d (dW s.objs 999 (X.refsL us) []) (ahe (pr.tk f) us) an with
  | none=>rw[hbs] at hb;exact hb.elim
  | some p =>
   obtain⟨e,s'⟩:=p
   rw[hbs] at hb
   refine⟨n,e,s',?_,hb⟩
   unfold callS
   rw[am hc]
   have ht:(if (enN P pr n).tk f=true then nub (X.toksL us) [] else [])=ahe (pr.tk f) us:=by
    show (if pr.tk f=true then _ else _)=_
    cases pr.tk f <;> rfl
   simp only[ht,hobs,han,hbs]
theorem aj5(n:Nat)(f:Operand)(args:Array Operand)(tys:Array Nat):fh P (TT.of P) (enN P pr n) s k ⟨d,.call {callee:=.value f,args:=args,argTypes:=tys},ty,po,af,g⟩=match s.ev f,abF s.ev args.toList with
  | .of (.fn f caps),some cs=>(match af1 P (enN P pr n) s.clk k f (cs++caps) with
   | some (x,t)=>if aau s.clk af.toList t=true then some (none,(s.drop t).put d x) else none
   | none=>none)
  | _,_=>none:=by
 have e:dF ⟨d,.call {callee:=.value f,args:=args,argTypes:=tys},ty,po,af,g⟩=d:=rfl
 simp only[fh,val,afx,e]
 split <;> rename_i h <;> split at h <;> simp_all
theorem aH9(f:Operand)(fn:Nat)(caps:List C)(args:Array Operand)(tys:Array Nat)(hf:s.ev f=.of (.fn fn caps))(ho:pr.obj fn=false) :
  (∃ n e s',fh P (TT.of P) (enN P pr n) s k ⟨d,.call {callee:=.value f,args:=args,argTypes:=tys},ty,po,af,g⟩=some (e,s')/\Q e s')↔ami P pr s k d Q fn caps (abF s.ev args.toList):=by
 constructor
 .rintro⟨n,e,s',h,hq⟩
  rw[aj5,hf] at h
  cases hr:abF s.ev args.toList with
  | none=>rw[hr] at h;cases h
  | some cs =>
   rw[hr] at h
   simp only at h
   split at h
   .rename_i x t hx
    unfold af1 at hx
    split at hx
    .rename_i hc
     simp only[ap] at hc
     split at hx
     .rename_i rs hor
      obtain⟨rfl,rfl⟩:=eC hx
      simp only[aau,au,bF] at h
      obtain⟨rfl,rfl⟩:=h
      exact⟨hc.1,_,⟨n,hor⟩,hq⟩
     .cases hx
    .cases hx
   .cases h
 .intro h
  cases hr:abF s.ev args.toList with
  | none=>rw[hr] at h;exact h.elim
  | some cs =>
   rw[hr] at h
   obtain⟨hc,an,⟨n,hor⟩,hk⟩:=h
   match an,hor,hk with
   | ⟨false,rs,[]⟩,hor,hk =>
    refine⟨n,none,_,?_,hk⟩
    rw[aj5,hf,hr]
    have:af1 P (enN P pr n) s.clk k fn (cs++caps)=out (afJ (aig s.clk k rs)):=by
     unfold af1
     have ho':(enN P pr n).obj fn=false:=ho
     rw[am (by simp[hc,ho']),hor]
    simp only[this,out,aau,au]
    rfl
theorem az1(f:Operand)(args:Array Operand)(tys:Array Nat):SO P pr dr k ⟨d,.call {callee:=.value f,args:=args,argTypes:=tys},ty,po,af,g⟩ s Q ↔
  aiy P pr dr s k d Q (args.toList.map s.ev) (abF s.ev args.toList) (s.ev f):=by
 have hst:∀ n,abm P (TT.of P) (enN P pr n) dr s k ⟨d,.call {callee:=.value f,args:=args,argTypes:=tys},ty,po,af,g⟩=if dr=true then fh P (TT.of P) (enN P pr n) s k ⟨d,.call {callee:=.value f,args:=args,argTypes:=tys},ty,po,af,g⟩ else
   match ad4 s (.value f) args.toList with
   | some (g',us)=>if pr.obj g'=true then callS P (enN P pr n) s k d g' us else fh P (TT.of P) (enN P pr n) s k ⟨d,.call {callee:=.value f,args:=args,argTypes:=tys},ty,po,af,g⟩
   | none=>none:=λn=>by
  unfold abm
  rfl
 have hV:∀ (x:X),s.ev f=x->(∀ fn caps,x≠.of (.fn fn caps))->∀ n,fh P (TT.of P) (enN P pr n) s k ⟨d,.call {callee:=.value f,args:=args,argTypes:=tys},ty,po,af,g⟩=none:=λx hx hne n=>by
  rw[aj5,hx]
  split
  .rename_i h;exact (hne _ _ rfl).elim
  .rfl
 unfold SO
 simp only[hst]
 cases hf:s.ev f with
 | of c =>
  cases c with
  | fn fn caps =>
   simp only[aiy,ad4,hf]
   cases ho:pr.obj fn with
   | true =>
    simp only[akp]
    cases dr with
    | true =>
     simp only[au,acQ,fH,afs]
     rintro⟨n,e,s',h,_⟩
     rw[aj5,hf] at h
     cases hr:abF s.ev args.toList with
     | none=>rw[hr] at h;cases h
     | some cs =>
      rw[hr] at h
      have:af1 P (enN P pr n) s.clk k fn (cs++caps)=none:=by
       unfold af1
       have ho':(enN P pr n).obj fn=true:=ho
       rw[aj (by simp[ho'])]
      simp[this] at h
    | false =>
     simp only[ah,av,au,cV]
     constructor
     .rintro⟨n,e,s',h,hq⟩;exact azA k d s Q n fn _ ⟨e,s',h,hq⟩
     .intro h;exact azz k d s Q fn _ h
   | false =>
    simp only[akp]
    rw[← aH9 k d ty po af g s Q f fn caps args tys hf ho]
    cases dr with
    | true=>simp only[au]
    | false=>simp only[ah,av]
  | _ =>
   simp only[aiy,afs]
   rintro⟨n,e,s',h,_⟩
   rw[hV _ hf (λ_ _ e=>by cases e) n] at h
   simp[ad4,hf] at h
 | clo fn caps =>
  simp only[aiy,ad4,hf]
  have hn:=hV _ hf (λ_ _ e=>by cases e)
  cases dr with
  | true =>
   simp only[au,acQ,fH,cS,afs]
   rintro⟨n,e,s',h,_⟩
   rw[hn] at h
   cases h
  | false =>
   simp only[ah,av,cV]
   cases ho:pr.obj (aiw fn) with
   | true =>
    simp only[au,cV]
    constructor
    .rintro⟨n,e,s',h,hq⟩;exact azA k d s Q n (aiw fn) _ ⟨e,s',h,hq⟩
    .intro h;exact azz k d s Q (aiw fn) _ h
   | false =>
    simp only[ah,av,fH,afs]
    rintro⟨n,e,s',h,_⟩
    rw[hn] at h
    cases h
 | _ =>
  simp only[aiy,afs]
  rintro⟨n,e,s',h,_⟩
  rw[hV _ hf (λ_ _ e=>by cases e) n] at h
  simp[ad4,hf] at h
theorem Z7(f:Nat)(args:Array Operand)(tys:Array Nat):SO P pr dr k ⟨d,.call {callee:=.value (.func f),args:=args,argTypes:=tys},ty,po,af,g⟩ s Q ↔
  akp P pr dr s k d Q f (args.toList.map s.ev) [] (abF s.ev args.toList) (pr.obj f):=by
 rw[az1]
 simp only[S.ev,aiy,bq,df]
theorem Z8(t:Nat)(args:Array Operand)(tys:Array Nat):SO P pr dr k ⟨d,.call {callee:=.value (.tmp t),args:=args,argTypes:=tys},ty,po,af,g⟩ s Q ↔
  aiy P pr dr s k d Q (args.toList.map s.ev) (abF s.ev args.toList) (s.fr t):=az1 dr k d ty po af g s Q (.tmp t) args tys
theorem Zh(t:Nat)(x i:Operand)(ok:Bool):SO P pr dr k ⟨d,.lookup t x i ok,ty,po,af,g⟩ s Q↔abd s d af (Q none) (aeH (TT.of P) s.objs t (s.ev x) (s.ev i) ok):=aak _ (λ_=>by cases dr <;> rfl) λ_=>rfl
theorem akB{o:Oper}(v:Option S)(h:∀ n,abm P (TT.of P) (enN P pr n) false s k o=v.map λs=>(none,s)):SO P pr false k o s Q↔acb (Q none) v:=by
 unfold SO
 simp only[h]
 cases v with
 | none=>simp[acb]
 | some s' =>
  constructor
  .rintro⟨n,e,s1,h1,h2⟩
   simp only[aG,bF] at h1
   obtain⟨rfl,rfl⟩:=h1
   exact h2
  .intro h1
   exact⟨0,none,s',rfl,h1⟩
def asV(s:S)(d:Option Nat)(ty:Nat):Option (List X)->Option S
 | some xs=>some (amM s d ty xs)
 | none=>none
def mtQ(b:Bool)(p q:Prop):Prop:=match b with
 | true=>p
 | false=>q
def nwX(tk:Tk)(t:Nat):Option TD->Out
 | some d=>if 0<d.size then out (.nw (some tk) t d.size) else none
 | none=>none
theorem aKG(t:Nat):SO P pr true k ⟨d,.alloc t,ty,po,af,g⟩ s Q↔abd s d af (Q none) (nwX (.nm s.clk k 0) t (TT.of P t)):=aak _ (λ_=>rfl) λ_=>by
 simp only[val]
 cases TT.of P t <;> rfl
theorem Z0(t:Nat):SO P pr false k ⟨d,.alloc t,ty,po,af,g⟩ s Q↔mtQ (pr.mt po d) (acb (Q none) (asV s d t ((TT.of P t).map fw))) (abd s d af (Q none) (nwX (.nm s.clk k 0) t (TT.of P t))):=by
 have e:∀ n,(enN P pr n).mt=pr.mt:=λ_=>rfl
 cases hm:pr.mt po d with
 | true =>
  refine akB k s Q _ λn=>?_
  simp only[abm,ah,av,e,hm,au]
  cases TT.of P t <;> rfl
 | false =>
  refine aak _ (λn=>?_) λ_=>?_
  .simp only[abm,ah,av,e,hm]
  .simp only[val]
   cases TT.of P t <;> rfl
def aGw:Option TD->Option (List X)->Option (List X)
 | some d,some xs=>if xs.length=d.size then some xs else none
 | _,_=>none
def aGv(s:S)(d:Option Nat):Option TD->Option (List C)->Option S
 | some td,some cs=>if cs.length=td.size/\0<td.size then some (s.put d (.of (.ref cs))) else none
 | _,_=>none
theorem Z4(t:Nat)(x:Operand):SO P pr false k ⟨d,.box t x,ty,po,af,g⟩ s Q↔mtQ (pr.mt po d) (acb (Q none) (asV s d t (aGw (TT.of P t) (cE (s.ev x))))) (acb (Q none) (aGv s d (TT.of P t) (eA (s.ev x)))):=by
 have e:∀ n,(enN P pr n).mt=pr.mt:=λ_=>rfl
 cases hm:pr.mt po d with
 | true =>
  refine akB k s Q _ λn=>?_
  simp only[abm,ah,av,e,hm,au]
  cases TT.of P t with
  | none=>rfl
  | some td =>
   cases cE (s.ev x) with
   | none=>rfl
   | some xs=>simp only[aGw];split <;> rfl
 | false =>
  refine akB k s Q _ λn=>?_
  simp only[abm,ah,av,e,hm]
  cases TT.of P t with
  | none=>rfl
  | some td =>
   cases eA (s.ev x) with
   | none=>rfl
   | some xs=>simp only[aGv];split <;> rfl
def aoc(s:S)(d:Option Nat):Option TD->X->Option (List X)->Option S
 | some td,.ptr r off,some xs=>af9 s d td.size r off xs
 | _,_,_=>none
def awI(s:S)(j t:Nat)(tk:Tk)(ty z:Nat)(af:Array Edge):Option TD->Option (List X)->Option S
 | some d,some xs=>if ty=t/\z=d.size/\xs.length=z/\aau s.clk af.toList (some tk)=true then some (apz (s.drop (some tk)) j t (X.drops tk xs)) else none
 | _,_=>none
def axR(s:S)(j t:Nat)(tk:Tk)(ty z:Nat)(af:Array Edge):Option TD->Option (List C)->Option S
 | some d,some cs=>if ty=t/\z=d.size/\cs.length=z/\aau s.clk af.toList (some tk)=true then some ((s.drop (some tk)).put (some j) (.of (.ref cs))) else none
 | _,_=>none
def stO(dr mt:Bool)(s:S)(j t:Nat)(af:Array Edge)(td:Option TD)(xs:Option (List X))(cs:Option (List C)):X->Option S
 | .nw (some tk) ty z=>match dr,mt with
  | false,true=>awI s j t tk ty z af td xs
  | _,_=>axR s j t tk ty z af td cs
 | ax=>match dr with
  | false=>aoc s none td ax xs
  | true=>none
theorem apU(E:En)(t j:Nat)(x:Operand):fh P (TT.of P) E s k ⟨none,.store t (.tmp j) x,ty,po,af,none⟩=(match s.fr j with
  | .nw (some tk) ty z=>axR s j t tk ty z af (TT.of P t) (eA (s.ev x))
  | _=>none).map λs=>(none,s):=by
 unfold fh val
 simp only
 cases hf:s.fr j with
 | nw o ty' z =>
  cases o with
  | none =>
   simp only
   cases TT.of P t <;> cases eA (s.ev x) <;> rfl
  | some tk =>
   cases TT.of P t with
   | none=>rfl
   | some td =>
    cases eA (s.ev x) with
    | none=>rfl
    | some cs =>
     simp only[axR]
     by_cases h1:ty'=t/\z=td.size/\cs.length=z
     .rw[am h1]
      by_cases h2:aau s.clk af.toList (some tk)=true
      .simp only[h2,au]
       rw[am ⟨h1.1,h1.2.1,h1.2.2,trivial⟩]
       rfl
      .have h3:aau s.clk af.toList (some tk)=false:=by simpa using h2
       simp only[h3]
       rw[aj (λh=>by cases h),aj (λh=>by cases h.2.2.2)]
       rfl
     .rw[aj h1,aj (λh=>h1 ⟨h.1,h.2.1,h.2.2.1⟩)]
      rfl
 | _ =>
  simp only
  cases TT.of P t <;> cases eA (s.ev x) <;> rfl
theorem Zr(t j:Nat)(x:Operand):SO P pr dr k ⟨none,.store t (.tmp j) x,ty,po,af,none⟩ s Q↔acb (Q none) (stO dr (pr.mt po (some j)) s j t af (TT.of P t) (cE (s.ev x)) (eA (s.ev x)) (s.fr j)):=by
 have e:∀ n,(enN P pr n).mt=pr.mt:=λ_=>rfl
 have key:∀ n,abm P (TT.of P) (enN P pr n) dr s k ⟨none,.store t (.tmp j) x,ty,po,af,none⟩=(stO dr (pr.mt po (some j)) s j t af (TT.of P t) (cE (s.ev x)) (eA (s.ev x)) (s.fr j)).map λs=>(none,s):=λn=>by
  cases dr with
  | true =>
   show fh _ _ _ _ _ _=_
   rw[apU]
   cases s.fr j with
   | nw o ty' z=>cases o <;> rfl
   | _=>rfl
  | false =>
   unfold abm
   have ej:s.ev (.tmp j)=s.fr j:=rfl
   simp only[ah,av,e,dF,ej]
   cases hf:s.fr j with
   | nw o ty' z =>
    cases o with
    | none =>
     simp only[stO,aoc]
     cases TT.of P t <;> (try rfl)
    | some tk =>
     simp only[stO]
     cases hm:pr.mt po (some j) with
     | true =>
      simp only[au,awI]
      cases TT.of P t with
      | none=>rfl
      | some td =>
       cases cE (s.ev x) with
       | none=>rfl
       | some xs =>
        simp only[aaC]
        split <;> rfl
     | false =>
      simp only[ah,av]
      rw[apU,hf]
   | _ =>
    simp only[stO,aoc]
    cases TT.of P t with
    | none=>rfl
    | some td=>cases cE (s.ev x) <;> rfl
 unfold SO
 simp only[key]
 generalize stO dr (pr.mt po (some j)) s j t af (TT.of P t) (cE (s.ev x)) (eA (s.ev x)) (s.fr j)=v
 cases v with
 | none=>simp[acb]
 | some s' =>
  constructor
  .rintro⟨n,e,s1,h1,h2⟩
   simp only[aG,bF] at h1
   obtain⟨rfl,rfl⟩:=h1
   exact h2
  .intro h1
   exact⟨0,none,s',rfl,h1⟩
theorem Zk(t:Nat):SO P pr false k ⟨d,.makeMap t none,ty,po,af,g⟩ s Q↔Q none ({s with objs:=s.objs++[Ob.map []]}.put d (.mp s.objs.length)) :=
 akB k s Q (some _) λn=>rfl
def apt:Option Ob->Option (List (Value×C))
 | some (.map es)=>some es
 | _=>none
def atF(kind:TypeDesc)(kv:Option Value)(c:Option C)(es:Option (List (Value×C))):Option (List (Value×C)):=match kv,c,es with
 | some kv,some c,some es=>anf kind kv c es
 | _,_,_=>none
def aDQ(s:S)(d:Option Nat)(x:X)(r:Nat):Option (List (Value×C))->Option S
 | some es=>some ({s with objs:=s.objs.set r (Ob.map es)}.put d x)
 | none=>none
def akx(s:S)(d:Option Nat)(x:X):X->(Nat->Option (List (Value×C)))->Option S
 | .mp r,F=>aDQ s d x r (F r)
 | _,_=>none
theorem az0{kind:TypeDesc}{et:Nat}(t:Nat)(m kx x:Operand)(ht:ahf (TT.of P) t=some (kind,et)):SO P pr false k ⟨d,.mapUpdate t m kx x,ty,po,af,g⟩ s Q ↔
  acb (Q none) (akx s d (.of .undef) (s.ev m) λr=>atF kind (fN (s.ev kx)) (s.ev x).rd (apt (s.objs[r]?))) :=
 akB k s Q _ λn=>by
  simp only[abm,ah,av,ht]
  cases s.ev m with
  | mp r =>
   simp only[akx]
   cases fN (s.ev kx) with
   | none=>rfl
   | some kv =>
    cases (s.ev x).rd with
    | none=>rfl
    | some c =>
     cases hr:s.objs[r]? with
     | none=>simp only[hr];rfl
     | some ob =>
      cases ob with
      | var _ _=>simp only[hr];rfl
      | row _ _=>simp only[hr];rfl
      | map es=>simp only[hr,apt,atF,aDQ];cases anf kind kv c es <;> rfl
  | _=>rfl
theorem aKF{kind:TypeDesc}{et:Nat}(t:Nat)(m kx x:Operand)(ht:ahf (TT.of P) t=some (kind,et)):SO P pr false k ⟨d,.insert t m kx x,ty,po,af,g⟩ s Q ↔
  acb (Q none) (akx s d (.of .undef) (s.ev m) λr=>atF kind (fN (s.ev kx)) (s.ev x).rd (apt (s.objs[r]?))) :=
 akB k s Q _ λn=>by
  simp only[abm,ah,av,ht]
  cases s.ev m with
  | mp r =>
   simp only[akx]
   cases fN (s.ev kx) with
   | none=>rfl
   | some kv =>
    cases (s.ev x).rd with
    | none=>rfl
    | some c =>
     cases hr:s.objs[r]? with
     | none=>simp only[hr];rfl
     | some ob =>
      cases ob with
      | var _ _=>simp only[hr];rfl
      | row _ _=>simp only[hr];rfl
      | map es=>simp only[hr,apt,atF,aDQ];cases anf kind kv c es <;> rfl
  | _=>rfl
def atG(Q:Option X->S->Prop)(s:S):Option C->Prop
 | some (.ifc t c)=>Q (some (.of (.ifc t c))) s
 | _=>False
theorem Zo(x:Operand):SO P pr false k ⟨d,.panic x,ty,po,af,g⟩ s Q↔atG Q s (s.ev x).rd:=by
 have h:∀ n,abm P (TT.of P) (enN P pr n) false s k ⟨d,.panic x,ty,po,af,g⟩=match (s.ev x).rd with
  | some (.ifc t c)=>some (some (.of (.ifc t c)),s)
  | _=>none:=λn=>rfl
 unfold SO
 simp only[h]
 cases (s.ev x).rd with
 | none=>simp[atG]
 | some c =>
  cases c with
  | ifc t c =>
   simp only[atG]
   exact⟨fun⟨n,e,s1,h1,h2⟩=>by
    simp only[bF] at h1
    obtain⟨rfl,rfl⟩:=h1
    exact h2,λh1=>⟨0,_,s,rfl,h1⟩⟩
  | _=>simp[atG]
end
def endQ(P:Program)(b:Bool)(f m:Nat)(an:An):Ex->S->Prop
 | .normal,s=>((acw (TT.of P) s (ac3 P f)).bind λrs=>aeb m false (agN b rs) s.objs)=some an
 | .ret,s=>((acw (TT.of P) s (ac3 P f)).bind λrs=>aeb m false (agN b rs) s.objs)=some an
 | .pan x,s=>aeb m true [x] s.objs=some an
 | .exit _,_=>False
theorem aH.of_body{f:Nat}{xs:List X}{obs:List Ob}{an:An}(hp:pr.prim f xs obs=none)(hok:at4 pr.mt P f=true)(har:xs.length<=apP P f)(h:WC P pr (amK P f) (adz xs obs) (endQ P (pr.keep f) f obs.length an)):aH P pr f xs obs an:=by
 obtain⟨n,e,s',h1,hq⟩:=h
 refine⟨n,?_⟩
 unfold enN ai2 apm amJ
 simp only
 rw[hp]
 simp only[hok,har,bM,au,h1]
 cases e with
 | normal=>exact hq
 | ret=>exact hq
 | pan x=>exact hq
 | exit i=>exact hq.elim
theorem aH.of_prim{f:Nat}{xs:List X}{obs:List Ob}{an:An}(hp:pr.prim f xs obs=some an):aH P pr f xs obs an:=⟨0,by unfold enN ai2 apm;simp only;rw[hp]⟩
theorem aH.sound(hm:P.follows .mixedOrders=true){G:GP}(hpr:PrSound P G pr){f:Nat}{xs:List X}{obs:List Ob}{an:An}(h:aH P pr f xs obs an):aa2 P G f xs obs an:=by
 obtain⟨n,hn⟩:=h
 exact (anK hpr (akm hm hpr n)).orc f xs obs an hn
end

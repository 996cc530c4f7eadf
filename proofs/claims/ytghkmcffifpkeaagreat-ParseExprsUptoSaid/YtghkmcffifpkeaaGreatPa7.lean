/- A part. Conditions: none. -/
import Derived.Test.YtghkmcffifpkeaaGreatPa6
set_option linter.all false
set_option maxRecDepth 100000
set_option maxHeartbeats 64000000
namespace Go.Pe
open RowKit
def Ex.is(k:Know)(ow:Own):Ex->Exit->Prop
 | .normal,e=>e=.normal
 | .exit i,e=>e=.exit i
 | .ret,e=>e=.ret
 | .pan x,e=>∃ v,e=.panic [{v:=v,recovered:=false}]/\aL k ow x v
section
variable {P:Program} {M0:Base} {k:Know} {ow:Own} {w0 w:World} {N:Nat} {s:S} {tmps:Array Value} {ds:List Deferred}
def avP(tmps:Array Value):ResultVar->Sem Value
 | .tmp t=>pure (tmps.getD t undef)
 | .cell a t=>do loadVar t (← asAddr (tmps.getD a undef))
def WP(P:Program)(n:Nat)(Q:Exit->Act->World->Prop)(a:Act)(w:World):Code->Prop
 | .loop b=>Code.rounds P b Q n a w
 | c=>c.wp P Q a w
theorem WP.wp{P:Program}{n:Nat}{Q:Exit->Act->World->Prop}{a:Act}{w:World}{c:Code}(h:WP P n Q a w c):c.wp P Q a w:=by
 cases c with
 | loop b=>exact wp_loop_rounds n h
 | _=>exact h
def anU(P:Program)(G:GP)(pr:Pr)(n:Nat):Prop :=
 ∀ (M0:Base) (w0:World) (N:Nat) (c:Code) (s:S) (e:Ex) (s':S),M0.G=G->evC P (TT.of P) pr n c s=some (e,s')->aar pr.mt N c=true ->
  ∀ (k:Know) (ow:Own) (w:World) (tmps:Array Value) (ds:List Deferred) (Q:Exit->Act->World->Prop),Sim M0 k ow (λ_=>False) w0 w N s tmps ->
   (∀ x tmps' w' k' ow',k.le k'->Sim M0 k' ow' (λ_=>False) w0 w' N s' tmps'->e.is k' ow' x->Q x ⟨tmps',ds⟩ w')->WP P n Q ⟨tmps,ds⟩ w c
theorem agm(hs:Sim M0 k ow (λ_=>False) w0 w N s tmps):∀ (l:List ResultVar) (us:List X),acb (TT.of P) s l=some us ->
  ∃ vs:List Value,(l.mapM (avP tmps)).run P w=.ok vs w/\aV k ow us vs
 | [],us,h=>by
  simp only[acb,ae] at h
  subst h
  exact⟨[],by simp,by simp[aV]⟩
 | .tmp t::l,us,h=>by
  simp only[acb,ay] at h
  obtain⟨q,hq,rfl⟩:=h
  obtain⟨vs,h1,h2⟩:=agm hs l q hq
  refine⟨tmps.getD t undef::vs,by simp only[afC,avP,Sem.run_bind,Sem.run_pure,Result.andThen_ok,h1],?_⟩
  simp only[aV]
  exact⟨_,_,rfl,hs.fr t,h2⟩
 | .cell a t::l,us,h=>by
  simp only[acb] at h
  split at h
  .rename_i x e q hl hq
   simp only[ae] at h
   subst h
   obtain⟨vs,h1,h2⟩:=agm hs l q hq
   obtain⟨_,u,hr,hx⟩:=aqT hs.toHp hl (hs.fr a)
   have hadr:∃ ad,tmps.getD a undef=.pointer (some ad)/\(loadVar t ad).run P w=.ok u w:=by
    simp only[Instr.loadAt,Sem.run_bind] at hr
    cases hv:tmps.getD a undef with
    | pointer p =>
     cases p with
     | none=>rw[hv] at hr;simp[Instr.sureAddr] at hr
     | some ad=>rw[hv] at hr;simp[Instr.sureAddr] at hr;exact⟨ad,rfl,hr⟩
    | _=>rw[hv] at hr;simp[Instr.sureAddr] at hr
   obtain⟨ad,hv,hr⟩:=hadr
   refine⟨u::vs,by simp only[afC,avP,hv,asAddr,Sem.run_bind,Sem.run_pure,Result.andThen_ok,hr,h1],?_⟩
   simp only[aV]
   exact⟨_,_,rfl,hx,h2⟩
  .cases h
theorem akP{fn:Func}{us:List Value}(h1:(fn.results.toList.mapM (avP tmps)).run P w=.ok us w):(results fn tmps).run P w=.ok (alX us) w:=by
 have hres:results fn tmps=(do
   let vs ← fn.results.mapM (avP tmps)
   pure (if h:vs.size=1 then vs[0] else .tuple vs)):=by
  unfold results
  congr 1
 rw[hres,Array.mapM_eq_mapM_toList]
 simp only[Sem.run_bind,Sem.run_map,h1,Result.andThen_ok,Sem.run_pure]
 congr 1
 match us with
 | []=>rfl
 | [u]=>rfl
 | u::u'::q=>rfl
theorem aix{objs:List Ob}(h:Hp M0 k ow w0 w objs){m:Nat}{pan:Bool}{rs:List X}{us:List Value}{an:An}(hl:ad1 m pan rs objs=some an)(hrs:aV k ow rs us) :
  ∃ k' ow',an.pan=pan/\Hp M0 k' ow' w0 w an.obs/\k'.m=k.m/\m<=an.obs.length/\(∀ r,r<m->k'.μ r=k.μ r)/\(∀ t p,ow' t=some p->t.older 1 λ_=>False)/\(∀ r off p,ow' (.cell r off)=some p->r<an.obs.length)/\aV k' ow' an.rs us:=by
 unfold ad1 at hl
 simp only[ay] at hl
 obtain⟨obs,hp,rfl⟩:=hl
 have hn1:=aiq objs 999 (X.refsL rs++((objs.take m).map Ob.refs).flatten) (List.range m) List.nodup_range
 obtain⟨q,hq⟩:=akR objs 999 (X.refsL rs++((objs.take m).map Ob.refs).flatten) (List.range m)
 have hn2:=(akA (X.toksL rs) [] abC).filter (λt=>match t with
  | .nm ..=>true
  | .cell r _=>!decide (r∈fE objs 999 (X.refsL rs++((objs.take m).map Ob.refs).flatten) (List.range m)))
 have hrow:∀ i r (v:Value) (e z n g:Nat) t',(fE objs 999 (X.refsL rs++((objs.take m).map Ob.refs).flatten) (List.range m))[i]?=some r->abc (fE objs 999 (X.refsL rs++((objs.take m).map Ob.refs).flatten) (List.range m)) ((nub (X.toksL rs) []).filter (λt=>match t with
  | .nm ..=>true
  | .cell r _=>!decide (r∈fE objs 999 (X.refsL rs++((objs.take m).map Ob.refs).flatten) (List.range m)))) (abw r)=some t'->t'=abw i:=by
  intro i r _ _ _ _ _ t' hi h
  have hm:=co hi
  unfold abc at h
  split at h
  .rename_i j hps
   have h3:=(List.mem_filter.1 (co (ads hps))).2
   simp only[abw,df,gz] at h3
   exact absurd hm h3
  .simp only[ay] at h
   obtain⟨r',h1,rfl⟩:=h
   rw[aiE hn1 hi] at h1
   obtain rfl:=aG h1
   rfl
 refine⟨_,_,rfl,h.re hn1 hn2 hp h.good h.below (λ_ _ h=>h) h.m0 (λi r v e z n g t' hi _ _ _ _ h=>hrow i r v e z n g t' hi h),rfl,?_,λr hr=>?_,λt p ht=>as6 ht,λi off p ht=>?_,aV.tr avR _ _ hrs⟩
 .rw[afb hp,hq]
  simp
 .simp only[reK]
  rw[hq,bq (by simpa using hr)]
  simp[hr]
 .rw[afb hp]
  exact as7 ht
theorem aEi{k:Know}{ow:Own}{x:X}{v:Value}(h:aL k ow x v):aL k ow (ai7 x) v:=by
 unfold ai7
 cases hr:x.rd with
 | none=>exact h
 | some c=>simp only[aqp,aL];exact afW _ _ _ hr h
theorem anN{k:Know}{ow:Own}(b:Bool):∀ {rs:List X} {us:List Value},aV k ow rs us->aV k ow (af9 b rs) us:=by
 intro rs us h
 cases b with
 | true=>exact h
 | false =>
  unfold af9
  simp only
  induction rs generalizing us with
  | nil=>exact h
  | cons x r ih =>
   simp only[aV] at h
   obtain⟨v,l,rfl,h1,h2⟩:=h
   simp only[bd,aV]
   exact⟨v,l,rfl,aEi h1,ih h2⟩
theorem axK{G:GP}{pr:Pr}{n:Nat}(h:anU P G pr n){f:Nat}{xs:List X}{obs:List Ob}{an:An}(hc:alx P (TT.of P) pr.mt pr.keep (evC P (TT.of P) pr n) f xs obs=some an):abu P G f xs obs an:=by
 intro fn hf k ow w vs hhp hold hcl hvs
 unfold alx at hc
 split at hc
 rotate_left
 .cases hc
 rename_i hok
 obtain⟨hok,har⟩:=hok
 have hb:∃ b,fn.body=some b/\aar pr.mt fn.ntmps b=true/\anL P f=b/\arw P f=fn.ntmps/\acJ P f=fn.results.toList:=by
  unfold asq at hok
  simp only[hf,ar,acl] at hok
  obtain⟨⟨b,hb⟩,h2⟩:=hok
  rw[hb] at h2
  exact⟨b,hb,h2,by simp[anL,hf,hb],by simp[arw,hf],by simp[acJ,hf]⟩
 obtain⟨b,hb,hcode,e1,e2,e3⟩:=hb
 have hvl:vs.length<=fn.ntmps:=by rw[hvs.length,← e2];exact har
 have hsim:Sim ⟨G,k.m,abi k ow⟩ k ow (λ_=>False) w w fn.ntmps (ael xs obs) (vs.toArray++Array.replicate (fn.ntmps-vs.toArray.size) undef):={hhp with
  size:=by simp;omega
  fresh:=hold
  cells:=hcl
  fr:=λj=>by
   simp only[ael]
   have hg:(vs.toArray++Array.replicate (fn.ntmps-vs.toArray.size) undef).getD j undef=vs.getD j undef:=by
    rw[eU,ba]
    rcases av j vs.length with g|g
    .rw[Array.getElem?_append_left (by simpa using g)]
     simp
    .rw[Array.getElem?_append_right (by simpa using g)]
     rw[bc g]
     simp only[dZ,Array.getElem?_replicate]
     split <;> rfl
   rw[hg]
   cases hc:xs[j]? with
   | none =>
    have:vs[j]?=none:=by
     rw[List.getElem?_eq_none_iff] at hc ⊢
     rw[hvs.length];exact hc
    rw[ba,ba,this,hc]
    simp[aL,Rep]
   | some c =>
    obtain⟨v,hv,hr⟩:=hvs.get j c hc
    rw[ba,ba,hv,hc]
    exact hr}
 have fin:∀ (pan:Bool) (rs:List X) (us:List Value) (s:S) (tmps':Array Value) (w':World) (k':Know) (ow':Own),ad1 obs.length pan rs s.objs=some an->k.le k'->Sim ⟨G,k.m,abi k ow⟩ k' ow' (λ_=>False) w w' fn.ntmps s tmps'->aV k' ow' rs us ->
   ∀ en,agB pan us en->∃ k' ow' us,agB an.pan us en/\Hp ⟨G,k.m,abi k ow⟩ k' ow' w w' an.obs/\k.m.le k'.m/\obs.length<=an.obs.length/\(∀ r,r<obs.length->k'.μ r=k.μ r) /\
    (∀ t p,ow' t=some p->t.older 1 λ_=>False)/\(∀ r off p,ow' (.cell r off)=some p->r<an.obs.length)/\aV k' ow' an.rs us:=by
  intro pan rs us s tmps' w' k' ow' hl hle hs' hrs en hen
  obtain⟨k2,ow2,g1,g2,g3,g4,g5,g6,g7,g8⟩:=aix hs'.toHp hl hrs
  refine⟨k2,ow2,us,by rw[g1];exact hen,g2,by rw[g3];exact hle.1,g4,λr hr=>?_,g6,g7,g8⟩
  rw[g5 r hr]
  obtain⟨b,hb,_⟩:=hhp.obj r _ (aO hr)
  rw[hb]
  exact hle.2 _ _ hb
 have key:∀ e s,evC P (TT.of P) pr n b (ael xs obs)=some (e,s)->((e=.normal\/e=.ret)/\((acb (TT.of P) s fn.results.toList).bind λrs=>ad1 obs.length false (af9 (pr.keep f) rs) s.objs)=some an)\/(∃ x,e=.pan x/\ad1 obs.length true [x] s.objs=some an) ->
   Calls P f vs.toArray w λe w'=>∃ k' ow' us,agB an.pan us e/\Hp ⟨G,k.m,abi k ow⟩ k' ow' w w' an.obs/\k.m.le k'.m/\obs.length<=an.obs.length/\(∀ r,r<obs.length->k'.μ r=k.μ r) /\
    (∀ t p,ow' t=some p->t.older 1 λ_=>False)/\(∀ r off p,ow' (.cell r off)=some p->r<an.obs.length)/\aV k' ow' an.rs us:=by
  intro e s hev hres
  refine calls_of_wp hf hb ?_
  refine (h ⟨G,k.m,abi k ow⟩ w fn.ntmps b (ael xs obs) e s rfl hev hcode _ _ w _ _ _ hsim λx' tmps' w' k' ow' g1 g2 g3=>?_).wp
  rcases hres with ⟨he,hres⟩|⟨x,rfl,hres⟩
  .simp only[bE] at hres
   obtain⟨rs,hrs,hl⟩:=hres
   obtain⟨us,h1,h2⟩:=agm (P:=P) g2 fn.results.toList rs hrs
   have hrun:=akP h1
   have hpost:=fin false (af9 (pr.keep f) rs) us s tmps' w' k' ow' hl g1 g2 (anN _ h2) (.returned (alX us)) rfl
   rcases he with rfl|rfl
   .simp only[Ex.is] at g3
    subst g3
    exact⟨rfl,_,hrun,hpost⟩
   .simp only[Ex.is] at g3
    subst g3
    exact⟨rfl,_,hrun,hpost⟩
  .simp only[Ex.is] at g3
   obtain⟨v,rfl,hv⟩:=g3
   exact⟨rfl,fin true [x] [v] s tmps' w' k' ow' hres g1 g2 (by simp[aV,hv]) _ ⟨v,rfl,rfl⟩⟩
 rw[e1,e3] at hc
 split at hc
 .rename_i s hev;exact key _ s hev (.inl ⟨.inl rfl,hc⟩)
 .rename_i s hev;exact key _ s hev (.inl ⟨.inr rfl,hc⟩)
 .rename_i x s hev;exact key _ s hev (.inr ⟨x,rfl,hc⟩)
 .cases hc
structure PrSound (P:Program) (G:GP) (pr:Pr):Prop where
 prim:∀ f xs obs an,pr.prim f xs obs=some an->abu P G f xs obs an
theorem amv{G:GP}{pr:Pr}(hpr:PrSound P G pr){n:Nat}(h:anU P G pr n):EnSound P G (aig P (TT.of P) pr (evC P (TT.of P) pr n)) where
 orc:=by
  intro f xs obs an h'
  simp only[aig,aom] at h'
  split at h'
  .rename_i r' hp
   simp only[ae] at h'
   subst h'
   exact hpr.prim f xs obs r' hp
  .exact axK h h'
theorem ajn(hm:P.follows .mixedOrders=true){G:GP}{pr:Pr}(hpr:PrSound P G pr):∀ n,anU P G pr n
 | 0=>by intro M0 w0 N c s e s' _ h;simp[evC] at h
 | n+1=>by
  have ih:=ajn hm hpr n
  have horc:=amv hpr ih
  intro M0 w0 N c s e s' hG h hok k ow w tmps ds Q hs hQ
  unfold evC at h
  cases c with
  | skip =>
   simp only[bT] at h
   obtain⟨rfl,rfl⟩:=h
   exact wp_skip (hQ _ tmps w k ow (Know.le_refl k) hs rfl)
  | ret =>
   simp only[bT] at h
   obtain⟨rfl,rfl⟩:=h
   exact wp_ret (hQ _ tmps w k ow (Know.le_refl k) hs rfl)
  | exit i =>
   simp only[bT] at h
   obtain⟨rfl,rfl⟩:=h
   exact wp_exit (hQ _ tmps w k ow (Know.le_refl k) hs rfl)
  | seq a b =>
   simp only[aar,ar] at hok
   refine wp_seq ?_
   simp only at h
   split at h
   .rename_i s1 h1
    refine (ih M0 w0 N a s _ s1 hG h1 hok.1 k ow w tmps ds _ hs λx tmps' w' k' ow' g1 g2 g3=>?_).wp
    simp only[Ex.is] at g3
    subst g3
    exact (ih M0 w0 N b s1 e s' hG h hok.2 k' ow' w' tmps' ds Q g2 λx tmps'' w'' k'' ow'' g3 g4 g5=>hQ x tmps'' w'' k'' ow'' (Know.le_trans g1 g3) g4 g5).wp
   .rename_i hne
    refine (ih M0 w0 N a s e s' hG h hok.1 k ow w tmps ds _ hs λx tmps' w' k' ow' g1 g2 g3=>?_).wp
    have hx:=hQ x tmps' w' k' ow' g1 g2 g3
    cases e with
    | normal=>exact (hne s' h).elim
    | exit i=>simp only[Ex.is] at g3;subst g3;exact hx
    | ret=>simp only[Ex.is] at g3;subst g3;exact hx
    | pan x=>simp only[Ex.is] at g3;obtain⟨v,rfl,_⟩:=g3;exact hx
  | block i c =>
   refine wp_block ?_
   simp only at h
   split at h
   .rename_i j s1 h1
    simp only[bT] at h
    obtain⟨rfl,rfl⟩:=h
    refine (ih M0 w0 N c s _ s1 hG h1 hok k ow w tmps ds _ hs λx tmps' w' k' ow' g1 g2 g3=>?_).wp
    simp only[Ex.is] at g3
    subst g3
    simp only[Exit.inBlock]
    split
    .rename_i e;exact hQ _ tmps' w' k' ow' g1 g2 (by rw[aE e];rfl)
    .rename_i e;exact hQ _ tmps' w' k' ow' g1 g2 (by rw[aA e];rfl)
   .rename_i hne
    refine (ih M0 w0 N c s e s' hG h hok k ow w tmps ds _ hs λx tmps' w' k' ow' g1 g2 g3=>?_).wp
    have hx:=hQ x tmps' w' k' ow' g1 g2 g3
    cases e with
    | normal=>simp only[Ex.is] at g3;subst g3;exact hx
    | exit i=>exact (hne i s' h).elim
    | ret=>simp only[Ex.is] at g3;subst g3;exact hx
    | pan x=>simp only[Ex.is] at g3;obtain⟨v,rfl,_⟩:=g3;exact hx
  | cond c a b =>
   simp only[aar,ar] at hok
   simp only at h
   split at h
   .rename_i hc
    exact wp_cond_true (ajT hc (hs.ev c)) (ih M0 w0 N a s e s' hG h hok.1 k ow w tmps ds Q hs hQ).wp
   .rename_i hc
    exact wp_cond_false (ajT hc (hs.ev c)) (ih M0 w0 N b s e s' hG h hok.2 k ow w tmps ds Q hs hQ).wp
   .cases h
  | loop c =>
   simp only at h
   split at h
   .rename_i s1 h1
    refine (ih M0 w0 N c s _ s1 hG h1 hok k ow w tmps ds _ hs λx tmps' w' k' ow' g1 g2 g3=>?_).wp
    simp only[Ex.is] at g3
    subst g3
    exact ih M0 w0 N (.loop c) s1 e s' hG h hok k' ow' w' tmps' ds Q g2 λx tmps'' w'' k'' ow'' g3 g4 g5=>hQ x tmps'' w'' k'' ow'' (Know.le_trans g1 g3) g4 g5
   .rename_i hne
    refine (ih M0 w0 N c s e s' hG h hok k ow w tmps ds _ hs λx tmps' w' k' ow' g1 g2 g3=>?_).wp
    have hx:=hQ x tmps' w' k' ow' g1 g2 g3
    cases e with
    | normal=>exact (hne s' h).elim
    | exit i=>simp only[Ex.is] at g3;subst g3;exact hx
    | ret=>simp only[Ex.is] at g3;subst g3;exact hx
    | pan x=>simp only[Ex.is] at g3;obtain⟨v,rfl,_⟩:=g3;exact hx
  | region id ops draw =>
   subst hG
   simp only[aar] at hok
   simp only at h
   split at h
   .rename_i s1 h1
    simp only[bT] at h
    obtain⟨rfl,rfl⟩:=h
    exact am5 hm horc hok hs h1 (λ_ tmps' w' k' ow' g1 g2=>hQ _ tmps' w' k' ow' g1 g2 rfl) (λx hx=>by cases hx)
   .rename_i x s1 h1
    simp only[bT] at h
    obtain⟨rfl,rfl⟩:=h
    exact am5 hm horc hok hs h1 (λhx=>by cases hx) (λy hy v tmps' w' k' ow' g1 g2 g3=>by cases hy;exact hQ _ tmps' w' k' ow' g1 g2 ⟨v,rfl,g3⟩)
   .cases h
  | scope c =>
   simp only[aar] at hok
   simp only at h
   refine wp_scope_straight ?_
   refine (ih M0 w0 N c s e s' hG h hok k ow w tmps ds _ hs λx tmps' w' k' ow' g1 g2 g3=>?_).wp
   have hx:=hQ x tmps' w' k' ow' g1 g2 g3
   cases e with
   | normal=>simp only[Ex.is] at g3;subst g3;exact hx
   | exit i=>simp only[Ex.is] at g3;subst g3;exact hx
   | ret=>simp only[Ex.is] at g3;subst g3;exact hx
   | pan x=>simp only[Ex.is] at g3;obtain⟨v,rfl,_⟩:=g3;exact hx
  | label l =>
   simp only[bT] at h
   obtain⟨rfl,rfl⟩:=h
   exact wp_label (hQ _ tmps w k ow (Know.le_refl k) hs rfl)
  | _=>simp at h
end
end Go.Pe
namespace Go.Pe
def Orc.le(a b:Orc):Prop:=∀ f xs obs an,a f xs obs=some an->b f xs obs=some an
structure En.le (a b:En):Prop where
 orc:Orc.le a.orc b.orc
 obj:a.obj=b.obj
 tk:a.tk=b.tk
 mt:a.mt=b.mt
def aDm{P:Program}{E E':En}(h:En.le E E'){clk ix f:Nat}{cs:List C}{y:X×Option Tk}(hv:afs P E clk ix f cs=some y):afs P E' clk ix f cs=some y:=by
 unfold afs at *
 rw[← h.obj]
 split at hv
 .rename_i hc
  rw[aE hc]
  split at hv
  .rename_i rs hr
   rw[h.orc _ _ _ _ hr]
   exact hv
  .cases hv
 .cases hv
def aGO{P:Program}{T:TT}{E E':En}(h:En.le E E'){s:S}{ix:Nat}{o:Oper}{y:X×Option Tk}(hv:val P T E s ix o=some y):val P T E' s ix o=some y:=by
 unfold val at *
 split at hv <;> (try exact hv)
 unfold ae8 at *
 split at hv
 .exact hv
 .exact hv
 .exact hv
 .exact hv
 .split at hv
  .exact aDm h hv
  .cases hv
 .cases hv
def afS{P:Program}{T:TT}{E E':En}(h:En.le E E'){s:S}{ix:Nat}{o:Oper}{y:Option X×S}(hv:fO P T E s ix o=some y):fO P T E' s ix o=some y:=by
 unfold fO at *
 split at hv
 .rename_i x t hx
  rw[aGO h hx]
  exact hv
 .cases hv
def aiC{P:Program}{T:TT}{E E':En}(h:En.le E E'){dr:Bool}{s:S}{ix:Nat}{o:Oper}{y:Option X×S}(hv:abl P T E dr s ix o=some y):abl P T E' dr s ix o=some y:=by
 unfold abl at *
 split at hv
 .rename_i hd
  rw[aE hd]
  exact afS h hv
 .rename_i hd
  rw[aA hd]
  split at hv
  .rw[← h.mt]
   split at hv
   .rename_i hm
    rw[aE hm]
    exact hv
   .rename_i hm
    rw[aA hm]
    exact afS h hv
  .rw[← h.mt]
   exact hv
  .rw[← h.mt]
   split at hv
   .split at hv
    .rename_i hm
     rw[aE hm]
     exact hv
    .rename_i hm
     rw[aA hm]
     exact afS h hv
   .exact hv
  .exact hv
  .exact hv
  .exact hv
  .exact hv
  .exact hv
  .split at hv
   .exact hv
   .exact afS h hv
  .split at hv
   .rename_i g us htg
    rw[← h.obj]
    split at hv
    .rename_i ho
     rw[aE ho]
     unfold callS at *
     rw[← h.tk]
     split at hv
     .rename_i hc
      rw[aE hc]
      simp only at hv ⊢
      split at hv
      .rename_i obs hobs
       split at hv
       .rename_i an han
        rw[h.orc _ _ _ _ han]
        exact hv
       .cases hv
      .cases hv
     .cases hv
    .rename_i ho
     rw[aA ho]
     exact afS h hv
   .cases hv
  .exact afS h hv
theorem aeS{P:Program}{T:TT}{E E':En}(h:En.le E E'){dr:Bool}{ops:Array Oper}{y:Option X×S}:∀ (l:List Oper) (n:Nat) (s:S),aaV P T E dr ops n l s=some y->aaV P T E' dr ops n l s=some y
 | [],_,_,hv=>hv
 | o::l,n,s,hv=>by
  have hst:∀ z,bH P T E dr ops s n o=some z->bH P T E' dr ops s n o=some z:=λz h1=>by
   unfold bH at *
   split at h1
   .exact aiC h h1
   .exact h1
   .cases h1
  simp only[aaV] at hv ⊢
  split at hv
  .rename_i s1 h1
   rw[hst _ h1]
   exact aeS h l _ _ hv
  .rename_i x s1 h1
   rw[hst _ h1]
   exact hv
  .cases hv
def aIM{P:Program}{E E':En}(h:En.le E E'){o:Op}{es:List (Value×C)}(hv:mkA P E o=some es):mkA P E' o=some es:=by
 unfold mkA at *
 split at hv
 .split at hv
  .rename_i hc
   rw[aE hc]
   split at hv
   .rename_i es' ho
    rw[h.orc _ _ _ _ ho]
    exact hv
   .cases hv
  .cases hv
 .cases hv
def apF{P:Program}{E E':En}(h:En.le E E'){s s':S}{o:Oper}(hv:mkS P E s o=some s'):mkS P E' s o=some s':=by
 unfold mkS at *
 simp only[ay] at hv
 obtain⟨es,h1,rfl⟩:=hv
 rw[aIM h h1]
 rfl
def aeH{P:Program}{T:TT}{E E':En}(h:En.le E E'){dr:Bool}{ops:Array Oper}{n:Nat}{o:Oper}{s:S}{z:Option X×S}(h1:bH P T E dr ops s n o=some z):bH P T E' dr ops s n o=some z:=by
 unfold bH at *
 split at h1
 .exact aiC h h1
 .exact h1
 .cases h1
theorem ak1{P:Program}{T:TT}{E E':En}(h:En.le E E'){ops:Array Oper}{y:Option X×S}:∀ (l:List Oper) (n:Nat) (s:S),acf P T E ops n l s=some y->acf P T E' ops n l s=some y
 | [],_,_,hv=>by simp[acf] at hv
 | [o],n,s,hv=>by
  simp only[acf] at hv ⊢
  split at hv
  .rename_i s1 h1
   rw[aeH h h1]
   exact hv
  .cases hv
 | o::o'::l,n,s,hv=>by
  simp only[acf] at hv ⊢
  split at hv
  .rename_i s1 h1
   rw[aeH h h1]
   exact ak1 h (o'::l) _ _ hv
  .cases hv
def aFQ{P:Program}{T:TT}{E E':En}(h:En.le E E'){ops:Array Oper}{l:List Oper}{s:S}{y:Option X×S}(hv:amr P T E ops l s=some y):amr P T E' ops l s=some y:=by
 unfold amr at *
 split at hv
 .rename_i hm
  rw[aE hm]
  exact ak1 h _ _ _ hv
 .rename_i hm
  rw[aA hm]
  cases l with
  | nil=>cases hv
  | cons o r =>
   simp only at hv ⊢
   split at hv
   .rename_i s1 h1
    rw[apF h h1]
    exact aeS h _ _ _ hv
   .cases hv
theorem atA{P:Program}{T:TT}{E E':En}(h:En.le E E'){ops:Array Oper}:∀ (l:List Oper) (n:Nat) (s:S) {y:Option X×S},ahG P T E ops n l s=some y->ahG P T E' ops n l s=some y
 | [],_,_,_,hv=>by simp[ahG] at hv
 | [_],_,_,_,hv=>by simp[ahG] at hv
 | [o,o'],n,s,y,hv=>by
  simp only[ahG] at hv ⊢
  split at hv
  .rename_i s1 h1
   rw[aeH h h1]
   simp only
   split at hv
   .rename_i s2 h2
    rw[aeH h h2]
    exact hv
   .cases hv
  .cases hv
 | o::o'::o''::l,n,s,y,hv=>by
  simp only[ahG] at hv ⊢
  split at hv
  rotate_left
  .cases hv
  rename_i hf
  rw[aE hf]
  split at hv
  .rename_i s1 h1
   rw[aeH h h1]
   exact atA h (o'::o''::l) _ _ hv
  .cases hv
def awv{P:Program}{T:TT}{E E':En}(h:En.le E E'){dr:Bool}{ops:Array Oper}{s s':S}{k:Nat}{o:Oper}(hv:okS (bH P T E dr ops s k o)=some s'):okS (bH P T E' dr ops s k o)=some s':=by
 rw[aeH h (agO hv)];rfl
def aG7{P:Program}{T:TT}{E E':En}(h:En.le E E'){ops:Array Oper}{t:Bool}{s s':S}{k:Nat}{o:Oper}(hv:stX P T E ops t s k o=some s'):stX P T E' ops t s k o=some s':=by
 unfold stX at *
 rw[← h.obj]
 split at hv
 .rename_i c;rw[aE c];exact awv h hv
 .rename_i c
  rw[aA c]
  split at hv
  .rename_i c2;rw[aE c2];exact apF h hv
  .rename_i c2;rw[aA c2];exact awv h hv
theorem axr{P:Program}{T:TT}{E E':En}(h:En.le E E'){ops:Array Oper}{n:Nat}:∀ (l:List Oper) (k:Nat) (b:Bool) (s:S) {s':S},evD P T E ops n k b l s=some s'->evD P T E' ops n k b l s=some s'
 | [],_,_,_,_,hv=>hv
 | o::l,k,b,s,s',hv=>by
  unfold evD at hv ⊢
  rw[← h.obj]
  split at hv
  .cases hv
  rename_i c
  rw[aA c]
  split at hv
  .rename_i s1 h1
   rw[aG7 h h1]
   exact axr h l _ _ _ hv
  .cases hv
theorem aif{P:Program}{T:TT}{E E':En}(h:En.le E E'){ops:Array Oper}:∀ (l:List (Nat×Bool)) (D:List Nat) (s:S) {y:List Nat×S},evA P T E ops l D s=some y->evA P T E' ops l D s=some y
 | [],_,_,_,hv=>hv
 | x::l,D,s,y,hv=>by
  unfold evA at hv ⊢
  cases ho:ops[x.1]? with
  | none=>rw[ho] at hv;cases hv
  | some o =>
   rw[ho] at hv
   cases hD:ldD s x.2 o.op with
   | none=>simp only[hD] at hv;cases hv
   | some D1 =>
    simp only[hD] at hv ⊢
    split at hv
    .rename_i s1 h1
     rw[aeH h h1]
     exact aif h l _ _ hv
    .cases hv
def azD{r:Option (Option X×S)}{y:Option X×S}(h:aiJ r=some y):∃ z,r=some z:=by
 cases r with
 | none=>cases h
 | some z=>exact⟨z,rfl⟩
def anz{P:Program}{T:TT}{E E':En}(h:En.le E E'){ops:Array Oper}{D:List Nat}{s:S}{c:Option Nat}{y:Option X×S}(hv:amu P T E ops D s c=some y):amu P T E' ops D s c=some y:=by
 cases c with
 | none=>exact hv
 | some c =>
  unfold amu at hv ⊢
  simp only at hv ⊢
  rw[← h.obj,← h.tk]
  split at hv
  .split at hv
   .rename_i hc
    rw[aE hc]
    obtain⟨z,hz⟩:=azD hv
    rw[aiC h hz,← hz]
    exact hv
   .cases hv
  .cases hv
def axo{P:Program}{T:TT}{E E':En}(h:En.le E E'){ops:Array Oper}{k:Nat}{s:S}{push:Bool}{l:List Oper}{y:Option X×S}(hv:evT P T E ops k s push l=some y):evT P T E' ops k s push l=some y:=by
 unfold evT at hv ⊢
 split at hv
 .split at hv
  .split at hv
   .exact aeS h _ _ _ hv
   .cases hv
  .cases hv
 .exact aeS h _ _ _ hv
def aJy{P:Program}{T:TT}{E E':En}(h:En.le E E'){ops:Array Oper}{p:Pn}{s:S}{y:Option X×S}(hv:evP P T E ops p s=some y):evP P T E' ops p s=some y:=by
 unfold evP at hv ⊢
 split at hv
 rotate_left
 .cases hv
 rename_i D s1 h1
 simp only[aif h _ _ _ h1]
 cases h2:amu P T E ops D s1 p.c with
 | none=>rw[h2] at hv;cases hv
 | some z =>
  obtain⟨e,s2⟩:=z
  rw[anz h h2]
  rw[h2] at hv
  cases e with
  | some x=>exact hv
  | none =>
   simp only at hv ⊢
   split at hv
   rotate_left
   .cases hv
   rename_i D2 s3 h3
   simp only[aif h _ _ _ h3]
   exact axo h hv
def aFR{P:Program}{T:TT}{E E':En}(h:En.le E E'){ops:Array Oper}{p:Option Pn}{s:S}{y:Option X×S}(hv:axp P T E ops s p=some y):axp P T E' ops s p=some y:=by
 cases p with
 | none=>cases hv
 | some p=>exact aJy h hv
def ams{P:Program}{T:TT}{E E':En}(h:En.le E E'){draw:Bool}{ops:Array Oper}{s:S}{y:Option X×S}(hv:evR P T E draw ops s=some y):evR P T E' draw ops s=some y:=by
 unfold evR at *
 rw[← h.obj,← h.mt]
 by_cases hpl:(draw&&plB E.mt ops.toList)=true
 .rw[aE hpl] at hv ⊢
  exact aFR h hv
 rw[aA hpl] at hv ⊢
 by_cases htl:(draw&&tlB ops.toList)=true
 .rw[aE htl] at hv ⊢
  exact atA h _ _ _ hv
 rw[aA htl] at hv ⊢
 by_cases htn:(draw&&!(acr E.obj ops.toList == 0))=true
 .rw[aE htn] at hv ⊢
  simp only[ay] at hv ⊢
  obtain⟨t,ht,rfl⟩:=hv
  exact⟨t,axr h _ _ _ _ ht,rfl⟩
 rw[aA htn] at hv ⊢
 split at hv
 .rename_i hm
  rw[aE hm]
  exact aFQ h hv
 .rename_i hm
  rw[aA hm]
  exact aeS h _ _ _ hv
def anC{P:Program}{T:TT}{pr:Pr}{a b:Code->S->Option (Ex×S)}(h:∀ c s r,a c s=some r->b c s=some r):En.le (aig P T pr a) (aig P T pr b) where
 obj:=rfl
 tk:=rfl
 mt:=rfl
 orc:=by
  intro f xs obs an hr
  simp only[aig,aom] at *
  split at hr
  .rename_i r' hp;simpa [hp] using hr
  .unfold alx at *
   split at hr
   .rename_i hc
    rw[aE hc]
    split at hr
    .rename_i s1 h1;rw[h _ _ _ h1];exact hr
    .rename_i s1 h1;rw[h _ _ _ h1];exact hr
    .rename_i x s1 h1;rw[h _ _ _ h1];exact hr
    .cases hr
   .cases hr
def agU(P:Program)(T:TT)(pr:Pr)(n:Nat)(a b:Code)(s:S):evC P T pr (n+1) (.seq a b) s=match evC P T pr n a s with
  | some (.normal,s')=>evC P T pr n b s'
  | r=>r:=rfl
def aeT(P:Program)(T:TT)(pr:Pr)(n i:Nat)(c:Code)(s:S):evC P T pr (n+1) (.block i c) s=match evC P T pr n c s with
  | some (.exit j,s')=>some (if j=i then .normal else .exit j,s')
  | r=>r:=rfl
def aiI(P:Program)(T:TT)(pr:Pr)(n:Nat)(c:Operand)(a b:Code)(s:S):evC P T pr (n+1) (.cond c a b) s=match adk (s.ev c) with
  | some true=>evC P T pr n a s
  | some false=>evC P T pr n b s
  | none=>none:=rfl
def afJ(P:Program)(T:TT)(pr:Pr)(n:Nat)(c:Code)(s:S):evC P T pr (n+1) (.loop c) s=match evC P T pr n c s with
  | some (.normal,s')=>evC P T pr n (.loop c) s'
  | r=>r:=rfl
def agy(P:Program)(T:TT)(pr:Pr)(n id:Nat)(ops:Array Oper)(draw:Bool)(s:S):evC P T pr (n+1) (.region id ops draw) s=match evR P T (aig P T pr (evC P T pr n)) draw ops s with
  | some (none,s')=>some (.normal,{s' with clk:=s'.clk+1})
  | some (some x,s')=>some (.pan x,{s' with clk:=s'.clk+1})
  | none=>none:=rfl
theorem axs{P:Program}{T:TT}{pr:Pr}:∀ (n:Nat) (c:Code) (s:S) (r:Ex×S),evC P T pr n c s=some r->evC P T pr (n+1) c s=some r
 | 0,c,s,r,h=>by simp[evC] at h
 | n+1,c,s,r,h=>by
  have ih:=axs (P:=P) (T:=T) (pr:=pr) n
  cases c with
  | seq a b =>
   rw[agU] at h ⊢
   split at h
   .rename_i s1 h1;rw[ih _ _ _ h1];exact ih _ _ _ h
   .rename_i hne
    cases h2:evC P T pr n a s with
    | none=>rw[h2] at h;cases h
    | some p =>
     obtain⟨e,s1⟩:=p
     rw[ih _ _ _ h2]
     cases e with
     | normal=>exact (hne s1 h2).elim
     | exit i=>rw[h2] at h;exact h
     | ret=>rw[h2] at h;exact h
     | pan x=>rw[h2] at h;exact h
  | block i c =>
   rw[aeT] at h ⊢
   cases h2:evC P T pr n c s with
   | none=>rw[h2] at h;cases h
   | some p=>rw[ih _ _ _ h2];rw[h2] at h;exact h
  | cond c a b =>
   rw[aiI] at h ⊢
   split at h
   .exact ih _ _ _ h
   .exact ih _ _ _ h
   .cases h
  | loop c =>
   rw[afJ] at h ⊢
   cases h2:evC P T pr n c s with
   | none=>rw[h2] at h;cases h
   | some p =>
    obtain⟨e,s1⟩:=p
    rw[ih _ _ _ h2]
    rw[h2] at h
    cases e with
    | normal=>exact ih _ _ _ h
    | exit i=>exact h
    | ret=>exact h
    | pan x=>exact h
  | region id ops draw =>
   rw[agy] at h ⊢
   split at h
   .rename_i s1 h1
    rw[ams (anC ih) h1]
    exact h
   .rename_i x s1 h1
    rw[ams (anC ih) h1]
    exact h
   .cases h
  | scope c=>simp only[evC] at h ⊢;exact ih _ _ _ h
  | label l=>simpa only [evC] using h
  | skip=>simpa only [evC] using h
  | ret=>simpa only [evC] using h
  | exit i=>simpa only [evC] using h
  | _=>simp[evC] at h
def aj2{P:Program}{T:TT}{pr:Pr}{n m:Nat}(h:n<=m){c:Code}{s:S}{r:Ex×S}(hr:evC P T pr n c s=some r):evC P T pr m c s=some r:=by
 induction m with
 | zero =>
  obtain rfl:n=0:=by omega
  exact hr
 | succ m ih =>
  rcases av n (m+1) with g|g
  .exact axs m c s r (ih aC)
  .obtain rfl:n=m+1:=by omega
   exact hr
section
variable (P:Program) (pr:Pr)
def enN(n:Nat):En:=aig P (TT.of P) pr (evC P (TT.of P) pr n)
theorem ab1{n m:Nat}(h:n<=m):En.le (enN P pr n) (enN P pr m):=anC λ_ _ _ hr=>aj2 h hr
def aF(f:Nat)(xs:List X)(obs:List Ob)(an:An):Prop:=∃ n,(enN P pr n).orc f xs obs=some an
def afu(f:Nat)(xs:List X)(obs:List Ob)(K:An->Prop):Prop:=∃ an,aF P pr f xs obs an/\K an
def WC(c:Code)(s:S)(Q:Ex->S->Prop):Prop:=∃ n e s',evC P (TT.of P) pr n c s=some (e,s')/\Q e s'
def WO(dr:Bool)(ops:Array Oper)(k:Nat)(l:List Oper)(s:S)(Q:Option X->S->Prop):Prop:=∃ n e s',aaV P (TT.of P) (enN P pr n) dr ops k l s=some (e,s')/\Q e s'
def SO(dr:Bool)(k:Nat)(o:Oper)(s:S)(Q:Option X->S->Prop):Prop:=∃ n e s',abl P (TT.of P) (enN P pr n) dr s k o=some (e,s')/\Q e s'
def WS(ops:Array Oper)(l:List Oper)(s:S)(Q:Option X->S->Prop):Prop:=∃ n e s',amr P (TT.of P) (enN P pr n) ops l s=some (e,s')/\Q e s'
def WD(ops:Array Oper)(n k:Nat)(b:Bool)(l:List Oper)(s:S)(Q:Option X->S->Prop):Prop:=∃ m s',evD P (TT.of P) (enN P pr m) ops n k b l s=some s'/\Q none s'
def tlQ:Nat->(Nat->Prop)->Prop->Prop
 | 0,_,b=>b
 | n+1,a,_=>a (n+1)
def WOT(ops:Array Oper)(k:Nat)(l:List Oper)(s:S)(Q:Option X->S->Prop):Prop:=∃ n e s',ahG P (TT.of P) (enN P pr n) ops k l s=some (e,s')/\Q e s'
def WOB(ops:Array Oper)(k:Nat)(l:List Oper)(s:S)(Q:Option X->S->Prop):Prop:=∃ n e s',acf P (TT.of P) (enN P pr n) ops k l s=some (e,s')/\Q e s'
def WA(ops:Array Oper)(l:List (Nat×Bool))(D:List Nat)(s:S)(K:List Nat->S->Prop):Prop:=∃ n D' s',evA P (TT.of P) (enN P pr n) ops l D s=some (D',s')/\K D' s'
def WCl(ops:Array Oper)(D:List Nat)(s:S)(c:Option Nat)(K:Option X->S->Prop):Prop:=∃ n e s',amu P (TT.of P) (enN P pr n) ops D s c=some (e,s')/\K e s'
def WT(push:Bool)(ops:Array Oper)(k:Nat)(l:List Oper)(s:S)(Q:Option X->S->Prop):Prop:=∃ n e s',evT P (TT.of P) (enN P pr n) ops k s push l=some (e,s')/\Q e s'
def plQ(Q:Pn->Prop):Option Pn->Prop
 | some p=>Q p
 | none=>False
def aoi(b:Code)(Q:Ex->S->Prop):Ex->S->Prop
 | .normal,s=>WC P pr b s Q
 | .exit i,s=>Q (.exit i) s
 | .ret,s=>Q .ret s
 | .pan x,s=>Q (.pan x) s
def aj4(i:Nat)(Q:Ex->S->Prop):Ex->S->Prop
 | .normal,s=>Q .normal s
 | .exit j,s=>if j=i then Q .normal s else Q (.exit j) s
 | .ret,s=>Q .ret s
 | .pan x,s=>Q (.pan x) s
def afA(Q:Ex->S->Prop):Option X->S->Prop
 | none,s=>Q .normal {s with clk:=s.clk+1}
 | some x,s=>Q (.pan x) {s with clk:=s.clk+1}
def auR(F:S->Prop)(Q:Option X->S->Prop):Option X->S->Prop
 | none,s=>F s
 | some x,s=>Q (some x) s
def aBA(ops:Array Oper)(s:S)(Q:Option X->S->Prop)(p:Pn):Prop:=WA P pr ops p.pre [] s λD s1=>WCl P pr ops D s1 p.c (auR (λs2=>WA P pr ops p.mid [] s2 λ_ s3=>WT P pr p.push ops p.m (ops.toList.drop p.m) s3 Q) Q)
def au5:Option Bool->Prop->Prop->Prop
 | some b,p,q=>if b=true then p else q
 | none,_,_=>False
def aj0:Option Bool->Prop->Prop->Prop
 | some true,p,_=>p
 | some false,_,q=>q
 | none,_,_=>False
variable {P pr}
theorem aF.unique{f:Nat}{xs:List X}{obs:List Ob}{r r':An}(h:aF P pr f xs obs r)(h':aF P pr f xs obs r'):r=r':=by
 obtain⟨n,hn⟩:=h
 obtain⟨m,hm⟩:=h'
 have h1:=(ab1 P pr (aaH n m)).orc _ _ _ _ hn
 have h2:=(ab1 P pr (aav n m)).orc _ _ _ _ hm
 exact aG (h1.symm.trans h2)
theorem aF.k{f:Nat}{xs:List X}{obs:List Ob}{r:An}(h:aF P pr f xs obs r)(K:An->Prop):afu P pr f xs obs K↔K r :=
 ⟨fun⟨_,h1,h2⟩=>h.unique h1▸h2,λh2=>⟨r,h,h2⟩⟩
theorem Z10(s:S)(Q:Ex->S->Prop):WC P pr .skip s Q↔Q .normal s :=
 ⟨fun⟨n,e,s',h,hq⟩=>by
  cases n with
  | zero=>simp[evC] at h
  | succ n=>simp only[evC,bT] at h;obtain⟨rfl,rfl⟩:=h;exact hq,λh=>⟨1,_,_,rfl,h⟩⟩
theorem Zy(s:S)(Q:Ex->S->Prop):WC P pr .ret s Q↔Q .ret s :=
 ⟨fun⟨n,e,s',h,hq⟩=>by
  cases n with
  | zero=>simp[evC] at h
  | succ n=>simp only[evC,bT] at h;obtain⟨rfl,rfl⟩:=h;exact hq,λh=>⟨1,_,_,rfl,h⟩⟩
theorem Zv(i:Nat)(s:S)(Q:Ex->S->Prop):WC P pr (.exit i) s Q↔Q (.exit i) s :=
 ⟨fun⟨n,e,s',h,hq⟩=>by
  cases n with
  | zero=>simp[evC] at h
  | succ n=>simp only[evC,bT] at h;obtain⟨rfl,rfl⟩:=h;exact hq,λh=>⟨1,_,_,rfl,h⟩⟩
theorem Zz(a b:Code)(s:S)(Q:Ex->S->Prop):WC P pr (.seq a b) s Q↔WC P pr a s (aoi P pr b Q):=by
 constructor
 .rintro⟨n,e,s',h,hq⟩
  cases n with
  | zero=>simp[evC] at h
  | succ n =>
   rw[agU] at h
   split at h
   .rename_i s1 h1;exact⟨n,.normal,s1,h1,n,e,s',h,hq⟩
   .rename_i hne
    refine⟨n,e,s',h,?_⟩
    cases e with
    | normal=>exact (hne s' h).elim
    | exit i=>exact hq
    | ret=>exact hq
    | pan x=>exact hq
 .rintro⟨n,e,s',h,hq⟩
  cases e with
  | normal =>
   obtain⟨m,e2,s2,h2,hq2⟩:=hq
   refine⟨max n m+1,e2,s2,?_,hq2⟩
   rw[agU]
   simp only[aj2 (aaH n m) h,aj2 (aav n m) h2]
  | exit i=>exact⟨n+1,.exit i,s',by rw[agU];simp only[h],hq⟩
  | ret=>exact⟨n+1,.ret,s',by rw[agU];simp only[h],hq⟩
  | pan x=>exact⟨n+1,.pan x,s',by rw[agU];simp only[h],hq⟩
theorem Zt(i:Nat)(c:Code)(s:S)(Q:Ex->S->Prop):WC P pr (.block i c) s Q↔WC P pr c s (aj4 i Q):=by
 constructor
 .rintro⟨n,e,s',h,hq⟩
  cases n with
  | zero=>simp[evC] at h
  | succ n =>
   rw[aeT] at h
   split at h
   .rename_i j s1 h1
    simp only[bT] at h
    obtain⟨rfl,rfl⟩:=h
    refine⟨n,_,_,h1,?_⟩
    simp only[aj4]
    split
    .rename_i e;rw[aE e] at hq;exact hq
    .rename_i e;rw[aA e] at hq;exact hq
   .rename_i hne
    refine⟨n,e,s',h,?_⟩
    cases e with
    | normal=>exact hq
    | exit j=>exact (hne j s' h).elim
    | ret=>exact hq
    | pan x=>exact hq
 .rintro⟨n,e,s',h,hq⟩
  cases e with
  | normal=>exact⟨n+1,.normal,s',by rw[aeT];simp only[h],hq⟩
  | exit j =>
   refine⟨n+1,if j=i then .normal else .exit j,s',by rw[aeT];simp only[h],?_⟩
   simp only[aj4] at hq
   split
   .rename_i e;rw[aE e] at hq;exact hq
   .rename_i e;rw[aA e] at hq;exact hq
  | ret=>exact⟨n+1,.ret,s',by rw[aeT];simp only[h],hq⟩
  | pan x=>exact⟨n+1,.pan x,s',by rw[aeT];simp only[h],hq⟩
theorem Zu(c:Operand)(a b:Code)(s:S)(Q:Ex->S->Prop):WC P pr (.cond c a b) s Q↔au5 (adk (s.ev c)) (WC P pr a s Q) (WC P pr b s Q):=by
 constructor
 .rintro⟨n,e,s',h,hq⟩
  cases n with
  | zero=>simp[evC] at h
  | succ n =>
   rw[aiI] at h
   split at h
   .rename_i hc;rw[hc];exact⟨n,e,s',h,hq⟩
   .rename_i hc;rw[hc];exact⟨n,e,s',h,hq⟩
   .cases h
 .intro h
  cases hc:adk (s.ev c) with
  | none=>rw[hc] at h;exact h.elim
  | some t =>
   rw[hc] at h
   cases t with
   | true=>obtain⟨n,e,s',h,hq⟩:=h;exact⟨n+1,e,s',by rw[aiI];simp only[hc,h],hq⟩
   | false=>obtain⟨n,e,s',h,hq⟩:=h;exact⟨n+1,e,s',by rw[aiI];simp only[hc,h],hq⟩
theorem aEF(ops:Array Oper)(s:S)(Q:Option X->S->Prop)(p:Pn):(∃ n e s',evP P (TT.of P) (enN P pr n) ops p s=some (e,s')/\Q e s')↔aBA P pr ops s Q p:=by
 constructor
 .rintro⟨n,e,s',h,hq⟩
  unfold evP at h
  split at h
  rotate_left
  .cases h
  rename_i D s1 h1
  refine⟨n,D,s1,h1,?_⟩
  cases h2:amu P (TT.of P) (enN P pr n) ops D s1 p.c with
  | none=>rw[h2] at h;cases h
  | some z =>
   obtain⟨e2,s2⟩:=z
   rw[h2] at h
   refine⟨n,e2,s2,h2,?_⟩
   cases e2 with
   | some x =>
    simp only[bT] at h
    obtain⟨rfl,rfl⟩:=h
    exact hq
   | none =>
    simp only at h
    split at h
    rotate_left
    .cases h
    rename_i D2 s3 h3
    exact⟨n,D2,s3,h3,n,e,s',h,hq⟩
 .rintro⟨n1,D,s1,h1,n2,e2,s2,h2,h⟩
  cases e2 with
  | some x =>
   refine⟨max n1 n2,some x,s2,?_,h⟩
   unfold evP
   simp only[aif (ab1 P pr (aaH n1 n2)) _ _ _ h1,anz (ab1 P pr (aav n1 n2)) h2]
  | none =>
   obtain⟨n3,D2,s3,h3,n4,e,s',h4,hq⟩:=h
   refine⟨max (max n1 n2) (max n3 n4),e,s',?_,hq⟩
   have m1:n1<=max (max n1 n2) (max n3 n4):=by omega
   have m2:n2<=max (max n1 n2) (max n3 n4):=by omega
   have m3:n3<=max (max n1 n2) (max n3 n4):=by omega
   have m4:n4<=max (max n1 n2) (max n3 n4):=by omega
   unfold evP
   simp only[aif (ab1 P pr m1) _ _ _ h1,anz (ab1 P pr m2) h2,aif (ab1 P pr m3) _ _ _ h3]
   exact axo (ab1 P pr m4) h4
theorem arB(id:Nat)(ops:Array Oper)(draw:Bool)(s:S)(Q:Ex->S->Prop):WC P pr (.region id ops draw) s Q↔∃ n e s',evR P (TT.of P) (enN P pr n) draw ops s=some (e,s')/\afA Q e s':=by
 constructor
 .rintro⟨n,e,s',h,hq⟩
  cases n with
  | zero=>simp[evC] at h
  | succ n =>
   rw[agy] at h
   split at h
   .rename_i s1 h1
    simp only[bT] at h
    obtain⟨rfl,rfl⟩:=h
    exact⟨n,none,s1,h1,hq⟩
   .rename_i x s1 h1
    simp only[bT] at h
    obtain⟨rfl,rfl⟩:=h
    exact⟨n,some x,s1,h1,hq⟩
   .cases h
 .rintro⟨n,e,s1,h1,hq⟩
  cases e with
  | none =>
   refine⟨n+1,.normal,_,?_,hq⟩
   unfold enN at h1
   rw[agy]
   simp only[h1]
  | some x =>
   refine⟨n+1,.pan x,_,?_,hq⟩
   unfold enN at h1
   rw[agy]
   simp only[h1]
theorem aDK(id:Nat)(ops:Array Oper)(s:S)(Q:Ex->S->Prop):WC P pr (.region id ops false) s Q↔WO P pr false ops 0 ops.toList s (afA Q):=by
 rw[arB]
 simp only[evR,cm,ab,ap]
 rfl
theorem aDJ(id:Nat)(ops:Array Oper)(s:S)(Q:Ex->S->Prop):WC P pr (.region id ops true) s Q↔if plB pr.mt ops.toList=true then plQ (aBA P pr ops s (afA Q)) (alf pr.obj ops) else if tlB ops.toList=true then WOT P pr ops 0 ops.toList s (afA Q) else tlQ (acr pr.obj ops.toList) (λn=>WD P pr ops n 0 false ops.toList s (afA Q)) (if aaO ops.toList=true then WOB P pr ops 0 ops.toList s (afA Q) else if aib pr.obj ops.toList=true then WS P pr ops ops.toList s (afA Q) else WO P pr true ops 0 ops.toList s (afA Q)):=by
 rw[arB]
 have e:∀ n,(enN P pr n).obj=pr.obj:=λn=>rfl
 have e2:∀ n,(enN P pr n).mt=pr.mt:=λn=>rfl
 simp only[evR,bR,e,e2,spB]
 by_cases hpl:plB pr.mt ops.toList=true
 .simp only[hpl,ah]
  cases alf pr.obj ops with
  | none=>exact⟨fun⟨n,e,s',h,_⟩=>by simp[axp] at h,λh=>h.elim⟩
  | some p=>exact aEF ops s (afA Q) p
 simp only[hpl,ab,ap]
 by_cases htl:tlB ops.toList=true
 .simp only[htl,ah]
  rfl
 simp only[htl,ab,ap]
 cases htn:acr pr.obj ops.toList with
 | succ n =>
  simp only[tlQ,show (n+1 == 0)=false from rfl,ct,ah,ay,bh]
  constructor
  .rintro⟨m,e,s',⟨t,ht,rfl,rfl⟩,hq⟩
   exact⟨m,t,ht,hq⟩
  .rintro⟨m,t,ht,hq⟩
   exact⟨m,none,t,⟨t,ht,rfl,rfl⟩,hq⟩
 | zero =>
 simp only[tlQ,show (0 == 0)=true from rfl,bJ,ab,ap]
 cases h1:aaO ops.toList with
 | true =>
  simp only[aY,ah]
  unfold WOB
  simp only[amr,h1,ah]
 | false =>
  cases h2:aib pr.obj ops.toList with
  | true=>simp only[cf,ah,ab,ap];rfl
  | false=>simp only[agS,ab,ap];rfl
def aK0:Bool->Prop->Prop->Prop
 | true,a,_=>a
 | false,_,b=>b
theorem adc{g:Nat}{es:List (Value×C)}(hg:aF P pr g [] [] ⟨false,[.mp 0],[.map es]⟩)(hc:fh P g=true)(ho:pr.obj g=true)(ops:Array Oper)(d:Option Nat)(tys:Array Nat)(ty:Nat)(po:String)(af:Array Edge)(r:List Oper)(s:S)(Q:Option X->S->Prop) :
  aaO (⟨d,.call {callee:=.value (.func g),args:=#[],argTypes:=tys},ty,po,af,none⟩::r)=false->(WS P pr ops (⟨d,.call {callee:=.value (.func g),args:=#[],argTypes:=tys},ty,po,af,none⟩::r) s Q↔WO P pr true ops 1 r ({s with objs:=s.objs++[Ob.map es]}.put d (.mp s.objs.length)) Q):=by
 intro hm
 have hS:∀ n s1,mkS P (enN P pr n) s ⟨d,.call {callee:=.value (.func g),args:=#[],argTypes:=tys},ty,po,af,none⟩=some s1->s1={s with objs:=s.objs++[Ob.map es]}.put d (.mp s.objs.length):=λn s1 h=>by
  unfold mkS at h
  simp only[ay,mkA,hc,ah] at h
  obtain⟨es',h1,rfl⟩:=h
  split at h1
  .rename_i es2 h2
   simp only[ae] at h1
   subst h1
   have:=hg.unique ⟨n,h2⟩
   simp only[An.mk.injEq,gp,Ob.map.injEq,aaZ,dg] at this
   rw[this]
  .cases h1
 constructor
 .rintro⟨n,e,s',h,hq⟩
  unfold amr at h
  rw[hm,aA aI] at h
  simp only at h
  split at h
  .rename_i s1 h1
   obtain rfl:=hS n s1 h1
   exact⟨n,e,s',h,hq⟩
  .cases h
 .rintro⟨n,e,s',h,hq⟩
  obtain⟨m,hm2⟩:=hg
  refine⟨max n m,e,s',?_,hq⟩
  unfold amr
  rw[hm,aA aI]
  have h1:mkS P (enN P pr (max n m)) s ⟨d,.call {callee:=.value (.func g),args:=#[],argTypes:=tys},ty,po,af,none⟩=some ({s with objs:=s.objs++[Ob.map es]}.put d (.mp s.objs.length)):=by
   refine apF (ab1 P pr (aav n m)) ?_
   unfold mkS mkA
   simp only[hc,ah,hm2,aP]
  simp only[h1]
  exact aeS (ab1 P pr (aaH n m)) _ _ _ h
theorem ajA(c:Code)(s:S)(Q:Ex->S->Prop):WC P pr (.loop c) s Q↔WC P pr c s (aoi P pr (.loop c) Q):=by
 constructor
 .rintro⟨n,e,s',h,hq⟩
  cases n with
  | zero=>simp[evC] at h
  | succ n =>
   rw[afJ] at h
   split at h
   .rename_i s1 h1;exact⟨n,.normal,s1,h1,n,e,s',h,hq⟩
   .rename_i hne
    refine⟨n,e,s',h,?_⟩
    cases e with
    | normal=>exact (hne s' h).elim
    | exit i=>exact hq
    | ret=>exact hq
    | pan x=>exact hq
 .rintro⟨n,e,s',h,hq⟩
  cases e with
  | normal =>
   obtain⟨m,e2,s2,h2,hq2⟩:=hq
   refine⟨max n m+1,e2,s2,?_,hq2⟩
   rw[afJ]
   simp only[aj2 (aaH n m) h,aj2 (aav n m) h2]
  | exit i=>exact⟨n+1,.exit i,s',by rw[afJ];simp only[h],hq⟩
  | ret=>exact⟨n+1,.ret,s',by rw[afJ];simp only[h],hq⟩
  | pan x=>exact⟨n+1,.pan x,s',by rw[afJ];simp only[h],hq⟩
theorem eT (c:Code) (Q:Ex->S->Prop) (I:Nat->S->Prop) (h:∀ m s,I m s->WC P pr c s (λe s'=>match e with
  | .normal=>∃ m',m'<m/\I m' s'
  | .exit i=>Q (.exit i) s'
  | .ret=>Q .ret s'
  | .pan x=>Q (.pan x) s')):∀ (m:Nat) (s:S),I m s->WC P pr (.loop c) s Q:=by
 intro m
 induction m using Nat.strongRecOn with
 | _ m ih =>
  intro s hs
  rw[ajA]
  obtain⟨n,e,s',h1,hq⟩:=h m s hs
  refine⟨n,e,s',h1,?_⟩
  cases e with
  | normal=>obtain⟨m',hm,hI⟩:=hq;exact ih m' hm s' hI
  | exit i=>exact hq
  | ret=>exact hq
  | pan x=>exact hq
theorem WC.mono{c:Code}{s:S}{Q Q':Ex->S->Prop}(h:WC P pr c s Q)(hq:∀ e s,Q e s->Q' e s):WC P pr c s Q' :=
 let ⟨n,e,s',h1,h2⟩:=h;⟨n,e,s',h1,hq _ _ h2⟩
theorem Z14(dr:Bool)(ops:Array Oper)(k:Nat)(s:S)(Q:Option X->S->Prop):WO P pr dr ops k [] s Q↔Q none s :=
 ⟨fun⟨n,e,s',h,hq⟩=>by simp only[aaV,bT] at h;obtain⟨rfl,rfl⟩:=h;exact hq,λh=>⟨0,none,s,rfl,h⟩⟩
theorem Z13(dr:Bool)(ops:Array Oper)(k:Nat)(o:Oper)(l:List Oper)(s:S)(Q:Option X->S->Prop) :
  WO P pr dr ops k (o::l) s Q↔aj0 (eV ops s o) (SO P pr dr k o s (auR (λs'=>WO P pr dr ops (k+1) l s' Q) Q)) (WO P pr dr ops (k+1) l (s.put o.dst (.of .undef)) Q):=by
 constructor
 .rintro⟨n,e,s',h,hq⟩
  simp only[aaV] at h
  cases hg:eV ops s o with
  | none=>simp[bH,hg] at h
  | some b =>
   cases b with
   | false =>
    simp only[bH,hg] at h
    exact⟨n,e,s',h,hq⟩
   | true =>
    simp only[bH,hg] at h
    split at h
    .rename_i s1 h1;exact⟨n,none,s1,h1,n,e,s',h,hq⟩
    .rename_i x s1 h1
     simp only[bT] at h
     obtain⟨rfl,rfl⟩:=h
     exact⟨n,some x,s1,h1,hq⟩
    .cases h
 .intro h
  cases hg:eV ops s o with
  | none=>rw[hg] at h;exact h.elim
  | some b =>
   rw[hg] at h
   cases b with
   | true =>
    obtain⟨n,e1,s1,h1,h⟩:=h
    cases e1 with
    | none =>
     obtain⟨m,e,s',h2,hq⟩:=h
     refine⟨max n m,e,s',?_,hq⟩
     simp only[aaV,bH,hg,aiC (ab1 P pr (aaH n m)) h1]
     exact aeS (ab1 P pr (aav n m)) _ _ _ h2
    | some x=>exact⟨n,some x,s1,by simp only[aaV,bH,hg,h1],h⟩
   | false =>
    obtain⟨n,e,s',h2,hq⟩:=h
    exact⟨n,e,s',by simp only[aaV,bH,hg];exact h2,hq⟩
def aQH(Q:Option X->S->Prop):Option X->S->Prop
 | none,s=>Q none s
 | some _,_=>False
def opQ(Q:Oper->Prop):Option Oper->Prop
 | some o=>Q o
 | none=>False
def ldQ(Q:List Nat->Prop):Option (List Nat)->Prop
 | some D=>Q D
 | none=>False
def aLf(Q:S->Prop):Option S->Prop
 | some s=>Q s
 | none=>False
def aRL:Bool->Prop->Prop
 | true,p=>p
 | false,_=>False
theorem Z12(ops:Array Oper)(k:Nat)(o:Oper)(s:S)(Q:Option X->S->Prop) :
  WOB P pr ops k [o] s Q↔aj0 (eV ops s o) (SO P pr false k o s (aQH Q)) (Q none (s.put o.dst (.of .undef))):=by
 constructor
 .rintro⟨n,e,s',h,hq⟩
  simp only[acf] at h
  cases hg:eV ops s o with
  | none=>simp[bH,hg] at h
  | some b =>
   cases b with
   | false =>
    simp only[bH,hg,bT] at h
    obtain⟨rfl,rfl⟩:=h
    exact hq
   | true =>
    simp only[bH,hg] at h
    split at h
    .rename_i s1 h1
     simp only[bT] at h
     obtain⟨rfl,rfl⟩:=h
     exact⟨n,none,s1,h1,hq⟩
    .cases h
 .intro h
  cases hg:eV ops s o with
  | none=>rw[hg] at h;exact h.elim
  | some b =>
   rw[hg] at h
   cases b with
   | true =>
    obtain⟨n,e1,s1,h1,h⟩:=h
    cases e1 with
    | none=>exact⟨n,none,s1,by simp only[acf,bH,hg,h1],h⟩
    | some x=>exact h.elim
   | false=>exact⟨0,none,_,by simp only[acf,bH,hg],h⟩
theorem Z11(ops:Array Oper)(k:Nat)(o o':Oper)(l:List Oper)(s:S)(Q:Option X->S->Prop) :
  WOB P pr ops k (o::o'::l) s Q↔aj0 (eV ops s o) (SO P pr true k o s (auR (λs'=>WOB P pr ops (k+1) (o'::l) s' Q) λ_ _=>False)) (WOB P pr ops (k+1) (o'::l) (s.put o.dst (.of .undef)) Q):=by
 constructor
 .rintro⟨n,e,s',h,hq⟩
  simp only[acf] at h
  cases hg:eV ops s o with
  | none=>simp[bH,hg] at h
  | some b =>
   cases b with
   | false =>
    simp only[bH,hg] at h
    exact⟨n,e,s',h,hq⟩
   | true =>
    simp only[bH,hg] at h
    split at h
    .rename_i s1 h1;exact⟨n,none,s1,h1,n,e,s',h,hq⟩
    .cases h
 .intro h
  cases hg:eV ops s o with
  | none=>rw[hg] at h;exact h.elim
  | some b =>
   rw[hg] at h
   cases b with
   | true =>
    obtain⟨n,e1,s1,h1,h⟩:=h
    cases e1 with
    | none =>
     obtain⟨m,e,s',h2,hq⟩:=h
     refine⟨max n m,e,s',?_,hq⟩
     simp only[acf,bH,hg,aiC (ab1 P pr (aaH n m)) h1]
     exact ak1 (ab1 P pr (aav n m)) _ _ _ h2
    | some x=>exact h.elim
   | false =>
    obtain⟨n,e,s',h2,hq⟩:=h
    exact⟨n,e,s',by simp only[acf,bH,hg];exact h2,hq⟩
def ach(Q:S->Prop):Option S->Prop
 | some s=>Q s
 | none=>False
def ab8(s:S)(d:Option Nat)(af:Array Edge)(K:S->Prop):Out->Prop
 | none=>False
 | some (x,none)=>K (s.put d x)
 | some (x,some t)=>aaQ s.clk af.toList (some t)=true/\K ((s.drop (some t)).put d x)
theorem abI{dr:Bool}{k:Nat}{o:Oper}{s:S}{Q:Option X->S->Prop}(v:Out)(hst:∀ n,abl P (TT.of P) (enN P pr n) dr s k o=fO P (TT.of P) (enN P pr n) s k o)(h:∀ n,val P (TT.of P) (enN P pr n) s k o=v):SO P pr dr k o s Q↔ab8 s (dW o) o.after (Q none) v:=by
 constructor
 .rintro⟨n,e,s',h1,hq⟩
  rw[hst,fO,h n] at h1
  split at h1
  .rename_i x t
   split at h1
   .rename_i hok
    simp only[bT] at h1
    obtain⟨rfl,rfl⟩:=h1
    cases t with
    | none=>exact hq
    | some t=>exact⟨hok,hq⟩
   .cases h1
  .cases h1
 .intro hv
  match v,h,hv with
  | some (x,none),h,hv=>exact⟨0,none,_,by rw[hst,fO,h 0];simp only[aaQ,ah];rfl,hv⟩
  | some (x,some t),h,hv=>exact⟨0,none,_,by rw[hst,fO,h 0];simp only[hv.1,ah],hv.2⟩
section
variable (dr:Bool) (k:Nat) (d:Option Nat) (ty:Nat) (po:String) (af:Array Edge) (g:Option (Nat×Bool)) (s:S) (Q:Option X->S->Prop)
theorem Zm(x:Operand):SO P pr dr k ⟨d,.move x,ty,po,af,g⟩ s Q↔Q none (s.put d (s.ev x)):=abI (out (s.ev x)) (λ_=>by cases dr <;> rfl) λ_=>rfl
theorem Z2(x:Operand):SO P pr dr k ⟨d,.assign x,ty,po,af,g⟩ s Q↔Q none (s.put d (s.ev x)):=abI (out (s.ev x)) (λ_=>by cases dr <;> rfl) λ_=>rfl
def aBE(s:S)(a b:Operand):Option Bool->Out
 | some b'=>out (if b' then s.ev a else s.ev b)
 | none=>none
theorem Zp(c a b:Operand):SO P pr dr k ⟨d,.pick c a b,ty,po,af,g⟩ s Q↔ab8 s d af (Q none) (aBE s a b (adk (s.ev c))) :=
 abI _ (λ_=>by cases dr <;> rfl) λ_=>by simp only[val,aBE];cases adk (s.ev c) <;> rfl
theorem Z3(op:BinOp)(t:Nat)(x y:Operand)(yt:Nat):SO P pr dr k ⟨d,.binOp op t x y yt,ty,po,af,g⟩ s Q↔ab8 s d af (Q none) (gJ P (TT.of P) t ((TT.of P t).map (·.und)) op (s.ev x) (s.ev y)) :=
 abI _ (λ_=>by cases dr <;> rfl) λ_=>rfl
def unX(op:UnOp):X->Out
 | .of (.lit a)=>bX ((aqk op a).map λv=>.of (.lit v))
 | _=>none
theorem Zs(op:UnOp)(t:Nat)(x:Operand):SO P pr dr k ⟨d,.unOp op t x,ty,po,af,g⟩ s Q↔ab8 s d af (Q none) (unX op (s.ev x)):=abI _ (λ_=>by cases dr <;> rfl) λ_=>rfl
theorem Zg(t:Nat)(a:Operand):SO P pr dr k ⟨d,.load t a,ty,po,af,g⟩ s Q↔ab8 s d af (Q none) (abf (TT.of P) s.objs t (s.ev a)):=abI _ (λ_=>by cases dr <;> rfl) λ_=>rfl
theorem Zc(t:Nat)(x:Operand)(f:Nat):SO P pr dr k ⟨d,.fieldAddr t x f,ty,po,af,g⟩ s Q↔ab8 s d af (Q none) (gu (TT.of P) t f (s.ev x)):=abI _ (λ_=>by cases dr <;> rfl) λ_=>rfl
theorem Ze(t:Nat)(x i:Operand):SO P pr dr k ⟨d,.indexAddr t x i,ty,po,af,g⟩ s Q↔ab8 s d af (Q none) (cn (TT.of P) t (s.ev x) (s.ev i)):=abI _ (λ_=>by cases dr <;> rfl) λ_=>rfl
theorem Zd(t:Nat)(x i:Operand):SO P pr dr k ⟨d,.index t x i,ty,po,af,g⟩ s Q↔ab8 s d af (Q none) (afG (TT.of P) t (s.ev x) (s.ev i)):=abI _ (λ_=>by cases dr <;> rfl) λ_=>rfl
theorem Zq(t:Nat)(x lo:Operand)(hi:Option Operand):SO P pr dr k ⟨d,.slice t x (some lo) hi none,ty,po,af,g⟩ s Q↔ab8 s d af (Q none) (adq (TT.of P) t (s.ev x) (some (s.ev lo)) (hi.map s.ev)):=abI _ (λ_=>by cases dr <;> rfl) λ_=>rfl
def aQr(A:Prop)(B:Nat->Nat->Nat->Option S)(Q:S->Prop):X->Prop
 | .top r e z=>ach Q (B r e z)
 | _=>A
def aQs(dr:Bool)(A B:Prop):Prop:=match dr with
 | true=>A
 | false=>B
theorem Z9(a b:Nat)(x:Operand):SO P pr dr k ⟨d,.convert a b x,ty,po,af,g⟩ s Q↔ab8 s d af (Q none) (ad3 (TT.of P) a b (s.ev x)):=abI _ (λ_=>by cases dr <;> rfl) λ_=>rfl
def amq(i:Nat):X->Out
 | .tup xs=>bX (xs[i]?)
 | .of (.tup cs)=>bX ((cs[i]?).map .of)
 | _=>none
theorem Za(x:Operand)(i:Nat):SO P pr dr k ⟨d,.extract x i,ty,po,af,g⟩ s Q↔ab8 s d af (Q none) (amq i (s.ev x)):=abI _ (λ_=>by cases dr <;> rfl) λ_=>rfl
def axP(P:Program)(t:Nat):Option TD->Option (List (Nat×List X))->Out
 | some d,some qs=>match d.und with
  | .struct _=>bX ((aah (λi=>d.fields[i]?) (fU d) qs).map .agg)
  | .array _ e=>match TT.of P e with
   | some de=>bX ((aah (λi=>some (i*de.size,de.size)) (fU d) qs).map .agg)
   | none=>none
  | _=>none
 | _,_=>none
theorem Z5(t:Nat)(ps:Array (Nat×Operand)):SO P pr dr k ⟨d,.build t ps,ty,po,af,g⟩ s Q↔ab8 s d af (Q none) (axP P t (TT.of P t) (gN s.ev ps.toList)) :=
 abI _ (λ_=>by cases dr <;> rfl) λ_=>by simp only[val,axP];cases TT.of P t <;> cases gN s.ev ps.toList <;> rfl
def dJ(t:Tk)(n:Nat):Option (Nat×TD)->Option (List (Nat×List X))->Out
 | some (e,d),some qs =>
  if n*d.size<=16777216/\0<d.size/\d.zero.length=d.size then match aah (λi=>some (i*d.size,d.size)) ((List.replicate n (fU d)).flatten) qs with
   | some xs=>match X.rds xs with
    | some cs=>out (.own t e d.size cs n)
    | none=>none
   | none=>none
  else none
 | _,_=>none
theorem Z6(t n:Nat)(ps:Array (Nat×Operand)):SO P pr dr k ⟨d,.buildSlice t n ps,ty,po,af,g⟩ s Q↔ab8 s d af (Q none) (dJ (.nm s.clk k 0) n (elemOf (TT.of P) t) (gN s.ev ps.toList)) :=
 abI _ (λ_=>by cases dr <;> rfl) λ_=>by simp only[val,dJ];cases elemOf (TT.of P) t <;> cases gN s.ev ps.toList <;> rfl
theorem Zf(x:Operand)(t:Nat):SO P pr dr k ⟨d,.call {callee:=.builtin .len,args:=#[x],argTypes:=#[t]},ty,po,af,g⟩ s Q↔ab8 s d af (Q none) (aaI ((TT.of P t).map (·.und)) (s.ev x)):=abI _ (λ_=>by cases dr <;> rfl) λ_=>rfl
theorem aTx(a b:Operand)(ts:Array Nat):SO P pr dr k ⟨d,.call {callee:=.builtin .max,args:=#[a,b],argTypes:=ts},ty,po,af,g⟩ s Q↔ab8 s d af (Q none) (apG (s.ev a) (s.ev b)):=abI _ (λ_=>by cases dr <;> rfl) λ_=>rfl
theorem Z1(a b:Operand)(st xt:Nat):SO P pr dr k ⟨d,.call {callee:=.builtin .append,args:=#[a,b],argTypes:=#[st,xt]},ty,po,af,g⟩ s Q↔ab8 s d af (Q none) (aaG (TT.of P) (.nm s.clk k 0) st xt (s.ev a) (s.ev b)):=abI _ (λ_=>by cases dr <;> rfl) λ_=>rfl
theorem amK(x:Operand)(xt u:Nat)(ok:Bool):SO P pr dr k ⟨d,.typeAssert x xt u ok,ty,po,af,g⟩ s Q↔ab8 s d af (Q none) (asX (TT.of P) u (s.ev x) ok):=abI _ (λ_=>by cases dr <;> rfl) λ_=>rfl
def awn(s:S)(k:Nat)(d:Option Nat)(Q:Option X->S->Prop):An->Prop
 | ⟨false,rs,[]⟩=>Q none (s.put d (agf (aht s.clk k rs)))
 | _=>False
def alg(P:Program)(pr:Pr)(s:S)(k:Nat)(d:Option Nat)(Q:Option X->S->Prop)(f:Nat)(caps:List C):Option (List C)->Prop
 | some cs=>fh P f=true/\afu P pr f ((cs++caps).map .of) [] (awn s k d Q)
 | none=>False
def aX5(Q:Option X->S->Prop):Option (Option X×S)->Prop
 | some (e,s)=>Q e s
 | none=>False
def aDw(s:S)(k:Nat)(d:Option Nat)(refs:List Nat)(ts:List Tk)(Q:Option X->S->Prop)(an:An):Prop:=aX5 Q (agJ s k d refs ts an)
def aBP(P:Program)(pr:Pr)(s:S)(k:Nat)(d:Option Nat)(refs:List Nat)(ts:List Tk)(Q:Option X->S->Prop)(f:Nat)(us:List X):Option (List Ob)->Prop
 | some obs=>fh P f=true/\afu P pr f (X.trs (pos refs) (abc refs ts) us) obs (aDw s k d refs ts Q)
 | none=>False
def akz(P:Program)(pr:Pr)(s:S)(k:Nat)(d:Option Nat)(Q:Option X->S->Prop)(f:Nat)(us:List X)(refs:List Nat)(ts:List Tk):Prop :=
 aBP P pr s k d refs ts Q f us (am8 (ajg s.objs refs) (abj (pos refs) (abc refs ts) (agz ts s.objs) refs))
def ai6(b:Bool)(us:List X):List Tk:=match b with
 | true=>nub (X.toksL us) []
 | false=>[]
def amy(P:Program)(pr:Pr)(dr:Bool)(s:S)(k:Nat)(d:Option Nat)(Q:Option X->S->Prop)(f:Nat)(us:List X)(caps:List C)(cs:Option (List C)):Bool->Prop
 | true=>dr=false/\akz P pr s k d Q f us (fE s.objs 999 (X.refsL us) []) (ai6 (pr.tk f) us)
 | false=>alg P pr s k d Q f caps cs
def akI(P:Program)(pr:Pr)(dr:Bool)(s:S)(k:Nat)(d:Option Nat)(Q:Option X->S->Prop)(args:List X)(cs:Option (List C)):X->Prop
 | .of (.fn f caps)=>amy P pr dr s k d Q f (args++caps.map .of) caps cs (pr.obj f)
 | .clo f caps=>pr.obj (anI f)=true/\dr=false/\akz P pr s k d Q (anI f) (axH f caps args) (fE s.objs 999 (X.refsL (axH f caps args)) []) (ai6 (pr.tk (anI f)) (axH f caps args))
 | _=>False
theorem axM(n:Nat)(f:Nat)(us:List X):(∃ e s',callS P (enN P pr n) s k d f us=some (e,s')/\Q e s')->akz P pr s k d Q f us (fE s.objs 999 (X.refsL us) []) (ai6 (pr.tk f) us):=by
 rintro⟨e,s',h,hq⟩
 unfold callS at h
 split at h
 rotate_left
 .cases h
 rename_i hc
 simp only at h
 have ht:(if (enN P pr n).tk f=true then nub (X.toksL us) [] else [])=ai6 (pr.tk f) us:=by
  show (if pr.tk f=true then _ else _)=_
  cases pr.tk f <;> rfl
 rw[ht] at h
 unfold akz
 split at h
 .rename_i obs hobs
  rw[hobs]
  split at h
  .rename_i an han
   refine⟨hc,an,⟨n,han⟩,?_⟩
   unfold aDw
   rw[h]
   exact hq
  .cases h
 .cases h
theorem axL(f:Nat)(us:List X)(h:akz P pr s k d Q f us (fE s.objs 999 (X.refsL us) []) (ai6 (pr.tk f) us)):∃ n e s',callS P (enN P pr n) s k d f us=some (e,s')/\Q e s':=by
 unfold akz at h
 cases hobs:am8 (ajg s.objs (fE s.objs 999 (X.refsL us) [])) (abj (pos (fE s.objs 999 (X.refsL us) [])) (abc (fE s.objs 999 (X.refsL us) []) (ai6 (pr.tk f) us)) (agz (ai6 (pr.tk f) us) s.objs) (fE s.objs 999 (X.refsL us) [])) with
 | none=>rw[hobs] at h;exact h.elim
 | some obs =>
  rw[hobs] at h
  obtain⟨hc,an,⟨n,han⟩,hb⟩:=h
  unfold aDw at hb
  cases hbs:agJ s k d (fE s.objs 999 (X.refsL us) []) (ai6 (pr.tk f) us) an with
  | none=>rw[hbs] at hb;exact hb.elim
  | some p =>
   obtain⟨e,s'⟩:=p
   rw[hbs] at hb
   refine⟨n,e,s',?_,hb⟩
   unfold callS
   rw[aE hc]
   have ht:(if (enN P pr n).tk f=true then nub (X.toksL us) [] else [])=ai6 (pr.tk f) us:=by
    show (if pr.tk f=true then _ else _)=_
    cases pr.tk f <;> rfl
   simp only[ht,hobs,han,hbs]
theorem ai8(n:Nat)(f:Operand)(args:Array Operand)(tys:Array Nat):fO P (TT.of P) (enN P pr n) s k ⟨d,.call {callee:=.value f,args:=args,argTypes:=tys},ty,po,af,g⟩=match s.ev f,abJ s.ev args.toList with
  | .of (.fn f caps),some cs=>(match afs P (enN P pr n) s.clk k f (cs++caps) with
   | some (x,t)=>if aaQ s.clk af.toList t=true then some (none,(s.drop t).put d x) else none
   | none=>none)
  | _,_=>none:=by
 have e:dW ⟨d,.call {callee:=.value f,args:=args,argTypes:=tys},ty,po,af,g⟩=d:=rfl
 simp only[fO,val,ae8,e]
 split <;> rename_i h <;> split at h <;> simp_all
theorem aEH(f:Operand)(fn:Nat)(caps:List C)(args:Array Operand)(tys:Array Nat)(hf:s.ev f=.of (.fn fn caps))(ho:pr.obj fn=false) :
  (∃ n e s',fO P (TT.of P) (enN P pr n) s k ⟨d,.call {callee:=.value f,args:=args,argTypes:=tys},ty,po,af,g⟩=some (e,s')/\Q e s')↔alg P pr s k d Q fn caps (abJ s.ev args.toList):=by
 constructor
 .rintro⟨n,e,s',h,hq⟩
  rw[ai8,hf] at h
  cases hr:abJ s.ev args.toList with
  | none=>rw[hr] at h;cases h
  | some cs =>
   rw[hr] at h
   simp only at h
   split at h
   .rename_i x t hx
    unfold afs at hx
    split at hx
    .rename_i hc
     simp only[ar] at hc
     split at hx
     .rename_i rs hor
      obtain⟨rfl,rfl⟩:=fj hx
      simp only[aaQ,ah,bT] at h
      obtain⟨rfl,rfl⟩:=h
      exact⟨hc.1,_,⟨n,hor⟩,hq⟩
     .cases hx
    .cases hx
   .cases h
 .intro h
  cases hr:abJ s.ev args.toList with
  | none=>rw[hr] at h;exact h.elim
  | some cs =>
   rw[hr] at h
   obtain⟨hc,an,⟨n,hor⟩,hk⟩:=h
   match an,hor,hk with
   | ⟨false,rs,[]⟩,hor,hk =>
    refine⟨n,none,_,?_,hk⟩
    rw[ai8,hf,hr]
    have:afs P (enN P pr n) s.clk k fn (cs++caps)=out (agf (aht s.clk k rs)):=by
     unfold afs
     have ho':(enN P pr n).obj fn=false:=ho
     rw[aE (by simp[hc,ho']),hor]
    simp only[this,out,aaQ,ah]
    rfl
theorem aJ5(f:Operand)(args:Array Operand)(tys:Array Nat):SO P pr dr k ⟨d,.call {callee:=.value f,args:=args,argTypes:=tys},ty,po,af,g⟩ s Q ↔
  akI P pr dr s k d Q (args.toList.map s.ev) (abJ s.ev args.toList) (s.ev f):=by
 have hst:∀ n,abl P (TT.of P) (enN P pr n) dr s k ⟨d,.call {callee:=.value f,args:=args,argTypes:=tys},ty,po,af,g⟩=if dr=true then fO P (TT.of P) (enN P pr n) s k ⟨d,.call {callee:=.value f,args:=args,argTypes:=tys},ty,po,af,g⟩ else
   match aep s (.value f) args.toList with
   | some (g',us)=>if pr.obj g'=true then callS P (enN P pr n) s k d g' us else fO P (TT.of P) (enN P pr n) s k ⟨d,.call {callee:=.value f,args:=args,argTypes:=tys},ty,po,af,g⟩
   | none=>none:=λn=>by
  unfold abl
  rfl
 have hV:∀ (x:X),s.ev f=x->(∀ fn caps,x≠.of (.fn fn caps))->∀ n,fO P (TT.of P) (enN P pr n) s k ⟨d,.call {callee:=.value f,args:=args,argTypes:=tys},ty,po,af,g⟩=none:=λx hx hne n=>by
  rw[ai8,hx]
  split
  .rename_i h;exact (hne _ _ rfl).elim
  .rfl
 unfold SO
 simp only[hst]
 cases hf:s.ev f with
 | of c =>
  cases c with
  | fn fn caps =>
   simp only[akI,aep,hf]
   cases ho:pr.obj fn with
   | true =>
    simp only[amy]
    cases dr with
    | true =>
     simp only[ah,acv,fY,ae2]
     rintro⟨n,e,s',h,_⟩
     rw[ai8,hf] at h
     cases hr:abJ s.ev args.toList with
     | none=>rw[hr] at h;cases h
     | some cs =>
      rw[hr] at h
      have:afs P (enN P pr n) s.clk k fn (cs++caps)=none:=by
       unfold afs
       have ho':(enN P pr n).obj fn=true:=ho
       rw[aA (by simp[ho'])]
      simp[this] at h
    | false =>
     simp only[ab,ap,ah,dg]
     constructor
     .rintro⟨n,e,s',h,hq⟩;exact axM k d s Q n fn _ ⟨e,s',h,hq⟩
     .intro h;exact axL k d s Q fn _ h
   | false =>
    simp only[amy]
    rw[← aEH k d ty po af g s Q f fn caps args tys hf ho]
    cases dr with
    | true=>simp only[ah]
    | false=>simp only[ab,ap]
  | _ =>
   simp only[akI,ae2]
   rintro⟨n,e,s',h,_⟩
   rw[hV _ hf (λ_ _ e=>by cases e) n] at h
   simp[aep,hf] at h
 | clo fn caps =>
  simp only[akI,aep,hf]
  have hn:=hV _ hf (λ_ _ e=>by cases e)
  cases dr with
  | true =>
   simp only[ah,acv,fY,cY,ae2]
   rintro⟨n,e,s',h,_⟩
   rw[hn] at h
   cases h
  | false =>
   simp only[ab,ap,dg]
   cases ho:pr.obj (anI fn) with
   | true =>
    simp only[ah,dg]
    constructor
    .rintro⟨n,e,s',h,hq⟩;exact axM k d s Q n (anI fn) _ ⟨e,s',h,hq⟩
    .intro h;exact axL k d s Q (anI fn) _ h
   | false =>
    simp only[ab,ap,fY,ae2]
    rintro⟨n,e,s',h,_⟩
    rw[hn] at h
    cases h
 | _ =>
  simp only[akI,ae2]
  rintro⟨n,e,s',h,_⟩
  rw[hV _ hf (λ_ _ e=>by cases e) n] at h
  simp[aep,hf] at h
theorem Z7(f:Nat)(args:Array Operand)(tys:Array Nat):SO P pr dr k ⟨d,.call {callee:=.value (.func f),args:=args,argTypes:=tys},ty,po,af,g⟩ s Q ↔
  amy P pr dr s k d Q f (args.toList.map s.ev) [] (abJ s.ev args.toList) (pr.obj f):=by
 rw[aJ5]
 simp only[S.ev,akI,cI,aU]
theorem alA{o:Oper}(v:Option S)(h:∀ n,abl P (TT.of P) (enN P pr n) false s k o=v.map λs=>(none,s)):SO P pr false k o s Q↔ach (Q none) v:=by
 unfold SO
 simp only[h]
 cases v with
 | none=>simp[ach]
 | some s' =>
  constructor
  .rintro⟨n,e,s1,h1,h2⟩
   simp only[aP,bT] at h1
   obtain⟨rfl,rfl⟩:=h1
   exact h2
  .intro h1
   exact⟨0,none,s',rfl,h1⟩
def arz(s:S)(d:Option Nat)(ty:Nat):Option (List X)->Option S
 | some xs=>some (alz s d ty xs)
 | none=>none
def mtQ(b:Bool)(p q:Prop):Prop:=match b with
 | true=>p
 | false=>q
def nwX(tk:Tk)(t:Nat):Option TD->Out
 | some d=>if 0<d.size then out (.nw (some tk) t d.size) else none
 | none=>none
theorem aGC(t:Nat):SO P pr true k ⟨d,.alloc t,ty,po,af,g⟩ s Q↔ab8 s d af (Q none) (nwX (.nm s.clk k 0) t (TT.of P t)):=abI _ (λ_=>rfl) λ_=>by
 simp only[val]
 cases TT.of P t <;> rfl
theorem Z0(t:Nat):SO P pr false k ⟨d,.alloc t,ty,po,af,g⟩ s Q↔mtQ (pr.mt po d) (ach (Q none) (arz s d t ((TT.of P t).map fU))) (ab8 s d af (Q none) (nwX (.nm s.clk k 0) t (TT.of P t))):=by
 have e:∀ n,(enN P pr n).mt=pr.mt:=λ_=>rfl
 cases hm:pr.mt po d with
 | true =>
  refine alA k s Q _ λn=>?_
  simp only[abl,ab,ap,e,hm,ah]
  cases TT.of P t <;> rfl
 | false =>
  refine abI _ (λn=>?_) λ_=>?_
  .simp only[abl,ab,ap,e,hm]
  .simp only[val]
   cases TT.of P t <;> rfl
def aDs:Option TD->Option (List X)->Option (List X)
 | some d,some xs=>if xs.length=d.size then some xs else none
 | _,_=>none
def aDr(s:S)(d:Option Nat):Option TD->Option (List C)->Option S
 | some td,some cs=>if cs.length=td.size/\0<td.size then some (s.put d (.of (.ref cs))) else none
 | _,_=>none
theorem Z4(t:Nat)(x:Operand):SO P pr false k ⟨d,.box t x,ty,po,af,g⟩ s Q↔mtQ (pr.mt po d) (ach (Q none) (arz s d t (aDs (TT.of P t) (cJ (s.ev x))))) (ach (Q none) (aDr s d (TT.of P t) (fW (s.ev x)))):=by
 have e:∀ n,(enN P pr n).mt=pr.mt:=λ_=>rfl
 cases hm:pr.mt po d with
 | true =>
  refine alA k s Q _ λn=>?_
  simp only[abl,ab,ap,e,hm,ah]
  cases TT.of P t with
  | none=>rfl
  | some td =>
   cases cJ (s.ev x) with
   | none=>rfl
   | some xs=>simp only[aDs];split <;> rfl
 | false =>
  refine alA k s Q _ λn=>?_
  simp only[abl,ab,ap,e,hm]
  cases TT.of P t with
  | none=>rfl
  | some td =>
   cases fW (s.ev x) with
   | none=>rfl
   | some xs=>simp only[aDr];split <;> rfl
def amX(s:S)(d:Option Nat):Option TD->X->Option (List X)->Option S
 | some td,.ptr r off,some xs=>afx s d td.size r off xs
 | _,_,_=>none
def auS(s:S)(j t:Nat)(tk:Tk)(ty z:Nat)(af:Array Edge):Option TD->Option (List X)->Option S
 | some d,some xs=>if ty=t/\z=d.size/\xs.length=z/\aaQ s.clk af.toList (some tk)=true then some (aou (s.drop (some tk)) j t (X.drops tk xs)) else none
 | _,_=>none
def avS(s:S)(j t:Nat)(tk:Tk)(ty z:Nat)(af:Array Edge):Option TD->Option (List C)->Option S
 | some d,some cs=>if ty=t/\z=d.size/\cs.length=z/\aaQ s.clk af.toList (some tk)=true then some ((s.drop (some tk)).put (some j) (.of (.ref cs))) else none
 | _,_=>none
def stO(dr mt:Bool)(s:S)(j t:Nat)(af:Array Edge)(td:Option TD)(xs:Option (List X))(cs:Option (List C)):X->Option S
 | .nw (some tk) ty z=>match dr,mt with
  | false,true=>auS s j t tk ty z af td xs
  | _,_=>avS s j t tk ty z af td cs
 | ax=>match dr with
  | false=>amX s none td ax xs
  | true=>none
theorem aoU(E:En)(t j:Nat)(x:Operand):fO P (TT.of P) E s k ⟨none,.store t (.tmp j) x,ty,po,af,none⟩=(match s.fr j with
  | .nw (some tk) ty z=>avS s j t tk ty z af (TT.of P t) (fW (s.ev x))
  | _=>none).map λs=>(none,s):=by
 unfold fO val
 simp only
 cases hf:s.fr j with
 | nw o ty' z =>
  cases o with
  | none =>
   simp only
   cases TT.of P t <;> cases fW (s.ev x) <;> rfl
  | some tk =>
   cases TT.of P t with
   | none=>rfl
   | some td =>
    cases fW (s.ev x) with
    | none=>rfl
    | some cs =>
     simp only[avS]
     by_cases h1:ty'=t/\z=td.size/\cs.length=z
     .rw[aE h1]
      by_cases h2:aaQ s.clk af.toList (some tk)=true
      .simp only[h2,ah]
       rw[aE ⟨h1.1,h1.2.1,h1.2.2,trivial⟩]
       rfl
      .have h3:aaQ s.clk af.toList (some tk)=false:=by simpa using h2
       simp only[h3]
       rw[aA (λh=>by cases h),aA (λh=>by cases h.2.2.2)]
       rfl
     .rw[aA h1,aA (λh=>h1 ⟨h.1,h.2.1,h.2.2.1⟩)]
      rfl
 | _ =>
  simp only
  cases TT.of P t <;> cases fW (s.ev x) <;> rfl
theorem Zr(t j:Nat)(x:Operand):SO P pr dr k ⟨none,.store t (.tmp j) x,ty,po,af,none⟩ s Q↔ach (Q none) (stO dr (pr.mt po (some j)) s j t af (TT.of P t) (cJ (s.ev x)) (fW (s.ev x)) (s.fr j)):=by
 have e:∀ n,(enN P pr n).mt=pr.mt:=λ_=>rfl
 have key:∀ n,abl P (TT.of P) (enN P pr n) dr s k ⟨none,.store t (.tmp j) x,ty,po,af,none⟩=(stO dr (pr.mt po (some j)) s j t af (TT.of P t) (cJ (s.ev x)) (fW (s.ev x)) (s.fr j)).map λs=>(none,s):=λn=>by
  cases dr with
  | true =>
   show fO _ _ _ _ _ _=_
   rw[aoU]
   cases s.fr j with
   | nw o ty' z=>cases o <;> rfl
   | _=>rfl
  | false =>
   unfold abl
   have ej:s.ev (.tmp j)=s.fr j:=rfl
   simp only[ab,ap,e,dW,ej]
   cases hf:s.fr j with
   | nw o ty' z =>
    cases o with
    | none =>
     simp only[stO,amX]
     cases TT.of P t <;> (try rfl)
    | some tk =>
     simp only[stO]
     cases hm:pr.mt po (some j) with
     | true =>
      simp only[ah,auS]
      cases TT.of P t with
      | none=>rfl
      | some td =>
       cases cJ (s.ev x) with
       | none=>rfl
       | some xs =>
        simp only[aaZ]
        split <;> rfl
     | false =>
      simp only[ab,ap]
      rw[aoU,hf]
   | _ =>
    simp only[stO,amX]
    cases TT.of P t with
    | none=>rfl
    | some td=>cases cJ (s.ev x) <;> rfl
 unfold SO
 simp only[key]
 generalize stO dr (pr.mt po (some j)) s j t af (TT.of P t) (cJ (s.ev x)) (fW (s.ev x)) (s.fr j)=v
 cases v with
 | none=>simp[ach]
 | some s' =>
  constructor
  .rintro⟨n,e,s1,h1,h2⟩
   simp only[aP,bT] at h1
   obtain⟨rfl,rfl⟩:=h1
   exact h2
  .intro h1
   exact⟨0,none,s',rfl,h1⟩
def aos:Option Ob->Option (List (Value×C))
 | some (.map es)=>some es
 | _=>none
def ar5(kind:TypeDesc)(kv:Option Value)(c:Option C)(es:Option (List (Value×C))):Option (List (Value×C)):=match kv,c,es with
 | some kv,some c,some es=>al2 kind kv c es
 | _,_,_=>none
def aA6(s:S)(d:Option Nat)(x:X)(r:Nat):Option (List (Value×C))->Option S
 | some es=>some ({s with objs:=s.objs.set r (Ob.map es)}.put d x)
 | none=>none
def ajw(s:S)(d:Option Nat)(x:X):X->(Nat->Option (List (Value×C)))->Option S
 | .mp r,F=>aA6 s d x r (F r)
 | _,_=>none
theorem ax7{kind:TypeDesc}{et:Nat}(t:Nat)(m kx x:Operand)(ht:agG (TT.of P) t=some (kind,et)):SO P pr false k ⟨d,.mapUpdate t m kx x,ty,po,af,g⟩ s Q ↔
  ach (Q none) (ajw s d (.of .undef) (s.ev m) λr=>ar5 kind (gG (s.ev kx)) (s.ev x).rd (aos (s.objs[r]?))) :=
 alA k s Q _ λn=>by
  simp only[abl,ab,ap,ht]
  cases s.ev m with
  | mp r =>
   simp only[ajw]
   cases gG (s.ev kx) with
   | none=>rfl
   | some kv =>
    cases (s.ev x).rd with
    | none=>rfl
    | some c =>
     cases hr:s.objs[r]? with
     | none=>simp only[hr];rfl
     | some ob =>
      cases ob with
      | var _ _=>simp only[hr];rfl
      | row _ _=>simp only[hr];rfl
      | map es=>simp only[hr,aos,ar5,aA6];cases al2 kind kv c es <;> rfl
  | _=>rfl
theorem aGB{kind:TypeDesc}{et:Nat}(t:Nat)(m kx x:Operand)(ht:agG (TT.of P) t=some (kind,et)):SO P pr false k ⟨d,.insert t m kx x,ty,po,af,g⟩ s Q ↔
  ach (Q none) (ajw s d (.of .undef) (s.ev m) λr=>ar5 kind (gG (s.ev kx)) (s.ev x).rd (aos (s.objs[r]?))) :=
 alA k s Q _ λn=>by
  simp only[abl,ab,ap,ht]
  cases s.ev m with
  | mp r =>
   simp only[ajw]
   cases gG (s.ev kx) with
   | none=>rfl
   | some kv =>
    cases (s.ev x).rd with
    | none=>rfl
    | some c =>
     cases hr:s.objs[r]? with
     | none=>simp only[hr];rfl
     | some ob =>
      cases ob with
      | var _ _=>simp only[hr];rfl
      | row _ _=>simp only[hr];rfl
      | map es=>simp only[hr,aos,ar5,aA6];cases al2 kind kv c es <;> rfl
  | _=>rfl
def aQG(Q:Option X->S->Prop)(s:S):Option C->Prop
 | some (.ifc t c)=>Q (some (.of (.ifc t c))) s
 | _=>False
end
def endQ(P:Program)(b:Bool)(f m:Nat)(an:An):Ex->S->Prop
 | .normal,s=>((acb (TT.of P) s (acJ P f)).bind λrs=>ad1 m false (af9 b rs) s.objs)=some an
 | .ret,s=>((acb (TT.of P) s (acJ P f)).bind λrs=>ad1 m false (af9 b rs) s.objs)=some an
 | .pan x,s=>ad1 m true [x] s.objs=some an
 | .exit _,_=>False
theorem aF.of_body{f:Nat}{xs:List X}{obs:List Ob}{an:An}(hp:pr.prim f xs obs=none)(hok:asq pr.mt P f=true)(har:xs.length<=arw P f)(h:WC P pr (anL P f) (ael xs obs) (endQ P (pr.keep f) f obs.length an)):aF P pr f xs obs an:=by
 obtain⟨n,e,s',h1,hq⟩:=h
 refine⟨n,?_⟩
 unfold enN aig aom alx
 simp only
 rw[hp]
 simp only[hok,har,cz,ah,h1]
 cases e with
 | normal=>exact hq
 | ret=>exact hq
 | pan x=>exact hq
 | exit i=>exact hq.elim
theorem aF.of_prim{f:Nat}{xs:List X}{obs:List Ob}{an:An}(hp:pr.prim f xs obs=some an):aF P pr f xs obs an:=⟨0,by unfold enN aig aom;simp only;rw[hp]⟩
theorem aF.sound(hm:P.follows .mixedOrders=true){G:GP}(hpr:PrSound P G pr){f:Nat}{xs:List X}{obs:List Ob}{an:An}(h:aF P pr f xs obs an):abu P G f xs obs an:=by
 obtain⟨n,hn⟩:=h
 exact (amv hpr (ajn hm hpr n)).orc f xs obs an hn
end

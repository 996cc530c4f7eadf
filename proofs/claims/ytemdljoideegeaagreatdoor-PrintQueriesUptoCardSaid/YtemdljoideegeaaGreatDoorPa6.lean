/-
  An abstract machine for Go code over plain data: what the evaluator answers, the program returns. Conditions: none.
-/
import Derived.Test.YtemdljoideegeaaGreatDoorPa5
set_option linter.defProp false
set_option linter.unusedSectionVars false
set_option maxRecDepth 100000
set_option maxHeartbeats 64000000
namespace Go.Pe
open Go.RowKit
def Ex.is (k:Know) (ow:Own):Ex→Exit→Prop
 | .normal,e=>e=.normal
 | .exit i,e=>e=.exit i
 | .ret,e=>e=.ret
 | .pan x,e=>∃ v,e=.panic [{v:=v,recovered:=false}]∧bj k ow x v
section
variable {P:Program} {M0:Base} {k:Know} {ow:Own} {w0 w:World} {N:Nat} {s:S} {tmps:Array Value}
def auc (tmps:Array Value):ResultVar→Sem Value
 | .tmp t=>pure (tmps.getD t undef)
 | .cell a t=>do loadVar t (← asAddr (tmps.getD a undef))
def WP (P:Program) (n:Nat) (Q:Exit→Act→World→Prop) (a:Act) (w:World):Code→Prop
 | .loop b=>Code.rounds P b Q n a w
 | c=>c.wp P Q a w
theorem WP.wp {P:Program} {n:Nat} {Q:Exit→Act→World→Prop} {a:Act} {w:World} {c:Code} (h:WP P n Q a w c):c.wp P Q a w:=by
 cases c with
 | loop b=>exact wp_loop_rounds n h
 | _=>exact h
def amC (P:Program) (G:GP) (pr:Pr) (n:Nat):Prop :=
 ∀ (M0:Base) (w0:World) (N:Nat) (c:Code) (s:S) (e:Ex) (s':S),M0.G=G→evC P (TT.of P) pr n c s=some (e,s')→ad8 N c=true →
  ∀ (k:Know) (ow:Own) (w:World) (tmps:Array Value) (Q:Exit→Act→World→Prop),Sim M0 k ow (fun _=>False) w0 w N s tmps →
   (∀ x tmps' w' k' ow',k.le k'→Sim M0 k' ow' (fun _=>False) w0 w' N s' tmps'→e.is k' ow' x→Q x ⟨tmps',[]⟩ w')→WP P n Q ⟨tmps,[]⟩ w c
theorem ajo (hs:Sim M0 k ow (fun _=>False) w0 w N s tmps):∀ (l:List ResultVar) (us:List X),ab4 (TT.of P) s l=some us →
  ∃ vs:List Value,(l.mapM (auc tmps)).run P w=.ok vs w∧bz k ow us vs
 | [],us,h=>by
  simp only[ab4,ae] at h
  subst h
  exact⟨[],by simp,by simp[bz]⟩
 | .tmp t::l,us,h=>by
  simp only[ab4,aP] at h
  obtain⟨q,hq,rfl⟩:=h
  obtain⟨vs,h1,h2⟩:=ajo hs l q hq
  refine⟨tmps.getD t undef::vs,by simp only[aeI,auc,Sem.run_bind,Sem.run_pure,Result.andThen_ok,h1],?_⟩
  simp only[bz]
  exact⟨_,_,rfl,hs.fr t,h2⟩
 | .cell a t::l,us,h=>by
  simp only[ab4] at h
  split at h
  .rename_i x e q hl hq
   simp only[ae] at h
   subst h
   obtain⟨vs,h1,h2⟩:=ajo hs l q hq
   obtain⟨_,u,hr,hx⟩:=apx hs.toHp hl (hs.fr a)
   have hadr:∃ ad,tmps.getD a undef=.pointer (some ad)∧(loadVar t ad).run P w=.ok u w:=by
    simp only[Instr.loadAt,Sem.run_bind] at hr
    cases hv:tmps.getD a undef with
    | pointer p =>
     cases p with
     | none=>rw[hv] at hr;simp[Instr.sureAddr] at hr
     | some ad=>rw[hv] at hr;simp[Instr.sureAddr] at hr;exact⟨ad,rfl,hr⟩
    | _=>rw[hv] at hr;simp[Instr.sureAddr] at hr
   obtain⟨ad,hv,hr⟩:=hadr
   refine⟨u::vs,by simp only[aeI,auc,hv,asAddr,Sem.run_bind,Sem.run_pure,Result.andThen_ok,hr,h1],?_⟩
   simp only[bz]
   exact⟨_,_,rfl,hx,h2⟩
  .cases h
theorem awW {fn:Func} {us:List Value} (h1:(fn.results.toList.mapM (auc tmps)).run P w=.ok us w):(results fn tmps).run P w=.ok (akK us) w:=by
 have hres:results fn tmps=(do
   let vs ← fn.results.mapM (auc tmps)
   pure (if h:vs.size=1 then vs[0] else .tuple vs)):=by
  unfold results
  congr 1
 rw[hres,Array.mapM_eq_mapM_toList]
 simp only[Sem.run_bind,Sem.run_map,h1,Result.andThen_ok,Sem.run_pure]
 congr 1
 match us with
 | []=>rfl
 | [u]=>rfl
 | u::u'::q=>rfl
theorem axn {objs:List Ob} (h:Hp M0 k ow w0 w objs) {m:Nat} {pan:Bool} {rs:List X} {us:List Value} {an:An} (hl:aev m pan rs objs=some an) (hrs:bz k ow rs us) :
  ∃ k' ow',an.pan=pan∧Hp M0 k' ow' w0 w an.obs∧k'.m=k.m∧m≤an.obs.length∧(∀ r,r<m→k'.μ r=k.μ r)∧(∀ t p,ow' t=some p→t.older 1 fun _=>False)∧(∀ r off p,ow' (.cell r off)=some p→r<an.obs.length)∧bz k' ow' an.rs us:=by
 unfold aev at hl
 simp only[aP] at hl
 obtain⟨obs,hp,rfl⟩:=hl
 have hn1:=ahg objs 999 (X.refsL rs++((objs.take m).map Ob.refs).flatten) (List.range m) List.nodup_range
 obtain⟨q,hq⟩:=ajp objs 999 (X.refsL rs++((objs.take m).map Ob.refs).flatten) (List.range m)
 have hn2:=(ai4 (X.toksL rs) [] aa1).filter (fun t=>match t with
  | .nm ..=>true
  | .cell r _=>!decide (r∈aah objs 999 (X.refsL rs++((objs.take m).map Ob.refs).flatten) (List.range m)))
 refine⟨_,_,rfl,h.re hn1 hn2 hp h.good h.below (fun _ _ h=>h) h.m0,rfl,?_,fun r hr=>?_,fun t p ht=>arx ht,fun i off p ht=>?_,bz.tr aue _ _ hrs⟩
 .rw[aee hp,hq]
  simp
 .simp only[reK]
  rw[hq,dA (by simpa using hr)]
  simp[hr]
 .rw[aee hp]
  exact ary ht
theorem aFy {k:Know} {ow:Own} {x:X} {v:Value} (h:bj k ow x v):bj k ow (aiZ x) v:=by
 unfold aiZ
 cases hr:x.rd with
 | none=>exact h
 | some c=>simp only[aoV,bj];exact ae1 _ _ _ hr h
theorem aJs {k:Know} {ow:Own} (b:Bool):∀ {rs:List X} {us:List Value},bz k ow rs us→bz k ow (afN b rs) us:=by
 intro rs us h
 cases b with
 | true=>exact h
 | false =>
  unfold afN
  simp only
  induction rs generalizing us with
  | nil=>exact h
  | cons x r ih =>
   simp only[bz] at h
   obtain⟨v,l,rfl,h1,h2⟩:=h
   simp only[aV,bz]
   exact⟨v,l,rfl,aFy h1,ih h2⟩
theorem avR {G:GP} {pr:Pr} {n:Nat} (h:amC P G pr n) {f:Nat} {xs:List X} {obs:List Ob} {an:An} (hc:amp P (TT.of P) pr.keep (evC P (TT.of P) pr n) f xs obs=some an):ad2 P G f xs obs an:=by
 intro fn hf k ow w vs hhp hold hcl hvs
 unfold amp at hc
 split at hc
 rotate_left
 .cases hc
 rename_i hok
 obtain⟨hok,har⟩:=hok
 have hb:∃ b,fn.body=some b∧ad8 fn.ntmps b=true∧amu P f=b∧ap4 P f=fn.ntmps∧aed P f=fn.results.toList:=by
  unfold aDL at hok
  simp only[hf,ab,abJ] at hok
  obtain⟨⟨b,hb⟩,h2⟩:=hok
  rw[hb] at h2
  exact⟨b,hb,h2,by simp[amu,hf,hb],by simp[ap4,hf],by simp[aed,hf]⟩
 obtain⟨b,hb,hcode,e1,e2,e3⟩:=hb
 have hvl:vs.length≤fn.ntmps:=by rw[hvs.length,← e2];exact har
 have hsim:Sim ⟨G,k.m,abo k ow⟩ k ow (fun _=>False) w w fn.ntmps (agF xs obs) (vs.toArray++Array.replicate (fn.ntmps-vs.toArray.size) undef):={hhp with
  size:=by simp;omega
  fresh:=hold
  cells:=hcl
  fr:=fun j=>by
   simp only[agF]
   have hg:(vs.toArray++Array.replicate (fn.ntmps-vs.toArray.size) undef).getD j undef=vs.getD j undef:=by
    rw[aa7,dW]
    rcases ap j vs.length with g|g
    .rw[Array.getElem?_append_left (by simpa using g)]
     simp
    .rw[Array.getElem?_append_right (by simpa using g)]
     rw[dB g]
     simp only[gS,Array.getElem?_replicate]
     split <;> rfl
   rw[hg]
   cases hc:xs[j]? with
   | none =>
    have:vs[j]?=none:=by
     rw[List.getElem?_eq_none_iff] at hc ⊢
     rw[hvs.length];exact hc
    rw[dW,dW,this,hc]
    simp[bj,Rep]
   | some c =>
    obtain⟨v,hv,hr⟩:=hvs.get j c hc
    rw[dW,dW,hv,hc]
    exact hr}
 have fin:∀ (pan:Bool) (rs:List X) (us:List Value) (s:S) (tmps':Array Value) (w':World) (k':Know) (ow':Own),aev obs.length pan rs s.objs=some an→k.le k'→Sim ⟨G,k.m,abo k ow⟩ k' ow' (fun _=>False) w w' fn.ntmps s tmps'→bz k' ow' rs us →
   ∀ en,ahN pan us en→∃ k' ow' us,ahN an.pan us en∧Hp ⟨G,k.m,abo k ow⟩ k' ow' w w' an.obs∧k.m.le k'.m∧obs.length≤an.obs.length∧(∀ r,r<obs.length→k'.μ r=k.μ r) ∧
    (∀ t p,ow' t=some p→t.older 1 fun _=>False)∧(∀ r off p,ow' (.cell r off)=some p→r<an.obs.length)∧bz k' ow' an.rs us:=by
  intro pan rs us s tmps' w' k' ow' hl hle hs' hrs en hen
  obtain⟨k2,ow2,g1,g2,g3,g4,g5,g6,g7,g8⟩:=axn hs'.toHp hl hrs
  refine⟨k2,ow2,us,by rw[g1];exact hen,g2,by rw[g3];exact hle.1,g4,fun r hr=>?_,g6,g7,g8⟩
  rw[g5 r hr]
  obtain⟨b,hb,_⟩:=hhp.obj r _ (bK hr)
  rw[hb]
  exact hle.2 _ _ hb
 have key:∀ e s,evC P (TT.of P) pr n b (agF xs obs)=some (e,s)→((e=.normal∨e=.ret)∧((ab4 (TT.of P) s fn.results.toList).bind fun rs=>aev obs.length false (afN (pr.keep f) rs) s.objs)=some an)∨(∃ x,e=.pan x∧aev obs.length true [x] s.objs=some an) →
   Calls P f vs.toArray w fun e w'=>∃ k' ow' us,ahN an.pan us e∧Hp ⟨G,k.m,abo k ow⟩ k' ow' w w' an.obs∧k.m.le k'.m∧obs.length≤an.obs.length∧(∀ r,r<obs.length→k'.μ r=k.μ r) ∧
    (∀ t p,ow' t=some p→t.older 1 fun _=>False)∧(∀ r off p,ow' (.cell r off)=some p→r<an.obs.length)∧bz k' ow' an.rs us:=by
  intro e s hev hres
  refine calls_of_wp hf hb ?_
  refine (h ⟨G,k.m,abo k ow⟩ w fn.ntmps b (agF xs obs) e s rfl hev hcode _ _ w _ _ hsim fun x' tmps' w' k' ow' g1 g2 g3=>?_).wp
  rcases hres with ⟨he,hres⟩|⟨x,rfl,hres⟩
  .simp only[cS] at hres
   obtain⟨rs,hrs,hl⟩:=hres
   obtain⟨us,h1,h2⟩:=ajo (P:=P) g2 fn.results.toList rs hrs
   have hrun:=awW h1
   have hpost:=fin false (afN (pr.keep f) rs) us s tmps' w' k' ow' hl g1 g2 (aJs _ h2) (.returned (akK us)) rfl
   rcases he with rfl|rfl
   .simp only[Ex.is] at g3
    subst g3
    exact⟨rfl,_,hrun,hpost⟩
   .simp only[Ex.is] at g3
    subst g3
    exact⟨rfl,_,hrun,hpost⟩
  .simp only[Ex.is] at g3
   obtain⟨v,rfl,hv⟩:=g3
   exact⟨rfl,fin true [x] [v] s tmps' w' k' ow' hres g1 g2 (by simp[bz,hv]) _ ⟨v,rfl,rfl⟩⟩
 rw[e1,e3] at hc
 split at hc
 .rename_i s hev;exact key _ s hev (.inl ⟨.inl rfl,hc⟩)
 .rename_i s hev;exact key _ s hev (.inl ⟨.inr rfl,hc⟩)
 .rename_i x s hev;exact key _ s hev (.inr ⟨x,rfl,hc⟩)
 .cases hc
structure PrSound (P:Program) (G:GP) (pr:Pr):Prop where
 prim:∀ f xs obs an,pr.prim f xs obs=some an→ad2 P G f xs obs an
theorem apO {G:GP} {pr:Pr} (hpr:PrSound P G pr) {n:Nat} (h:amC P G pr n):EnSound P G (ajy P (TT.of P) pr (evC P (TT.of P) pr n)) where
 orc:=by
  intro f xs obs an h'
  simp only[ajy,ao9] at h'
  split at h'
  .rename_i r' hp
   simp only[ae] at h'
   subst h'
   exact hpr.prim f xs obs r' hp
  .exact avR h h'
theorem apV (hm:P.follows .mixedOrders=true) {G:GP} {pr:Pr} (hpr:PrSound P G pr):∀ n,amC P G pr n
 | 0=>by intro M0 w0 N c s e s' _ h;simp[evC] at h
 | n+1=>by
  have ih:=apV hm hpr n
  have horc:=apO hpr ih
  intro M0 w0 N c s e s' hG h hok k ow w tmps Q hs hQ
  unfold evC at h
  cases c with
  | skip =>
   simp only[dX] at h
   obtain⟨rfl,rfl⟩:=h
   exact wp_skip (hQ _ tmps w k ow (Know.le_refl k) hs rfl)
  | ret =>
   simp only[dX] at h
   obtain⟨rfl,rfl⟩:=h
   exact wp_ret (hQ _ tmps w k ow (Know.le_refl k) hs rfl)
  | exit i =>
   simp only[dX] at h
   obtain⟨rfl,rfl⟩:=h
   exact wp_exit (hQ _ tmps w k ow (Know.le_refl k) hs rfl)
  | seq a b =>
   simp only[ad8,ab] at hok
   refine wp_seq ?_
   simp only at h
   split at h
   .rename_i s1 h1
    refine (ih M0 w0 N a s _ s1 hG h1 hok.1 k ow w tmps _ hs fun x tmps' w' k' ow' g1 g2 g3=>?_).wp
    simp only[Ex.is] at g3
    subst g3
    exact (ih M0 w0 N b s1 e s' hG h hok.2 k' ow' w' tmps' Q g2 fun x tmps'' w'' k'' ow'' g3 g4 g5=>hQ x tmps'' w'' k'' ow'' (Know.le_trans g1 g3) g4 g5).wp
   .rename_i hne
    refine (ih M0 w0 N a s e s' hG h hok.1 k ow w tmps _ hs fun x tmps' w' k' ow' g1 g2 g3=>?_).wp
    have hx:=hQ x tmps' w' k' ow' g1 g2 g3
    cases e with
    | normal=>exact (hne s' h).elim
    | exit i=>simp only[Ex.is] at g3;subst g3;exact hx
    | ret=>simp only[Ex.is] at g3;subst g3;exact hx
    | pan x=>simp only[Ex.is] at g3;obtain⟨v,rfl,_⟩:=g3;exact hx
  | block i c =>
   refine wp_block ?_
   simp only at h
   split at h
   .rename_i j s1 h1
    simp only[dX] at h
    obtain⟨rfl,rfl⟩:=h
    refine (ih M0 w0 N c s _ s1 hG h1 hok k ow w tmps _ hs fun x tmps' w' k' ow' g1 g2 g3=>?_).wp
    simp only[Ex.is] at g3
    subst g3
    simp only[Exit.inBlock]
    split
    .rename_i e;exact hQ _ tmps' w' k' ow' g1 g2 (by rw[aE e];rfl)
    .rename_i e;exact hQ _ tmps' w' k' ow' g1 g2 (by rw[aj e];rfl)
   .rename_i hne
    refine (ih M0 w0 N c s e s' hG h hok k ow w tmps _ hs fun x tmps' w' k' ow' g1 g2 g3=>?_).wp
    have hx:=hQ x tmps' w' k' ow' g1 g2 g3
    cases e with
    | normal=>simp only[Ex.is] at g3;subst g3;exact hx
    | exit i=>exact (hne i s' h).elim
    | ret=>simp only[Ex.is] at g3;subst g3;exact hx
    | pan x=>simp only[Ex.is] at g3;obtain⟨v,rfl,_⟩:=g3;exact hx
  | cond c a b =>
   simp only[ad8,ab] at hok
   simp only at h
   split at h
   .rename_i hc
    exact wp_cond_true (aob hc (hs.ev c)) (ih M0 w0 N a s e s' hG h hok.1 k ow w tmps Q hs hQ).wp
   .rename_i hc
    exact wp_cond_false (aob hc (hs.ev c)) (ih M0 w0 N b s e s' hG h hok.2 k ow w tmps Q hs hQ).wp
   .cases h
  | loop c =>
   simp only at h
   split at h
   .rename_i s1 h1
    refine (ih M0 w0 N c s _ s1 hG h1 hok k ow w tmps _ hs fun x tmps' w' k' ow' g1 g2 g3=>?_).wp
    simp only[Ex.is] at g3
    subst g3
    exact ih M0 w0 N (.loop c) s1 e s' hG h hok k' ow' w' tmps' Q g2 fun x tmps'' w'' k'' ow'' g3 g4 g5=>hQ x tmps'' w'' k'' ow'' (Know.le_trans g1 g3) g4 g5
   .rename_i hne
    refine (ih M0 w0 N c s e s' hG h hok k ow w tmps _ hs fun x tmps' w' k' ow' g1 g2 g3=>?_).wp
    have hx:=hQ x tmps' w' k' ow' g1 g2 g3
    cases e with
    | normal=>exact (hne s' h).elim
    | exit i=>simp only[Ex.is] at g3;subst g3;exact hx
    | ret=>simp only[Ex.is] at g3;subst g3;exact hx
    | pan x=>simp only[Ex.is] at g3;obtain⟨v,rfl,_⟩:=g3;exact hx
  | region id ops draw =>
   subst hG
   simp only[ad8] at hok
   simp only at h
   split at h
   .rename_i s1 h1
    simp only[dX] at h
    obtain⟨rfl,rfl⟩:=h
    exact alX hm horc hok hs h1 (fun _ tmps' w' k' ow' g1 g2=>hQ _ tmps' w' k' ow' g1 g2 rfl) (fun x hx=>by cases hx)
   .rename_i x s1 h1
    simp only[dX] at h
    obtain⟨rfl,rfl⟩:=h
    exact alX hm horc hok hs h1 (fun hx=>by cases hx) (fun y hy v tmps' w' k' ow' g1 g2 g3=>by cases hy;exact hQ _ tmps' w' k' ow' g1 g2 ⟨v,rfl,g3⟩)
   .cases h
  | _=>simp at h
end
end Go.Pe

/- A part. Conditions: none. -/
import Derived.Test.YtghkmcffifpkeaaGreatPa4
set_option linter.all false
set_option maxRecDepth 100000
set_option maxHeartbeats 64000000
namespace Go.Pe
open RowKit
def ae5(s:S)(d:Option Nat)(z:X)(x:Operand)(h:∀ j,d=some j->x≠.tmp j):(s.put d z).ev x=s.ev x:=by
 cases d with
 | none=>rfl
 | some d =>
  cases x with
  | tmp t =>
   have:t≠d:=λe=>h d rfl (by rw[e])
   simp[S.put,S.ev,upd,this]
  | _=>rfl
theorem ajP{f g:Operand->X}:∀ (ps:List (Nat×Operand)),(∀ p∈ps,f p.2=g p.2)->gN f ps=gN g ps
 | [],_=>rfl
 | (i,x)::r,h=>by
  simp only[gN]
  rw[h (i,x) aT,ajP r (λp hp=>h p (by simp[hp]))]
theorem akS{f g:Operand->X}:∀ (l:List Operand),(∀ x∈l,f x=g x)->abJ f l=abJ g l
 | [],_=>rfl
 | x::r,h=>by
  simp only[abJ]
  rw[h x aT,akS r (λp hp=>h p (by simp[hp]))]
def asN(P:Program)(T:TT)(E:En){s s':S}(ix:Nat)(o:Oper)(hc:s'.clk=s.clk)(hob:s'.objs=s.objs)(h:∀ x∈o.op.operands.toList,s'.ev x=s.ev x) :
  val P T E s' ix o=val P T E s ix o:=by
 unfold val
 split <;> rename_i ho <;> (try rw[ho] at h)
 .rw[h _ (by simp[Op.operands])]
 .rw[h _ (by simp[Op.operands])]
 .rw[h _ (by simp[Op.operands]),h _ (by simp[Op.operands]),h _ (by simp[Op.operands])]
 .rw[h _ (by simp[Op.operands]),h _ (by simp[Op.operands])]
 .rw[h _ (by simp[Op.operands])]
 .rw[h _ (by simp[Op.operands]),hob]
 .rw[h _ (by simp[Op.operands])]
 .rw[h _ (by simp[Op.operands])]
 .rw[h _ (by simp[Op.operands]),h _ (by simp[Op.operands])]
 .rw[h _ (by simp[Op.operands]),h _ (by simp[Op.operands])]
 .rename_i t x lo hi
  rw[h x (by simp[Op.operands])]
  have h1:lo.map s'.ev=lo.map s.ev:=by
   cases lo with
   | none=>rfl
   | some y=>simp[h y (by simp[Op.operands])]
  have h2:hi.map s'.ev=hi.map s.ev:=by
   cases hi with
   | none=>rfl
   | some y=>simp[h y (by simp[Op.operands])]
  rw[h1,h2]
 .rename_i t ps
  rw[ajP (f:=s'.ev) (g:=s.ev) ps.toList (λp hp=>h p.2 (by simp only[Op.operands];exact List.mem_map.2 ⟨p,hp,rfl⟩))]
 .rename_i t n ps
  rw[ajP (f:=s'.ev) (g:=s.ev) ps.toList (λp hp=>h p.2 (by simp only[Op.operands];exact List.mem_map.2 ⟨p,hp,rfl⟩)),hc]
 .rw[h _ (by simp[Op.operands])]
 .rw[h _ (by simp[Op.operands])]
 .rename_i f first caps
  rw[akS (f:=s'.ev) (g:=s.ev) caps.toList (λx hx=>h x (by simp only[Op.operands,aas,bS];exact .inr hx)),fm (l:=caps.toList) (f:=s'.ev) (g:=s.ev) (λx hx=>h x (by simp only[Op.operands,aas,bS];exact .inr hx)),fm (l:=first.toList) (f:=s'.ev) (g:=s.ev) (λx hx=>h x (by simp only[Op.operands,aas,bS];exact .inl (by simp[hx])))]
 .rw[h _ (by simp[Op.operands])]
 .rw[h _ (by simp[Op.operands]),h _ (by simp[Op.operands]),hob]
 .rw[h _ (by simp[Op.operands])]
 .rw[h _ (by simp[Op.operands])]
 .rename_i cal args tys
  have hargs:∀ x∈args.toList,s'.ev x=s.ev x:=λx hx=>h x (by simp only[Op.operands,Call.operands,aas,bS];exact .inr hx)
  unfold ae8
  split
  .rename_i hl _;rw[hargs _ (by rw[hl];simp)]
  .rename_i hl _;rw[hargs _ (by rw[hl];simp),hargs _ (by rw[hl];simp),hc]
  .rename_i hl;rw[hargs _ (by rw[hl];simp),hargs _ (by rw[hl];simp)]
  .rename_i hl;rw[hargs _ (by rw[hl];simp),hargs _ (by rw[hl];simp)]
  .rename_i f
   rw[akS (f:=s'.ev) (g:=s.ev) args.toList hargs,h f (by simp[Op.operands,Call.operands]),hc]
  .rfl
 .rw[hc]
 .rename_i t d x
  have h1:s'.fr d=s.fr d:=h (.tmp d) (by simp[Op.operands])
  rw[h1,h x (by simp[Op.operands])]
 .rfl
def Y(P:Program)(T:TT)(E:En)(ops:Array Oper)(s:S)(ix:Nat)(o:Oper)(x:X)(e:Option Tk):Prop :=
 (eV ops s o=some true/\val P T E s ix o=some (x,e)/\aaQ s.clk o.after.toList e=true)\/(eV ops s o=some false/\x=.of .undef/\e=none)
section
variable {P:Program} {T:TT} {E:En} {ops:Array Oper} {s:S} {ix:Nat} {o:Oper}
theorem amY:abl P T E true s ix o=fO P T E s ix o:=rfl
theorem ark{ops:Array Oper}{s:S}{o:Oper}(h:eV ops s o=some false):dW o=o.dst:=by
 unfold dW
 split
 .rename_i hg
  unfold eV at h
  rw[hg] at h
  cases h
 .rfl
theorem aeC{q:Option X}{s':S}(h:bH P T E true ops s ix o=some (q,s')):q=none/\∃ x e,Y P T E ops s ix o x e/\s'=(s.drop e).put (dW o) x:=by
 unfold bH at h
 split at h
 .rename_i hg
  rw[amY] at h
  unfold fO at h
  split at h
  .rename_i x e hv
   split at h
   .rename_i hok
    simp only[bT] at h
    exact⟨h.1.symm,x,e,.inl ⟨hg,hv,hok⟩,h.2.symm⟩
   .cases h
  .cases h
 .rename_i hg
  simp only[bT] at h
  exact⟨h.1.symm,_,none,.inr ⟨hg,rfl,rfl⟩,by rw[ark hg];exact h.2.symm⟩
 .cases h
theorem aiB{x:X}{e:Option Tk}(h:Y P T E ops s ix o x e):bH P T E true ops s ix o=some (none,(s.drop e).put (dW o) x):=by
 unfold bH
 rcases h with ⟨hg,hv,hok⟩|⟨hg,rfl,rfl⟩
 .rw[hg,amY]
  unfold fO
  simp only[hv,hok,ah]
 .rw[hg,ark hg]
  rfl
theorem aq8(t:Tk):eV ops (s.drop (some t)) o=eV ops s o:=by
 unfold eV
 split
 .rfl
 .split
  .rename_i d _
   simp only[S.drop]
   cases s.fr d with
   | own t' e z cs n=>rcases fQ t t' e z cs n with h|h <;> rw[h]
   | _=>rfl
  .rfl
theorem aFD{d:Option Nat}{z:X}(h:∀ j,d=some j->j∉o.looksAt ops):eV ops (s.put d z) o=eV ops s o:=by
 unfold eV
 split
 .rfl
 .rename_i j want hg
  split
  .rename_i c hc
   have hne:∀ q,d=some q->c≠q:=λq hq e=>h q hq (by
    unfold Oper.looksAt
    rw[hg]
    simp[hc,e])
   cases d with
   | none=>rfl
   | some q =>
    have:=hne q rfl
    simp[S.put,upd,this]
  .rfl
theorem arA{x:X}{e:Option Tk}{d:Option Nat}{z:X}(h:∀ j,d=some j->j∉o.looksAt ops):Y P T E ops (s.put d z) ix o x e↔Y P T E ops s ix o x e:=by
 unfold Y
 have hv:val P T E (s.put d z) ix o=val P T E s ix o:=by
  refine asN P T E ix o (by cases d <;> rfl) (by cases d <;> rfl) λy hy=>ae5 s d z y λj hj e=>h j hj ?_
  unfold Oper.looksAt
  rw[bS]
  refine .inl (List.mem_filterMap.2 ⟨y,hy,?_⟩)
  rw[e]
 rw[aFD h,hv,show (s.put d z).clk=s.clk by cases d <;> rfl]
theorem aTv{x:X}{e:Option Tk}{t:Tk}(ht:∀ i,t≠.nm s.clk ix i)(hne:e≠some t)(h:Y P T E ops s ix o x e):Y P T E ops (s.drop (some t)) ix o (x.drop t) e:=by
 unfold Y at *
 rw[aq8,avm P T E t s ix ht o]
 rcases h with ⟨hg,hv,hok⟩|⟨hg,rfl,rfl⟩
 .exact .inl ⟨hg,by rw[hv];simp[fR,hne],hok⟩
 .exact .inr ⟨hg,rfl,rfl⟩
theorem aJ4{x:X}{e:Option Tk}{t:Tk}(ht:∀ i,t≠.nm s.clk ix i)(h:Y P T E ops (s.drop (some t)) ix o x e):∃ x',Y P T E ops s ix o x' e/\x=x'.drop t/\e≠some t:=by
 unfold Y at *
 rw[aq8,avm P T E t s ix ht o] at h
 rcases h with ⟨hg,hv,hok⟩|⟨hg,rfl,rfl⟩
 .cases hval:val P T E s ix o with
  | none=>rw[hval] at hv;simp[fR] at hv
  | some p =>
   obtain⟨x',u⟩:=p
   rw[hval] at hv
   simp only[fR] at hv
   split at hv
   .cases hv
   .rename_i hne
    simp only[bT] at hv
    obtain⟨rfl,rfl⟩:=hv
    exact⟨x',.inl ⟨hg,rfl,hok⟩,rfl,hne⟩
 .exact⟨.of .undef,.inr ⟨hg,rfl,rfl⟩,rfl,by simp⟩
theorem aTr{x:X}{c j i:Nat}(h:Y P T E ops s ix o x (some (.nm c j i))):c<s.clk\/(c=s.clk/\∃ e∈o.after,Region.binds .any e=true/\e.on=j):=by
 rcases h with ⟨_,_,hok⟩|⟨_,_,h⟩
 .simp only[aaQ,bD,aR,ar,List.any_eq_true,dL] at hok
  rcases hok with h|⟨h1,e,he,h2,h3⟩
  .exact .inl h
  .exact .inr ⟨h1,e,by simpa using he,h2,h3⟩
 .cases h
end
def ah6(s:S)(d:Option Nat)(x:X)(t:Tk):(s.put d x).drop (some t)=(s.drop (some t)).put d (x.drop t):=by
 cases d with
 | none=>rfl
 | some d =>
  simp only[S.put,S.drop]
  congr 1
  funext j
  simp only[upd]
  split <;> rfl
def afZ(s:S){d c:Option Nat}(x y:X)(h:∀ j,d=some j->c≠some j):(s.put d x).put c y=(s.put c y).put d x:=by
 cases d with
 | none=>rfl
 | some d =>
  cases c with
  | none=>rfl
  | some c =>
   have hne:c≠d:=λe=>h d rfl (by rw[e])
   simp only[S.put]
   congr 1
   funext j
   simp only[upd]
   by_cases h1:j=d
   .subst h1
    rw[aA (bC hne)]
    simp
   .simp[h1]
def ayT(t u:Tk)(o:Ob):(o.drop t).drop u=(o.drop u).drop t:=by
 cases o with
 | var ty xs=>simp only[Ob.drop,ab3,agR];congr 1;apply fm;intro x _;exact drop_drop t u x
 | map es=>rfl
 | row ty cs=>rfl
def aBk(s:S)(e u:Option Tk):(s.drop e).drop u=(s.drop u).drop e:=by
 cases e with
 | none=>rfl
 | some e =>
  cases u with
  | none=>rfl
  | some u =>
   simp only[S.drop]
   congr 1
   .funext j;exact drop_drop e u _
   .simp only[agR];apply fm;intro o _;exact ayT e u o
def ajp(ops:Array Oper)(oi oj:Oper):Prop:=(∀ d,dW oi=some d->d∉oj.looksAt ops)/\(∀ d,dW oi=some d->dW oj≠some d)/\(∀ d,dW oj=some d->d∉oi.looksAt ops)
theorem ajp.symm{ops:Array Oper}{oi oj:Oper}(h:ajp ops oi oj):ajp ops oj oi:=⟨h.2.2,λd hd e=>h.2.1 d e hd,h.1⟩
def amZ{ops:Array Oper}{i j:Nat}{oi oj:Oper}(hi:ops[i]?=some oi)(hj:ops[j]?=some oj)(hne:i≠j)(hij:∀ e∈oi.after,Region.binds .any e=true->e.on≠j)(h:afm ops i=true):∀ d,dW oi=some d->d∉oj.looksAt ops/\dW oj≠some d:=by
 intro d hd
 unfold afm at h
 simp only[hi,hd] at h
 rw[ar] at h
 have hjs:j<ops.size:=(Array.getElem?_eq_some_iff.1 hj).1
 have:=bo.1 h.2 j (List.mem_range.2 hjs)
 rw[hj] at this
 simp only[bD,ar,dL,df,adl,dv,abq] at this
 rcases this with e|⟨h1,h2⟩
 .exact absurd e.symm hne
 .refine⟨λhm=>?_,λe=>?_⟩
  .have:(oj.looksAt ops).contains d=true:=by simpa using hm
   rw[this] at h1
   cases h1
  .rcases h2 with h2|⟨_,e',he,hb,hon⟩
   .exact h2 e
   .exact hij e' he hb hon
def aij{ops:Array Oper}{i j:Nat}{oi oj:Oper}(hi:ops[i]?=some oi)(hj:ops[j]?=some oj)(hne:i≠j)(hij:∀ e∈oi.after,Region.binds .any e=true->e.on≠j)(hji:∀ e∈oj.after,Region.binds .any e=true->e.on≠i)
  (hap:oi.apart ops oj=true) (si:cZ oi.op=true->afm ops i=true) (sj:cZ oj.op=true->afm ops j=true):ajp ops oi oj:=by
 obtain⟨a1,a2,a3⟩:=Oper.apart_spec hap
 cases hsi:cZ oi.op with
 | true =>
  have q1:=amZ hi hj hne hij (si hsi)
  cases hsj:cZ oj.op with
  | true =>
   have q2:=amZ hj hi (bC hne) hji (sj hsj)
   exact⟨λd hd=>(q1 d hd).1,λd hd=>(q1 d hd).2,λd hd=>(q2 d hd).1⟩
  | false=>exact⟨λd hd=>(q1 d hd).1,λd hd=>(q1 d hd).2,λd hd=>a3 d (by rw[← hd,adR hsj])⟩
 | false =>
  cases hsj:cZ oj.op with
  | true =>
   have q2:=amZ hj hi (bC hne) hji (sj hsj)
   exact⟨λd hd=>a1 d (by rw[← hd,adR hsi]),λd hd e=>(q2 d e).2 hd,λd hd=>(q2 d hd).1⟩
  | false=>exact⟨λd hd=>a1 d (by rw[← hd,adR hsi]),λd hd=>by rw[adR hsj];exact a2 d (by rw[← hd,adR hsi]),λd hd=>a3 d (by rw[← hd,adR hsj])⟩
def axF{P:Program}{T:TT}{E:En}{ops:Array Oper}{s s1 s2:S}{i j:Nat}{oi oj:Oper}(hap:ajp ops oi oj)
  (hij:∀ e∈oi.after,Region.binds .any e=true->e.on≠j) (hji:∀ e∈oj.after,Region.binds .any e=true->e.on≠i)
  (h1:bH P T E true ops s i oi=some (none,s1)) (h2:bH P T E true ops s1 j oj=some (none,s2)):∃ s',bH P T E true ops s j oj=some (none,s')/\bH P T E true ops s' i oi=some (none,s2):=by
 obtain⟨a1,a2,a3⟩:=hap
 obtain⟨_,xi,ei,yi,rfl⟩:=aeC h1
 obtain⟨_,xj,ej,yj,rfl⟩:=aeC h2
 have yj1:Y P T E ops (s.drop ei) j oj xj ej:=(arA (λd hd=>a1 d hd)).1 yj
 obtain⟨xj',yj2,hxj,hne⟩ : ∃ x',Y P T E ops s j oj x' ej/\xj=aoG ei x'/\(ei=none\/ej≠ei):=by
  cases ei with
  | none=>exact⟨xj,yj1,rfl,.inl rfl⟩
  | some t =>
   have ht:∀ q,t≠.nm s.clk j q:=λq e=>by
    subst e
    rcases aTr yi with h|⟨_,e,he,hb,h⟩
    .omega
    .exact hij e he hb h
   obtain⟨x',g1,g2,g3⟩:=aJ4 ht yj1
   exact⟨x',g1,g2,.inr g3⟩
 refine⟨(s.drop ej).put (dW oj) xj',aiB yj2,?_⟩
 have yi2:Y P T E ops (s.drop ej) i oi (aoG ej xi) ei:=by
  cases ej with
  | none=>exact yi
  | some t =>
   have ht:∀ q,t≠.nm s.clk i q:=λq e=>by
    subst e
    rcases aTr yj2 with h|⟨_,e,he,hb,h⟩
    .omega
    .exact hji e he hb h
   refine aTv ht ?_ yi
   rcases hne with h|h
   .rw[h];simp
   .exact bC h
 have yi3:Y P T E ops ((s.drop ej).put (dW oj) xj') i oi (aoG ej xi) ei:=(arA (λd hd=>a3 d hd)).2 yi2
 rw[aiB yi3]
 congr 1
 have hd:∀ d,(dW oj)=some d->(dW oi)≠some d:=λd hd e=>a2 d e hd
 have e1:((s.drop ej).put (dW oj) xj').drop ei=((s.drop ej).drop ei).put (dW oj) xj:=by
  rw[hxj]
  cases ei with
  | none=>rfl
  | some t=>exact ah6 _ _ _ _
 have e2:((s.drop ei).put (dW oi) xi).drop ej=((s.drop ei).drop ej).put (dW oi) (aoG ej xi):=by
  cases ej with
  | none=>rfl
  | some t=>exact ah6 _ _ _ _
 rw[e1,e2,afZ _ _ _ (λd h=>hd d h),aBk]
def asE(P:Program)(T:TT)(E:En)(ops:Array Oper)(Q:S->Prop):Nat->Array Bool->S->Prop
 | 0,listed,s=>Region.ready .any ops listed=[]/\Q s
 | fuel+1,listed,s=>(Region.ready .any ops listed=[]->Q s) /\
  ∀ i∈Region.ready .any ops listed,∃ o s',ops[i]?=some o/\bH P T E true ops s i o=some (none,s')/\asE P T E ops Q fuel (listed.setIfInBounds i true) s'
section
variable {P:Program} {T:TT} {E:En} {ops:Array Oper} {Q:S->Prop}
theorem aaD{i:Nat}{listed:Array Bool}{o:Oper}(hi:i∈Region.ready .any ops listed)(ho:ops[i]?=some o){j:Nat}(hj:listed.getD j true=false):∀ e∈o.after,Region.binds .any e=true->e.on≠j:=by
 obtain⟨_,oi,hoi,hall⟩:=mem_ready.1 hi
 obtain rfl:oi=o:=aG (hoi.symm.trans ho)
 intro e he hb heq
 have h1:=hall e he hb
 rw[heq] at h1
 rcases av j listed.size with h'|h'
 .simp[h'] at hj h1;rw[hj] at h1;cases h1
 .simp[Array.getElem?_eq_none h'] at h1
theorem aDE(hS:∀ (i:Nat) (o:Oper),ops[i]?=some o->cZ o.op=true->afm ops i=true){i:Nat}{oi:Oper}(hi:ops[i]?=some oi):∀ (fuel:Nat) (listed:Array Bool) (s s1:S),
  (∀ (j:Nat) (oj:Oper),ops[j]?=some oj->j≠i->listed.getD j true=false->(∀ e∈oj.after,Region.binds .any e=true->e.on≠i)->oi.apart ops oj=true) ->
  i∈Region.ready .any ops listed->bH P T E true ops s i oi=some (none,s1)->asE P T E ops Q fuel (listed.setIfInBounds i true) s1->asE P T E ops Q (fuel+1) listed s:=by
 intro fuel
 induction fuel with
 | zero =>
  intro listed s s1 _ hr hs H
  refine⟨λh=>(by rw[h] at hr;cases hr),λj hj=>?_⟩
  by_cases hji:j=i
  .subst hji;exact⟨oi,s1,hi,hs,H⟩
  .have:=ready_mono hj hji
   rw[H.1] at this
   cases this
 | succ fuel ih =>
  intro listed s s1 hfree hr hs H
  refine⟨λh=>(by rw[h] at hr;cases hr),λj hj=>?_⟩
  by_cases hji:j=i
  .subst hji;exact⟨oi,s1,hi,hs,H⟩
  .obtain⟨oj,s2,hoj,hs2,H2⟩:=H.2 j (ready_mono hj hji)
   have hjun:=(mem_ready.1 hj).1
   have hiun:=(mem_ready.1 hr).1
   have hji':=aaD hj hoj hiun
   have hij':=aaD hr hi hjun
   obtain⟨s',g1,g2⟩:=axF (aij hi hoj (bC hji) hij' hji' (hfree j oj hoj hji hjun hji') (hS i oi hi) (hS j oj hoj)) hij' hji' hs hs2
   refine⟨oj,s',hoj,g1,ih (listed.setIfInBounds j true) s' s2 (λk ok hk hki hun hno=>?_) (ready_mono hr (bC hji)) g2 (by rw[fB _ _ hji];exact H2)⟩
   refine hfree k ok hk hki ?_ hno
   by_cases hjk:j=k
   .subst hjk;exact hjun
   .rw[getD_set_ne true hjk] at hun;exact hun
theorem ap6(hS:∀ (i:Nat) (o:Oper),ops[i]?=some o->cZ o.op=true->afm ops i=true):∀ (l:List Oper) (n:Nat) (listed:Array Bool) (s s':S),(∀ j,l[j]?=ops[n+j]?)->Region.lexFrom .any ops l.length n listed=true ->
  aaV P T E true ops n l s=some (none,s')->Q s'->asE P T E ops Q l.length listed s
 | [],n,listed,s,s',_,hB,h,hQ=>by
  simp only[aaV,bT,dg] at h
  subst h
  exact⟨by simpa [Region.lexFrom] using hB,hQ⟩
 | o::l,n,listed,s,s',hl,hB,h,hQ=>by
  have h0:ops[n]?=some o:=by simpa using (hl 0).symm
  simp only[aX,Region.lexFrom,ar] at hB
  obtain⟨⟨hr,hf⟩,hB'⟩:=hB
  simp only[aaV] at h
  split at h
  .rename_i s1 h1
   exact aDE hS h0 l.length listed s s1 (Region.free_spec h0 hf) (by simpa using hr) h1
    (ap6 hS l (n+1) _ s1 s' (λj=>by have:=hl (j+1);simpa [cE,fw 1 j] using this) hB' h hQ)
  .cases h
  .cases h
end
section
variable {P:Program} {M0:Base} {w0:World} {N:Nat} {ds:List Deferred}
theorem ajo{E:En}(horc:EnSound P M0.G E){ops:Array Oper}(hdst:∀ (j:Nat) (o:Oper),ops[j]?=some o->ab2 N o=true){Q:Exit->Act->World->Prop}{Qs:S->Prop}{k0:Know}
  (hQ:∀ s' tmps' w' k' ow' done',k0.le k'->Qs s'->Sim M0 k' ow' done' w0 w' N s' tmps'->Q .normal ⟨tmps',ds⟩ w'):∀ (fuel:Nat) (listed:Array Bool) (s:S) (w:World) (tmps:Array Value) (k:Know) (ow:Own),
  k0.le k->Sim M0 k ow (λj=>listed.getD j true=true) w0 w N s tmps->asE P (TT.of P) E ops Qs fuel listed s->wpAny P .any ops Q fuel listed ⟨tmps,ds⟩ w
 | 0,listed,s,w,tmps,k,ow,hk,hs,h=>⟨h.1,hQ s tmps w k ow _ hk h.2 hs⟩
 | fuel+1,listed,s,w,tmps,k,ow,hk,hs,h=>by
  refine⟨λh0=>hQ s tmps w k ow _ hk (h.1 h0) hs,λi hi=>?_⟩
  obtain⟨o,s',ho,hst,H⟩:=h.2 i hi
  have hun:=(mem_ready.1 hi).1
  refine aao hs horc (by rw[hun];simp) ho (hdst i o ho) hst (λ_ tmps' w' k' ow' g1 g2=>?_) (λx hx=>by cases hx)
  refine ajo horc hdst hQ fuel _ s' w' tmps' k' ow' (Know.le_trans hk g1) (g2.more λj hj=>?_) H
  rcases hj with hj|rfl
  .by_cases hij:i=j
   .subst hij;rw[hun] at hj;cases hj
   .rw[getD_set_ne true hij];exact hj
  .rcases av j listed.size with g|g
   .simp[g]
   .simp[g]
theorem amt{P:Program}{T:TT}{E:En}{ops:Array Oper}:∀ (l:List Oper) (n:Nat) (s:S) (q:Option X) (s':S),aaV P T E true ops n l s=some (q,s')->q=none
 | [],n,s,q,s',h=>by
  simp only[aaV,bT] at h
  exact h.1.symm
 | o::l,n,s,q,s',h=>by
  simp only[aaV] at h
  split at h
  .exact amt l _ _ _ _ h
  .rename_i h1
   exact absurd (aeC h1).1 aT
  .cases h
end
def ava(L:Nat):X->Prop
 | .ptr r _=>r<L
 | .mp r=>r<L
 | _=>True
def aGQ{P:Program}{T:TT}{E:En}{s:S}{ix:Nat}{o:Oper}{ob:Ob}{y:X×Option Tk}(hwf:∀ y:Operand,ava s.objs.length (s.ev y))(h:val P T E {s with objs:=s.objs++[ob]} ix o=some y):val P T E s ix o=some y:=by
 cases hop:o.op with
 | load t a =>
  simp only[val,hop] at h ⊢
  have ha:=hwf a
  have e:({s with objs:=s.objs++[ob]}:S).ev a=s.ev a:=rfl
  rw[e] at h
  cases hx:s.ev a with
  | ptr r off =>
   rw[hx] at h ha
   simp only[abf] at h ⊢
   rw[bq (show r<s.objs.length from ha)] at h
   exact h
  | of c=>rw[hx] at h;cases c <;> exact h
  | _=>rw[hx] at h;exact h
 | lookup t x i b =>
  simp only[val,hop] at h ⊢
  have ha:=hwf x
  have e:({s with objs:=s.objs++[ob]}:S).ev x=s.ev x:=rfl
  have e2:({s with objs:=s.objs++[ob]}:S).ev i=s.ev i:=rfl
  rw[e,e2] at h
  have hm:agH (s.objs++[ob]) (s.ev x)=agH s.objs (s.ev x):=by
   cases hx:s.ev x with
   | mp r =>
    rw[hx] at ha
    simp only[agH]
    rw[bq (show r<s.objs.length from ha)]
   | of c =>
    cases c with
    | lit v =>
     cases v with
     | map p=>cases p <;> rfl
     | _=>rfl
    | _=>rfl
   | _=>rfl
  unfold afc at h ⊢
  rw[hm] at h
  exact h
 | makeFunc f a b =>
  simp only[val,hop] at h ⊢
  cases f <;> exact h
 | slice t x lo hi mx =>
  simp only[val,hop] at h ⊢
  cases mx <;> exact h
 | store t a x =>
  simp only[val,hop] at h ⊢
  cases a <;> exact h
 | _ =>
  simp only[val,hop] at h ⊢
  exact h
def aTu{P:Program}{T:TT}{E:En}{ops:Array Oper}{s:S}{ix:Nat}{o:Oper}{ob:Ob}{x:X}{e:Option Tk}(hwf:∀ y:Operand,ava s.objs.length (s.ev y))(h:Y P T E ops {s with objs:=s.objs++[ob]} ix o x e):Y P T E ops s ix o x e:=by
 rcases h with ⟨h1,h2,h3⟩|⟨h1,h2,h3⟩
 .exact .inl ⟨h1,aGQ hwf h2,h3⟩
 .exact .inr ⟨h1,h2,h3⟩
def aOu{P:Program}{T:TT}{E:En}{ops:Array Oper}{s s1 s2:S}{j:Nat}{o0 oj:Oper}(hap:ajp ops o0 oj)(hE:dW o0=o0.dst)(hwf:∀ y:Operand,ava s.objs.length (s.ev y))
  (h1:mkS P E s o0=some s1) (h2:bH P T E true ops s1 j oj=some (none,s2)):∃ s',bH P T E true ops s j oj=some (none,s')/\mkS P E s' o0=some s2:=by
 obtain⟨a1,a2,a3⟩:=hap
 rw[hE] at a1 a2
 unfold mkS at h1
 simp only[ay] at h1
 obtain⟨es,he,rfl⟩:=h1
 obtain⟨_,xj,ej,yj,rfl⟩:=aeC h2
 have yj1:=aTu hwf ((arA (λd hd=>a1 d hd)).1 yj)
 refine⟨(s.drop ej).put (dW oj) xj,aiB yj1,?_⟩
 unfold mkS
 rw[he]
 simp only[aP,ae]
 have hd:∀ d,(dW oj)=some d->o0.dst≠some d:=λd hd e=>a2 d e hd
 have e1:(({s with objs:=s.objs++[Ob.map es]}:S).put o0.dst (.mp s.objs.length)).drop ej=({s.drop ej with objs:=(s.drop ej).objs++[Ob.map es]}:S).put o0.dst (.mp s.objs.length):=by
  cases ej with
  | none=>rfl
  | some t =>
   rw[ah6]
   simp only[S.drop,aae,bd,cI,Ob.drop,X.drop]
 have e2:((s.drop ej).put (dW oj) xj).objs.length=s.objs.length:=by
  cases ej <;> cases (dW oj) <;> simp[S.put,S.drop]
 have e3:({(s.drop ej).put (dW oj) xj with objs:=((s.drop ej).put (dW oj) xj).objs++[Ob.map es]}:S)=({s.drop ej with objs:=(s.drop ej).objs++[Ob.map es]}:S).put (dW oj) xj:=by
  cases (dW oj) <;> rfl
 rw[e1,e2,e3,afZ _ _ _ (λd h=>hd d h)]
def aFs:dz [] []=some:=by
 funext t
 cases t <;> simp[dz]
def ase{P:Program}{T:TT}{E:En}{ops:Array Oper}{s s1:S}{ix:Nat}{o:Oper}(hmk:(ae4 E.obj o.op&&o.guard.isNone)=true)(h:mkS P E s o=some s1):bH P T E false ops s ix o=some (none,s1):=by
 simp only[ar,aaU] at hmk
 obtain⟨hmk,hg⟩:=hmk
 unfold mkS at h
 simp only[ay] at h
 obtain⟨es,he,rfl⟩:=h
 unfold bH eV
 rw[hg]
 simp only
 unfold ae4 at hmk
 split at hmk
 rotate_left
 .cases hmk
 rename_i g args tys hop
 simp only[ar] at hmk
 obtain⟨hargs,hobj⟩:=hmk
 have ha:args.toList=[]:=by simpa using hargs
 simp only[mkA,hop] at he
 split at he
 rotate_left
 .cases he
 rename_i hc
 split at he
 rotate_left
 .cases he
 rename_i es' ho
 simp only[ae] at he
 subst he
 unfold abl
 simp only[ab,ap,hop,ha]
 have ht:aep s (.value (.func g)) []=some (g,[]):=rfl
 rw[ht]
 simp only[hobj,ah]
 unfold callS
 rw[aE hc]
 have hr:fE s.objs 999 (X.refsL []) []=[]:=rfl
 have hts:(if E.tk g=true then nub (X.toksL []) [] else [])=[]:=by split <;> rfl
 simp only[hr,hts,abj,X.trs,ho,ajg,am8]
 unfold agJ
 simp only[cq,bn,ah,aFs,aa7,abE,bd,cI,Ob.tr,X.trs,X.tr,agf,eM,List.getElem?_nil,aeL,gV]
 congr 2
 have e1:(λj=>(s.fr j).tr some some)=s.fr:=by funext j;exact X.tr_id _
 have e2:s.objs.map (Ob.tr some some)=s.objs:=by
  conv=>rhs;rw[← List.map_id s.objs]
  exact fm λo _=>Ob.tr_id o
 rw[e1,e2]
section
variable {P:Program} {M0:Base} {w0:World} {N:Nat} {ds:List Deferred}
theorem aOj{k:Know}{ow:Own}{done:Nat->Prop}{w:World}{s:S}{tmps:Array Value}(hs:Sim M0 k ow done w0 w N s tmps)(y:Operand):ava s.objs.length (s.ev y):=by
 have h:=Sim.ev (ds:=[]) hs y
 cases hx:s.ev y with
 | ptr r off =>
  rw[hx] at h
  simp only[aL] at h
  obtain⟨b,hb,_⟩:=h
  exact hs.dom r b hb
 | mp r =>
  rw[hx] at h
  simp only[aL] at h
  obtain⟨b,hb,_⟩:=h
  exact hs.dom r b hb
 | _=>trivial
theorem aLC{obj:Nat->Bool}{o:Op}(h:ae4 obj o=true):cZ o=false:=by
 cases o with
 | store t a x=>cases h
 | _=>rfl
theorem aIk{E:En}(horc:EnSound P M0.G E){ops:Array Oper}(hS:∀ (i:Nat) (o:Oper),ops[i]?=some o->cZ o.op=true->afm ops i=true)(hdst:∀ (j:Nat) (o:Oper),ops[j]?=some o->ab2 N o=true){Q:Exit->Act->World->Prop}{Qs:S->Prop}{k0:Know}
  (hQ:∀ s' tmps' w' k' ow' done',k0.le k'->Qs s'->Sim M0 k' ow' done' w0 w' N s' tmps'->Q .normal ⟨tmps',ds⟩ w') {o0:Oper} (h0:ops[0]?=some o0) (hmk:(ae4 E.obj o0.op&&o0.guard.isNone)=true) :
  ∀ (fuel:Nat) (listed:Array Bool) (s s1:S) (w:World) (tmps:Array Value) (k:Know) (ow:Own),k0.le k->Sim M0 k ow (λj=>listed.getD j true=true) w0 w N s tmps ->
   (∀ (j:Nat) (oj:Oper),ops[j]?=some oj->j≠0->listed.getD j true=false->(∀ e∈oj.after,Region.binds .any e=true->e.on≠0)->o0.apart ops oj=true) ->
   0∈Region.ready .any ops listed->mkS P E s o0=some s1->asE P (TT.of P) E ops Qs fuel (listed.setIfInBounds 0 true) s1->wpAny P .any ops Q (fuel+1) listed ⟨tmps,ds⟩ w:=by
 have hmore:∀ (listed:Array Bool) (i:Nat),listed.getD i true=false->∀ j,(listed.setIfInBounds i true).getD j true=true->(listed.getD j true=true\/j=i):=λlisted i hun j hj=>by
  by_cases hij:i=j
  .exact .inr hij.symm
  .rw[getD_set_ne true hij] at hj;exact .inl hj
 have hback:∀ (listed:Array Bool) (i:Nat),listed.getD i true=false->∀ j,(listed.getD j true=true\/j=i)->(listed.setIfInBounds i true).getD j true=true:=λlisted i hun j hj=>by
  rcases hj with hj|rfl
  .by_cases hij:i=j
   .subst hij;rw[hun] at hj;cases hj
   .rw[getD_set_ne true hij];exact hj
  .rcases av j listed.size with g|g
   .simp[g]
   .simp[g]
 intro fuel
 induction fuel with
 | zero =>
  intro listed s s1 w tmps k ow hk hs _ hr hm H
  refine⟨λh=>(by rw[h] at hr;cases hr),λj hj=>?_⟩
  have hun:=(mem_ready.1 hj).1
  by_cases hj0:j=0
  .subst hj0
   refine aao (dr:=false) hs horc (by rw[hun];simp) h0 (hdst 0 o0 h0) (ase hmk hm) (λ_ tmps' w' k' ow' g1 g2=>?_) (λx hx=>by cases hx)
   exact ajo horc hdst hQ 0 _ s1 w' tmps' k' ow' (Know.le_trans hk g1) (g2.more (hback listed 0 hun)) H
  .have:=ready_mono hj hj0
   rw[H.1] at this
   cases this
 | succ fuel ih =>
  intro listed s s1 w tmps k ow hk hs hfree hr hm H
  refine⟨λh=>(by rw[h] at hr;cases hr),λj hj=>?_⟩
  have hun:=(mem_ready.1 hj).1
  by_cases hj0:j=0
  .subst hj0
   refine aao (dr:=false) hs horc (by rw[hun];simp) h0 (hdst 0 o0 h0) (ase hmk hm) (λ_ tmps' w' k' ow' g1 g2=>?_) (λx hx=>by cases hx)
   exact ajo horc hdst hQ (fuel+1) _ s1 w' tmps' k' ow' (Know.le_trans hk g1) (g2.more (hback listed 0 hun)) H
  .obtain⟨oj,s2,hoj,hs2,H2⟩:=H.2 j (ready_mono hj hj0)
   have h0un:=(mem_ready.1 hr).1
   have hji':=aaD hj hoj h0un
   have hno:cZ o0.op=false:=by rw[ar] at hmk;exact aLC hmk.1
   obtain⟨s',g1,g2⟩:=aOu (aij h0 hoj (bC hj0) (aaD hr h0 hun) hji' (hfree j oj hoj hj0 hun hji') (λh=>by rw[hno] at h;cases h) (hS j oj hoj)) (adR hno) (aOj hs) hm hs2
   refine aao (dr:=true) hs horc (by rw[hun];simp) hoj (hdst j oj hoj) g1 (λ_ tmps' w' k' ow' q1 q2=>?_) (λx hx=>by cases hx)
   refine ih (listed.setIfInBounds j true) s' s2 w' tmps' k' ow' (Know.le_trans hk q1) (q2.more (hback listed j hun)) (λk ok hok hk0 hkun hno=>?_) (ready_mono hr (bC hj0)) g2 (by rw[fB _ _ hj0];exact H2)
   refine hfree k ok hok hk0 ?_ hno
   by_cases hjk:j=k
   .subst hjk;exact hun
   .rw[getD_set_ne true hjk] at hkun;exact hkun
end
def Dm(m:Nat)(ops:Array Oper)(i:Nat):Bool:=decide (i+m<ops.size)
def asD(m:Nat)(P:Program)(T:TT)(E:En)(ops:Array Oper)(Q:S->Prop):Nat->Array Bool->S->Prop
 | 0,listed,s=>Region.ready .any ops listed=[]/\Q s
 | fuel+1,listed,s=>(Region.ready .any ops listed=[]->Q s) /\
  ∀ i∈Region.ready .any ops listed,∃ o s',ops[i]?=some o/\bH P T E (Dm m ops i) ops s i o=some (none,s')/\asD m P T E ops Q fuel (listed.setIfInBounds i true) s'
abbrev aJ0:=asD 1
def Dc(ops:Array Oper)(listed:Array Bool):Prop:=∀ (k:Nat) (o:Oper),ops[k]?=some o->listed.getD k true=true->∀ e∈o.after,Region.binds .any e=true->listed.getD e.on false=true
def ahD{listed:Array Bool}{i:Nat}(h:listed.getD i false=true):listed.getD i true=true:=by
 rcases av i listed.size with g|g
 .simp[g] at h ⊢;exact h
 .simp[g] at h
def asZ{listed:Array Bool}{i j:Nat}(h:listed.getD i false=true):(listed.setIfInBounds j true).getD i false=true:=by
 by_cases hij:j=i
 .subst hij
  rcases av j listed.size with g|g
  .simp[g]
  .simp[g] at h
 .rw[getD_set_ne false hij];exact h
theorem Dc.set{ops:Array Oper}{listed:Array Bool}(h:Dc ops listed){j:Nat}(hj:j∈Region.ready .any ops listed):Dc ops (listed.setIfInBounds j true):=λk o hk hl e he hb=>by
 by_cases hjk:j=k
 .subst hjk
  obtain⟨_,oj,hoj,hall⟩:=mem_ready.1 hj
  obtain rfl:oj=o:=aG (hoj.symm.trans hk)
  exact asZ (hall e he hb)
 .rw[getD_set_ne true hjk] at hl
  exact asZ (h k o hk hl e he hb)
theorem aSC{ops:Array Oper}(hf:anx ops=true){listed:Array Bool}(hd:Dc ops listed):∀ (m i:Nat),ops.size-i<=m->i+1<ops.size->alp ops i=false->listed.getD i true=false->ops.size-1∉Region.ready .any ops listed
 | 0,i,hm,hi,_,_,_=>by omega
 | m+1,i,hm,hi,hli,hun,hr=>by
  have hfi:=bo.1 hf i (List.mem_range.2 aC)
  rw[hli,fC] at hfi
  simp only[List.any_eq_true,List.mem_range,ar,aR] at hfi
  obtain⟨k,hk,hik,hx⟩:=hfi
  split at hx
  rotate_left
  .cases hx
  rename_i o ho
  simp only[abq,ar,dL,df] at hx
  obtain⟨hlo,e,he,hb,rfl⟩:=hx
  by_cases hkn:k=ops.size-1
  .subst hkn
   obtain⟨_,oj,hoj,hall⟩:=mem_ready.1 hr
   obtain rfl:oj=o:=aG (hoj.symm.trans ho)
   have:=ahD (hall e he hb)
   rw[hun] at this
   cases this
  .have hkun:listed.getD k true=false:=by
    cases hl:listed.getD k true with
    | false=>rfl
    | true =>
     have:=ahD (hd k o ho hl e he hb)
     rw[hun] at this
     cases this
   exact aSC hf hd m k aC aC (by unfold alp;rw[ho];split;rename_i e _;obtain rfl:=aG e;rw[hlo];rfl;rfl) hkun hr
def aNM(ρ:Tk->Option Tk)(s:S)(d:Option Nat)(x:X):(s.put d x).tr ρ=(s.tr ρ).put d (x.tr some ρ):=by
 cases d with
 | none=>rfl
 | some d =>
  simp only[S.put,S.tr]
  congr 1
  funext j
  simp only[upd]
  split <;> rfl
theorem azY(σ:Nat->Option Nat)(ρ:Tk->Option Tk):∀ (xs:List X) (i:Nat),(X.trs σ ρ xs)[i]?=(xs[i]?).map (X.tr σ ρ)
 | [],i=>by simp[X.trs]
 | x::r,0=>by simp[X.trs]
 | x::r,i+1=>by simpa [X.trs] using azY σ ρ r i
def exX(i:Nat):X->Out
 | .tup xs=>bX (xs[i]?)
 | .of (.tup cs)=>bX ((cs[i]?).map .of)
 | _=>none
structure GoodF (F:X->X):Prop where
 ex:∀ i x y t,exX i x=some (y,t)->t=none/\exX i (F x)=some (F y,none)
 val:∀ v,F (abK v)=abK v
 fn:∀ f,F (.of (.fn f []))=.of (.fn f [])
 any:F (.of .any)=.of .any
 of:∀ c,F (.of c)=.of c
def asp:GoodF id where
 ex:=λi x y t h=>by
  unfold exX at h ⊢
  split at h
  .simp only[bX,ay,bh] at h
   obtain⟨a,ha,rfl,rfl⟩:=h
   exact⟨rfl,by simp[ha,bX]⟩
  .simp only[bX,ay,bh] at h
   obtain⟨a,⟨c,hc,rfl⟩,rfl,rfl⟩:=h
   exact⟨rfl,by simp[hc,bX]⟩
  .cases h
 val:=λ_=>rfl
 fn:=λ_=>rfl
 any:=rfl
 of:=λ_=>rfl
def aso(ρ:Tk->Option Tk):GoodF (X.tr some ρ) where
 ex:=λi x y t h=>by
  unfold exX at h
  split at h
  .simp only[bX,ay,bh] at h
   obtain⟨a,ha,rfl,rfl⟩:=h
   exact⟨rfl,by simp only[exX,X.tr,azY,ha,aP,bX]⟩
  .simp only[bX,ay,bh] at h
   obtain⟨a,⟨c,hc,rfl⟩,rfl,rfl⟩:=h
   exact⟨rfl,by simp only[exX,X.tr,hc,aP,bX]⟩
  .cases h
 val:=λv=>by unfold abK;split <;> rfl
 fn:=λ_=>rfl
 any:=rfl
 of:=λ_=>rfl
def atv(u:Tk):GoodF (X.drop u) where
 ex:=λi x y t h=>by
  unfold exX at h
  split at h
  .simp only[bX,ay,bh] at h
   obtain⟨a,ha,rfl,rfl⟩:=h
   exact⟨rfl,by simp[exX,X.drop,ab3,ha,bX]⟩
  .simp only[bX,ay,bh] at h
   obtain⟨a,⟨c,hc,rfl⟩,rfl,rfl⟩:=h
   exact⟨rfl,by simp[exX,X.drop,hc,bX]⟩
  .cases h
 val:=al4 u
 fn:=λ_=>rfl
 any:=rfl
 of:=λ_=>rfl
theorem GoodF.ev{F:X->X}(h:GoodF F){s s1:S}(hf:∀ j,s1.fr j=F (s.fr j))(x:Operand):s1.ev x=F (s.ev x):=by
 cases x with
 | tmp t=>exact hf t
 | const v=>exact (h.val v).symm
 | func f=>exact (h.fn f).symm
 | global g=>exact h.any.symm
def au9(s:S)(d:Option Nat)(y:X)(dj:Option Nat)(s2:S)(F:X->X)(s1:S):Prop :=
 GoodF F/\s1.clk=s.clk/\(∀ x:Operand,(∀ q,dj=some q->x≠.tmp q)->s1.ev x=F (s.ev x))/\s2=s1.put d (F y)
def aBh{s:S}{d d':Option Nat}{n r off:Nat}{xs:List X}{y:X}{s2:S}(hd:∀ j,d=some j->d'≠some j)(h:afx (s.put d y) d' n r off xs=some s2) :
  ∃ F s1,afx s d' n r off xs=some s1/\au9 s d y d' s2 F s1:=by
 have ho:(s.put d y).objs=s.objs:=by cases d <;> rfl
 unfold afx at h ⊢
 rw[ho] at h
 cases hr:s.objs[r]? with
 | none=>rw[hr] at h;cases h
 | some ob =>
  rw[hr] at h
  cases ob with
  | map es=>cases h
  | row ty cs=>cases h
  | var ty ys =>
   simp only at h ⊢
   split at h
   rotate_left
   .cases h
   rename_i hc
   rw[aE hc]
   simp only[ae] at h
   subst h
   unfold apK
   have e1:∀ z:X,({s.put d y with objs:=s.objs.set r (Ob.var ty (ys.take off++xs++ys.drop (off+xs.length)))}:S)=({s with objs:=s.objs.set r (Ob.var ty (ys.take off++xs++ys.drop (off+xs.length)))}:S).put d y:=λ_=>by cases d <;> rfl
   rw[e1 y]
   by_cases hn:(acK xs&&acK ((ys.drop off).take xs.length))=true
   .rw[aE hn]
    refine⟨id,_,rfl,asp,by cases d' <;> rfl,λx hx=>?_,?_⟩
    .rw[ae5 _ _ _ _ hx]
     cases x <;> rfl
    .rw[aE hn]
     exact afZ _ _ _ hd
   .rw[aA hn]
    refine⟨X.tr some (adW r off xs.length (eS r off xs)),_,rfl,aso _,by cases d' <;> rfl,λx hx=>?_,?_⟩
    .rw[ae5 _ _ _ _ hx]
     exact (aso _).ev (λj=>rfl) x
    .rw[aA hn,aNM]
     exact afZ _ _ _ hd
def aEn{P:Program}{T:TT}{E:En}{s s2:S}{d:Option Nat}{y:X}{ix:Nat}{o:Oper}(hst:cZ o.op=true)(hop:∀ q,d=some q->∀ x∈o.op.operands.toList,x≠.tmp q)(hd1:∀ q,d=some q->o.dst≠some q)(hd2:∀ q,d=some q->dW o≠some q)
  (h:abl P T E false (s.put d y) ix o=some (none,s2)):∃ F s1 dj,abl P T E false s ix o=some (none,s1)/\(dj=o.dst\/dj=dW o)/\au9 s d y dj s2 F s1:=by
 obtain⟨di,op,tyi,pi,afi,gi⟩:=o
 unfold cZ at hst
 split at hst
 rotate_left
 .cases hst
 rename_i t a v heq
 simp only at heq
 subst heq
 have ea:(s.put d y).ev a=s.ev a:=ae5 _ _ _ _ (λq hq=>hop q hq a (by simp[Op.operands]))
 have ev':(s.put d y).ev v=s.ev v:=ae5 _ _ _ _ (λq hq=>hop q hq v (by simp[Op.operands]))
 have hc:(s.put d y).clk=s.clk:=by cases d <;> rfl
 have key:fO P T E (s.put d y) ix ⟨di,.store t a v,tyi,pi,afi,gi⟩=some (none,s2)->∃ F s1 dj,fO P T E s ix ⟨di,.store t a v,tyi,pi,afi,gi⟩=some (none,s1)/\(dj=di\/dj=dW ⟨di,.store t a v,tyi,pi,afi,gi⟩)/\au9 s d y dj s2 F s1:=by
  intro h
  unfold fO at h ⊢
  have hv:val P T E (s.put d y) ix ⟨di,.store t a v,tyi,pi,afi,gi⟩=val P T E s ix ⟨di,.store t a v,tyi,pi,afi,gi⟩ :=
   asN P T E ix _ hc (by cases d <;> rfl) λx hx=>ae5 _ _ _ _ (λq hq=>hop q hq x hx)
  rw[hv,hc] at h
  split at h
  rotate_left
  .cases h
  rename_i z tk hz
  split at h
  rotate_left
  .cases h
  rename_i hok
  simp only[bT,dg] at h
  subst h
  simp only[hok,ah]
  cases tk with
  | none =>
   refine⟨id,_,_,rfl,.inr rfl,asp,by cases dW (⟨di,.store t a v,tyi,pi,afi,gi⟩ : Oper) <;> rfl,λx hx=>?_,?_⟩
   .rw[ae5 _ _ _ _ hx];rfl
   .exact afZ _ _ _ hd2
  | some tk =>
   refine⟨X.drop tk,_,_,rfl,.inr rfl,atv tk,by cases dW (⟨di,.store t a v,tyi,pi,afi,gi⟩ : Oper) <;> rfl,λx hx=>?_,?_⟩
   .rw[ae5 _ _ _ _ hx]
    exact dD tk s x
   .rw[ah6]
    exact afZ _ _ _ hd2
 unfold abl at h ⊢
 simp only[ab,ap,ea,ev',hc] at h ⊢
 have old:(match T t,s.ev a,cJ (s.ev v) with
   | some d',.ptr r off,some xs=>(afx (s.put d y) di d'.size r off xs).map λs=>(none,s)
   | _,_,_=>none)=some ((none:Option X),s2)->∃ F s1 dj,(match T t,s.ev a,cJ (s.ev v) with
   | some d',.ptr r off,some xs=>(afx s di d'.size r off xs).map λs=>(none,s)
   | _,_,_=>none)=some ((none:Option X),s1)/\(dj=di\/dj=dW ⟨di,.store t a v,tyi,pi,afi,gi⟩)/\au9 s d y dj s2 F s1:=by
  intro h0
  split at h0
  rotate_left
  .cases h0
  rename_i d' r off xs e1 e2 e3
  simp only[ay,bh,dg] at h0
  obtain⟨s2',h0,e0⟩:=h0
  subst e0
  obtain⟨F,s1,g1,g2⟩:=aBh hd1 h0
  exact⟨F,s1,di,by simp only[g1,aP],.inl rfl,g2⟩
 split at h
 .rename_i tk ty z hnw
  split at h
  rotate_left
  .rename_i hmt
   rw[aA hmt]
   exact key h
  rename_i hmt
  rw[aE hmt]
  split at h
  rotate_left
  .cases h
  rename_i d' xs j e1 e2 e3
  split at h
  rotate_left
  .cases h
  rename_i hcc
  simp only[bT,dg] at h
  subst h
  rw[aE hcc]
  refine⟨X.drop tk,_,some j,rfl,.inr (by rw[← e3]),atv tk,rfl,λx hx=>?_,?_⟩
  .unfold aou
   rw[ae5 _ _ _ _ hx]
   exact dD tk s x
  .unfold aou
   rw[ah6]
   have e4:∀ (A:List Ob) (z:X),({(s.drop (some tk)).put d z with objs:=A}:S)=({s.drop (some tk) with objs:=A}:S).put d z:=λA z=>by cases d <;> rfl
   have e5:((s.drop (some tk)).put d (y.drop tk)).objs=(s.drop (some tk)).objs:=by cases d <;> rfl
   rw[e5,e4]
   exact afZ _ _ _ (λq hq e=>hd2 q hq (by rw[e3,← e]))
 .exact old h
def aDb{P:Program}{T:TT}{E:En}{ops:Array Oper}{s s1 s2:S}{i j:Nat}{oi oj:Oper}(hap:oi.apart ops oj=true)(hap2:∀ d,oi.dst=some d->dW oj≠some d)(hap3:∀ d,dW oj=some d->d∉oi.looksAt ops)(hl:aqR oi=true)(hst:cZ oj.op=true)(hg:oj.guard=none)
  (h1:bH P T E true ops s i oi=some (none,s1)) (h2:bH P T E false ops s1 j oj=some (none,s2)):∃ s',bH P T E false ops s j oj=some (none,s')/\bH P T E true ops s' i oi=some (none,s2):=by
 obtain⟨a1,a2,a3⟩:=Oper.apart_spec hap
 obtain⟨di,opi,tyi,pi,afi,gi⟩:=oi
 unfold aqR at hl
 simp only at hl
 split at hl
 rotate_left
 .cases hl
 rename_i x k
 have hv:∀ s:S,bH P T E true ops s i ⟨di,.extract x k,tyi,pi,afi,none⟩=match exX k (s.ev x) with
   | some (y,t)=>if aaQ s.clk afi.toList t=true then some (none,(s.drop t).put di y) else none
   | none=>none:=λs=>by
  show fO P T E s i _=_
  unfold fO val
  simp only[exX]
  cases s.ev x with
  | of c=>cases c <;> rfl
  | _=>rfl
 rw[hv] at h1
 split at h1
 rotate_left
 .cases h1
 rename_i y tk he
 obtain⟨rfl,_⟩:=asp.ex _ _ _ _ he
 rw[aE (show aaQ s.clk afi.toList none=true from rfl)] at h1
 simp only[S.drop,bT,dg] at h1
 subst h1
 have hgo:∀ s:S,bH P T E false ops s j oj=abl P T E false s j oj:=λs=>by
  unfold bH eV
  rw[hg]
 rw[hgo] at h2 ⊢
 obtain⟨F,s',dj,g1,g2,g3,g4,g5,g6⟩:=aEn hst (λq hq z hz e=>a1 q hq (by
  unfold Oper.looksAt
  rw[bS]
  exact .inl (List.mem_filterMap.2 ⟨z,hz,by rw[e]⟩))) a2 hap2 h2
 refine⟨s',g1,?_⟩
 have hx:∀ q,dj=some q->x≠.tmp q:=λq hq e=>by
  have hm:q∈(⟨di,.extract x k,tyi,pi,afi,none⟩ : Oper).looksAt ops:=by
   unfold Oper.looksAt
   rw[bS]
   exact .inl (List.mem_filterMap.2 ⟨x,by simp[Op.operands],by rw[e]⟩)
  rcases g2 with rfl|rfl
  .exact a3 q hq hm
  .exact hap3 q hq hm
 rw[hv,g5 x hx]
 obtain⟨_,q2⟩:=g3.ex _ _ _ _ he
 simp only[q2]
 rw[aE (show aaQ s'.clk afi.toList none=true from rfl),g6]
 rfl
def az4{ops:Array Oper}(hS:ajG ops=true){i:Nat}{o:Oper}(hi:ops[i]?=some o)(hin:i+1<ops.size)(hst:cZ o.op=true):afm ops i=true:=by
 have:=bo.1 hS i (List.mem_range.2 aC)
 simp only[hi,hst,bJ,fC,bD,ar,dL] at this
 rcases this with h|h
 .omega
 .exact h
def alQ{ops:Array Oper}(hS:ajG ops=true)(hst:aaO ops.toList=false)(i:Nat)(o:Oper)(hi:ops[i]?=some o)(h:cZ o.op=true):afm ops i=true:=by
 have his:i<ops.size:=(Array.getElem?_eq_some_iff.1 hi).1
 have:=bo.1 hS i (List.mem_range.2 his)
 simp only[hi,h,hst] at this
 simpa using this
theorem asU:∀ (l:List Oper) (o:Oper),aaO l=true->l[l.length-1]?=some o->cZ o.op=true/\o.guard=none
 | [],o,h,_=>by cases h
 | [a],o,h,e=>by
  simp only[fZ,cB,agQ,dI,ae] at e
  subst e
  simpa [aaO] using h
 | a::b::l,o,h,e=>asU (b::l) o h (by simpa using e)
section
variable {P:Program} {T:TT} {E:En} {ops:Array Oper} {Q:S->Prop}
theorem aDC(hf:anx ops=true)(hS:ajG ops=true)(hst:aaO ops.toList=true){i:Nat}{oi:Oper}(hi:ops[i]?=some oi)(hin:i+1<ops.size):∀ (fuel:Nat) (listed:Array Bool) (s s1:S),Dc ops listed ->
  (∀ (j:Nat) (oj:Oper),ops[j]?=some oj->j≠i->listed.getD j true=false->(∀ e∈oj.after,Region.binds .any e=true->e.on≠i)->oi.apart ops oj=true) ->
  i∈Region.ready .any ops listed->bH P T E true ops s i oi=some (none,s1)->aJ0 P T E ops Q fuel (listed.setIfInBounds i true) s1->aJ0 P T E ops Q (fuel+1) listed s:=by
 have hD:Dm 1 ops i=true:=cS hin
 intro fuel
 induction fuel with
 | zero =>
  intro listed s s1 _ _ hr hs H
  refine⟨λh=>(by rw[h] at hr;cases hr),λj hj=>?_⟩
  by_cases hji:j=i
  .subst hji;exact⟨oi,s1,hi,by rw[hD];exact hs,H⟩
  .have:=ready_mono hj hji
   rw[H.1] at this
   cases this
 | succ fuel ih =>
  intro listed s s1 hdc hfree hr hs H
  refine⟨λh=>(by rw[h] at hr;cases hr),λj hj=>?_⟩
  by_cases hji:j=i
  .subst hji;exact⟨oi,s1,hi,by rw[hD];exact hs,H⟩
  .obtain⟨oj,s2,hoj,hs2,H2⟩:=H.2 j (ready_mono hj hji)
   have hjun:=(mem_ready.1 hj).1
   have hiun:=(mem_ready.1 hr).1
   have hjs:j<ops.size:=(Array.getElem?_eq_some_iff.1 hoj).1
   have hji':=aaD hj hoj hiun
   have hij':=aaD hr hi hjun
   obtain⟨s',g1,g2⟩ : ∃ s',bH P T E (Dm 1 ops j) ops s j oj=some (none,s')/\bH P T E true ops s' i oi=some (none,s2):=by
    rcases av (j+1) ops.size with g|g
    .have hDj:Dm 1 ops j=true:=cS g
     rw[hDj] at hs2 ⊢
     exact axF (aij hi hoj (bC hji) hij' hji' (hfree j oj hoj hji hjun hji') (az4 hS hi hin) (az4 hS hoj g)) hij' hji' hs hs2
    .have hDj:Dm 1 ops j=false:=bK aC
     rw[hDj] at hs2 ⊢
     obtain rfl:j=ops.size-1:=by omega
     cases hlo:alp ops i with
     | false=>exact absurd hj (aSC hf hdc _ i (am _) hin hlo hiun)
     | true =>
      unfold alp at hlo
      rw[hi,hoj] at hlo
      simp only[ar] at hlo
      obtain⟨hlo,hlo2⟩:=hlo
      obtain⟨q1,q2⟩:=asU ops.toList oj hst (by simpa using hoj)
      have h3:∀ d,dW oj=some d->d∉oi.looksAt ops/\oi.dst≠some d:=λd hd=>by
       rw[hd] at hlo2
       simp only[ar,df,adl,dv] at hlo2
       refine⟨λhm=>?_,hlo2.2⟩
       have:(oi.looksAt ops).contains d=true:=by simpa using hm
       rw[this] at hlo2
       cases hlo2.1
      exact aDb (hfree _ oj hoj hji hjun hji') (λd hd e=>(h3 d e).2 hd) (λd hd=>(h3 d hd).1) hlo q1 q2 hs hs2
   refine⟨oj,s',hoj,g1,ih (listed.setIfInBounds j true) s' s2 (hdc.set hj) (λk ok hk hki hun hno=>?_) (ready_mono hr (bC hji)) g2 (by rw[fB _ _ hji];exact H2)⟩
   refine hfree k ok hk hki ?_ hno
   by_cases hjk:j=k
   .subst hjk;exact hjun
   .rw[getD_set_ne true hjk] at hun;exact hun
theorem ax2(hf:anx ops=true)(hS:ajG ops=true)(hst:aaO ops.toList=true):∀ (l:List Oper) (n:Nat) (listed:Array Bool) (s s':S) (q:Option X),n+l.length=ops.size->(∀ j,l[j]?=ops[n+j]?)->Dc ops listed->Region.lexFrom .any ops l.length n listed=true ->
  acf P T E ops n l s=some (q,s')->Q s'->q=none/\aJ0 P T E ops Q l.length listed s
 | [],n,listed,s,s',q,_,_,_,_,h,_=>by simp[acf] at h
 | [o],n,listed,s,s',q,hn,hl,hdc,hB,h,hQ=>by
  have h0:ops[n]?=some o:=by simpa using (hl 0).symm
  simp only[fZ,Region.lexFrom,ar] at hB
  obtain⟨⟨hr,hfr⟩,hB'⟩:=hB
  have hr':n∈Region.ready .any ops listed:=by simpa using hr
  have he:Region.ready .any ops (listed.setIfInBounds n true)=[]:=by simpa using hB'
  have hD:Dm 1 ops n=false:=bK (by simp at hn;omega)
  simp only[acf] at h
  split at h
  .rename_i s2 h1
   simp only[bT] at h
   obtain⟨rfl,rfl⟩:=h
   refine⟨rfl,λh=>(by rw[h] at hr';cases hr'),λj hj=>?_⟩
   by_cases hji:j=n
   .subst hji;exact⟨o,s2,h0,by rw[hD];exact h1,he,hQ⟩
   .have:=ready_mono hj hji
    rw[he] at this
    cases this
  .cases h
 | o::o'::l,n,listed,s,s',q,hn,hl,hdc,hB,h,hQ=>by
  have h0:ops[n]?=some o:=by simpa using (hl 0).symm
  simp only[aX] at hB hn
  unfold Region.lexFrom at hB
  simp only[ar] at hB
  obtain⟨⟨hr,hfr⟩,hB'⟩:=hB
  have hr':n∈Region.ready .any ops listed:=by simpa using hr
  simp only[acf] at h
  split at h
  .rename_i s1 h1
   obtain⟨e1,e2⟩:=ax2 hf hS hst (o'::l) (n+1) _ s1 s' q (by simp only[aX];omega) (λj=>by have:=hl (j+1);simpa [cE,fw 1 j] using this) (hdc.set hr') hB' h hQ
   exact⟨e1,aDC hf hS hst h0 aC _ listed s s1 hdc (Region.free_spec h0 hfr) hr' h1 e2⟩
  .cases h
end
def ldX(T:TT)(t:Nat):X->Out
 | .of (.ref cs)=>bX ((dQ T t cs).map .of)
 | _=>none
def aF0{P:Program}{T:TT}{E:En}{ops:Array Oper}{s s1 s2:S}{i j:Nat}{oi oj:Oper}(hap:oi.apart ops oj=true)(hap2:∀ d,oi.dst=some d->dW oj≠some d)(hap3:∀ d,dW oj=some d->d∉oi.looksAt ops)(hl:opK oi.op=4)(hgi:oi.guard=none)(hfz:afd s oi=true)(hst:cZ oj.op=true)(hg:oj.guard=none)
  (h1:bH P T E true ops s i oi=some (none,s1)) (h2:bH P T E false ops s1 j oj=some (none,s2)):∃ s',bH P T E false ops s j oj=some (none,s')/\bH P T E true ops s' i oi=some (none,s2)/\afd s' oi=true:=by
 obtain⟨a1,a2,a3⟩:=Oper.apart_spec hap
 obtain⟨di,opi,tyi,pi,afi,gi⟩:=oi
 simp only at hgi
 subst hgi
 unfold opK at hl
 simp only at hl
 split at hl <;> first|cases hl|skip
 rename_i t x
 have hfz:∃ cs,s.ev x=.of (.ref cs):=by
  simp only[afd,opK,aCk] at hfz
  cases e:s.ev x with
  | of c=>cases c with
   | ref cs=>exact⟨cs,rfl⟩
   | _=>rw[e] at hfz;cases hfz
  | _=>rw[e] at hfz;cases hfz
 obtain⟨cs,hcs⟩:=hfz
 have hv:∀ s:S,s.ev x=.of (.ref cs)->bH P T E true ops s i ⟨di,.load t x,tyi,pi,afi,none⟩=match ldX T t (.of (.ref cs)) with
   | some (y,t)=>if aaQ s.clk afi.toList t=true then some (none,(s.drop t).put di y) else none
   | none=>none:=λs e=>by
  show fO P T E s i _=_
  unfold fO val
  simp only[abf,e,ldX]
  rfl
 rw[hv s hcs] at h1
 split at h1
 rotate_left
 .cases h1
 rename_i y tk he
 obtain⟨c,rfl,rfl⟩ : ∃ c,y=.of c/\tk=none:=by
  simp only[ldX,bX,ay,bh] at he
  obtain⟨a,⟨c,_,rfl⟩,rfl,rfl⟩:=he
  exact⟨c,rfl,rfl⟩
 rw[aE (show aaQ s.clk afi.toList none=true from rfl)] at h1
 simp only[S.drop,bT,dg] at h1
 subst h1
 have hgo:∀ s:S,bH P T E false ops s j oj=abl P T E false s j oj:=λs=>by
  unfold bH eV
  rw[hg]
 rw[hgo] at h2 ⊢
 obtain⟨F,s',dj,g1,g2,g3,g4,g5,g6⟩:=aEn hst (λq hq z hz e=>a1 q hq (by
  unfold Oper.looksAt
  rw[bS]
  exact .inl (List.mem_filterMap.2 ⟨z,hz,by rw[e]⟩))) a2 hap2 h2
 have hx:∀ q,dj=some q->x≠.tmp q:=λq hq e=>by
  have hm:q∈(⟨di,.load t x,tyi,pi,afi,none⟩ : Oper).looksAt ops:=by
   unfold Oper.looksAt
   rw[bS]
   exact .inl (List.mem_filterMap.2 ⟨x,by simp[Op.operands],by rw[e]⟩)
  rcases g2 with rfl|rfl
  .exact a3 q hq hm
  .exact hap3 q hq hm
 have hcs':s'.ev x=.of (.ref cs):=by rw[g5 x hx,hcs,g3.of]
 refine⟨s',g1,?_,?_⟩
 .rw[hv s' hcs',he]
  simp only
  rw[aE (show aaQ s'.clk afi.toList none=true from rfl),g6,g3.of]
  rfl
 .simp only[afd,opK,aCk,hcs']
  rfl
def azk{P:Program}{T:TT}{E:En}{ops:Array Oper}{s s':S}{j:Nat}{oi oj:Oper}(hap:∀ d,dW oj=some d->d∉oi.looksAt ops)(hfz:afd s oi=true)(h:bH P T E true ops s j oj=some (none,s')):afd s' oi=true:=by
 obtain⟨_,x,e,_,rfl⟩:=aeC h
 obtain⟨di,opi,tyi,pi,afi,gi⟩:=oi
 unfold afd at *
 simp only at *
 cases h4:(opK opi == 4) with
 | false=>rfl
 | true =>
  rw[h4] at hfz
  have hl:opK opi=4:=by simpa using h4
  unfold opK at hl
  split at hl <;> first|cases hl|skip
  rename_i t a
  simp only[bJ,fC,aCk] at hfz ⊢
  have e1:((s.drop e).put (dW oj) x).ev a=(s.drop e).ev a:=ae5 _ _ _ _ λq hq hx=>hap q hq (by
   unfold Oper.looksAt
   rw[bS]
   exact .inl (List.mem_filterMap.2 ⟨a,by simp[Op.operands],by rw[hx]⟩))
  rw[e1]
  cases ha:s.ev a with
  | of c =>
   rw[ha] at hfz
   have e2:(s.drop e).ev a=.of c:=by
    cases e with
    | none=>exact ha
    | some t=>rw[dD,ha];rfl
   rw[e2]
   exact hfz
  | _=>rw[ha] at hfz;cases hfz
def alK{ops:Array Oper}{k j:Nat}(h:ak9 ops k j=true){listed:Array Bool}(hun:listed.getD j true=false):k∉Region.ready .any ops listed:=λhr=>by
 unfold ak9 at h
 split at h
 rotate_left
 .cases h
 rename_i o ho
 simp only[abq,ar,dL] at h
 obtain⟨e,he,hb,rfl⟩:=h
 exact aaD hr ho hun e he hb rfl
def aNL(l:List Oper)(h:tlB l=true):2<=l.length/\∀ o,l[l.length-2]?=some o->cZ o.op=true/\o.guard=none:=by
 have key:∀ (l:List Oper) (d:Nat),akn l=some d->2<=l.length/\∀ o,l[l.length-2]?=some o->cZ o.op=true/\o.guard=none:=by
  intro l
  induction l with
  | nil=>intro d h;cases h
  | cons a l ih =>
   intro d h
   cases l with
   | nil=>cases h
   | cons b l =>
    cases l with
    | nil =>
     simp only[akn] at h
     split at h
     .rename_i hc
      simp only[ar] at hc
      refine⟨by simp,λo ho=>?_⟩
      simp only[fZ,cB,Nat.reduceAdd,agQ,dI,ae] at ho
      subst ho
      exact⟨hc.1.1,by simpa using hc.1.2⟩
     .cases h
    | cons c l =>
     obtain⟨h1,h2⟩:=ih d h
     refine⟨by simp,λo ho=>h2 o ?_⟩
     have e:(a::b::c::l).length-2=((b::c::l).length-2)+1:=by
      simp only[aX]
      omega
     rw[e,gA] at ho
     exact ho
 unfold tlB tlM at h
 split at h
 .rename_i d hd
  exact key l d hd
 .cases h
section
variable {P:Program} {T:TT} {E:En} {ops:Array Oper} {Q:S->Prop}
theorem apj(ht:ajF ops=true){i:Nat}(hin:i+2<ops.size):(∀ o,ops[i]?=some o->cZ o.op=false)/\(ak9 ops (ops.size-2) i=true\/awX ops i (ops.size-2)=true):=by
 unfold ajF at ht
 rw[ar] at ht
 have h1:=bo.1 ht.1 i (List.mem_range.2 aC)
 rw[ar,bD] at h1
 refine⟨λo ho=>?_,h1.2⟩
 have:=h1.1
 rw[ho] at this
 simpa using this
theorem asQ(ht:ajF ops=true){j:Nat}(hin:j+1<ops.size):ak9 ops (ops.size-1) j=true:=by
 unfold ajF at ht
 rw[ar] at ht
 exact bo.1 ht.2 j (List.mem_range.2 aC)
theorem aDz(ht:ajF ops=true)(hst:2<=ops.toList.length/\∀ o,ops.toList[ops.toList.length-2]?=some o->cZ o.op=true/\o.guard=none){i:Nat}{oi:Oper}(hi:ops[i]?=some oi)(hin:i+2<ops.size):∀ (fuel:Nat) (listed:Array Bool) (s s1:S),Dc ops listed ->
  (∀ (j:Nat) (oj:Oper),ops[j]?=some oj->j≠i->listed.getD j true=false->(∀ e∈oj.after,Region.binds .any e=true->e.on≠i)->oi.apart ops oj=true) ->
  i∈Region.ready .any ops listed->afd s oi=true->bH P T E true ops s i oi=some (none,s1)->asD 2 P T E ops Q fuel (listed.setIfInBounds i true) s1->asD 2 P T E ops Q (fuel+1) listed s:=by
 have hD:Dm 2 ops i=true:=cS hin
 intro fuel
 induction fuel with
 | zero =>
  intro listed s s1 _ _ hr hfz hs H
  refine⟨λh=>(by rw[h] at hr;cases hr),λj hj=>?_⟩
  by_cases hji:j=i
  .subst hji;exact⟨oi,s1,hi,by rw[hD];exact hs,H⟩
  .have:=ready_mono hj hji
   rw[H.1] at this
   cases this
 | succ fuel ih =>
  intro listed s s1 hdc hfree hr hfz hs H
  refine⟨λh=>(by rw[h] at hr;cases hr),λj hj=>?_⟩
  by_cases hji:j=i
  .subst hji;exact⟨oi,s1,hi,by rw[hD];exact hs,H⟩
  .obtain⟨oj,s2,hoj,hs2,H2⟩:=H.2 j (ready_mono hj hji)
   have hjun:=(mem_ready.1 hj).1
   have hiun:=(mem_ready.1 hr).1
   have hjs:j<ops.size:=(Array.getElem?_eq_some_iff.1 hoj).1
   have hji':=aaD hj hoj hiun
   have hij':=aaD hr hi hjun
   have hiS:=(apj ht hin).1 oi hi
   obtain⟨s',g1,g2,g3⟩ : ∃ s',bH P T E (Dm 2 ops j) ops s j oj=some (none,s')/\bH P T E true ops s' i oi=some (none,s2)/\afd s' oi=true:=by
    rcases av (j+2) ops.size with g|g
    .have hDj:Dm 2 ops j=true:=cS g
     rw[hDj] at hs2 ⊢
     have hjS:=(apj ht g).1 oj hoj
     have hap:=aij hi hoj (bC hji) hij' hji' (hfree j oj hoj hji hjun hji') (λh=>by rw[hiS] at h;cases h) (λh=>by rw[hjS] at h;cases h)
     obtain⟨s',g1,g2⟩:=axF hap hij' hji' hs hs2
     exact⟨s',g1,g2,azk hap.2.2 hfz g1⟩
    .rcases av (j+1) ops.size with g'|g'
     .have hDj:Dm 2 ops j=false:=bK aC
      rw[hDj] at hs2 ⊢
      obtain rfl:j=ops.size-2:=by omega
      rcases (apj ht hin).2 with hw|hlo
      .exact absurd hj (alK hw hiun)
      .unfold awX at hlo
       rw[hi,hoj] at hlo
       simp only[ar,dL] at hlo
       obtain⟨⟨hlo,hgi⟩,hlo2⟩:=hlo
       obtain⟨q1,q2⟩:=hst.2 oj (by simpa using hoj)
       have h3:∀ d,dW oj=some d->d∉oi.looksAt ops/\oi.dst≠some d:=λd hd=>by
        rw[hd] at hlo2
        simp only[ar,df,adl,dv] at hlo2
        refine⟨λhm=>?_,hlo2.2⟩
        have:(oi.looksAt ops).contains d=true:=by simpa using hm
        rw[this] at hlo2
        cases hlo2.1
       exact aF0 (hfree _ oj hoj hji hjun hji') (λd hd e=>(h3 d e).2 hd) (λd hd=>(h3 d hd).1) hlo (by simpa using hgi) hfz q1 q2 hs hs2
     .obtain rfl:j=ops.size-1:=by omega
      exact absurd hj (alK (asQ ht aC) hiun)
   refine⟨oj,s',hoj,g1,ih (listed.setIfInBounds j true) s' s2 (hdc.set hj) (λk ok hk hki hun hno=>?_) (ready_mono hr (bC hji)) g3 g2 (by rw[fB _ _ hji];exact H2)⟩
   refine hfree k ok hk hki ?_ hno
   by_cases hjk:j=k
   .subst hjk;exact hjun
   .rw[getD_set_ne true hjk] at hun;exact hun
theorem axY(ht:ajF ops=true)(hst:2<=ops.toList.length/\∀ o,ops.toList[ops.toList.length-2]?=some o->cZ o.op=true/\o.guard=none):∀ (l:List Oper) (n:Nat) (listed:Array Bool) (s s':S) (q:Option X),n+l.length=ops.size->(∀ j,l[j]?=ops[n+j]?)->Dc ops listed->Region.lexFrom .any ops l.length n listed=true ->
  ahG P T E ops n l s=some (q,s')->Q s'->q=none/\asD 2 P T E ops Q l.length listed s
 | [],n,listed,s,s',q,_,_,_,_,h,_=>by simp[ahG] at h
 | [o],n,listed,s,s',q,hn,hl,hdc,hB,h,hQ=>by simp[ahG] at h
 | [o,o'],n,listed,s,s',q,hn,hl,hdc,hB,h,hQ=>by
  have h0:ops[n]?=some o:=by simpa using (hl 0).symm
  have h0':ops[n+1]?=some o':=by simpa using (hl 1).symm
  simp only[fZ] at hn
  simp only[fZ,Region.lexFrom,ar] at hB
  obtain⟨⟨hr,hfr⟩,⟨hr2,hfr2⟩,hB'⟩:=hB
  have hr':n∈Region.ready .any ops listed:=by simpa using hr
  have hr2':n+1∈Region.ready .any ops (listed.setIfInBounds n true):=by simpa using hr2
  have he:Region.ready .any ops ((listed.setIfInBounds n true).setIfInBounds (n+1) true)=[]:=by simpa using hB'
  have hD:Dm 2 ops n=false:=bK aC
  have hD':Dm 2 ops (n+1)=false:=bK aC
  have hun:=(mem_ready.1 hr').1
  simp only[ahG] at h
  split at h
  rotate_left
  .cases h
  rename_i s1 h1
  split at h
  rotate_left
  .cases h
  rename_i s2 h2
  simp only[bT] at h
  obtain⟨rfl,rfl⟩:=h
  have hn1:n+1=ops.size-1:=by omega
  refine⟨rfl,λh=>(by rw[h] at hr';cases hr'),λj hj=>?_⟩
  have hjn:j=n:=by
   by_cases hji:j=n
   .exact hji
   .exfalso
    have g1:=ready_mono hj hji
    by_cases hj1:j=n+1
    .subst hj1
     rw[hn1] at hj
     exact alK (asQ ht aC) hun hj
    .have:=ready_mono g1 hj1
     rw[he] at this
     cases this
  subst hjn
  refine⟨o,s1,h0,by rw[hD];exact h1,λh=>(by rw[h] at hr2';cases hr2'),λk hk=>?_⟩
  have hkn:k=j+1:=by
   by_cases hki:k=j+1
   .exact hki
   .have:=ready_mono hk hki
    rw[he] at this
    cases this
  subst hkn
  exact⟨o',s2,h0',by rw[hD'];exact h2,he,hQ⟩
 | o::o'::o''::l,n,listed,s,s',q,hn,hl,hdc,hB,h,hQ=>by
  have h0:ops[n]?=some o:=by simpa using (hl 0).symm
  simp only[aX] at hB hn
  unfold Region.lexFrom at hB
  simp only[ar] at hB
  obtain⟨⟨hr,hfr⟩,hB'⟩:=hB
  have hr':n∈Region.ready .any ops listed:=by simpa using hr
  simp only[ahG] at h
  split at h
  rotate_left
  .cases h
  rename_i hfz
  split at h
  .rename_i s1 h1
   obtain⟨e1,e2⟩:=axY ht hst (o'::o''::l) (n+1) _ s1 s' q (by simp only[aX];omega) (λj=>by have:=hl (j+1);simpa [cE,fw 1 j] using this) (hdc.set hr') hB' h hQ
   exact⟨e1,aDz ht hst h0 aC _ listed s s1 hdc (Region.free_spec h0 hfr) hr' hfz h1 e2⟩
  .cases h
end
section
variable {P:Program} {M0:Base} {w0:World} {N:Nat} {ds:List Deferred}
theorem amz{m:Nat}{E:En}(horc:EnSound P M0.G E){ops:Array Oper}(hdst:∀ (j:Nat) (o:Oper),ops[j]?=some o->ab2 N o=true){Q:Exit->Act->World->Prop}{Qs:S->Prop}{k0:Know}
  (hQ:∀ s' tmps' w' k' ow' done',k0.le k'->Qs s'->Sim M0 k' ow' done' w0 w' N s' tmps'->Q .normal ⟨tmps',ds⟩ w'):∀ (fuel:Nat) (listed:Array Bool) (s:S) (w:World) (tmps:Array Value) (k:Know) (ow:Own),
  k0.le k->Sim M0 k ow (λj=>listed.getD j true=true) w0 w N s tmps->asD m P (TT.of P) E ops Qs fuel listed s->wpAny P .any ops Q fuel listed ⟨tmps,ds⟩ w
 | 0,listed,s,w,tmps,k,ow,hk,hs,h=>⟨h.1,hQ s tmps w k ow _ hk h.2 hs⟩
 | fuel+1,listed,s,w,tmps,k,ow,hk,hs,h=>by
  refine⟨λh0=>hQ s tmps w k ow _ hk (h.1 h0) hs,λi hi=>?_⟩
  obtain⟨o,s',ho,hst,H⟩:=h.2 i hi
  have hun:=(mem_ready.1 hi).1
  refine aao hs horc (by rw[hun];simp) ho (hdst i o ho) hst (λ_ tmps' w' k' ow' g1 g2=>?_) (λx hx=>by cases hx)
  refine amz horc hdst hQ fuel _ s' w' tmps' k' ow' (Know.le_trans hk g1) (g2.more λj hj=>?_) H
  rcases hj with hj|rfl
  .by_cases hij:i=j
   .subst hij;rw[hun] at hj;cases hj
   .rw[getD_set_ne true hij];exact hj
  .rcases av j listed.size with g|g
   .simp[g]
   .simp[g]
end
def ak0{obj:Nat->Bool}{o:Op}(h:ada obj o=true):ada (λ_=>true) o=true:=by
 unfold ada at h ⊢
 split at h
 .rfl
 .cases h
def aRw{obj:Nat->Bool}{o:Op}(h:opK o=2):ada obj o=false:=by
 cases o <;> first|rfl|cases h
theorem amV{obj:Nat->Bool}:∀ l:List Oper,acr obj l≠0->acr (λ_=>true) l=acr obj l
 | [],h=>absurd rfl h
 | [o],h=>by
  unfold acr at h ⊢
  by_cases hc:(ada obj o.op&&o.guard.isNone)=true
  .rw[aE hc]
   rw[ar] at hc
   rw[aE (by rw[ak0 hc.1,hc.2];rfl)]
  .rw[aA hc] at h;exact absurd rfl h
 | [o,o'],h=>by
  unfold acr at h ⊢
  by_cases hc:(ada obj o'.op&&o'.guard.isNone)=true
  .rw[aE hc]
   rw[ar] at hc
   rw[aE (by rw[ak0 hc.1,hc.2];rfl)]
  .rw[aA hc] at h ⊢
   by_cases h2:(ada obj o.op&&o.guard.isNone&&(opK o'.op == 2&&o'.guard.isNone))=true
   .rw[aE h2]
    simp only[ar,dL] at h2
    rw[aA (by rw[aRw h2.2.1];simp),aE (by simp[ak0 h2.1.1,h2.1.2,h2.2.1,h2.2.2])]
   .rw[aA h2] at h;exact absurd rfl h
 | _::o::o'::l,h=>amV (o::o'::l) h
theorem avz(obj:Nat->Bool):∀ l:List Oper,acr obj l≠0->aaO l=false
 | [],h=>rfl
 | [o],h=>by
  unfold acr at h
  split at h
  .rename_i hc
   rw[ar] at hc
   unfold aaO
   have:cZ o.op=false:=by
    have h1:=hc.1
    unfold ada at h1
    split at h1
    .rename_i e;rw[e];rfl
    .cases h1
   rw[this];rfl
  .exact absurd rfl h
 | [o,o'],h=>by
  unfold acr at h
  show aaO [o']=false
  unfold aaO
  have key:cZ o'.op=false:=by
   split at h
   .rename_i hc
    rw[ar] at hc
    have h1:=hc.1
    unfold ada at h1
    split at h1
    .rename_i e;rw[e];rfl
    .cases h1
   .split at h
    .rename_i hc
     simp only[ar,dL] at hc
     have h1:=hc.2.1
     generalize o'.op=q at h1
     cases q <;> first|rfl|cases h1
    .exact absurd rfl h
  rw[key];rfl
 | _::o::o'::l,h=>avz obj (o::o'::l) h
theorem asM{ops:Array Oper}{i:Nat}{listed:Array Bool}(hd:Dc ops listed):∀ (f j:Nat),wB ops i f j=true->listed.getD j false=true->listed.getD i true=true
 | 0,j,h,_=>by cases h
 | f+1,j,h,hl=>by
  unfold wB at h
  split at h
  rotate_left
  .cases h
  rename_i o ho
  simp only[abq,ar,bD,dL] at h
  obtain⟨e,he,hb,hc⟩:=h
  have hle:=hd j o ho (ahD hl) e he hb
  rcases hc with rfl|hc
  .exact ahD hle
  .exact asM hd f e.on hc hle
def ahk{ops:Array Oper}{i:Nat}{listed:Array Bool}(hd:Dc ops listed)(hun:listed.getD i true=false){f j:Nat}(h:wB ops i f j=true):j∉Region.ready .any ops listed:=λhr=>by
 cases f with
 | zero=>cases h
 | succ f =>
  unfold wB at h
  split at h
  rotate_left
  .cases h
  rename_i o ho
  simp only[abq,ar,bD,dL] at h
  obtain⟨e,he,hb,hc⟩:=h
  obtain⟨_,oj,hoj,hall⟩:=mem_ready.1 hr
  obtain rfl:oj=o:=aG (hoj.symm.trans ho)
  have hle:=hall e he hb
  rcases hc with rfl|hc
  .rw[ahD hle] at hun;cases hun
  .rw[asM hd f e.on hc hle] at hun;cases hun
def axm{ops:Array Oper}{n:Nat}(hF:apW ops n=true){i t:Nat}(hit:i<t)(ht:t<ops.size)(hn:ops.size<=t+n):wB ops i ops.size t=true:=by
 have:=bo.1 hF t (List.mem_range.2 ht)
 simp only[bD,aR] at this
 rcases this with h|h
 .omega
 .exact bo.1 h i (List.mem_range.2 hit)
def aOz{ops:Array Oper}(hL:aqS ops=true){m j:Nat}{om oj:Oper}(hm:ops[m]?=some om)(hj:ops[j]?=some oj)(h0:aCc om.op=true)(h1:apN oj.op=true):wB ops m ops.size j=true:=by
 have:=bo.1 hL m (List.mem_range.2 (Array.getElem?_eq_some_iff.1 hm).1)
 simp only[opP,hm,h0,bJ,fC] at this
 have:=bo.1 this j (List.mem_range.2 (Array.getElem?_eq_some_iff.1 hj).1)
 simpa only [hj,h1,bJ,fC] using this
def aXz{obj:Nat->Bool}{o:Op}(h:ae4 obj o=true):aCc o=true:=by
 unfold ae4 at h
 split at h
 .rw[ar] at h;exact h.1
 .cases h
def agO{q:Option (Option X×S)}{s:S}(h:okS q=some s):q=some (none,s):=by
 unfold okS at h
 split at h
 .cases h;rfl
 .cases h
def aGP{P:Program}{T:TT}{E:En}{s:S}{ix:Nat}{o:Oper}{es:List (Value×C)}{y:X×Option Tk}(hno:apN o.op=false)(h:val P T E {s with objs:=s.objs++[Ob.map es]} ix o=some y):val P T E s ix o=some y:=by
 cases hop:o.op with
 | load t a =>
  simp only[val,hop] at h ⊢
  have e:({s with objs:=s.objs++[Ob.map es]}:S).ev a=s.ev a:=rfl
  rw[e] at h
  cases ha:s.ev a with
  | ptr r off =>
   rw[ha] at h
   simp only[abf] at h ⊢
   rcases acL r s.objs.length with hr|hr|hr
   .rw[bq hr] at h;exact h
   .subst hr;rw[fd (am _),agQ] at h;cases h
   .rw[bc (by simp;omega)] at h;cases h
  | of c=>rw[ha] at h;cases c <;> exact h
  | _=>rw[ha] at h;exact h
 | lookup t x i ok=>rw[hop] at hno;cases hno
 | makeFunc f a b =>
  simp only[val,hop] at h ⊢
  cases f <;> exact h
 | slice t x lo hi mx =>
  simp only[val,hop] at h ⊢
  cases mx <;> exact h
 | store t a x =>
  simp only[val,hop] at h ⊢
  cases a <;> exact h
 | _ =>
  simp only[val,hop] at h ⊢
  exact h
def aGN{P:Program}{T:TT}{E:En}{s:S}{ix:Nat}{o:Oper}{ob:Ob}{y:X×Option Tk}(h:val P T E s ix o=some y):val P T E {s with objs:=s.objs++[ob]} ix o=some y:=by
 cases hop:o.op with
 | load t a =>
  simp only[val,hop] at h ⊢
  have e:({s with objs:=s.objs++[ob]}:S).ev a=s.ev a:=rfl
  rw[e]
  cases ha:s.ev a with
  | ptr r off =>
   rw[ha] at h
   simp only[abf] at h ⊢
   rcases av r s.objs.length with hr|hr
   .rw[bq hr];exact h
   .rw[bc hr] at h;cases h
  | of c=>rw[ha] at h;cases c <;> exact h
  | _=>rw[ha] at h;exact h
 | lookup t x i ok =>
  simp only[val,hop] at h ⊢
  have e:({s with objs:=s.objs++[ob]}:S).ev x=s.ev x:=rfl
  have e2:({s with objs:=s.objs++[ob]}:S).ev i=s.ev i:=rfl
  rw[e,e2]
  unfold afc at h ⊢
  cases hx:s.ev x with
  | mp r =>
   rw[hx] at h
   simp only[agH] at h ⊢
   rcases av r s.objs.length with hr|hr
   .rw[bq hr];exact h
   .rw[bc hr] at h
    split at h
    .rename_i e;cases e
    .cases h
  | of c =>
   rw[hx] at h
   cases c with
   | lit v =>
    cases v with
    | map p=>cases p <;> exact h
    | _=>exact h
   | _=>exact h
  | _=>rw[hx] at h;exact h
 | makeFunc f a b =>
  simp only[val,hop] at h ⊢
  cases f <;> exact h
 | slice t x lo hi mx =>
  simp only[val,hop] at h ⊢
  cases mx <;> exact h
 | store t a x =>
  simp only[val,hop] at h ⊢
  cases a <;> exact h
 | _ =>
  simp only[val,hop] at h ⊢
  exact h
def aTt{P:Program}{T:TT}{E:En}{ops:Array Oper}{s:S}{ix:Nat}{o:Oper}{es:List (Value×C)}{x:X}{e:Option Tk}(hno:apN o.op=false)(h:Y P T E ops {s with objs:=s.objs++[Ob.map es]} ix o x e):Y P T E ops s ix o x e:=by
 rcases h with ⟨h1,h2,h3⟩|⟨h1,h2,h3⟩
 .exact .inl ⟨h1,aGP hno h2,h3⟩
 .exact .inr ⟨h1,h2,h3⟩
def aTs{P:Program}{T:TT}{E:En}{ops:Array Oper}{s:S}{ix:Nat}{o:Oper}{ob:Ob}{x:X}{e:Option Tk}(h:Y P T E ops s ix o x e):Y P T E ops {s with objs:=s.objs++[ob]} ix o x e:=by
 rcases h with ⟨h1,h2,h3⟩|⟨h1,h2,h3⟩
 .exact .inl ⟨h1,aGN h2,h3⟩
 .exact .inr ⟨h1,h2,h3⟩
def awK{s:S}{d d':Option Nat}{ej:Option Tk}{xj:X}{es:List (Value×C)}(hd:∀ j,d'=some j->d≠some j) :
  ((({s with objs:=s.objs++[Ob.map es]}:S).put d (.mp s.objs.length)).drop ej).put d' xj={(s.drop ej).put d' xj with objs:=((s.drop ej).put d' xj).objs++[Ob.map es]}.put d (.mp ((s.drop ej).put d' xj).objs.length):=by
 have e1:(({s with objs:=s.objs++[Ob.map es]}:S).put d (.mp s.objs.length)).drop ej=({s.drop ej with objs:=(s.drop ej).objs++[Ob.map es]}:S).put d (.mp s.objs.length):=by
  cases ej with
  | none=>rfl
  | some t =>
   rw[ah6]
   simp only[S.drop,aae,bd,cI,Ob.drop,X.drop]
 have e2:((s.drop ej).put d' xj).objs.length=s.objs.length:=by
  cases ej <;> cases d' <;> simp[S.put,S.drop]
 have e3:({(s.drop ej).put d' xj with objs:=((s.drop ej).put d' xj).objs++[Ob.map es]}:S)=({s.drop ej with objs:=(s.drop ej).objs++[Ob.map es]}:S).put d' xj:=by
  cases d' <;> rfl
 rw[e1,e2,e3,afZ _ _ _ (λd h=>hd d h)]
def aIl{P:Program}{T:TT}{E:En}{ops:Array Oper}{s s1 s2:S}{j:Nat}{o0 oj:Oper}(hap:ajp ops o0 oj)(hE:dW o0=o0.dst)(hno:apN oj.op=false)
  (h1:mkS P E s o0=some s1) (h2:bH P T E true ops s1 j oj=some (none,s2)):∃ s',bH P T E true ops s j oj=some (none,s')/\mkS P E s' o0=some s2:=by
 obtain⟨a1,a2,a3⟩:=hap
 rw[hE] at a1 a2
 unfold mkS at h1
 simp only[ay] at h1
 obtain⟨es,he,rfl⟩:=h1
 obtain⟨_,xj,ej,yj,rfl⟩:=aeC h2
 have yj1:=aTt hno ((arA (λd hd=>a1 d hd)).1 yj)
 refine⟨(s.drop ej).put (dW oj) xj,aiB yj1,?_⟩
 unfold mkS
 rw[he]
 simp only[aP,ae]
 exact (awK λd hd e=>a2 d e hd).symm
def aFd{P:Program}{T:TT}{E:En}{ops:Array Oper}{s s1 s2:S}{i:Nat}{oi o0:Oper}(hap:ajp ops oi o0)(hE:dW o0=o0.dst)
  (h1:bH P T E true ops s i oi=some (none,s1)) (h2:mkS P E s1 o0=some s2):∃ s',mkS P E s o0=some s'/\bH P T E true ops s' i oi=some (none,s2):=by
 obtain⟨a1,a2,a3⟩:=hap
 rw[hE] at a2 a3
 obtain⟨_,xi,ei,yi,rfl⟩:=aeC h1
 unfold mkS at h2
 simp only[ay] at h2
 obtain⟨es,he,rfl⟩:=h2
 refine⟨({s with objs:=s.objs++[Ob.map es]}:S).put o0.dst (.mp s.objs.length),by unfold mkS;rw[he];rfl,?_⟩
 rw[aiB ((arA (λd hd=>a3 d hd)).2 (aTs yi)),awK λd hd e=>a2 d hd e]
def ax1(P:Program)(T:TT)(E:En)(ops:Array Oper)(n:Nat)(Q:S->Prop):Nat->Array Bool->S->Prop
 | 0,listed,s=>Region.ready .any ops listed=[]/\Q s
 | fuel+1,listed,s=>(Region.ready .any ops listed=[]->Q s) /\
  ∀ i∈Region.ready .any ops listed,∃ o s',ops[i]?=some o/\stX P T E ops (decide (ops.size<=i+n)) s i o=some s'/\ax1 P T E ops n Q fuel (listed.setIfInBounds i true) s'
section
variable {P:Program} {T:TT} {E:En} {ops:Array Oper} {Q:S->Prop} {n:Nat}
theorem aDB(hF:apW ops n=true)(hL:aqS ops=true)(hS:∀ (i:Nat) (o:Oper),ops[i]?=some o->cZ o.op=true->afm ops i=true){i:Nat}{oi:Oper}(hi:ops[i]?=some oi):∀ (fuel:Nat) (listed:Array Bool) (s s1:S),Dc ops listed ->
  (∀ (j:Nat) (oj:Oper),ops[j]?=some oj->j≠i->listed.getD j true=false->(∀ e∈oj.after,Region.binds .any e=true->e.on≠i)->oi.apart ops oj=true) ->
  (i+n<ops.size->kM E.obj oi=true->∀ (j:Nat) (oj:Oper),ops[j]?=some oj->j≠i->listed.getD j true=false->j+n<ops.size->kM E.obj oj=false) ->
  (ops.size<=i+n->∀ k,k<i->listed.getD k true=true) ->
  i∈Region.ready .any ops listed->stX P T E ops (decide (ops.size<=i+n)) s i oi=some s1->ax1 P T E ops n Q fuel (listed.setIfInBounds i true) s1->ax1 P T E ops n Q (fuel+1) listed s:=by
 intro fuel
 induction fuel with
 | zero =>
  intro listed s s1 _ _ _ _ hr hs H
  refine⟨λh=>(by rw[h] at hr;cases hr),λj hj=>?_⟩
  by_cases hji:j=i
  .subst hji;exact⟨oi,s1,hi,hs,H⟩
  .have:=ready_mono hj hji
   rw[H.1] at this
   cases this
 | succ fuel ih =>
  intro listed s s1 hdc hfree hone hpre hr hs H
  refine⟨λh=>(by rw[h] at hr;cases hr),λj hj=>?_⟩
  by_cases hji:j=i
  .subst hji;exact⟨oi,s1,hi,hs,H⟩
  .obtain⟨oj,s2,hoj,hs2,H2⟩:=H.2 j (ready_mono hj hji)
   have hjun:=(mem_ready.1 hj).1
   have hiun:=(mem_ready.1 hr).1
   have hjs:j<ops.size:=(Array.getElem?_eq_some_iff.1 hoj).1
   have hji':=aaD hj hoj hiun
   have hij':=aaD hr hi hjun
   have hti:i+n<ops.size:=by
    rcases av (i+n) ops.size with g|g
    .exact g
    .exfalso
     rcases acL j i with h|h|h
     .rw[hpre g j h] at hjun;cases hjun
     .exact hji h
     .exact ahk hdc hiun (axm hF h hjs aC) hj
   have htj:j+n<ops.size:=by
    rcases av (j+n) ops.size with g|g
    .exact g
    .exact absurd hj (ahk hdc hiun (axm hF aC hjs g))
   have hdi:decide (ops.size<=i+n)=false:=bK aC
   have hdj:decide (ops.size<=j+n)=false:=bK aC
   have hap:=aij hi hoj (bC hji) hij' hji' (hfree j oj hoj hji hjun hji') (hS i oi hi) (hS j oj hoj)
   obtain⟨s',g1,g2⟩ : ∃ s',stX P T E ops (decide (ops.size<=j+n)) s j oj=some s'/\stX P T E ops (decide (ops.size<=i+n)) s' i oi=some s2:=by
    rw[hdj] at hs2 ⊢
    rw[hdi] at hs ⊢
    simp only[stX,ab,ap] at hs hs2 ⊢
    have mkd:∀ o:Oper,kM E.obj o=true->dW o=o.dst:=λo h=>by
     unfold kM at h
     rw[ar] at h
     exact adR (aLC h.1)
    cases ki:kM E.obj oi with
    | true =>
     have kj:=hone hti ki j oj hoj hji hjun htj
     rw[ki] at hs
     rw[kj] at hs2 ⊢
     simp only[ah,ab,ap] at hs hs2 ⊢
     have hno:apN oj.op=false:=by
      cases hl:apN oj.op with
      | false=>rfl
      | true =>
       have h0:aCc oi.op=true:=by unfold kM at ki;rw[ar] at ki;exact aXz ki.1
       exact absurd hj (ahk hdc hiun (aOz hL hi hoj h0 hl))
     obtain⟨s',g1,g2⟩:=aIl hap (mkd oi ki) hno hs (agO hs2)
     exact⟨s',by rw[g1];rfl,g2⟩
    | false =>
     rw[ki] at hs
     simp only[ab,ap] at hs ⊢
     cases kj:kM E.obj oj with
     | true =>
      rw[kj] at hs2
      simp only[ah] at hs2 ⊢
      obtain⟨s',g1,g2⟩:=aFd hap (mkd oj kj) (agO hs) hs2
      exact⟨s',g1,by rw[g2];rfl⟩
     | false =>
      rw[kj] at hs2
      simp only[ab,ap] at hs2 ⊢
      obtain⟨s',g1,g2⟩:=axF hap hij' hji' (agO hs) (agO hs2)
      exact⟨s',by rw[g1];rfl,by rw[g2];rfl⟩
   have hun':∀ k,(listed.setIfInBounds j true).getD k true=false->listed.getD k true=false:=λk hk=>by
    by_cases hjk:j=k
    .subst hjk;exact hjun
    .rw[getD_set_ne true hjk] at hk;exact hk
   refine⟨oj,s',hoj,g1,ih (listed.setIfInBounds j true) s' s2 (hdc.set hj) (λk ok hk hki hun hno=>hfree k ok hk hki (hun' k hun) hno) (λh1 h2 k ok hk hki hun h3=>hone h1 h2 k ok hk hki (hun' k hun) h3) (λh1=>absurd h1 aC) (ready_mono hr (bC hji)) g2 (by rw[fB _ _ hji];exact H2)⟩
theorem axq:∀ (l:List Oper) (k:Nat) (s s':S),evD P T E ops n k true l s=some s'->∀ (j:Nat) (o:Oper),l[j]?=some o->j+n<l.length->kM E.obj o=false
 | [],k,s,s',h,j,o,hj,_=>by simp at hj
 | a::l,k,s,s',h,j,o,hj,hn=>by
  unfold evD at h
  split at h
  .cases h
  rename_i hc
  split at h
  rotate_left
  .cases h
  rename_i s1 h1
  rw[cf] at h
  cases j with
  | zero =>
   simp only[dI,ae] at hj
   subst hj
   simp only[aX] at hn
   cases hk:kM E.obj a with
   | false=>rfl
   | true=>exact absurd (by simp[hk];omega) hc
  | succ j=>exact axq l (k+1) s1 s' h j o (by simpa using hj) (by simp only[aX] at hn;omega)
theorem ax0(hF:apW ops n=true)(hL:aqS ops=true)(hS:∀ (i:Nat) (o:Oper),ops[i]?=some o->cZ o.op=true->afm ops i=true):∀ (l:List Oper) (k:Nat) (b:Bool) (listed:Array Bool) (s s':S),k+l.length=ops.size->(∀ j,l[j]?=ops[k+j]?)->Dc ops listed->(∀ j,j<k->listed.getD j true=true)->Region.lexFrom .any ops l.length k listed=true ->
  evD P T E ops n k b l s=some s'->Q s'->ax1 P T E ops n Q l.length listed s
 | [],k,b,listed,s,s',_,_,_,_,hB,h,hQ=>by
  simp only[evD,ae] at h
  subst h
  exact⟨by simpa [Region.lexFrom] using hB,hQ⟩
 | o::l,k,b,listed,s,s',hk,hl,hdc,hpre,hB,h,hQ=>by
  have h0:ops[k]?=some o:=by simpa using (hl 0).symm
  simp only[aX,Region.lexFrom,ar] at hB
  obtain⟨⟨hr,hf⟩,hB'⟩:=hB
  simp only[aX] at hk
  have hr':k∈Region.ready .any ops listed:=by simpa using hr
  have hdec:decide (l.length<n)=decide (ops.size<=k+n):=decide_eq_decide.2 aC
  unfold evD at h
  split at h
  .cases h
  rename_i hb
  split at h
  rotate_left
  .cases h
  rename_i s1 h1
  have hset:∀ j,j<k+1->(listed.setIfInBounds k true).getD j true=true:=λj hj=>by
   by_cases hjk:k=j
   .subst hjk
    rcases av k listed.size with g|g
    .simp[g]
    .simp[g]
   .rw[getD_set_ne true hjk];exact hpre j aC
  rw[hdec] at h1
  refine aDB hF hL hS h0 l.length listed s s1 hdc (Region.free_spec h0 hf) (λg1 g2 j oj hoj hji hun hjn=>?_) (λ_=>hpre) hr' h1
   (ax0 hF hL hS l (k+1) _ _ s1 s' aC (λj=>by have:=hl (j+1);simpa [cE,fw 1 j] using this) (hdc.set hr') hset hB' h hQ)
  have hjk:k<j:=by
   rcases acL j k with h|h|h
   .rw[hpre j h] at hun;cases hun
   .exact absurd h hji
   .exact h
  have e:decide (l.length<n)=false:=bK aC
  rw[e,g2,ct,bR,aY] at h
  refine axq l (k+1) s1 s' h (j-(k+1)) oj ?_ aC
  have:=hl (j-k)
  rw[show j-k=(j-(k+1))+1 by omega,gA] at this
  rw[this,← hoj]
  congr 1
  omega
end
section
variable {P:Program} {M0:Base} {w0:World} {N:Nat} {ds:List Deferred}
theorem ary{n:Nat}{E:En}(horc:EnSound P M0.G E){ops:Array Oper}(hdst:∀ (j:Nat) (o:Oper),ops[j]?=some o->ab2 N o=true){Q:Exit->Act->World->Prop}{Qs:S->Prop}{k0:Know}
  (hQ:∀ s' tmps' w' k' ow' done',k0.le k'->Qs s'->Sim M0 k' ow' done' w0 w' N s' tmps'->Q .normal ⟨tmps',ds⟩ w'):∀ (fuel:Nat) (listed:Array Bool) (s:S) (w:World) (tmps:Array Value) (k:Know) (ow:Own),
  k0.le k->Sim M0 k ow (λj=>listed.getD j true=true) w0 w N s tmps->ax1 P (TT.of P) E ops n Qs fuel listed s->wpAny P .any ops Q fuel listed ⟨tmps,ds⟩ w
 | 0,listed,s,w,tmps,k,ow,hk,hs,h=>⟨h.1,hQ s tmps w k ow _ hk h.2 hs⟩
 | fuel+1,listed,s,w,tmps,k,ow,hk,hs,h=>by
  refine⟨λh0=>hQ s tmps w k ow _ hk (h.1 h0) hs,λi hi=>?_⟩
  obtain⟨o,s',ho,hst,H⟩:=h.2 i hi
  have hun:=(mem_ready.1 hi).1
  obtain⟨dr,hst⟩ : ∃ dr,bH P (TT.of P) E dr ops s i o=some (none,s'):=by
   unfold stX at hst
   split at hst
   .exact⟨false,agO hst⟩
   .split at hst
    .rename_i hk;exact⟨false,ase (by unfold kM at hk;exact hk) hst⟩
    .exact⟨true,agO hst⟩
  refine aao (dr:=dr) hs horc (by rw[hun];simp) ho (hdst i o ho) hst (λ_ tmps' w' k' ow' g1 g2=>?_) (λx hx=>by cases hx)
  refine ary horc hdst hQ fuel _ s' w' tmps' k' ow' (Know.le_trans hk g1) (g2.more λj hj=>?_) H
  rcases hj with hj|rfl
  .by_cases hij:i=j
   .subst hij;rw[hun] at hj;cases hj
   .rw[getD_set_ne true hij];exact hj
  .rcases av j listed.size with g|g
   .simp[g]
   .simp[g]
end

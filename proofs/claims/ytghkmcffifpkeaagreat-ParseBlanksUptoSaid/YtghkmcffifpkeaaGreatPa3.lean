/- A part. Conditions: none. -/
import Derived.Test.YtghkmcffifpkeaaGreatPa2
set_option linter.all false
set_option maxRecDepth 100000
set_option maxHeartbeats 64000000
namespace Go.Pe
open RowKit
def afu(s:S)(d:Option Nat)(z:X)(x:Operand)(h:∀ j,d=some j->x≠.tmp j):(s.put d z).ev x=s.ev x:=by
 cases d with
 | none=>rfl
 | some d =>
  cases x with
  | tmp t =>
   have:t≠d:=λe=>h d rfl (by rw[e])
   simp[S.put,S.ev,upd,this]
  | _=>rfl
theorem akK{f g:Operand->X}:∀ (ps:List (Nat×Operand)),(∀ p∈ps,f p.2=g p.2)->aad f ps=aad g ps
 | [],_=>rfl
 | (i,x)::r,h=>by
  simp only[aad]
  rw[h (i,x) aT,akK r (λp hp=>h p (by simp[hp]))]
theorem alR{f g:Operand->X}:∀ (l:List Operand),(∀ x∈l,f x=g x)->abF f l=abF g l
 | [],_=>rfl
 | x::r,h=>by
  simp only[abF]
  rw[h x aT,alR r (λp hp=>h p (by simp[hp]))]
def aut(P:Program)(T:TT)(E:En){s s':S}(ix:Nat)(o:Oper)(hc:s'.clk=s.clk)(hob:s'.objs=s.objs)(h:∀ x∈o.op.operands.toList,s'.ev x=s.ev x) :
  val P T E s' ix o=val P T E s ix o:=by
 unfold val
 split <;> rename_i ho <;> (try rw[ho] at h)
 .rw[h _ (by simp[Op.operands])]
 .rw[h _ (by simp[Op.operands])]
 .rw[h _ (by simp[Op.operands]),h _ (by simp[Op.operands]),h _ (by simp[Op.operands])]
 .rw[h _ (by simp[Op.operands]),h _ (by simp[Op.operands])]
 .rw[h _ (by simp[Op.operands])]
 .rw[h _ (by simp[Op.operands]),hob]
 .rw[h _ (by simp[Op.operands])]
 .rw[h _ (by simp[Op.operands])]
 .rw[h _ (by simp[Op.operands]),h _ (by simp[Op.operands])]
 .rw[h _ (by simp[Op.operands]),h _ (by simp[Op.operands])]
 .rename_i t x lo hi
  rw[h x (by simp[Op.operands])]
  have h1:lo.map s'.ev=lo.map s.ev:=by
   cases lo with
   | none=>rfl
   | some y=>simp[h y (by simp[Op.operands])]
  have h2:hi.map s'.ev=hi.map s.ev:=by
   cases hi with
   | none=>rfl
   | some y=>simp[h y (by simp[Op.operands])]
  rw[h1,h2]
 .rename_i t ps
  rw[akK (f:=s'.ev) (g:=s.ev) ps.toList (λp hp=>h p.2 (by simp only[Op.operands];exact List.mem_map.2 ⟨p,hp,rfl⟩))]
 .rename_i t n ps
  rw[akK (f:=s'.ev) (g:=s.ev) ps.toList (λp hp=>h p.2 (by simp only[Op.operands];exact List.mem_map.2 ⟨p,hp,rfl⟩)),hc]
 .rw[h _ (by simp[Op.operands])]
 .rw[h _ (by simp[Op.operands])]
 .rename_i f first caps
  rw[alR (f:=s'.ev) (g:=s.ev) caps.toList (λx hx=>h x (by simp only[Op.operands,aaQ,bt];exact .inr hx)),dS (l:=caps.toList) (f:=s'.ev) (g:=s.ev) (λx hx=>h x (by simp only[Op.operands,aaQ,bt];exact .inr hx)),dS (l:=first.toList) (f:=s'.ev) (g:=s.ev) (λx hx=>h x (by simp only[Op.operands,aaQ,bt];exact .inl (by simp[hx])))]
 .rw[h _ (by simp[Op.operands])]
 .rw[h _ (by simp[Op.operands]),h _ (by simp[Op.operands]),hob]
 .rw[h _ (by simp[Op.operands])]
 .rw[h _ (by simp[Op.operands])]
 .rename_i cal args tys
  have hargs:∀ x∈args.toList,s'.ev x=s.ev x:=λx hx=>h x (by simp only[Op.operands,Call.operands,aaQ,bt];exact .inr hx)
  unfold afx
  split
  .rename_i hl _;rw[hargs _ (by rw[hl];simp)]
  .rename_i hl _;rw[hargs _ (by rw[hl];simp),hargs _ (by rw[hl];simp),hc]
  .rename_i hl;rw[hargs _ (by rw[hl];simp),hargs _ (by rw[hl];simp)]
  .rename_i hl;rw[hargs _ (by rw[hl];simp),hargs _ (by rw[hl];simp)]
  .rename_i f
   rw[alR (f:=s'.ev) (g:=s.ev) args.toList hargs,h f (by simp[Op.operands,Call.operands]),hc]
  .rfl
 .rw[hc]
 .rename_i t d x
  have h1:s'.fr d=s.fr d:=h (.tmp d) (by simp[Op.operands])
  rw[h1,h x (by simp[Op.operands])]
 .rfl
def Y(P:Program)(T:TT)(E:En)(ops:Array Oper)(s:S)(ix:Nat)(o:Oper)(x:X)(e:Option Tk):Prop :=
 (dM ops s o=some true/\val P T E s ix o=some (x,e)/\aau s.clk o.after.toList e=true)\/(dM ops s o=some false/\x=.of .undef/\e=none)
section
variable {P:Program} {T:TT} {E:En} {ops:Array Oper} {s:S} {ix:Nat} {o:Oper}
theorem aoe:abm P T E true s ix o=fh P T E s ix o:=rfl
theorem asB{ops:Array Oper}{s:S}{o:Oper}(h:dM ops s o=some false):dF o=o.dst:=by
 unfold dF
 split
 .rename_i hg
  unfold dM at h
  rw[hg] at h
  cases h
 .rfl
theorem aeV{q:Option X}{s':S}(h:bx P T E true ops s ix o=some (q,s')):q=none/\∃ x e,Y P T E ops s ix o x e/\s'=(s.drop e).put (dF o) x:=by
 unfold bx at h
 split at h
 .rename_i hg
  rw[aoe] at h
  unfold fh at h
  split at h
  .rename_i x e hv
   split at h
   .rename_i hok
    simp only[bF] at h
    exact⟨h.1.symm,x,e,.inl ⟨hg,hv,hok⟩,h.2.symm⟩
   .cases h
  .cases h
 .rename_i hg
  simp only[bF] at h
  exact⟨h.1.symm,_,none,.inr ⟨hg,rfl,rfl⟩,by rw[asB hg];exact h.2.symm⟩
 .cases h
theorem ajw{x:X}{e:Option Tk}(h:Y P T E ops s ix o x e):bx P T E true ops s ix o=some (none,(s.drop e).put (dF o) x):=by
 unfold bx
 rcases h with ⟨hg,hv,hok⟩|⟨hg,rfl,rfl⟩
 .rw[hg,aoe]
  unfold fh
  simp only[hv,hok,au]
 .rw[hg,asB hg]
  rfl
theorem asj(t:Tk):dM ops (s.drop (some t)) o=dM ops s o:=by
 unfold dM
 split
 .rfl
 .split
  .rename_i d _
   simp only[S.drop]
   cases s.fr d with
   | own t' e z cs n=>rcases ft t t' e z cs n with h|h <;> rw[h]
   | _=>rfl
  .rfl
theorem aJm{d:Option Nat}{z:X}(h:∀ j,d=some j->j∉o.looksAt ops):dM ops (s.put d z) o=dM ops s o:=by
 unfold dM
 split
 .rfl
 .rename_i j want hg
  split
  .rename_i c hc
   have hne:∀ q,d=some q->c≠q:=λq hq e=>h q hq (by
    unfold Oper.looksAt
    rw[hg]
    simp[hc,e])
   cases d with
   | none=>rfl
   | some q =>
    have:=hne q rfl
    simp[S.put,upd,this]
  .rfl
theorem asY{x:X}{e:Option Tk}{d:Option Nat}{z:X}(h:∀ j,d=some j->j∉o.looksAt ops):Y P T E ops (s.put d z) ix o x e↔Y P T E ops s ix o x e:=by
 unfold Y
 have hv:val P T E (s.put d z) ix o=val P T E s ix o:=by
  refine aut P T E ix o (by cases d <;> rfl) (by cases d <;> rfl) λy hy=>afu s d z y λj hj e=>h j hj ?_
  unfold Oper.looksAt
  rw[bt]
  refine .inl (List.mem_filterMap.2 ⟨y,hy,?_⟩)
  rw[e]
 rw[aJm h,hv,show (s.put d z).clk=s.clk by cases d <;> rfl]
theorem a2R{x:X}{e:Option Tk}{t:Tk}(ht:∀ i,t≠.nm s.clk ix i)(hne:e≠some t)(h:Y P T E ops s ix o x e):Y P T E ops (s.drop (some t)) ix o (x.drop t) e:=by
 unfold Y at *
 rw[asj,axd P T E t s ix ht o]
 rcases h with ⟨hg,hv,hok⟩|⟨hg,rfl,rfl⟩
 .exact .inl ⟨hg,by rw[hv];simp[fu,hne],hok⟩
 .exact .inr ⟨hg,rfl,rfl⟩
theorem aOU{x:X}{e:Option Tk}{t:Tk}(ht:∀ i,t≠.nm s.clk ix i)(h:Y P T E ops (s.drop (some t)) ix o x e):∃ x',Y P T E ops s ix o x' e/\x=x'.drop t/\e≠some t:=by
 unfold Y at *
 rw[asj,axd P T E t s ix ht o] at h
 rcases h with ⟨hg,hv,hok⟩|⟨hg,rfl,rfl⟩
 .cases hval:val P T E s ix o with
  | none=>rw[hval] at hv;simp[fu] at hv
  | some p =>
   obtain⟨x',u⟩:=p
   rw[hval] at hv
   simp only[fu] at hv
   split at hv
   .cases hv
   .rename_i hne
    simp only[bF] at hv
    obtain⟨rfl,rfl⟩:=hv
    exact⟨x',.inl ⟨hg,rfl,hok⟩,rfl,hne⟩
 .exact⟨.of .undef,.inr ⟨hg,rfl,rfl⟩,rfl,by simp⟩
theorem a2N{x:X}{c j i:Nat}(h:Y P T E ops s ix o x (some (.nm c j i))):c<s.clk\/(c=s.clk/\∃ e∈o.after,Region.binds .any e=true/\e.on=j):=by
 rcases h with ⟨_,_,hok⟩|⟨_,_,h⟩
 .simp only[aau,bN,bf,ap,List.any_eq_true,dw] at hok
  rcases hok with h|⟨h1,e,he,h2,h3⟩
  .exact .inl h
  .exact .inr ⟨h1,e,by simpa using he,h2,h3⟩
 .cases h
end
def aiM(s:S)(d:Option Nat)(x:X)(t:Tk):(s.put d x).drop (some t)=(s.drop (some t)).put d (x.drop t):=by
 cases d with
 | none=>rfl
 | some d =>
  simp only[S.put,S.drop]
  congr 1
  funext j
  simp only[upd]
  split <;> rfl
def agD(s:S){d c:Option Nat}(x y:X)(h:∀ j,d=some j->c≠some j):(s.put d x).put c y=(s.put c y).put d x:=by
 cases d with
 | none=>rfl
 | some d =>
  cases c with
  | none=>rfl
  | some c =>
   have hne:c≠d:=λe=>h d rfl (by rw[e])
   simp only[S.put]
   congr 1
   funext j
   simp only[upd]
   by_cases h1:j=d
   .subst h1
    rw[aj (bn hne)]
    simp
   .simp[h1]
def aAH(t u:Tk)(o:Ob):(o.drop t).drop u=(o.drop u).drop t:=by
 cases o with
 | var ty xs=>simp only[Ob.drop,ack,adO];congr 1;apply dS;intro x _;exact drop_drop t u x
 | map es=>rfl
 | row ty cs=>rfl
def aEe(s:S)(e u:Option Tk):(s.drop e).drop u=(s.drop u).drop e:=by
 cases e with
 | none=>rfl
 | some e =>
  cases u with
  | none=>rfl
  | some u =>
   simp only[S.drop]
   congr 1
   .funext j;exact drop_drop e u _
   .simp only[adO];apply dS;intro o _;exact aAH e u o
def akr(ops:Array Oper)(oi oj:Oper):Prop:=(∀ d,dF oi=some d->d∉oj.looksAt ops)/\(∀ d,dF oi=some d->dF oj≠some d)/\(∀ d,dF oj=some d->d∉oi.looksAt ops)
theorem akr.symm{ops:Array Oper}{oi oj:Oper}(h:akr ops oi oj):akr ops oj oi:=⟨h.2.2,λd hd e=>h.2.1 d e hd,h.1⟩
def aof{ops:Array Oper}{i j:Nat}{oi oj:Oper}(hi:ops[i]?=some oi)(hj:ops[j]?=some oj)(hne:i≠j)(hij:∀ e∈oi.after,Region.binds .any e=true->e.on≠j)(h:afU ops i=true):∀ d,dF oi=some d->d∉oj.looksAt ops/\dF oj≠some d:=by
 intro d hd
 unfold afU at h
 simp only[hi,hd] at h
 rw[ap] at h
 have hjs:j<ops.size:=(Array.getElem?_eq_some_iff.1 hj).1
 have:=List.all_eq_true.1 h.2 j (List.mem_range.2 hjs)
 rw[hj] at this
 simp only[bN,ap,dw,cZ,adG,aae,abS] at this
 rcases this with e|⟨h1,h2⟩
 .exact absurd e.symm hne
 .refine⟨λhm=>?_,λe=>?_⟩
  .have:(oj.looksAt ops).contains d=true:=by simpa using hm
   rw[this] at h1
   cases h1
  .rcases h2 with h2|⟨_,e',he,hb,hon⟩
   .exact h2 e
   .exact hij e' he hb hon
def ai7{ops:Array Oper}{i j:Nat}{oi oj:Oper}(hi:ops[i]?=some oi)(hj:ops[j]?=some oj)(hne:i≠j)(hij:∀ e∈oi.after,Region.binds .any e=true->e.on≠j)(hji:∀ e∈oj.after,Region.binds .any e=true->e.on≠i)
  (hap:oi.apart ops oj=true) (si:cU oi.op=true->afU ops i=true) (sj:cU oj.op=true->afU ops j=true):akr ops oi oj:=by
 obtain⟨a1,a2,a3⟩:=Oper.apart_spec hap
 cases hsi:cU oi.op with
 | true =>
  have q1:=aof hi hj hne hij (si hsi)
  cases hsj:cU oj.op with
  | true =>
   have q2:=aof hj hi (bn hne) hji (sj hsj)
   exact⟨λd hd=>(q1 d hd).1,λd hd=>(q1 d hd).2,λd hd=>(q2 d hd).1⟩
  | false=>exact⟨λd hd=>(q1 d hd).1,λd hd=>(q1 d hd).2,λd hd=>a3 d (by rw[← hd,ad2 hsj])⟩
 | false =>
  cases hsj:cU oj.op with
  | true =>
   have q2:=aof hj hi (bn hne) hji (sj hsj)
   exact⟨λd hd=>a1 d (by rw[← hd,ad2 hsi]),λd hd e=>(q2 d e).2 hd,λd hd=>(q2 d hd).1⟩
  | false=>exact⟨λd hd=>a1 d (by rw[← hd,ad2 hsi]),λd hd=>by rw[ad2 hsj];exact a2 d (by rw[← hd,ad2 hsi]),λd hd=>a3 d (by rw[← hd,ad2 hsj])⟩
def azn{P:Program}{T:TT}{E:En}{ops:Array Oper}{s s1 s2:S}{i j:Nat}{oi oj:Oper}(hap:akr ops oi oj)
  (hij:∀ e∈oi.after,Region.binds .any e=true->e.on≠j) (hji:∀ e∈oj.after,Region.binds .any e=true->e.on≠i)
  (h1:bx P T E true ops s i oi=some (none,s1)) (h2:bx P T E true ops s1 j oj=some (none,s2)):∃ s',bx P T E true ops s j oj=some (none,s')/\bx P T E true ops s' i oi=some (none,s2):=by
 obtain⟨a1,a2,a3⟩:=hap
 obtain⟨_,xi,ei,yi,rfl⟩:=aeV h1
 obtain⟨_,xj,ej,yj,rfl⟩:=aeV h2
 have yj1:Y P T E ops (s.drop ei) j oj xj ej:=(asY (λd hd=>a1 d hd)).1 yj
 obtain⟨xj',yj2,hxj,hne⟩ : ∃ x',Y P T E ops s j oj x' ej/\xj=apH ei x'/\(ei=none\/ej≠ei):=by
  cases ei with
  | none=>exact⟨xj,yj1,rfl,.inl rfl⟩
  | some t =>
   have ht:∀ q,t≠.nm s.clk j q:=λq e=>by
    subst e
    rcases a2N yi with h|⟨_,e,he,hb,h⟩
    .omega
    .exact hij e he hb h
   obtain⟨x',g1,g2,g3⟩:=aOU ht yj1
   exact⟨x',g1,g2,.inr g3⟩
 refine⟨(s.drop ej).put (dF oj) xj',ajw yj2,?_⟩
 have yi2:Y P T E ops (s.drop ej) i oi (apH ej xi) ei:=by
  cases ej with
  | none=>exact yi
  | some t =>
   have ht:∀ q,t≠.nm s.clk i q:=λq e=>by
    subst e
    rcases a2N yj2 with h|⟨_,e,he,hb,h⟩
    .omega
    .exact hji e he hb h
   refine a2R ht ?_ yi
   rcases hne with h|h
   .rw[h];simp
   .exact bn h
 have yi3:Y P T E ops ((s.drop ej).put (dF oj) xj') i oi (apH ej xi) ei:=(asY (λd hd=>a3 d hd)).2 yi2
 rw[ajw yi3]
 congr 1
 have hd:∀ d,(dF oj)=some d->(dF oi)≠some d:=λd hd e=>a2 d e hd
 have e1:((s.drop ej).put (dF oj) xj').drop ei=((s.drop ej).drop ei).put (dF oj) xj:=by
  rw[hxj]
  cases ei with
  | none=>rfl
  | some t=>exact aiM _ _ _ _
 have e2:((s.drop ei).put (dF oi) xi).drop ej=((s.drop ei).drop ej).put (dF oi) (apH ej xi):=by
  cases ej with
  | none=>rfl
  | some t=>exact aiM _ _ _ _
 rw[e1,e2,agD _ _ _ (λd h=>hd d h),aEe]
def aue(P:Program)(T:TT)(E:En)(ops:Array Oper)(Q:S->Prop):Nat->Array Bool->S->Prop
 | 0,listed,s=>Region.ready .any ops listed=[]/\Q s
 | fuel+1,listed,s=>(Region.ready .any ops listed=[]->Q s) /\
  ∀ i∈Region.ready .any ops listed,∃ o s',ops[i]?=some o/\bx P T E true ops s i o=some (none,s')/\aue P T E ops Q fuel (listed.setIfInBounds i true) s'
section
variable {P:Program} {T:TT} {E:En} {ops:Array Oper} {Q:S->Prop}
theorem aa3{i:Nat}{listed:Array Bool}{o:Oper}(hi:i∈Region.ready .any ops listed)(ho:ops[i]?=some o){j:Nat}(hj:listed.getD j true=false):∀ e∈o.after,Region.binds .any e=true->e.on≠j:=by
 obtain⟨_,oi,hoi,hall⟩:=mem_ready.1 hi
 obtain rfl:oi=o:=ay (hoi.symm.trans ho)
 intro e he hb heq
 have h1:=hall e he hb
 rw[heq] at h1
 rcases aD j listed.size with h'|h'
 .simp[h'] at hj h1;rw[hj] at h1;cases h1
 .simp[Array.getElem?_eq_none h'] at h1
theorem aGO(hS:∀ (i:Nat) (o:Oper),ops[i]?=some o->cU o.op=true->afU ops i=true){i:Nat}{oi:Oper}(hi:ops[i]?=some oi):∀ (fuel:Nat) (listed:Array Bool) (s s1:S),
  (∀ (j:Nat) (oj:Oper),ops[j]?=some oj->j≠i->listed.getD j true=false->(∀ e∈oj.after,Region.binds .any e=true->e.on≠i)->oi.apart ops oj=true) ->
  i∈Region.ready .any ops listed->bx P T E true ops s i oi=some (none,s1)->aue P T E ops Q fuel (listed.setIfInBounds i true) s1->aue P T E ops Q (fuel+1) listed s:=by
 intro fuel
 induction fuel with
 | zero =>
  intro listed s s1 _ hr hs H
  refine⟨λh=>(by rw[h] at hr;cases hr),λj hj=>?_⟩
  by_cases hji:j=i
  .subst hji;exact⟨oi,s1,hi,hs,H⟩
  .have:=ready_mono hj hji
   rw[H.1] at this
   cases this
 | succ fuel ih =>
  intro listed s s1 hfree hr hs H
  refine⟨λh=>(by rw[h] at hr;cases hr),λj hj=>?_⟩
  by_cases hji:j=i
  .subst hji;exact⟨oi,s1,hi,hs,H⟩
  .obtain⟨oj,s2,hoj,hs2,H2⟩:=H.2 j (ready_mono hj hji)
   have hjun:=(mem_ready.1 hj).1
   have hiun:=(mem_ready.1 hr).1
   have hji':=aa3 hj hoj hiun
   have hij':=aa3 hr hi hjun
   obtain⟨s',g1,g2⟩:=azn (ai7 hi hoj (bn hji) hij' hji' (hfree j oj hoj hji hjun hji') (hS i oi hi) (hS j oj hoj)) hij' hji' hs hs2
   refine⟨oj,s',hoj,g1,ih (listed.setIfInBounds j true) s' s2 (λk ok hk hki hun hno=>?_) (ready_mono hr (bn hji)) g2 (by rw[eL _ _ hji];exact H2)⟩
   refine hfree k ok hk hki ?_ hno
   by_cases hjk:j=k
   .subst hjk;exact hjun
   .rw[getD_set_ne true hjk] at hun;exact hun
theorem aq7(hS:∀ (i:Nat) (o:Oper),ops[i]?=some o->cU o.op=true->afU ops i=true):∀ (l:List Oper) (n:Nat) (listed:Array Bool) (s s':S),(∀ j,l[j]?=ops[n+j]?)->Region.lexFrom .any ops l.length n listed=true ->
  abs P T E true ops n l s=some (none,s')->Q s'->aue P T E ops Q l.length listed s
 | [],n,listed,s,s',_,hB,h,hQ=>by
  simp only[abs,bF,cV] at h
  subst h
  exact⟨by simpa [Region.lexFrom] using hB,hQ⟩
 | o::l,n,listed,s,s',hl,hB,h,hQ=>by
  have h0:ops[n]?=some o:=by simpa using (hl 0).symm
  simp only[aN,Region.lexFrom,ap] at hB
  obtain⟨⟨hr,hf⟩,hB'⟩:=hB
  simp only[abs] at h
  split at h
  .rename_i s1 h1
   exact aGO hS h0 l.length listed s s1 (Region.free_spec h0 hf) (by simpa using hr) h1
    (aq7 hS l (n+1) _ s1 s' (λj=>by have:=hl (j+1);simpa [bA,eJ 1 j] using this) hB' h hQ)
  .cases h
  .cases h
end
section
variable {P:Program} {M0:Base} {w0:World} {N:Nat} {ds:List Deferred}
theorem akq{E:En}(horc:EnSound P M0.G E){ops:Array Oper}(hdst:∀ (j:Nat) (o:Oper),ops[j]?=some o->acj N o=true){Q:Exit->Act->World->Prop}{Qs:S->Prop}{k0:Know}
  (hQ:∀ s' tmps' w' k' ow' done',k0.le k'->Qs s'->Sim M0 k' ow' done' w0 w' N s' tmps'->Q .normal ⟨tmps',ds⟩ w'):∀ (fuel:Nat) (listed:Array Bool) (s:S) (w:World) (tmps:Array Value) (k:Know) (ow:Own),
  k0.le k->Sim M0 k ow (λj=>listed.getD j true=true) w0 w N s tmps->aue P (TT.of P) E ops Qs fuel listed s->wpAny P .any ops Q fuel listed ⟨tmps,ds⟩ w
 | 0,listed,s,w,tmps,k,ow,hk,hs,h=>⟨h.1,hQ s tmps w k ow _ hk h.2 hs⟩
 | fuel+1,listed,s,w,tmps,k,ow,hk,hs,h=>by
  refine⟨λh0=>hQ s tmps w k ow _ hk (h.1 h0) hs,λi hi=>?_⟩
  obtain⟨o,s',ho,hst,H⟩:=h.2 i hi
  have hun:=(mem_ready.1 hi).1
  refine aaG hs horc (by rw[hun];simp) ho (hdst i o ho) hst (λ_ tmps' w' k' ow' g1 g2=>?_) (λx hx=>by cases hx)
  refine akq horc hdst hQ fuel _ s' w' tmps' k' ow' (Know.le_trans hk g1) (g2.more λj hj=>?_) H
  rcases hj with hj|rfl
  .by_cases hij:i=j
   .subst hij;rw[hun] at hj;cases hj
   .rw[getD_set_ne true hij];exact hj
  .rcases aD j listed.size with g|g
   .simp[g]
   .simp[g]
theorem anJ{P:Program}{T:TT}{E:En}{ops:Array Oper}:∀ (l:List Oper) (n:Nat) (s:S) (q:Option X) (s':S),abs P T E true ops n l s=some (q,s')->q=none
 | [],n,s,q,s',h=>by
  simp only[abs,bF] at h
  exact h.1.symm
 | o::l,n,s,q,s',h=>by
  simp only[abs] at h
  split at h
  .exact anJ l _ _ _ _ h
  .rename_i h1
   exact absurd (aeV h1).1 aT
  .cases h
end
def awZ(L:Nat):X->Prop
 | .ptr r _=>r<L
 | .mp r=>r<L
 | _=>True
def aKR{P:Program}{T:TT}{E:En}{s:S}{ix:Nat}{o:Oper}{ob:Ob}{y:X×Option Tk}(hwf:∀ y:Operand,awZ s.objs.length (s.ev y))(h:val P T E {s with objs:=s.objs++[ob]} ix o=some y):val P T E s ix o=some y:=by
 cases hop:o.op with
 | load t a =>
  simp only[val,hop] at h ⊢
  have ha:=hwf a
  have e:({s with objs:=s.objs++[ob]}:S).ev a=s.ev a:=rfl
  rw[e] at h
  cases hx:s.ev a with
  | ptr r off =>
   rw[hx] at h ha
   simp only[abI] at h ⊢
   rw[ba (show r<s.objs.length from ha)] at h
   exact h
  | of c=>rw[hx] at h;cases c <;> exact h
  | _=>rw[hx] at h;exact h
 | lookup t x i b =>
  simp only[val,hop] at h ⊢
  have ha:=hwf x
  have e:({s with objs:=s.objs++[ob]}:S).ev x=s.ev x:=rfl
  have e2:({s with objs:=s.objs++[ob]}:S).ev i=s.ev i:=rfl
  rw[e,e2] at h
  have hm:ahg (s.objs++[ob]) (s.ev x)=ahg s.objs (s.ev x):=by
   cases hx:s.ev x with
   | mp r =>
    rw[hx] at ha
    simp only[ahg]
    rw[ba (show r<s.objs.length from ha)]
   | of c =>
    cases c with
    | lit v =>
     cases v with
     | map p=>cases p <;> rfl
     | _=>rfl
    | _=>rfl
   | _=>rfl
  unfold aeH at h ⊢
  rw[hm] at h
  exact h
 | makeFunc f a b =>
  simp only[val,hop] at h ⊢
  cases f <;> exact h
 | slice t x lo hi mx =>
  simp only[val,hop] at h ⊢
  cases mx <;> exact h
 | store t a x =>
  simp only[val,hop] at h ⊢
  cases a <;> exact h
 | _ =>
  simp only[val,hop] at h ⊢
  exact h
def a2Q{P:Program}{T:TT}{E:En}{ops:Array Oper}{s:S}{ix:Nat}{o:Oper}{ob:Ob}{x:X}{e:Option Tk}(hwf:∀ y:Operand,awZ s.objs.length (s.ev y))(h:Y P T E ops {s with objs:=s.objs++[ob]} ix o x e):Y P T E ops s ix o x e:=by
 rcases h with ⟨h1,h2,h3⟩|⟨h1,h2,h3⟩
 .exact .inl ⟨h1,aKR hwf h2,h3⟩
 .exact .inr ⟨h1,h2,h3⟩
def aUi{P:Program}{T:TT}{E:En}{ops:Array Oper}{s s1 s2:S}{j:Nat}{o0 oj:Oper}(hap:akr ops o0 oj)(hE:dF o0=o0.dst)(hwf:∀ y:Operand,awZ s.objs.length (s.ev y))
  (h1:mkS P E s o0=some s1) (h2:bx P T E true ops s1 j oj=some (none,s2)):∃ s',bx P T E true ops s j oj=some (none,s')/\mkS P E s' o0=some s2:=by
 obtain⟨a1,a2,a3⟩:=hap
 rw[hE] at a1 a2
 unfold mkS at h1
 simp only[ar] at h1
 obtain⟨es,he,rfl⟩:=h1
 obtain⟨_,xj,ej,yj,rfl⟩:=aeV h2
 have yj1:=a2Q hwf ((asY (λd hd=>a1 d hd)).1 yj)
 refine⟨(s.drop ej).put (dF oj) xj,ajw yj1,?_⟩
 unfold mkS
 rw[he]
 simp only[aG,ab]
 have hd:∀ d,(dF oj)=some d->o0.dst≠some d:=λd hd e=>a2 d e hd
 have e1:(({s with objs:=s.objs++[Ob.map es]}:S).put o0.dst (.mp s.objs.length)).drop ej=({s.drop ej with objs:=(s.drop ej).objs++[Ob.map es]}:S).put o0.dst (.mp s.objs.length):=by
  cases ej with
  | none=>rfl
  | some t =>
   rw[aiM]
   simp only[S.drop,cm,aU,bq,Ob.drop,X.drop]
 have e2:((s.drop ej).put (dF oj) xj).objs.length=s.objs.length:=by
  cases ej <;> cases (dF oj) <;> simp[S.put,S.drop]
 have e3:({(s.drop ej).put (dF oj) xj with objs:=((s.drop ej).put (dF oj) xj).objs++[Ob.map es]}:S)=({s.drop ej with objs:=(s.drop ej).objs++[Ob.map es]}:S).put (dF oj) xj:=by
  cases (dF oj) <;> rfl
 rw[e1,e2,e3,agD _ _ _ (λd h=>hd d h)]
def aI7:cz [] []=some:=by
 funext t
 cases t <;> simp[cz]
def atP{P:Program}{T:TT}{E:En}{ops:Array Oper}{s s1:S}{ix:Nat}{o:Oper}(hmk:(aeL E.obj o.op&&o.guard.isNone)=true)(h:mkS P E s o=some s1):bx P T E false ops s ix o=some (none,s1):=by
 simp only[ap,abr] at hmk
 obtain⟨hmk,hg⟩:=hmk
 unfold mkS at h
 simp only[ar] at h
 obtain⟨es,he,rfl⟩:=h
 unfold bx dM
 rw[hg]
 simp only
 unfold aeL at hmk
 split at hmk
 rotate_left
 .cases hmk
 rename_i g args tys hop
 simp only[ap] at hmk
 obtain⟨hargs,hobj⟩:=hmk
 have ha:args.toList=[]:=by simpa using hargs
 simp only[mkA,hop] at he
 split at he
 rotate_left
 .cases he
 rename_i hc
 split at he
 rotate_left
 .cases he
 rename_i es' ho
 simp only[ab] at he
 subst he
 unfold abm
 simp only[ah,av,hop,ha]
 have ht:ad4 s (.value (.func g)) []=some (g,[]):=rfl
 rw[ht]
 simp only[hobj,au]
 unfold callS
 rw[am hc]
 have hr:dW s.objs 999 (X.refsL []) []=[]:=rfl
 have hts:(if E.tk g=true then nub (X.toksL []) [] else [])=[]:=by split <;> rfl
 simp only[hr,hts,aaB,X.trs,ho,agF,akJ]
 unfold af3
 simp only[aW,aO,au,aI7,aay,aaO,aU,bq,Ob.tr,X.trs,X.tr,afJ,ct,aeJ,ae9,aao]
 congr 2
 have e1:(λj=>(s.fr j).tr some some)=s.fr:=by funext j;exact X.tr_id _
 have e2:s.objs.map (Ob.tr some some)=s.objs:=by
  conv=>rhs;rw[← List.map_id s.objs]
  exact dS λo _=>Ob.tr_id o
 rw[e1,e2]
section
variable {P:Program} {M0:Base} {w0:World} {N:Nat} {ds:List Deferred}
theorem aT3{k:Know}{ow:Own}{done:Nat->Prop}{w:World}{s:S}{tmps:Array Value}(hs:Sim M0 k ow done w0 w N s tmps)(y:Operand):awZ s.objs.length (s.ev y):=by
 have h:=Sim.ev (ds:=[]) hs y
 cases hx:s.ev y with
 | ptr r off =>
  rw[hx] at h
  simp only[aF] at h
  obtain⟨b,hb,_⟩:=h
  exact hs.dom r b hb
 | mp r =>
  rw[hx] at h
  simp only[aF] at h
  obtain⟨b,hb,_⟩:=h
  exact hs.dom r b hb
 | _=>trivial
theorem aQn{obj:Nat->Bool}{o:Op}(h:aeL obj o=true):cU o=false:=by
 cases o with
 | store t a x=>cases h
 | _=>rfl
theorem aMC{E:En}(horc:EnSound P M0.G E){ops:Array Oper}(hS:∀ (i:Nat) (o:Oper),ops[i]?=some o->cU o.op=true->afU ops i=true)(hdst:∀ (j:Nat) (o:Oper),ops[j]?=some o->acj N o=true){Q:Exit->Act->World->Prop}{Qs:S->Prop}{k0:Know}
  (hQ:∀ s' tmps' w' k' ow' done',k0.le k'->Qs s'->Sim M0 k' ow' done' w0 w' N s' tmps'->Q .normal ⟨tmps',ds⟩ w') {o0:Oper} (h0:ops[0]?=some o0) (hmk:(aeL E.obj o0.op&&o0.guard.isNone)=true) :
  ∀ (fuel:Nat) (listed:Array Bool) (s s1:S) (w:World) (tmps:Array Value) (k:Know) (ow:Own),k0.le k->Sim M0 k ow (λj=>listed.getD j true=true) w0 w N s tmps ->
   (∀ (j:Nat) (oj:Oper),ops[j]?=some oj->j≠0->listed.getD j true=false->(∀ e∈oj.after,Region.binds .any e=true->e.on≠0)->o0.apart ops oj=true) ->
   0∈Region.ready .any ops listed->mkS P E s o0=some s1->aue P (TT.of P) E ops Qs fuel (listed.setIfInBounds 0 true) s1->wpAny P .any ops Q (fuel+1) listed ⟨tmps,ds⟩ w:=by
 have hmore:∀ (listed:Array Bool) (i:Nat),listed.getD i true=false->∀ j,(listed.setIfInBounds i true).getD j true=true->(listed.getD j true=true\/j=i):=λlisted i hun j hj=>by
  by_cases hij:i=j
  .exact .inr hij.symm
  .rw[getD_set_ne true hij] at hj;exact .inl hj
 have hback:∀ (listed:Array Bool) (i:Nat),listed.getD i true=false->∀ j,(listed.getD j true=true\/j=i)->(listed.setIfInBounds i true).getD j true=true:=λlisted i hun j hj=>by
  rcases hj with hj|rfl
  .by_cases hij:i=j
   .subst hij;rw[hun] at hj;cases hj
   .rw[getD_set_ne true hij];exact hj
  .rcases aD j listed.size with g|g
   .simp[g]
   .simp[g]
 intro fuel
 induction fuel with
 | zero =>
  intro listed s s1 w tmps k ow hk hs _ hr hm H
  refine⟨λh=>(by rw[h] at hr;cases hr),λj hj=>?_⟩
  have hun:=(mem_ready.1 hj).1
  by_cases hj0:j=0
  .subst hj0
   refine aaG (dr:=false) hs horc (by rw[hun];simp) h0 (hdst 0 o0 h0) (atP hmk hm) (λ_ tmps' w' k' ow' g1 g2=>?_) (λx hx=>by cases hx)
   exact akq horc hdst hQ 0 _ s1 w' tmps' k' ow' (Know.le_trans hk g1) (g2.more (hback listed 0 hun)) H
  .have:=ready_mono hj hj0
   rw[H.1] at this
   cases this
 | succ fuel ih =>
  intro listed s s1 w tmps k ow hk hs hfree hr hm H
  refine⟨λh=>(by rw[h] at hr;cases hr),λj hj=>?_⟩
  have hun:=(mem_ready.1 hj).1
  by_cases hj0:j=0
  .subst hj0
   refine aaG (dr:=false) hs horc (by rw[hun];simp) h0 (hdst 0 o0 h0) (atP hmk hm) (λ_ tmps' w' k' ow' g1 g2=>?_) (λx hx=>by cases hx)
   exact akq horc hdst hQ (fuel+1) _ s1 w' tmps' k' ow' (Know.le_trans hk g1) (g2.more (hback listed 0 hun)) H
  .obtain⟨oj,s2,hoj,hs2,H2⟩:=H.2 j (ready_mono hj hj0)
   have h0un:=(mem_ready.1 hr).1
   have hji':=aa3 hj hoj h0un
   have hno:cU o0.op=false:=by rw[ap] at hmk;exact aQn hmk.1
   obtain⟨s',g1,g2⟩:=aUi (ai7 h0 hoj (bn hj0) (aa3 hr h0 hun) hji' (hfree j oj hoj hj0 hun hji') (λh=>by rw[hno] at h;cases h) (hS j oj hoj)) (ad2 hno) (aT3 hs) hm hs2
   refine aaG (dr:=true) hs horc (by rw[hun];simp) hoj (hdst j oj hoj) g1 (λ_ tmps' w' k' ow' q1 q2=>?_) (λx hx=>by cases hx)
   refine ih (listed.setIfInBounds j true) s' s2 w' tmps' k' ow' (Know.le_trans hk q1) (q2.more (hback listed j hun)) (λk ok hok hk0 hkun hno=>?_) (ready_mono hr (bn hj0)) g2 (by rw[eL _ _ hj0];exact H2)
   refine hfree k ok hok hk0 ?_ hno
   by_cases hjk:j=k
   .subst hjk;exact hun
   .rw[getD_set_ne true hjk] at hkun;exact hkun
end
def Dm(m:Nat)(ops:Array Oper)(i:Nat):Bool:=decide (i+m<ops.size)
def aud(m:Nat)(P:Program)(T:TT)(E:En)(ops:Array Oper)(Q:S->Prop):Nat->Array Bool->S->Prop
 | 0,listed,s=>Region.ready .any ops listed=[]/\Q s
 | fuel+1,listed,s=>(Region.ready .any ops listed=[]->Q s) /\
  ∀ i∈Region.ready .any ops listed,∃ o s',ops[i]?=some o/\bx P T E (Dm m ops i) ops s i o=some (none,s')/\aud m P T E ops Q fuel (listed.setIfInBounds i true) s'
abbrev aOR:=aud 1
def Dc(ops:Array Oper)(listed:Array Bool):Prop:=∀ (k:Nat) (o:Oper),ops[k]?=some o->listed.getD k true=true->∀ e∈o.after,Region.binds .any e=true->listed.getD e.on false=true
def aiq{listed:Array Bool}{i:Nat}(h:listed.getD i false=true):listed.getD i true=true:=by
 rcases aD i listed.size with g|g
 .simp[g] at h ⊢;exact h
 .simp[g] at h
def auE{listed:Array Bool}{i j:Nat}(h:listed.getD i false=true):(listed.setIfInBounds j true).getD i false=true:=by
 by_cases hij:j=i
 .subst hij
  rcases aD j listed.size with g|g
  .simp[g]
  .simp[g] at h
 .rw[getD_set_ne false hij];exact h
theorem Dc.set{ops:Array Oper}{listed:Array Bool}(h:Dc ops listed){j:Nat}(hj:j∈Region.ready .any ops listed):Dc ops (listed.setIfInBounds j true):=λk o hk hl e he hb=>by
 by_cases hjk:j=k
 .subst hjk
  obtain⟨_,oj,hoj,hall⟩:=mem_ready.1 hj
  obtain rfl:oj=o:=ay (hoj.symm.trans hk)
  exact auE (hall e he hb)
 .rw[getD_set_ne true hjk] at hl
  exact auE (h k o hk hl e he hb)
theorem a1e{ops:Array Oper}(hf:aoI ops=true){listed:Array Bool}(hd:Dc ops listed):∀ (m i:Nat),ops.size-i<=m->i+1<ops.size->amu ops i=false->listed.getD i true=false->ops.size-1∉Region.ready .any ops listed
 | 0,i,hm,hi,_,_,_=>by omega
 | m+1,i,hm,hi,hli,hun,hr=>by
  have hfi:=List.all_eq_true.1 hf i (List.mem_range.2 aC)
  rw[hli,eN] at hfi
  simp only[List.any_eq_true,List.mem_range,ap,bf] at hfi
  obtain⟨k,hk,hik,hx⟩:=hfi
  split at hx
  rotate_left
  .cases hx
  rename_i o ho
  simp only[abS,ap,dw,cZ] at hx
  obtain⟨hlo,e,he,hb,rfl⟩:=hx
  by_cases hkn:k=ops.size-1
  .subst hkn
   obtain⟨_,oj,hoj,hall⟩:=mem_ready.1 hr
   obtain rfl:oj=o:=ay (hoj.symm.trans ho)
   have:=aiq (hall e he hb)
   rw[hun] at this
   cases this
  .have hkun:listed.getD k true=false:=by
    cases hl:listed.getD k true with
    | false=>rfl
    | true =>
     have:=aiq (hd k o ho hl e he hb)
     rw[hun] at this
     cases this
   exact a1e hf hd m k aC aC (by unfold amu;rw[ho];split;rename_i e _;obtain rfl:=ay e;rw[hlo];rfl;rfl) hkun hr
def aS5(ρ:Tk->Option Tk)(s:S)(d:Option Nat)(x:X):(s.put d x).tr ρ=(s.tr ρ).put d (x.tr some ρ):=by
 cases d with
 | none=>rfl
 | some d =>
  simp only[S.put,S.tr]
  congr 1
  funext j
  simp only[upd]
  split <;> rfl
theorem aBY(σ:Nat->Option Nat)(ρ:Tk->Option Tk):∀ (xs:List X) (i:Nat),(X.trs σ ρ xs)[i]?=(xs[i]?).map (X.tr σ ρ)
 | [],i=>by simp[X.trs]
 | x::r,0=>by simp[X.trs]
 | x::r,i+1=>by simpa [X.trs] using aBY σ ρ r i
def exX(i:Nat):X->Out
 | .tup xs=>bJ (xs[i]?)
 | .of (.tup cs)=>bJ ((cs[i]?).map .of)
 | _=>none
structure GoodF (F:X->X):Prop where
 ex:∀ i x y t,exX i x=some (y,t)->t=none/\exX i (F x)=some (F y,none)
 val:∀ v,F (abv v)=abv v
 fn:∀ f,F (.of (.fn f []))=.of (.fn f [])
 any:F (.of .any)=.of .any
 of:∀ c,F (.of c)=.of c
def at3:GoodF id where
 ex:=λi x y t h=>by
  unfold exX at h ⊢
  split at h
  .simp only[bJ,ar,aX] at h
   obtain⟨a,ha,rfl,rfl⟩:=h
   exact⟨rfl,by simp[ha,bJ]⟩
  .simp only[bJ,ar,aX] at h
   obtain⟨a,⟨c,hc,rfl⟩,rfl,rfl⟩:=h
   exact⟨rfl,by simp[hc,bJ]⟩
  .cases h
 val:=λ_=>rfl
 fn:=λ_=>rfl
 any:=rfl
 of:=λ_=>rfl
def at2(ρ:Tk->Option Tk):GoodF (X.tr some ρ) where
 ex:=λi x y t h=>by
  unfold exX at h
  split at h
  .simp only[bJ,ar,aX] at h
   obtain⟨a,ha,rfl,rfl⟩:=h
   exact⟨rfl,by simp only[exX,X.tr,aBY,ha,aG,bJ]⟩
  .simp only[bJ,ar,aX] at h
   obtain⟨a,⟨c,hc,rfl⟩,rfl,rfl⟩:=h
   exact⟨rfl,by simp only[exX,X.tr,hc,aG,bJ]⟩
  .cases h
 val:=λv=>by unfold abv;split <;> rfl
 fn:=λ_=>rfl
 any:=rfl
 of:=λ_=>rfl
def ava(u:Tk):GoodF (X.drop u) where
 ex:=λi x y t h=>by
  unfold exX at h
  split at h
  .simp only[bJ,ar,aX] at h
   obtain⟨a,ha,rfl,rfl⟩:=h
   exact⟨rfl,by simp[exX,X.drop,ack,ha,bJ]⟩
  .simp only[bJ,ar,aX] at h
   obtain⟨a,⟨c,hc,rfl⟩,rfl,rfl⟩:=h
   exact⟨rfl,by simp[exX,X.drop,hc,bJ]⟩
  .cases h
 val:=anl u
 fn:=λ_=>rfl
 any:=rfl
 of:=λ_=>rfl
theorem GoodF.ev{F:X->X}(h:GoodF F){s s1:S}(hf:∀ j,s1.fr j=F (s.fr j))(x:Operand):s1.ev x=F (s.ev x):=by
 cases x with
 | tmp t=>exact hf t
 | const v=>exact (h.val v).symm
 | func f=>exact (h.fn f).symm
 | global g=>exact h.any.symm
def awY(s:S)(d:Option Nat)(y:X)(dj:Option Nat)(s2:S)(F:X->X)(s1:S):Prop :=
 GoodF F/\s1.clk=s.clk/\(∀ x:Operand,(∀ q,dj=some q->x≠.tmp q)->s1.ev x=F (s.ev x))/\s2=s1.put d (F y)
def aD6{s:S}{d d':Option Nat}{n r off:Nat}{xs:List X}{y:X}{s2:S}(hd:∀ j,d=some j->d'≠some j)(h:af9 (s.put d y) d' n r off xs=some s2) :
  ∃ F s1,af9 s d' n r off xs=some s1/\awY s d y d' s2 F s1:=by
 have ho:(s.put d y).objs=s.objs:=by cases d <;> rfl
 unfold af9 at h ⊢
 rw[ho] at h
 cases hr:s.objs[r]? with
 | none=>rw[hr] at h;cases h
 | some ob =>
  rw[hr] at h
  cases ob with
  | map es=>cases h
  | row ty cs=>cases h
  | var ty ys =>
   simp only at h ⊢
   split at h
   rotate_left
   .cases h
   rename_i hc
   rw[am hc]
   simp only[ab] at h
   subst h
   unfold aqK
   have e1:∀ z:X,({s.put d y with objs:=s.objs.set r (Ob.var ty (ys.take off++xs++ys.drop (off+xs.length)))}:S)=({s with objs:=s.objs.set r (Ob.var ty (ys.take off++xs++ys.drop (off+xs.length)))}:S).put d y:=λ_=>by cases d <;> rfl
   rw[e1 y]
   by_cases hn:(acy xs&&acy ((ys.drop off).take xs.length))=true
   .rw[am hn]
    refine⟨id,_,rfl,at3,by cases d' <;> rfl,λx hx=>?_,?_⟩
    .rw[afu _ _ _ _ hx]
     cases x <;> rfl
    .rw[am hn]
     exact agD _ _ _ hd
   .rw[aj hn]
    refine⟨X.tr some (aaL r off xs.length (dU r off xs)),_,rfl,at2 _,by cases d' <;> rfl,λx hx=>?_,?_⟩
    .rw[afu _ _ _ _ hx]
     exact (at2 _).ev (λj=>rfl) x
    .rw[aj hn,aS5]
     exact agD _ _ _ hd
def aHA{P:Program}{T:TT}{E:En}{s s2:S}{d:Option Nat}{y:X}{ix:Nat}{o:Oper}(hst:cU o.op=true)(hop:∀ q,d=some q->∀ x∈o.op.operands.toList,x≠.tmp q)(hd1:∀ q,d=some q->o.dst≠some q)(hd2:∀ q,d=some q->dF o≠some q)
  (h:abm P T E false (s.put d y) ix o=some (none,s2)):∃ F s1 dj,abm P T E false s ix o=some (none,s1)/\(dj=o.dst\/dj=dF o)/\awY s d y dj s2 F s1:=by
 obtain⟨di,op,tyi,pi,afi,gi⟩:=o
 unfold cU at hst
 split at hst
 rotate_left
 .cases hst
 rename_i t a v heq
 simp only at heq
 subst heq
 have ea:(s.put d y).ev a=s.ev a:=afu _ _ _ _ (λq hq=>hop q hq a (by simp[Op.operands]))
 have ev':(s.put d y).ev v=s.ev v:=afu _ _ _ _ (λq hq=>hop q hq v (by simp[Op.operands]))
 have hc:(s.put d y).clk=s.clk:=by cases d <;> rfl
 have key:fh P T E (s.put d y) ix ⟨di,.store t a v,tyi,pi,afi,gi⟩=some (none,s2)->∃ F s1 dj,fh P T E s ix ⟨di,.store t a v,tyi,pi,afi,gi⟩=some (none,s1)/\(dj=di\/dj=dF ⟨di,.store t a v,tyi,pi,afi,gi⟩)/\awY s d y dj s2 F s1:=by
  intro h
  unfold fh at h ⊢
  have hv:val P T E (s.put d y) ix ⟨di,.store t a v,tyi,pi,afi,gi⟩=val P T E s ix ⟨di,.store t a v,tyi,pi,afi,gi⟩ :=
   aut P T E ix _ hc (by cases d <;> rfl) λx hx=>afu _ _ _ _ (λq hq=>hop q hq x hx)
  rw[hv,hc] at h
  split at h
  rotate_left
  .cases h
  rename_i z tk hz
  split at h
  rotate_left
  .cases h
  rename_i hok
  simp only[bF,cV] at h
  subst h
  simp only[hok,au]
  cases tk with
  | none =>
   refine⟨id,_,_,rfl,.inr rfl,at3,by cases dF (⟨di,.store t a v,tyi,pi,afi,gi⟩ : Oper) <;> rfl,λx hx=>?_,?_⟩
   .rw[afu _ _ _ _ hx];rfl
   .exact agD _ _ _ hd2
  | some tk =>
   refine⟨X.drop tk,_,_,rfl,.inr rfl,ava tk,by cases dF (⟨di,.store t a v,tyi,pi,afi,gi⟩ : Oper) <;> rfl,λx hx=>?_,?_⟩
   .rw[afu _ _ _ _ hx]
    exact dg tk s x
   .rw[aiM]
    exact agD _ _ _ hd2
 unfold abm at h ⊢
 simp only[ah,av,ea,ev',hc] at h ⊢
 have old:(match T t,s.ev a,cE (s.ev v) with
   | some d',.ptr r off,some xs=>(af9 (s.put d y) di d'.size r off xs).map λs=>(none,s)
   | _,_,_=>none)=some ((none:Option X),s2)->∃ F s1 dj,(match T t,s.ev a,cE (s.ev v) with
   | some d',.ptr r off,some xs=>(af9 s di d'.size r off xs).map λs=>(none,s)
   | _,_,_=>none)=some ((none:Option X),s1)/\(dj=di\/dj=dF ⟨di,.store t a v,tyi,pi,afi,gi⟩)/\awY s d y dj s2 F s1:=by
  intro h0
  split at h0
  rotate_left
  .cases h0
  rename_i d' r off xs e1 e2 e3
  simp only[ar,aX,cV] at h0
  obtain⟨s2',h0,e0⟩:=h0
  subst e0
  obtain⟨F,s1,g1,g2⟩:=aD6 hd1 h0
  exact⟨F,s1,di,by simp only[g1,aG],.inl rfl,g2⟩
 split at h
 .rename_i tk ty z hnw
  split at h
  rotate_left
  .rename_i hmt
   rw[aj hmt]
   exact key h
  rename_i hmt
  rw[am hmt]
  split at h
  rotate_left
  .cases h
  rename_i d' xs j e1 e2 e3
  split at h
  rotate_left
  .cases h
  rename_i hcc
  simp only[bF,cV] at h
  subst h
  rw[am hcc]
  refine⟨X.drop tk,_,some j,rfl,.inr (by rw[← e3]),ava tk,rfl,λx hx=>?_,?_⟩
  .unfold apz
   rw[afu _ _ _ _ hx]
   exact dg tk s x
  .unfold apz
   rw[aiM]
   have e4:∀ (A:List Ob) (z:X),({(s.drop (some tk)).put d z with objs:=A}:S)=({s.drop (some tk) with objs:=A}:S).put d z:=λA z=>by cases d <;> rfl
   have e5:((s.drop (some tk)).put d (y.drop tk)).objs=(s.drop (some tk)).objs:=by cases d <;> rfl
   rw[e5,e4]
   exact agD _ _ _ (λq hq e=>hd2 q hq (by rw[e3,← e]))
 .exact old h
def aF3{P:Program}{T:TT}{E:En}{ops:Array Oper}{s s1 s2:S}{i j:Nat}{oi oj:Oper}(hap:oi.apart ops oj=true)(hap2:∀ d,oi.dst=some d->dF oj≠some d)(hap3:∀ d,dF oj=some d->d∉oi.looksAt ops)(hl:arX oi=true)(hst:cU oj.op=true)(hg:oj.guard=none)
  (h1:bx P T E true ops s i oi=some (none,s1)) (h2:bx P T E false ops s1 j oj=some (none,s2)):∃ s',bx P T E false ops s j oj=some (none,s')/\bx P T E true ops s' i oi=some (none,s2):=by
 obtain⟨a1,a2,a3⟩:=Oper.apart_spec hap
 obtain⟨di,opi,tyi,pi,afi,gi⟩:=oi
 unfold arX at hl
 simp only at hl
 split at hl
 rotate_left
 .cases hl
 rename_i x k
 have hv:∀ s:S,bx P T E true ops s i ⟨di,.extract x k,tyi,pi,afi,none⟩=match exX k (s.ev x) with
   | some (y,t)=>if aau s.clk afi.toList t=true then some (none,(s.drop t).put di y) else none
   | none=>none:=λs=>by
  show fh P T E s i _=_
  unfold fh val
  simp only[exX]
  cases s.ev x with
  | of c=>cases c <;> rfl
  | _=>rfl
 rw[hv] at h1
 split at h1
 rotate_left
 .cases h1
 rename_i y tk he
 obtain⟨rfl,_⟩:=at3.ex _ _ _ _ he
 rw[am (show aau s.clk afi.toList none=true from rfl)] at h1
 simp only[S.drop,bF,cV] at h1
 subst h1
 have hgo:∀ s:S,bx P T E false ops s j oj=abm P T E false s j oj:=λs=>by
  unfold bx dM
  rw[hg]
 rw[hgo] at h2 ⊢
 obtain⟨F,s',dj,g1,g2,g3,g4,g5,g6⟩:=aHA hst (λq hq z hz e=>a1 q hq (by
  unfold Oper.looksAt
  rw[bt]
  exact .inl (List.mem_filterMap.2 ⟨z,hz,by rw[e]⟩))) a2 hap2 h2
 refine⟨s',g1,?_⟩
 have hx:∀ q,dj=some q->x≠.tmp q:=λq hq e=>by
  have hm:q∈(⟨di,.extract x k,tyi,pi,afi,none⟩ : Oper).looksAt ops:=by
   unfold Oper.looksAt
   rw[bt]
   exact .inl (List.mem_filterMap.2 ⟨x,by simp[Op.operands],by rw[e]⟩)
  rcases g2 with rfl|rfl
  .exact a3 q hq hm
  .exact hap3 q hq hm
 rw[hv,g5 x hx]
 obtain⟨_,q2⟩:=g3.ex _ _ _ _ he
 simp only[q2]
 rw[am (show aau s'.clk afi.toList none=true from rfl),g6]
 rfl
def aCg{ops:Array Oper}(hS:akF ops=true){i:Nat}{o:Oper}(hi:ops[i]?=some o)(hin:i+1<ops.size)(hst:cU o.op=true):afU ops i=true:=by
 have:=List.all_eq_true.1 hS i (List.mem_range.2 aC)
 simp only[hi,hst,db,eN,bN,ap,dw] at this
 rcases this with h|h
 .omega
 .exact h
def am4{ops:Array Oper}(hS:akF ops=true)(hst:abj ops.toList=false)(i:Nat)(o:Oper)(hi:ops[i]?=some o)(h:cU o.op=true):afU ops i=true:=by
 have his:i<ops.size:=(Array.getElem?_eq_some_iff.1 hi).1
 have:=List.all_eq_true.1 hS i (List.mem_range.2 his)
 simp only[hi,h,hst] at this
 simpa using this
theorem auA:∀ (l:List Oper) (o:Oper),abj l=true->l[l.length-1]?=some o->cU o.op=true/\o.guard=none
 | [],o,h,_=>by cases h
 | [a],o,h,e=>by
  simp only[abP,cf,adN,dq,ab] at e
  subst e
  simpa [abj] using h
 | a::b::l,o,h,e=>auA (b::l) o h (by simpa using e)
section
variable {P:Program} {T:TT} {E:En} {ops:Array Oper} {Q:S->Prop}
theorem aGN(hf:aoI ops=true)(hS:akF ops=true)(hst:abj ops.toList=true){i:Nat}{oi:Oper}(hi:ops[i]?=some oi)(hin:i+1<ops.size):∀ (fuel:Nat) (listed:Array Bool) (s s1:S),Dc ops listed ->
  (∀ (j:Nat) (oj:Oper),ops[j]?=some oj->j≠i->listed.getD j true=false->(∀ e∈oj.after,Region.binds .any e=true->e.on≠i)->oi.apart ops oj=true) ->
  i∈Region.ready .any ops listed->bx P T E true ops s i oi=some (none,s1)->aOR P T E ops Q fuel (listed.setIfInBounds i true) s1->aOR P T E ops Q (fuel+1) listed s:=by
 have hD:Dm 1 ops i=true:=ey hin
 intro fuel
 induction fuel with
 | zero =>
  intro listed s s1 _ _ hr hs H
  refine⟨λh=>(by rw[h] at hr;cases hr),λj hj=>?_⟩
  by_cases hji:j=i
  .subst hji;exact⟨oi,s1,hi,by rw[hD];exact hs,H⟩
  .have:=ready_mono hj hji
   rw[H.1] at this
   cases this
 | succ fuel ih =>
  intro listed s s1 hdc hfree hr hs H
  refine⟨λh=>(by rw[h] at hr;cases hr),λj hj=>?_⟩
  by_cases hji:j=i
  .subst hji;exact⟨oi,s1,hi,by rw[hD];exact hs,H⟩
  .obtain⟨oj,s2,hoj,hs2,H2⟩:=H.2 j (ready_mono hj hji)
   have hjun:=(mem_ready.1 hj).1
   have hiun:=(mem_ready.1 hr).1
   have hjs:j<ops.size:=(Array.getElem?_eq_some_iff.1 hoj).1
   have hji':=aa3 hj hoj hiun
   have hij':=aa3 hr hi hjun
   obtain⟨s',g1,g2⟩ : ∃ s',bx P T E (Dm 1 ops j) ops s j oj=some (none,s')/\bx P T E true ops s' i oi=some (none,s2):=by
    rcases aD (j+1) ops.size with g|g
    .have hDj:Dm 1 ops j=true:=ey g
     rw[hDj] at hs2 ⊢
     exact azn (ai7 hi hoj (bn hji) hij' hji' (hfree j oj hoj hji hjun hji') (aCg hS hi hin) (aCg hS hoj g)) hij' hji' hs hs2
    .have hDj:Dm 1 ops j=false:=bw aC
     rw[hDj] at hs2 ⊢
     obtain rfl:j=ops.size-1:=by omega
     cases hlo:amu ops i with
     | false=>exact absurd hj (a1e hf hdc _ i (ae _) hin hlo hiun)
     | true =>
      unfold amu at hlo
      rw[hi,hoj] at hlo
      simp only[ap] at hlo
      obtain⟨hlo,hlo2⟩:=hlo
      obtain⟨q1,q2⟩:=auA ops.toList oj hst (by simpa using hoj)
      have h3:∀ d,dF oj=some d->d∉oi.looksAt ops/\oi.dst≠some d:=λd hd=>by
       rw[hd] at hlo2
       simp only[ap,cZ,adG,aae] at hlo2
       refine⟨λhm=>?_,hlo2.2⟩
       have:(oi.looksAt ops).contains d=true:=by simpa using hm
       rw[this] at hlo2
       cases hlo2.1
      exact aF3 (hfree _ oj hoj hji hjun hji') (λd hd e=>(h3 d e).2 hd) (λd hd=>(h3 d hd).1) hlo q1 q2 hs hs2
   refine⟨oj,s',hoj,g1,ih (listed.setIfInBounds j true) s' s2 (hdc.set hj) (λk ok hk hki hun hno=>?_) (ready_mono hr (bn hji)) g2 (by rw[eL _ _ hji];exact H2)⟩
   refine hfree k ok hk hki ?_ hno
   by_cases hjk:j=k
   .subst hjk;exact hjun
   .rw[getD_set_ne true hjk] at hun;exact hun
theorem azR(hf:aoI ops=true)(hS:akF ops=true)(hst:abj ops.toList=true):∀ (l:List Oper) (n:Nat) (listed:Array Bool) (s s':S) (q:Option X),n+l.length=ops.size->(∀ j,l[j]?=ops[n+j]?)->Dc ops listed->Region.lexFrom .any ops l.length n listed=true ->
  acB P T E ops n l s=some (q,s')->Q s'->q=none/\aOR P T E ops Q l.length listed s
 | [],n,listed,s,s',q,_,_,_,_,h,_=>by simp[acB] at h
 | [o],n,listed,s,s',q,hn,hl,hdc,hB,h,hQ=>by
  have h0:ops[n]?=some o:=by simpa using (hl 0).symm
  simp only[abP,Region.lexFrom,ap] at hB
  obtain⟨⟨hr,hfr⟩,hB'⟩:=hB
  have hr':n∈Region.ready .any ops listed:=by simpa using hr
  have he:Region.ready .any ops (listed.setIfInBounds n true)=[]:=by simpa using hB'
  have hD:Dm 1 ops n=false:=bw (by simp at hn;omega)
  simp only[acB] at h
  split at h
  .rename_i s2 h1
   simp only[bF] at h
   obtain⟨rfl,rfl⟩:=h
   refine⟨rfl,λh=>(by rw[h] at hr';cases hr'),λj hj=>?_⟩
   by_cases hji:j=n
   .subst hji;exact⟨o,s2,h0,by rw[hD];exact h1,he,hQ⟩
   .have:=ready_mono hj hji
    rw[he] at this
    cases this
  .cases h
 | o::o'::l,n,listed,s,s',q,hn,hl,hdc,hB,h,hQ=>by
  have h0:ops[n]?=some o:=by simpa using (hl 0).symm
  simp only[aN] at hB hn
  unfold Region.lexFrom at hB
  simp only[ap] at hB
  obtain⟨⟨hr,hfr⟩,hB'⟩:=hB
  have hr':n∈Region.ready .any ops listed:=by simpa using hr
  simp only[acB] at h
  split at h
  .rename_i s1 h1
   obtain⟨e1,e2⟩:=azR hf hS hst (o'::l) (n+1) _ s1 s' q (by simp only[aN];omega) (λj=>by have:=hl (j+1);simpa [bA,eJ 1 j] using this) (hdc.set hr') hB' h hQ
   exact⟨e1,aGN hf hS hst h0 aC _ listed s s1 hdc (Region.free_spec h0 hfr) hr' h1 e2⟩
  .cases h
end
def ldX(T:TT)(t:Nat):X->Out
 | .of (.ref cs)=>bJ ((bm T t cs).map .of)
 | _=>none
def aJP{P:Program}{T:TT}{E:En}{ops:Array Oper}{s s1 s2:S}{i j:Nat}{oi oj:Oper}(hap:oi.apart ops oj=true)(hap2:∀ d,oi.dst=some d->dF oj≠some d)(hap3:∀ d,dF oj=some d->d∉oi.looksAt ops)(hl:opK oi.op=4)(hgi:oi.guard=none)(hfz:afF s oi=true)(hst:cU oj.op=true)(hg:oj.guard=none)
  (h1:bx P T E true ops s i oi=some (none,s1)) (h2:bx P T E false ops s1 j oj=some (none,s2)):∃ s',bx P T E false ops s j oj=some (none,s')/\bx P T E true ops s' i oi=some (none,s2)/\afF s' oi=true:=by
 obtain⟨a1,a2,a3⟩:=Oper.apart_spec hap
 obtain⟨di,opi,tyi,pi,afi,gi⟩:=oi
 simp only at hgi
 subst hgi
 unfold opK at hl
 simp only at hl
 split at hl <;> first|cases hl|skip
 rename_i t x
 have hfz:∃ cs,s.ev x=.of (.ref cs):=by
  simp only[afF,opK,aFo] at hfz
  cases e:s.ev x with
  | of c=>cases c with
   | ref cs=>exact⟨cs,rfl⟩
   | _=>rw[e] at hfz;cases hfz
  | _=>rw[e] at hfz;cases hfz
 obtain⟨cs,hcs⟩:=hfz
 have hv:∀ s:S,s.ev x=.of (.ref cs)->bx P T E true ops s i ⟨di,.load t x,tyi,pi,afi,none⟩=match ldX T t (.of (.ref cs)) with
   | some (y,t)=>if aau s.clk afi.toList t=true then some (none,(s.drop t).put di y) else none
   | none=>none:=λs e=>by
  show fh P T E s i _=_
  unfold fh val
  simp only[abI,e,ldX]
  rfl
 rw[hv s hcs] at h1
 split at h1
 rotate_left
 .cases h1
 rename_i y tk he
 obtain⟨c,rfl,rfl⟩ : ∃ c,y=.of c/\tk=none:=by
  simp only[ldX,bJ,ar,aX] at he
  obtain⟨a,⟨c,_,rfl⟩,rfl,rfl⟩:=he
  exact⟨c,rfl,rfl⟩
 rw[am (show aau s.clk afi.toList none=true from rfl)] at h1
 simp only[S.drop,bF,cV] at h1
 subst h1
 have hgo:∀ s:S,bx P T E false ops s j oj=abm P T E false s j oj:=λs=>by
  unfold bx dM
  rw[hg]
 rw[hgo] at h2 ⊢
 obtain⟨F,s',dj,g1,g2,g3,g4,g5,g6⟩:=aHA hst (λq hq z hz e=>a1 q hq (by
  unfold Oper.looksAt
  rw[bt]
  exact .inl (List.mem_filterMap.2 ⟨z,hz,by rw[e]⟩))) a2 hap2 h2
 have hx:∀ q,dj=some q->x≠.tmp q:=λq hq e=>by
  have hm:q∈(⟨di,.load t x,tyi,pi,afi,none⟩ : Oper).looksAt ops:=by
   unfold Oper.looksAt
   rw[bt]
   exact .inl (List.mem_filterMap.2 ⟨x,by simp[Op.operands],by rw[e]⟩)
  rcases g2 with rfl|rfl
  .exact a3 q hq hm
  .exact hap3 q hq hm
 have hcs':s'.ev x=.of (.ref cs):=by rw[g5 x hx,hcs,g3.of]
 refine⟨s',g1,?_,?_⟩
 .rw[hv s' hcs',he]
  simp only
  rw[am (show aau s'.clk afi.toList none=true from rfl),g6,g3.of]
  rfl
 .simp only[afF,opK,aFo,hcs']
  rfl
def aA5{P:Program}{T:TT}{E:En}{ops:Array Oper}{s s':S}{j:Nat}{oi oj:Oper}(hap:∀ d,dF oj=some d->d∉oi.looksAt ops)(hfz:afF s oi=true)(h:bx P T E true ops s j oj=some (none,s')):afF s' oi=true:=by
 obtain⟨_,x,e,_,rfl⟩:=aeV h
 obtain⟨di,opi,tyi,pi,afi,gi⟩:=oi
 unfold afF at *
 simp only at *
 cases h4:(opK opi == 4) with
 | false=>rfl
 | true =>
  rw[h4] at hfz
  have hl:opK opi=4:=by simpa using h4
  unfold opK at hl
  split at hl <;> first|cases hl|skip
  rename_i t a
  simp only[db,eN,aFo] at hfz ⊢
  have e1:((s.drop e).put (dF oj) x).ev a=(s.drop e).ev a:=afu _ _ _ _ λq hq hx=>hap q hq (by
   unfold Oper.looksAt
   rw[bt]
   exact .inl (List.mem_filterMap.2 ⟨a,by simp[Op.operands],by rw[hx]⟩))
  rw[e1]
  cases ha:s.ev a with
  | of c =>
   rw[ha] at hfz
   have e2:(s.drop e).ev a=.of c:=by
    cases e with
    | none=>exact ha
    | some t=>rw[dg,ha];rfl
   rw[e2]
   exact hfz
  | _=>rw[ha] at hfz;cases hfz
def amU{ops:Array Oper}{k j:Nat}(h:al7 ops k j=true){listed:Array Bool}(hun:listed.getD j true=false):k∉Region.ready .any ops listed:=λhr=>by
 unfold al7 at h
 split at h
 rotate_left
 .cases h
 rename_i o ho
 simp only[abS,ap,dw] at h
 obtain⟨e,he,hb,rfl⟩:=h
 exact aa3 hr ho hun e he hb rfl
def aS0(l:List Oper)(h:tlB l=true):2<=l.length/\∀ o,l[l.length-2]?=some o->cU o.op=true/\o.guard=none:=by
 have key:∀ (l:List Oper) (d:Nat),alj l=some d->2<=l.length/\∀ o,l[l.length-2]?=some o->cU o.op=true/\o.guard=none:=by
  intro l
  induction l with
  | nil=>intro d h;cases h
  | cons a l ih =>
   intro d h
   cases l with
   | nil=>cases h
   | cons b l =>
    cases l with
    | nil =>
     simp only[alj] at h
     split at h
     .rename_i hc
      simp only[ap] at hc
      refine⟨by simp,λo ho=>?_⟩
      simp only[abP,cf,Nat.reduceAdd,adN,dq,ab] at ho
      subst ho
      exact⟨hc.1.1,by simpa using hc.1.2⟩
     .cases h
    | cons c l =>
     obtain⟨h1,h2⟩:=ih d h
     refine⟨by simp,λo ho=>h2 o ?_⟩
     have e:(a::b::c::l).length-2=((b::c::l).length-2)+1:=by
      simp only[aN]
      omega
     rw[e,eY] at ho
     exact ho
 unfold tlB tlM at h
 split at h
 .rename_i d hd
  exact key l d hd
 .cases h
section
variable {P:Program} {T:TT} {E:En} {ops:Array Oper} {Q:S->Prop}
theorem aql(ht:akE ops=true){i:Nat}(hin:i+2<ops.size):(∀ o,ops[i]?=some o->cU o.op=false)/\(al7 ops (ops.size-2) i=true\/ayB ops i (ops.size-2)=true):=by
 unfold akE at ht
 rw[ap] at ht
 have h1:=List.all_eq_true.1 ht.1 i (List.mem_range.2 aC)
 rw[ap,bN] at h1
 refine⟨λo ho=>?_,h1.2⟩
 have:=h1.1
 rw[ho] at this
 simpa using this
theorem auv(ht:akE ops=true){j:Nat}(hin:j+1<ops.size):al7 ops (ops.size-1) j=true:=by
 unfold akE at ht
 rw[ap] at ht
 exact List.all_eq_true.1 ht.2 j (List.mem_range.2 aC)
theorem aGK(ht:akE ops=true)(hst:2<=ops.toList.length/\∀ o,ops.toList[ops.toList.length-2]?=some o->cU o.op=true/\o.guard=none){i:Nat}{oi:Oper}(hi:ops[i]?=some oi)(hin:i+2<ops.size):∀ (fuel:Nat) (listed:Array Bool) (s s1:S),Dc ops listed ->
  (∀ (j:Nat) (oj:Oper),ops[j]?=some oj->j≠i->listed.getD j true=false->(∀ e∈oj.after,Region.binds .any e=true->e.on≠i)->oi.apart ops oj=true) ->
  i∈Region.ready .any ops listed->afF s oi=true->bx P T E true ops s i oi=some (none,s1)->aud 2 P T E ops Q fuel (listed.setIfInBounds i true) s1->aud 2 P T E ops Q (fuel+1) listed s:=by
 have hD:Dm 2 ops i=true:=ey hin
 intro fuel
 induction fuel with
 | zero =>
  intro listed s s1 _ _ hr hfz hs H
  refine⟨λh=>(by rw[h] at hr;cases hr),λj hj=>?_⟩
  by_cases hji:j=i
  .subst hji;exact⟨oi,s1,hi,by rw[hD];exact hs,H⟩
  .have:=ready_mono hj hji
   rw[H.1] at this
   cases this
 | succ fuel ih =>
  intro listed s s1 hdc hfree hr hfz hs H
  refine⟨λh=>(by rw[h] at hr;cases hr),λj hj=>?_⟩
  by_cases hji:j=i
  .subst hji;exact⟨oi,s1,hi,by rw[hD];exact hs,H⟩
  .obtain⟨oj,s2,hoj,hs2,H2⟩:=H.2 j (ready_mono hj hji)
   have hjun:=(mem_ready.1 hj).1
   have hiun:=(mem_ready.1 hr).1
   have hjs:j<ops.size:=(Array.getElem?_eq_some_iff.1 hoj).1
   have hji':=aa3 hj hoj hiun
   have hij':=aa3 hr hi hjun
   have hiS:=(aql ht hin).1 oi hi
   obtain⟨s',g1,g2,g3⟩ : ∃ s',bx P T E (Dm 2 ops j) ops s j oj=some (none,s')/\bx P T E true ops s' i oi=some (none,s2)/\afF s' oi=true:=by
    rcases aD (j+2) ops.size with g|g
    .have hDj:Dm 2 ops j=true:=ey g
     rw[hDj] at hs2 ⊢
     have hjS:=(aql ht g).1 oj hoj
     have hap:=ai7 hi hoj (bn hji) hij' hji' (hfree j oj hoj hji hjun hji') (λh=>by rw[hiS] at h;cases h) (λh=>by rw[hjS] at h;cases h)
     obtain⟨s',g1,g2⟩:=azn hap hij' hji' hs hs2
     exact⟨s',g1,g2,aA5 hap.2.2 hfz g1⟩
    .rcases aD (j+1) ops.size with g'|g'
     .have hDj:Dm 2 ops j=false:=bw aC
      rw[hDj] at hs2 ⊢
      obtain rfl:j=ops.size-2:=by omega
      rcases (aql ht hin).2 with hw|hlo
      .exact absurd hj (amU hw hiun)
      .unfold ayB at hlo
       rw[hi,hoj] at hlo
       simp only[ap,dw] at hlo
       obtain⟨⟨hlo,hgi⟩,hlo2⟩:=hlo
       obtain⟨q1,q2⟩:=hst.2 oj (by simpa using hoj)
       have h3:∀ d,dF oj=some d->d∉oi.looksAt ops/\oi.dst≠some d:=λd hd=>by
        rw[hd] at hlo2
        simp only[ap,cZ,adG,aae] at hlo2
        refine⟨λhm=>?_,hlo2.2⟩
        have:(oi.looksAt ops).contains d=true:=by simpa using hm
        rw[this] at hlo2
        cases hlo2.1
       exact aJP (hfree _ oj hoj hji hjun hji') (λd hd e=>(h3 d e).2 hd) (λd hd=>(h3 d hd).1) hlo (by simpa using hgi) hfz q1 q2 hs hs2
     .obtain rfl:j=ops.size-1:=by omega
      exact absurd hj (amU (auv ht aC) hiun)
   refine⟨oj,s',hoj,g1,ih (listed.setIfInBounds j true) s' s2 (hdc.set hj) (λk ok hk hki hun hno=>?_) (ready_mono hr (bn hji)) g3 g2 (by rw[eL _ _ hji];exact H2)⟩
   refine hfree k ok hk hki ?_ hno
   by_cases hjk:j=k
   .subst hjk;exact hjun
   .rw[getD_set_ne true hjk] at hun;exact hun
theorem azN(ht:akE ops=true)(hst:2<=ops.toList.length/\∀ o,ops.toList[ops.toList.length-2]?=some o->cU o.op=true/\o.guard=none):∀ (l:List Oper) (n:Nat) (listed:Array Bool) (s s':S) (q:Option X),n+l.length=ops.size->(∀ j,l[j]?=ops[n+j]?)->Dc ops listed->Region.lexFrom .any ops l.length n listed=true ->
  air P T E ops n l s=some (q,s')->Q s'->q=none/\aud 2 P T E ops Q l.length listed s
 | [],n,listed,s,s',q,_,_,_,_,h,_=>by simp[air] at h
 | [o],n,listed,s,s',q,hn,hl,hdc,hB,h,hQ=>by simp[air] at h
 | [o,o'],n,listed,s,s',q,hn,hl,hdc,hB,h,hQ=>by
  have h0:ops[n]?=some o:=by simpa using (hl 0).symm
  have h0':ops[n+1]?=some o':=by simpa using (hl 1).symm
  simp only[abP] at hn
  simp only[abP,Region.lexFrom,ap] at hB
  obtain⟨⟨hr,hfr⟩,⟨hr2,hfr2⟩,hB'⟩:=hB
  have hr':n∈Region.ready .any ops listed:=by simpa using hr
  have hr2':n+1∈Region.ready .any ops (listed.setIfInBounds n true):=by simpa using hr2
  have he:Region.ready .any ops ((listed.setIfInBounds n true).setIfInBounds (n+1) true)=[]:=by simpa using hB'
  have hD:Dm 2 ops n=false:=bw aC
  have hD':Dm 2 ops (n+1)=false:=bw aC
  have hun:=(mem_ready.1 hr').1
  simp only[air] at h
  split at h
  rotate_left
  .cases h
  rename_i s1 h1
  split at h
  rotate_left
  .cases h
  rename_i s2 h2
  simp only[bF] at h
  obtain⟨rfl,rfl⟩:=h
  have hn1:n+1=ops.size-1:=by omega
  refine⟨rfl,λh=>(by rw[h] at hr';cases hr'),λj hj=>?_⟩
  have hjn:j=n:=by
   by_cases hji:j=n
   .exact hji
   .exfalso
    have g1:=ready_mono hj hji
    by_cases hj1:j=n+1
    .subst hj1
     rw[hn1] at hj
     exact amU (auv ht aC) hun hj
    .have:=ready_mono g1 hj1
     rw[he] at this
     cases this
  subst hjn
  refine⟨o,s1,h0,by rw[hD];exact h1,λh=>(by rw[h] at hr2';cases hr2'),λk hk=>?_⟩
  have hkn:k=j+1:=by
   by_cases hki:k=j+1
   .exact hki
   .have:=ready_mono hk hki
    rw[he] at this
    cases this
  subst hkn
  exact⟨o',s2,h0',by rw[hD'];exact h2,he,hQ⟩
 | o::o'::o''::l,n,listed,s,s',q,hn,hl,hdc,hB,h,hQ=>by
  have h0:ops[n]?=some o:=by simpa using (hl 0).symm
  simp only[aN] at hB hn
  unfold Region.lexFrom at hB
  simp only[ap] at hB
  obtain⟨⟨hr,hfr⟩,hB'⟩:=hB
  have hr':n∈Region.ready .any ops listed:=by simpa using hr
  simp only[air] at h
  split at h
  rotate_left
  .cases h
  rename_i hfz
  split at h
  .rename_i s1 h1
   obtain⟨e1,e2⟩:=azN ht hst (o'::o''::l) (n+1) _ s1 s' q (by simp only[aN];omega) (λj=>by have:=hl (j+1);simpa [bA,eJ 1 j] using this) (hdc.set hr') hB' h hQ
   exact⟨e1,aGK ht hst h0 aC _ listed s s1 hdc (Region.free_spec h0 hfr) hr' hfz h1 e2⟩
  .cases h
end
section
variable {P:Program} {M0:Base} {w0:World} {N:Nat} {ds:List Deferred}
theorem anS{m:Nat}{E:En}(horc:EnSound P M0.G E){ops:Array Oper}(hdst:∀ (j:Nat) (o:Oper),ops[j]?=some o->acj N o=true){Q:Exit->Act->World->Prop}{Qs:S->Prop}{k0:Know}
  (hQ:∀ s' tmps' w' k' ow' done',k0.le k'->Qs s'->Sim M0 k' ow' done' w0 w' N s' tmps'->Q .normal ⟨tmps',ds⟩ w'):∀ (fuel:Nat) (listed:Array Bool) (s:S) (w:World) (tmps:Array Value) (k:Know) (ow:Own),
  k0.le k->Sim M0 k ow (λj=>listed.getD j true=true) w0 w N s tmps->aud m P (TT.of P) E ops Qs fuel listed s->wpAny P .any ops Q fuel listed ⟨tmps,ds⟩ w
 | 0,listed,s,w,tmps,k,ow,hk,hs,h=>⟨h.1,hQ s tmps w k ow _ hk h.2 hs⟩
 | fuel+1,listed,s,w,tmps,k,ow,hk,hs,h=>by
  refine⟨λh0=>hQ s tmps w k ow _ hk (h.1 h0) hs,λi hi=>?_⟩
  obtain⟨o,s',ho,hst,H⟩:=h.2 i hi
  have hun:=(mem_ready.1 hi).1
  refine aaG hs horc (by rw[hun];simp) ho (hdst i o ho) hst (λ_ tmps' w' k' ow' g1 g2=>?_) (λx hx=>by cases hx)
  refine anS horc hdst hQ fuel _ s' w' tmps' k' ow' (Know.le_trans hk g1) (g2.more λj hj=>?_) H
  rcases hj with hj|rfl
  .by_cases hij:i=j
   .subst hij;rw[hun] at hj;cases hj
   .rw[getD_set_ne true hij];exact hj
  .rcases aD j listed.size with g|g
   .simp[g]
   .simp[g]
end
def alV{obj:Nat->Bool}{o:Op}(h:ac0 obj o=true):ac0 (λ_=>true) o=true:=by
 unfold ac0 at h ⊢
 split at h
 .rfl
 .cases h
def aZF{obj:Nat->Bool}{o:Op}(h:opK o=2):ac0 obj o=false:=by
 cases o <;> first|rfl|cases h
theorem an9{obj:Nat->Bool}:∀ l:List Oper,acL obj l≠0->acL (λ_=>true) l=acL obj l
 | [],h=>absurd rfl h
 | [o],h=>by
  unfold acL at h ⊢
  by_cases hc:(ac0 obj o.op&&o.guard.isNone)=true
  .rw[am hc]
   rw[ap] at hc
   rw[am (by rw[alV hc.1,hc.2];rfl)]
  .rw[aj hc] at h;exact absurd rfl h
 | [o,o'],h=>by
  unfold acL at h ⊢
  by_cases hc:(ac0 obj o'.op&&o'.guard.isNone)=true
  .rw[am hc]
   rw[ap] at hc
   rw[am (by rw[alV hc.1,hc.2];rfl)]
  .rw[aj hc] at h ⊢
   by_cases h2:(ac0 obj o.op&&o.guard.isNone&&(opK o'.op == 2&&o'.guard.isNone))=true
   .rw[am h2]
    simp only[ap,dw] at h2
    rw[aj (by rw[aZF h2.2.1];simp),am (by simp[alV h2.1.1,h2.1.2,h2.2.1,h2.2.2])]
   .rw[aj h2] at h;exact absurd rfl h
 | _::o::o'::l,h=>an9 (o::o'::l) h
theorem axs(obj:Nat->Bool):∀ l:List Oper,acL obj l≠0->abj l=false
 | [],h=>rfl
 | [o],h=>by
  unfold acL at h
  split at h
  .rename_i hc
   rw[ap] at hc
   unfold abj
   have:cU o.op=false:=by
    have h1:=hc.1
    unfold ac0 at h1
    split at h1
    .rename_i e;rw[e];rfl
    .cases h1
   rw[this];rfl
  .exact absurd rfl h
 | [o,o'],h=>by
  unfold acL at h
  show abj [o']=false
  unfold abj
  have key:cU o'.op=false:=by
   split at h
   .rename_i hc
    rw[ap] at hc
    have h1:=hc.1
    unfold ac0 at h1
    split at h1
    .rename_i e;rw[e];rfl
    .cases h1
   .split at h
    .rename_i hc
     simp only[ap,dw] at hc
     have h1:=hc.2.1
     generalize o'.op=q at h1
     cases q <;> first|rfl|cases h1
    .exact absurd rfl h
  rw[key];rfl
 | _::o::o'::l,h=>axs obj (o::o'::l) h
theorem aus{ops:Array Oper}{i:Nat}{listed:Array Bool}(hd:Dc ops listed):∀ (f j:Nat),wB ops i f j=true->listed.getD j false=true->listed.getD i true=true
 | 0,j,h,_=>by cases h
 | f+1,j,h,hl=>by
  unfold wB at h
  split at h
  rotate_left
  .cases h
  rename_i o ho
  simp only[abS,ap,bN,dw] at h
  obtain⟨e,he,hb,hc⟩:=h
  have hle:=hd j o ho (aiq hl) e he hb
  rcases hc with rfl|hc
  .exact aiq hle
  .exact aus hd f e.on hc hle
def ah0{ops:Array Oper}{i:Nat}{listed:Array Bool}(hd:Dc ops listed)(hun:listed.getD i true=false){f j:Nat}(h:wB ops i f j=true):j∉Region.ready .any ops listed:=λhr=>by
 cases f with
 | zero=>cases h
 | succ f =>
  unfold wB at h
  split at h
  rotate_left
  .cases h
  rename_i o ho
  simp only[abS,ap,bN,dw] at h
  obtain⟨e,he,hb,hc⟩:=h
  obtain⟨_,oj,hoj,hall⟩:=mem_ready.1 hr
  obtain rfl:oj=o:=ay (hoj.symm.trans ho)
  have hle:=hall e he hb
  rcases hc with rfl|hc
  .rw[aiq hle] at hun;cases hun
  .rw[aus hd f e.on hc hle] at hun;cases hun
def ay2{ops:Array Oper}{n:Nat}(hF:aqX ops n=true){i t:Nat}(hit:i<t)(ht:t<ops.size)(hn:ops.size<=t+n):wB ops i ops.size t=true:=by
 have:=List.all_eq_true.1 hF t (List.mem_range.2 ht)
 simp only[bN,bf] at this
 rcases this with h|h
 .omega
 .exact List.all_eq_true.1 h i (List.mem_range.2 hit)
def aUn{ops:Array Oper}(hL:arY ops=true){m j:Nat}{om oj:Oper}(hm:ops[m]?=some om)(hj:ops[j]?=some oj)(h0:aFd om.op=true)(h1:aqP oj.op=true):wB ops m ops.size j=true:=by
 have:=List.all_eq_true.1 hL m (List.mem_range.2 (Array.getElem?_eq_some_iff.1 hm).1)
 simp only[opP,hm,h0,db,eN] at this
 have:=List.all_eq_true.1 this j (List.mem_range.2 (Array.getElem?_eq_some_iff.1 hj).1)
 simpa only [hj,h1,db,eN] using this
def a7h{obj:Nat->Bool}{o:Op}(h:aeL obj o=true):aFd o=true:=by
 unfold aeL at h
 split at h
 .rw[ap] at h;exact h.1
 .cases h
def ahw{q:Option (Option X×S)}{s:S}(h:okS q=some s):q=some (none,s):=by
 unfold okS at h
 split at h
 .cases h;rfl
 .cases h
def aKQ{P:Program}{T:TT}{E:En}{s:S}{ix:Nat}{o:Oper}{es:List (Value×C)}{y:X×Option Tk}(hno:aqP o.op=false)(h:val P T E {s with objs:=s.objs++[Ob.map es]} ix o=some y):val P T E s ix o=some y:=by
 cases hop:o.op with
 | load t a =>
  simp only[val,hop] at h ⊢
  have e:({s with objs:=s.objs++[Ob.map es]}:S).ev a=s.ev a:=rfl
  rw[e] at h
  cases ha:s.ev a with
  | ptr r off =>
   rw[ha] at h
   simp only[abI] at h ⊢
   rcases ac4 r s.objs.length with hr|hr|hr
   .rw[ba hr] at h;exact h
   .subst hr;rw[bW (ae _),adN] at h;cases h
   .rw[aZ (by simp;omega)] at h;cases h
  | of c=>rw[ha] at h;cases c <;> exact h
  | _=>rw[ha] at h;exact h
 | lookup t x i ok=>rw[hop] at hno;cases hno
 | makeFunc f a b =>
  simp only[val,hop] at h ⊢
  cases f <;> exact h
 | slice t x lo hi mx =>
  simp only[val,hop] at h ⊢
  cases mx <;> exact h
 | store t a x =>
  simp only[val,hop] at h ⊢
  cases a <;> exact h
 | _ =>
  simp only[val,hop] at h ⊢
  exact h
def aKO{P:Program}{T:TT}{E:En}{s:S}{ix:Nat}{o:Oper}{ob:Ob}{y:X×Option Tk}(h:val P T E s ix o=some y):val P T E {s with objs:=s.objs++[ob]} ix o=some y:=by
 cases hop:o.op with
 | load t a =>
  simp only[val,hop] at h ⊢
  have e:({s with objs:=s.objs++[ob]}:S).ev a=s.ev a:=rfl
  rw[e]
  cases ha:s.ev a with
  | ptr r off =>
   rw[ha] at h
   simp only[abI] at h ⊢
   rcases aD r s.objs.length with hr|hr
   .rw[ba hr];exact h
   .rw[aZ hr] at h;cases h
  | of c=>rw[ha] at h;cases c <;> exact h
  | _=>rw[ha] at h;exact h
 | lookup t x i ok =>
  simp only[val,hop] at h ⊢
  have e:({s with objs:=s.objs++[ob]}:S).ev x=s.ev x:=rfl
  have e2:({s with objs:=s.objs++[ob]}:S).ev i=s.ev i:=rfl
  rw[e,e2]
  unfold aeH at h ⊢
  cases hx:s.ev x with
  | mp r =>
   rw[hx] at h
   simp only[ahg] at h ⊢
   rcases aD r s.objs.length with hr|hr
   .rw[ba hr];exact h
   .rw[aZ hr] at h
    split at h
    .rename_i e;cases e
    .cases h
  | of c =>
   rw[hx] at h
   cases c with
   | lit v =>
    cases v with
    | map p=>cases p <;> exact h
    | _=>exact h
   | _=>exact h
  | _=>rw[hx] at h;exact h
 | makeFunc f a b =>
  simp only[val,hop] at h ⊢
  cases f <;> exact h
 | slice t x lo hi mx =>
  simp only[val,hop] at h ⊢
  cases mx <;> exact h
 | store t a x =>
  simp only[val,hop] at h ⊢
  cases a <;> exact h
 | _ =>
  simp only[val,hop] at h ⊢
  exact h
def a2P{P:Program}{T:TT}{E:En}{ops:Array Oper}{s:S}{ix:Nat}{o:Oper}{es:List (Value×C)}{x:X}{e:Option Tk}(hno:aqP o.op=false)(h:Y P T E ops {s with objs:=s.objs++[Ob.map es]} ix o x e):Y P T E ops s ix o x e:=by
 rcases h with ⟨h1,h2,h3⟩|⟨h1,h2,h3⟩
 .exact .inl ⟨h1,aKQ hno h2,h3⟩
 .exact .inr ⟨h1,h2,h3⟩
def a2O{P:Program}{T:TT}{E:En}{ops:Array Oper}{s:S}{ix:Nat}{o:Oper}{ob:Ob}{x:X}{e:Option Tk}(h:Y P T E ops s ix o x e):Y P T E ops {s with objs:=s.objs++[ob]} ix o x e:=by
 rcases h with ⟨h1,h2,h3⟩|⟨h1,h2,h3⟩
 .exact .inl ⟨h1,aKO h2,h3⟩
 .exact .inr ⟨h1,h2,h3⟩
def ayp{s:S}{d d':Option Nat}{ej:Option Tk}{xj:X}{es:List (Value×C)}(hd:∀ j,d'=some j->d≠some j) :
  ((({s with objs:=s.objs++[Ob.map es]}:S).put d (.mp s.objs.length)).drop ej).put d' xj={(s.drop ej).put d' xj with objs:=((s.drop ej).put d' xj).objs++[Ob.map es]}.put d (.mp ((s.drop ej).put d' xj).objs.length):=by
 have e1:(({s with objs:=s.objs++[Ob.map es]}:S).put d (.mp s.objs.length)).drop ej=({s.drop ej with objs:=(s.drop ej).objs++[Ob.map es]}:S).put d (.mp s.objs.length):=by
  cases ej with
  | none=>rfl
  | some t =>
   rw[aiM]
   simp only[S.drop,cm,aU,bq,Ob.drop,X.drop]
 have e2:((s.drop ej).put d' xj).objs.length=s.objs.length:=by
  cases ej <;> cases d' <;> simp[S.put,S.drop]
 have e3:({(s.drop ej).put d' xj with objs:=((s.drop ej).put d' xj).objs++[Ob.map es]}:S)=({s.drop ej with objs:=(s.drop ej).objs++[Ob.map es]}:S).put d' xj:=by
  cases d' <;> rfl
 rw[e1,e2,e3,agD _ _ _ (λd h=>hd d h)]
def aMD{P:Program}{T:TT}{E:En}{ops:Array Oper}{s s1 s2:S}{j:Nat}{o0 oj:Oper}(hap:akr ops o0 oj)(hE:dF o0=o0.dst)(hno:aqP oj.op=false)
  (h1:mkS P E s o0=some s1) (h2:bx P T E true ops s1 j oj=some (none,s2)):∃ s',bx P T E true ops s j oj=some (none,s')/\mkS P E s' o0=some s2:=by
 obtain⟨a1,a2,a3⟩:=hap
 rw[hE] at a1 a2
 unfold mkS at h1
 simp only[ar] at h1
 obtain⟨es,he,rfl⟩:=h1
 obtain⟨_,xj,ej,yj,rfl⟩:=aeV h2
 have yj1:=a2P hno ((asY (λd hd=>a1 d hd)).1 yj)
 refine⟨(s.drop ej).put (dF oj) xj,ajw yj1,?_⟩
 unfold mkS
 rw[he]
 simp only[aG,ab]
 exact (ayp λd hd e=>a2 d e hd).symm
def aIK{P:Program}{T:TT}{E:En}{ops:Array Oper}{s s1 s2:S}{i:Nat}{oi o0:Oper}(hap:akr ops oi o0)(hE:dF o0=o0.dst)
  (h1:bx P T E true ops s i oi=some (none,s1)) (h2:mkS P E s1 o0=some s2):∃ s',mkS P E s o0=some s'/\bx P T E true ops s' i oi=some (none,s2):=by
 obtain⟨a1,a2,a3⟩:=hap
 rw[hE] at a2 a3
 obtain⟨_,xi,ei,yi,rfl⟩:=aeV h1
 unfold mkS at h2
 simp only[ar] at h2
 obtain⟨es,he,rfl⟩:=h2
 refine⟨({s with objs:=s.objs++[Ob.map es]}:S).put o0.dst (.mp s.objs.length),by unfold mkS;rw[he];rfl,?_⟩
 rw[ajw ((asY (λd hd=>a3 d hd)).2 (a2O yi)),ayp λd hd e=>a2 d hd e]
def azQ(P:Program)(T:TT)(E:En)(ops:Array Oper)(n:Nat)(Q:S->Prop):Nat->Array Bool->S->Prop
 | 0,listed,s=>Region.ready .any ops listed=[]/\Q s
 | fuel+1,listed,s=>(Region.ready .any ops listed=[]->Q s) /\
  ∀ i∈Region.ready .any ops listed,∃ o s',ops[i]?=some o/\stX P T E ops (decide (ops.size<=i+n)) s i o=some s'/\azQ P T E ops n Q fuel (listed.setIfInBounds i true) s'
section
variable {P:Program} {T:TT} {E:En} {ops:Array Oper} {Q:S->Prop} {n:Nat}
theorem aGM(hF:aqX ops n=true)(hL:arY ops=true)(hS:∀ (i:Nat) (o:Oper),ops[i]?=some o->cU o.op=true->afU ops i=true){i:Nat}{oi:Oper}(hi:ops[i]?=some oi):∀ (fuel:Nat) (listed:Array Bool) (s s1:S),Dc ops listed ->
  (∀ (j:Nat) (oj:Oper),ops[j]?=some oj->j≠i->listed.getD j true=false->(∀ e∈oj.after,Region.binds .any e=true->e.on≠i)->oi.apart ops oj=true) ->
  (i+n<ops.size->kM E.obj oi=true->∀ (j:Nat) (oj:Oper),ops[j]?=some oj->j≠i->listed.getD j true=false->j+n<ops.size->kM E.obj oj=false) ->
  (ops.size<=i+n->∀ k,k<i->listed.getD k true=true) ->
  i∈Region.ready .any ops listed->stX P T E ops (decide (ops.size<=i+n)) s i oi=some s1->azQ P T E ops n Q fuel (listed.setIfInBounds i true) s1->azQ P T E ops n Q (fuel+1) listed s:=by
 intro fuel
 induction fuel with
 | zero =>
  intro listed s s1 _ _ _ _ hr hs H
  refine⟨λh=>(by rw[h] at hr;cases hr),λj hj=>?_⟩
  by_cases hji:j=i
  .subst hji;exact⟨oi,s1,hi,hs,H⟩
  .have:=ready_mono hj hji
   rw[H.1] at this
   cases this
 | succ fuel ih =>
  intro listed s s1 hdc hfree hone hpre hr hs H
  refine⟨λh=>(by rw[h] at hr;cases hr),λj hj=>?_⟩
  by_cases hji:j=i
  .subst hji;exact⟨oi,s1,hi,hs,H⟩
  .obtain⟨oj,s2,hoj,hs2,H2⟩:=H.2 j (ready_mono hj hji)
   have hjun:=(mem_ready.1 hj).1
   have hiun:=(mem_ready.1 hr).1
   have hjs:j<ops.size:=(Array.getElem?_eq_some_iff.1 hoj).1
   have hji':=aa3 hj hoj hiun
   have hij':=aa3 hr hi hjun
   have hti:i+n<ops.size:=by
    rcases aD (i+n) ops.size with g|g
    .exact g
    .exfalso
     rcases ac4 j i with h|h|h
     .rw[hpre g j h] at hjun;cases hjun
     .exact hji h
     .exact ah0 hdc hiun (ay2 hF h hjs aC) hj
   have htj:j+n<ops.size:=by
    rcases aD (j+n) ops.size with g|g
    .exact g
    .exact absurd hj (ah0 hdc hiun (ay2 hF aC hjs g))
   have hdi:decide (ops.size<=i+n)=false:=bw aC
   have hdj:decide (ops.size<=j+n)=false:=bw aC
   have hap:=ai7 hi hoj (bn hji) hij' hji' (hfree j oj hoj hji hjun hji') (hS i oi hi) (hS j oj hoj)
   obtain⟨s',g1,g2⟩ : ∃ s',stX P T E ops (decide (ops.size<=j+n)) s j oj=some s'/\stX P T E ops (decide (ops.size<=i+n)) s' i oi=some s2:=by
    rw[hdj] at hs2 ⊢
    rw[hdi] at hs ⊢
    simp only[stX,ah,av] at hs hs2 ⊢
    have mkd:∀ o:Oper,kM E.obj o=true->dF o=o.dst:=λo h=>by
     unfold kM at h
     rw[ap] at h
     exact ad2 (aQn h.1)
    cases ki:kM E.obj oi with
    | true =>
     have kj:=hone hti ki j oj hoj hji hjun htj
     rw[ki] at hs
     rw[kj] at hs2 ⊢
     simp only[au,ah,av] at hs hs2 ⊢
     have hno:aqP oj.op=false:=by
      cases hl:aqP oj.op with
      | false=>rfl
      | true =>
       have h0:aFd oi.op=true:=by unfold kM at ki;rw[ap] at ki;exact a7h ki.1
       exact absurd hj (ah0 hdc hiun (aUn hL hi hoj h0 hl))
     obtain⟨s',g1,g2⟩:=aMD hap (mkd oi ki) hno hs (ahw hs2)
     exact⟨s',by rw[g1];rfl,g2⟩
    | false =>
     rw[ki] at hs
     simp only[ah,av] at hs ⊢
     cases kj:kM E.obj oj with
     | true =>
      rw[kj] at hs2
      simp only[au] at hs2 ⊢
      obtain⟨s',g1,g2⟩:=aIK hap (mkd oj kj) (ahw hs) hs2
      exact⟨s',g1,by rw[g2];rfl⟩
     | false =>
      rw[kj] at hs2
      simp only[ah,av] at hs2 ⊢
      obtain⟨s',g1,g2⟩:=azn hap hij' hji' (ahw hs) (ahw hs2)
      exact⟨s',by rw[g1];rfl,by rw[g2];rfl⟩
   have hun':∀ k,(listed.setIfInBounds j true).getD k true=false->listed.getD k true=false:=λk hk=>by
    by_cases hjk:j=k
    .subst hjk;exact hjun
    .rw[getD_set_ne true hjk] at hk;exact hk
   refine⟨oj,s',hoj,g1,ih (listed.setIfInBounds j true) s' s2 (hdc.set hj) (λk ok hk hki hun hno=>hfree k ok hk hki (hun' k hun) hno) (λh1 h2 k ok hk hki hun h3=>hone h1 h2 k ok hk hki (hun' k hun) h3) (λh1=>absurd h1 aC) (ready_mono hr (bn hji)) g2 (by rw[eL _ _ hji];exact H2)⟩
theorem ay5:∀ (l:List Oper) (k:Nat) (s s':S),evD P T E ops n k true l s=some s'->∀ (j:Nat) (o:Oper),l[j]?=some o->j+n<l.length->kM E.obj o=false
 | [],k,s,s',h,j,o,hj,_=>by simp at hj
 | a::l,k,s,s',h,j,o,hj,hn=>by
  unfold evD at h
  split at h
  .cases h
  rename_i hc
  split at h
  rotate_left
  .cases h
  rename_i s1 h1
  rw[eK] at h
  cases j with
  | zero =>
   simp only[dq,ab] at hj
   subst hj
   simp only[aN] at hn
   cases hk:kM E.obj a with
   | false=>rfl
   | true=>exact absurd (by simp[hk];omega) hc
  | succ j=>exact ay5 l (k+1) s1 s' h j o (by simpa using hj) (by simp only[aN] at hn;omega)
theorem azP(hF:aqX ops n=true)(hL:arY ops=true)(hS:∀ (i:Nat) (o:Oper),ops[i]?=some o->cU o.op=true->afU ops i=true):∀ (l:List Oper) (k:Nat) (b:Bool) (listed:Array Bool) (s s':S),k+l.length=ops.size->(∀ j,l[j]?=ops[k+j]?)->Dc ops listed->(∀ j,j<k->listed.getD j true=true)->Region.lexFrom .any ops l.length k listed=true ->
  evD P T E ops n k b l s=some s'->Q s'->azQ P T E ops n Q l.length listed s
 | [],k,b,listed,s,s',_,_,_,_,hB,h,hQ=>by
  simp only[evD,ab] at h
  subst h
  exact⟨by simpa [Region.lexFrom] using hB,hQ⟩
 | o::l,k,b,listed,s,s',hk,hl,hdc,hpre,hB,h,hQ=>by
  have h0:ops[k]?=some o:=by simpa using (hl 0).symm
  simp only[aN,Region.lexFrom,ap] at hB
  obtain⟨⟨hr,hf⟩,hB'⟩:=hB
  simp only[aN] at hk
  have hr':k∈Region.ready .any ops listed:=by simpa using hr
  have hdec:decide (l.length<n)=decide (ops.size<=k+n):=ae8.2 aC
  unfold evD at h
  split at h
  .cases h
  rename_i hb
  split at h
  rotate_left
  .cases h
  rename_i s1 h1
  have hset:∀ j,j<k+1->(listed.setIfInBounds k true).getD j true=true:=λj hj=>by
   by_cases hjk:k=j
   .subst hjk
    rcases aD k listed.size with g|g
    .simp[g]
    .simp[g]
   .rw[getD_set_ne true hjk];exact hpre j aC
  rw[hdec] at h1
  refine aGM hF hL hS h0 l.length listed s s1 hdc (Region.free_spec h0 hf) (λg1 g2 j oj hoj hji hun hjn=>?_) (λ_=>hpre) hr' h1
   (azP hF hL hS l (k+1) _ _ s1 s' aC (λj=>by have:=hl (j+1);simpa [bA,eJ 1 j] using this) (hdc.set hr') hset hB' h hQ)
  have hjk:k<j:=by
   rcases ac4 j k with h|h|h
   .rw[hpre j h] at hun;cases hun
   .exact absurd h hji
   .exact h
  have e:decide (l.length<n)=false:=bw aC
  rw[e,g2,dK,dz,bj] at h
  refine ay5 l (k+1) s1 s' h (j-(k+1)) oj ?_ aC
  have:=hl (j-k)
  rw[show j-k=(j-(k+1))+1 by omega,eY] at this
  rw[this,← hoj]
  congr 1
  omega
end
section
variable {P:Program} {M0:Base} {w0:World} {N:Nat} {ds:List Deferred}
theorem asS{n:Nat}{E:En}(horc:EnSound P M0.G E){ops:Array Oper}(hdst:∀ (j:Nat) (o:Oper),ops[j]?=some o->acj N o=true){Q:Exit->Act->World->Prop}{Qs:S->Prop}{k0:Know}
  (hQ:∀ s' tmps' w' k' ow' done',k0.le k'->Qs s'->Sim M0 k' ow' done' w0 w' N s' tmps'->Q .normal ⟨tmps',ds⟩ w'):∀ (fuel:Nat) (listed:Array Bool) (s:S) (w:World) (tmps:Array Value) (k:Know) (ow:Own),
  k0.le k->Sim M0 k ow (λj=>listed.getD j true=true) w0 w N s tmps->azQ P (TT.of P) E ops n Qs fuel listed s->wpAny P .any ops Q fuel listed ⟨tmps,ds⟩ w
 | 0,listed,s,w,tmps,k,ow,hk,hs,h=>⟨h.1,hQ s tmps w k ow _ hk h.2 hs⟩
 | fuel+1,listed,s,w,tmps,k,ow,hk,hs,h=>by
  refine⟨λh0=>hQ s tmps w k ow _ hk (h.1 h0) hs,λi hi=>?_⟩
  obtain⟨o,s',ho,hst,H⟩:=h.2 i hi
  have hun:=(mem_ready.1 hi).1
  obtain⟨dr,hst⟩ : ∃ dr,bx P (TT.of P) E dr ops s i o=some (none,s'):=by
   unfold stX at hst
   split at hst
   .exact⟨false,ahw hst⟩
   .split at hst
    .rename_i hk;exact⟨false,atP (by unfold kM at hk;exact hk) hst⟩
    .exact⟨true,ahw hst⟩
  refine aaG (dr:=dr) hs horc (by rw[hun];simp) ho (hdst i o ho) hst (λ_ tmps' w' k' ow' g1 g2=>?_) (λx hx=>by cases hx)
  refine asS horc hdst hQ fuel _ s' w' tmps' k' ow' (Know.le_trans hk g1) (g2.more λj hj=>?_) H
  rcases hj with hj|rfl
  .by_cases hij:i=j
   .subst hij;rw[hun] at hj;cases hj
   .rw[getD_set_ne true hij];exact hj
  .rcases aD j listed.size with g|g
   .simp[g]
   .simp[g]
end
theorem apc(σ:Nat->Option Nat)(ρ:Tk->Option Tk):∀ xs:List X,X.trs σ ρ xs=xs.map (X.tr σ ρ)
 | []=>rfl
 | x::r=>by simp only[X.trs,aU,apc σ ρ r]
section
variable {ρ:Tk->Option Tk}
theorem aEl:∀ (x:X) (c:C),x.rd=some c->(x.tr some ρ).rd=some c :=
 X.rec (motive_1:=λx=>∀ c,x.rd=some c->(x.tr some ρ).rd=some c) (motive_2:=λxs=>∀ cs,X.rds xs=some cs->X.rds (X.trs some ρ xs)=some cs)
  (λ_ _ h=>h) (λ_ h=>h) (λt e z cs n c h=>by simp only[X.tr];split <;> simpa [X.rd] using h) (λ_ _ _ h=>h) (λ_ _ h=>h) (λ_ _ _ _ h=>by simp[X.rd] at h)
  (λxs ih c h=>by
   simp only[X.rd,ar] at h
   obtain⟨cs,h1,rfl⟩:=h
   simp only[X.tr,X.rd,ih cs h1,aG]) (λ_ _ _ h=>by simp[X.rd] at h) (λ_ _ _ _ h=>by simp[X.rd] at h) (λ_ _ _ _ h=>by simp[X.rd] at h)
  (λ_ h=>h) (λx xs ih1 ih2 cs h=>by
   simp only[X.rds] at h
   split at h
   .rename_i c cs' h1 h2
    simp only[X.trs,X.rds,ih1 _ h1,ih2 _ h2]
    exact h
   .cases h)
theorem aHZ:∀ (xs:List X) (cs:List C),X.rds xs=some cs->X.rds (xs.map (X.tr some ρ))=some cs
 | [],cs,h=>h
 | x::r,cs,h=>by
  simp only[X.rds] at h
  split at h
  .rename_i c cs' h1 h2
   simp only[aU,X.rds,aEl _ _ h1,aHZ _ _ h2]
   exact h
  .cases h
theorem aml(t:Tk)(e z:Nat)(cs:List C)(n:Nat):(X.own t e z cs n).tr some ρ=.of (.sl cs n)\/∃ t',(X.own t e z cs n).tr some ρ=.own t' e z cs n:=by
 simp only[X.tr]
 split
 .exact .inr ⟨_,rfl⟩
 .exact .inl rfl
theorem axm(r e z:Nat):(X.top r e z).tr some ρ=.top r e z\/(X.top r e z).tr some ρ=.of .any:=by
 simp only[X.tr]
 split
 .exact .inl rfl
 .exact .inr rfl
theorem ayx(x:X):fN (x.tr some ρ)=fN x:=by
 cases x with
 | own t e z cs n=>rcases aml (ρ:=ρ) t e z cs n with h|⟨t',h⟩ <;> rw[h] <;> rfl
 | top r e z=>rcases axm (ρ:=ρ) r e z with h|h <;> rw[h] <;> rfl
 | _=>rfl
theorem aIW(x:X):aaM (x.tr some ρ)=aaM x:=by
 cases x with
 | own t e z cs n=>rcases aml (ρ:=ρ) t e z cs n with h|⟨t',h⟩ <;> rw[h] <;> rfl
 | top r e z=>rcases axm (ρ:=ρ) r e z with h|h <;> rw[h] <;> rfl
 | _=>rfl
theorem aWx(x:X):aaY (x.tr some ρ)=aaY x:=by
 cases x with
 | own t e z cs n=>rcases aml (ρ:=ρ) t e z cs n with h|⟨t',h⟩ <;> rw[h] <;> rfl
 | top r e z=>rcases axm (ρ:=ρ) r e z with h|h <;> rw[h] <;> rfl
 | _=>rfl
theorem aJY{x:X}(h:abz x=true):cE (x.tr some ρ)=(cE x).map (List.map (X.tr some ρ)):=by
 cases x with
 | own t e z cs n=>simp only[cE,aG,aU,bq];rcases aml (ρ:=ρ) t e z cs n with h|⟨t',h⟩ <;> rw[h] <;> rfl
 | of c=>cases c <;> simp[X.tr,cE]
 | top r e z=>cases h
 | agg xs=>simp only[X.tr,cE,apc,aG]
 | _=>rfl
theorem ax9(v:Value):(abv v).tr some ρ=abv v:=by
 unfold abv
 split <;> rfl
theorem aKJ(d:TD):(fw d).map (X.tr some ρ)=fw d:=by
 simp[fw,ax9]
theorem aId(T:TT)(ty:Nat)(xs:List X):bC T ty (xs.map (X.tr some ρ))=(bC T ty xs).map (X.tr some ρ):=by
 unfold bC
 split
 .rfl
 .rename_i d _
  simp only[bR]
  split
  .split
   .simp[X.tr,apc,aey]
   .cases xs <;> simp
  .rfl
theorem ayY(place:Nat->Option (Nat×Nat)):∀ (qs:List (Nat×List X)) (cells:List X),aax place (cells.map (X.tr some ρ)) (qs.map λp=>(p.1,p.2.map (X.tr some ρ)))=(aax place cells qs).map (List.map (X.tr some ρ))
 | [],cells=>rfl
 | (i,xs)::r,cells=>by
  simp only[aU,aax]
  cases place i with
  | none=>rfl
  | some p =>
   obtain⟨off,size⟩:=p
   simp only[bR]
   split
   .rw[← ayY place r]
    simp[aey,abc]
   .rfl
theorem auO{f g:Operand->X}:∀ (ps:List (Nat×Operand)),(∀ p∈ps,g p.2=(f p.2).tr some ρ/\abz (f p.2)=true)->aad g ps=(aad f ps).map (List.map λp=>(p.1,p.2.map (X.tr some ρ)))
 | [],_=>rfl
 | (i,x)::r,h=>by
  obtain⟨h1,h2⟩:=h (i,x) (acO ..)
  simp only[aad,h1,aJY h2,auO r λp hp=>h p (eX _ hp)]
  cases cE (f x) <;> cases aad f r <;> simp
theorem aKY{s s':S}(h:∀ j,s'.fr j=(s.fr j).tr some ρ)(x:Operand):s'.ev x=(s.ev x).tr some ρ:=(at2 ρ).ev h x
end
theorem akc{s:S}:∀ {l:List Operand},acF s l=true->∀ x∈l,abz (s.ev x)=true
 | [],_,x,hx=>by cases hx
 | a::l,h,x,hx=>by
  simp only[acF,ap] at h
  rcases bp.1 hx with rfl|hx
  .exact h.1
  .exact akc h.2 x hx
section
variable {T:TT} {refs:List Nat}
theorem aAU{objs objs':List Ob}{t:Nat}{y x:X}{e:Option Tk}{D:List Nat}(hob:∀ r ob,r∉refs->objs[r]?=some ob->objs'[r]?=some (ob.tr some (cz refs [])))
  (hD:afW y=some D) (hDr:∀ r∈D,r∉refs) (hv:abI T objs t y=some (x,e)):e=none/\abI T objs' t (y.tr some (cz refs []))=some (x.tr some (cz refs []),none):=by
 cases y with
 | ptr r off =>
  simp only[afW,ab] at hD
  subst hD
  have hno:=hDr r aT
  unfold abI at hv
  simp only at hv
  cases hx:objs[r]? with
  | none=>rw[hx] at hv;cases hv
  | some ob =>
   rw[hx] at hv
   have h':=hob r ob hno hx
   cases ob with
   | var ty' xs =>
    obtain⟨hv2,rfl⟩:=adc hv
    refine⟨rfl,?_⟩
    simp only[X.tr,abI,h',Ob.tr,apc,← abc,aId,hv2,aG,bJ]
   | map es=>cases hv
   | row ty' cs =>
    cases cs with
    | nil=>cases hv
    | cons c cs =>
     obtain⟨hv2,rfl⟩:=adc hv
     simp only[ar] at hv2
     obtain⟨c',hv2,rfl⟩:=hv2
     exact⟨rfl,by simp only[X.tr,abI,h',Ob.tr,hv2,aG,bJ]⟩
 | of c =>
  cases c with
  | ref cs =>
   obtain⟨hv2,rfl⟩:=adc hv
   simp only[ar] at hv2
   obtain⟨c',hv2,rfl⟩:=hv2
   exact⟨rfl,by simp only[X.tr,abI,hv2,aG,bJ]⟩
  | _=>cases hv
 | _=>cases hv
theorem akX{ρ:Tk->Option Tk}{t f:Nat}{y x:X}{e:Option Tk}(hv:fP T t f y=some (x,e)):e=none/\fP T t f (y.tr some ρ)=some (x.tr some ρ,none):=by
 unfold fP at hv ⊢
 cases hf:ai0 T t f with
 | none=>rw[hf] at hv;cases hv
 | some p =>
  obtain⟨o',z'⟩:=p
  rw[hf] at hv
  simp only at hv ⊢
  by_cases hz:0<z'
  .rw[am hz] at hv ⊢
   cases y with
   | ptr r off=>obtain⟨rfl,rfl⟩:=eC hv;exact⟨rfl,rfl⟩
   | of c=>cases c with
    | ref cs=>obtain⟨rfl,rfl⟩:=eC hv;exact⟨rfl,rfl⟩
    | _=>cases hv
   | _=>cases hv
  .rw[aj hz] at hv;cases hv
theorem aqQ{ρ:Tk->Option Tk}{t:Nat}{y i x:X}{e:Option Tk}(hnt:abz y=true)(hv:bP T t y i=some (x,e)):e=none/\bP T t (y.tr some ρ) (i.tr some ρ)=some (x.tr some ρ,none):=by
 unfold bP at hv ⊢
 rw[aIW]
 cases hl:aaM i with
 | none=>rw[hl] at hv;cases hv
 | some j =>
  rw[hl] at hv
  simp only at hv ⊢
  cases hT:T t with
  | none=>rw[hT] at hv;cases hv
  | some d =>
   obtain⟨und,n0,b0,a0,z0,f0⟩:=d
   rw[hT] at hv
   cases und with
   | slice et =>
    simp only at hv ⊢
    rw[aWx]
    cases hE:T et with
    | none=>rw[hE] at hv;cases hv
    | some d =>
     rw[hE] at hv
     cases hs:aaY y with
     | none =>
      exfalso
      rw[hs] at hv
      cases y with
      | top r e z=>cases hnt
      | _=>simp[aiB] at hv
     | some p =>
      obtain⟨cs,n⟩:=p
      rw[hs] at hv
      simp only at hv ⊢
      split at hv
      .rename_i hc
       rw[am hc]
       obtain⟨rfl,rfl⟩:=eC hv
       exact⟨rfl,rfl⟩
      .cases hv
   | array n et =>
    simp only at hv ⊢
    cases hE:T et with
    | none=>rw[hE] at hv;cases hv
    | some d =>
     rw[hE] at hv
     simp only at hv ⊢
     by_cases hc:0<=j/\j<(n:Int)
     .rw[am hc] at hv ⊢
      cases y with
      | ptr r off=>obtain⟨rfl,rfl⟩:=eC hv;exact⟨rfl,rfl⟩
      | of c=>cases c with
       | ref cs=>obtain⟨rfl,rfl⟩:=eC hv;exact⟨rfl,rfl⟩
       | _=>cases hv
      | _=>cases hv
     .rw[aj hc] at hv;cases hv
   | _=>cases hv
theorem aGz{ρ:Tk->Option Tk}{P:Program}{t:Nat}{u:Option TypeDesc}{op:BinOp}{a b x:X}{e:Option Tk}(hv:fE P T t u op a b=some (x,e)):e=none/\fE P T t u op (a.tr some ρ) (b.tr some ρ)=some (x.tr some ρ,none):=by
 unfold fE at hv ⊢
 rw[ayx,ayx]
 have key:agt P T t op a.rd b.rd=some (x,e)->e=none/\agt P T t op (a.tr some ρ).rd (b.tr some ρ).rd=some (x.tr some ρ,none):=by
  intro hv
  unfold agt at hv
  split at hv
  .rename_i cs ds h1 h2
   rw[aEl _ _ h1,aEl _ _ h2]
   unfold agt
   simp only
   split at hv
   .obtain⟨hv2,rfl⟩:=adc hv
    simp only[ar] at hv2
    obtain⟨w,hv2,rfl⟩:=hv2
    exact⟨rfl,by simp only[hv2,aG,bJ,X.tr]⟩
   .obtain⟨hv2,rfl⟩:=adc hv
    simp only[ar] at hv2
    obtain⟨w,hv2,rfl⟩:=hv2
    exact⟨rfl,by simp only[hv2,aG,bJ,X.tr]⟩
   .cases hv
  .cases hv
 cases h1:fN a with
 | none=>rw[h1] at hv;exact key hv
 | some u' =>
  cases h2:fN b with
  | none=>rw[h1,h2] at hv;exact key hv
  | some v' =>
   rw[h1,h2] at hv
   obtain⟨hv2,rfl⟩:=adc hv
   simp only[ar] at hv2
   obtain⟨w,hv2,rfl⟩:=hv2
   refine⟨rfl,?_⟩
   simp only[hv2,aG,bJ,X.tr]
theorem aE5{ρ:Tk->Option Tk}{u:Option TypeDesc}{y x:X}{e:Option Tk}(hnt:abz y=true)(hv:aah u y=some (x,e)):e=none/\aah u (y.tr some ρ)=some (x.tr some ρ,none):=by
 have sl:∀ (cs:List C) (n:Nat) (y:X),(if aio u then out (aQ n) else none)=some (x,e)->aah u y=(if aio u then out (aQ n) else none)->e=none/\aah u y=some (x.tr some ρ,none):=by
  intro cs n y hv h
  rw[h]
  split at hv
  .rename_i hs
   rw[am hs]
   obtain⟨rfl,rfl⟩:=eC hv
   exact⟨rfl,rfl⟩
  .cases hv
 cases y with
 | of c =>
  cases c with
  | lit v =>
   cases v with
   | string st =>
    unfold aah at hv ⊢
    simp only[X.tr] at hv ⊢
    split at hv
    .rename_i hs
     rw[am hs]
     obtain⟨rfl,rfl⟩:=eC hv
     exact⟨rfl,rfl⟩
    .cases hv
   | _=>cases hv
  | sl cs n=>exact sl cs n _ hv rfl
  | _=>cases hv
 | nil=>exact sl [] 0 _ hv rfl
 | own t e z cs n =>
  rcases aml (ρ:=ρ) t e z cs n with h|⟨t',h⟩ <;> rw[h]
  .exact sl cs n _ hv rfl
  .exact sl cs n _ hv rfl
 | top r e z=>cases hnt
 | _=>cases hv
end
def aiX{b:Bool}{D:List Nat}(h:alz b=some D):b=true:=by
 cases b with
 | true=>rfl
 | false=>cases h
def aBW{P:Program}{T:TT}{E:En}{s s':S}{ix:Nat}{o:Oper}{x:X}{e:Option Tk}{refs D:List Nat}(hk:apb o.op=true)(hc:s'.clk=s.clk)(hev:∀ y∈o.op.operands.toList,s'.ev y=(s.ev y).tr some (cz refs []))
  (hob:∀ r ob,r∉refs->s.objs[r]?=some ob->s'.objs[r]?=some (ob.tr some (cz refs []))) (hD:aeK s o.op=some D) (hDr:∀ r∈D,r∉refs) (hv:val P T E s ix o=some (x,e)) :
  e=none/\val P T E s' ix o=some (x.tr some (cz refs []),none):=by
 obtain⟨d,op,ty,pos,af,g⟩:=o
 simp only at hk hev hD
 unfold apb at hk
 split at hk
 .rename_i y
  have hv:out (s.ev y)=some (x,e):=hv
  obtain⟨rfl,rfl⟩:=eC hv
  refine⟨rfl,?_⟩
  show out (s'.ev y)=_
  rw[hev y (by simp[Op.operands])]
  rfl
 .rename_i t a
  have hv:abI T s.objs t (s.ev a)=some (x,e):=hv
  show _/\abI T s'.objs t (s'.ev a)=_
  rw[hev a (by simp[Op.operands])]
  exact aAU hob hD hDr hv
 .rename_i t a f
  have hv:fP T t f (s.ev a)=some (x,e):=hv
  show _/\fP T t f (s'.ev a)=_
  rw[hev a (by simp[Op.operands])]
  exact akX hv
 .rename_i t a i
  have hn:=aiX hD
  have hv:bP T t (s.ev a) (s.ev i)=some (x,e):=hv
  show _/\bP T t (s'.ev a) (s'.ev i)=_
  rw[hev a (by simp[Op.operands]),hev i (by simp[Op.operands])]
  exact aqQ (akc hn a aT) hv
 .rename_i a
  have hn:∀ s:S,val P T E s ix ⟨d,.nilCheck a,ty,pos,af,g⟩=match s.ev a with
   | .ptr r off=>out (.ptr r off)
   | .of (.ref cs)=>out (.of (.ref cs))
   | _=>none:=λ_=>rfl
  rw[hn] at hv ⊢
  rw[hev a (by simp[Op.operands])]
  cases hy:s.ev a with
  | ptr r off=>rw[hy] at hv;obtain⟨rfl,rfl⟩:=eC hv;exact⟨rfl,rfl⟩
  | of c=>cases c with
   | ref cs=>rw[hy] at hv;obtain⟨rfl,rfl⟩:=eC hv;exact⟨rfl,rfl⟩
   | _=>rw[hy] at hv;cases hv
  | _=>rw[hy] at hv;cases hv
 .rename_i bop t a b yt
  have hv:fE P T t ((T t).map (·.und)) bop (s.ev a) (s.ev b)=some (x,e):=hv
  show _/\fE P T t ((T t).map (·.und)) bop (s'.ev a) (s'.ev b)=_
  rw[hev a (by simp[Op.operands]),hev b (by simp[Op.operands])]
  exact aGz hv
 .rename_i t n ps
  have hn:=aiX hD
  have hp:=auO (ρ:=cz refs []) (f:=s.ev) (g:=s'.ev) ps.toList λp hp=>⟨hev p.2 (by simp only[Op.operands];simpa using ⟨p.1,by simpa using hp⟩),akc hn _ (List.mem_map.2 ⟨p,hp,rfl⟩)⟩
  simp only[val] at hv ⊢
  rw[hp,hc]
  cases h1:elemOf T t with
  | none=>rw[h1] at hv;cases hv
  | some p =>
   obtain⟨e',d'⟩:=p
   cases h2:aad s.ev ps.toList with
   | none=>rw[h1,h2] at hv;cases hv
   | some qs =>
    rw[h1,h2] at hv
    simp only[aG] at hv ⊢
    by_cases hcond:n*d'.size<=16777216/\0<d'.size/\d'.zero.length=d'.size
    .rw[am hcond] at hv ⊢
     have:=ayY (ρ:=cz refs []) (λi=>some (i*d'.size,d'.size)) qs ((List.replicate n (fw d')).flatten)
     have hz:((List.replicate n (fw d')).flatten).map (X.tr some (cz refs []))=(List.replicate n (fw d')).flatten:=by
      rw[List.map_flatten,List.map_replicate,aKJ]
     rw[hz] at this
     rw[this]
     cases hf:aax (λi=>some (i*d'.size,d'.size)) ((List.replicate n (fw d')).flatten) qs with
     | none=>rw[hf] at hv;cases hv
     | some xs =>
      rw[hf] at hv
      simp only[aG] at hv ⊢
      cases hcs:X.rds xs with
      | none=>rw[hcs] at hv;cases hv
      | some cs =>
       rw[hcs] at hv
       rw[aHZ _ _ hcs]
       simp only at hv ⊢
       obtain⟨rfl,rfl⟩:=eC hv
       exact⟨rfl,by simp only[out,X.tr,cz,cB,av]⟩
    .rw[aj hcond] at hv;cases hv
 .rename_i c args tys
  have hn:=aiX hD
  have hv:afx P T E s ix (.builtin .len) args.toList tys.toList=some (x,e):=hv
  show _/\afx P T E s' ix (.builtin .len) args.toList tys.toList=_
  match hA:args.toList,tys.toList,hv,hn with
  | [y],[t],hv,hn =>
   have hm:y∈args.toList:=by rw[hA];simp
   have hy:=hev y (by simp only[Op.operands,Call.operands];simpa using hm)
   have hv:aah ((T t).map (·.und)) (s.ev y)=some (x,e):=hv
   show _/\aah ((T t).map (·.und)) (s'.ev y)=_
   rw[hy]
   exact aE5 (akc hn y aT) hv
  | [],_,hv,_=>cases hv
  | _::_::_,_,hv,_=>cases hv
  | [_],[],hv,_=>cases hv
  | [_],_::_::_,hv,_=>cases hv
 .cases hk
def ala(P:Program)(E:En)(s:S)(o:Oper)(g:Nat)(us:List X):Prop:=o.guard=none/\(∃ f args tys,o.op=.call {callee:=.value f,args:=args,argTypes:=tys}/\ad4 s (.value f) args.toList=some (g,us))/\E.obj g=true/\E.tk g=false
def aJV{P:Program}{E:En}{s:S}{D:List Nat}{o:Oper}(hg:o.guard=none)(h:aoQ E.obj E.tk s D o.op=true):∃ g us,ala P E s o g us/\∀ r∈dW s.objs 999 (X.refsL us) [],r∉D:=by
 unfold aoQ at h
 split at h
 rotate_left
 .cases h
 rename_i cal args tys hop
 cases cal with
 | value f =>
  cases ht:ad4 s (.value f) args.toList with
  | none=>rw[ht] at h;cases h
  | some p =>
   obtain⟨g,us⟩:=p
   rw[ht] at h
   simp only[azp,ap,cZ] at h
   obtain⟨⟨h1,h2⟩,h3⟩:=h
   refine⟨g,us,⟨hg,⟨f,args,_,hop,ht⟩,h1,h2⟩,λr hr hD=>?_⟩
   have:=List.all_eq_true.1 h3 r hr
   simp[hD] at this
 | _=>cases h
def aCf{P:Program}{T:TT}{E:En}{s:S}{ix:Nat}{o:Oper}{g:Nat}{us:List X}(h:ala P E s o g us):abm P T E false s ix o=callS P E s ix o.dst g us:=by
 obtain⟨_,⟨f,args,tys,hop,ht⟩,ho,_⟩:=h
 unfold abm
 simp only[ah,av,hop,ht,ho,au]
def aOJ{s s2:S}{ix:Nat}{du dc:Option Nat}{x:X}{refs:List Nat}{an:An}{q:Option X}(hd:∀ j,du=some j->dc≠some j)(h:af3 (s.put du x) ix dc refs [] an=some (q,s2)) :
  ∃ s',af3 s ix dc refs [] an=some (q,s')/\s2=s'.put du (x.tr some (cz refs [])):=by
 have e1:(s.put du x).objs=s.objs:=by cases du <;> rfl
 have e2:(s.put du x).clk=s.clk:=by cases du <;> rfl
 have e3:∀ O:List Ob,(⟨λj=>((s.put du x).fr j).tr some (cz refs []),O,s.clk⟩ : S)=(⟨λj=>(s.fr j).tr some (cz refs []),O,s.clk⟩ : S).put du (x.tr some (cz refs [])):=λO=>by
  cases du with
  | none=>rfl
  | some d =>
   simp only[S.put]
   congr 1
   funext j
   simp only[upd]
   split <;> rfl
 unfold af3 at h ⊢
 simp only[e1,e2] at h ⊢
 split at h
 rotate_left
 .cases h
 rename_i hlen
 rw[am hlen]
 rw[e3] at h
 obtain⟨pan,rs,obs⟩:=an
 cases pan with
 | true =>
  match rs,h with
  | [y],h =>
   simp only[bF] at h ⊢
   obtain⟨rfl,rfl⟩:=h
   exact⟨_,⟨rfl,rfl⟩,rfl⟩
  | [],h=>cases h
  | _::_::_,h=>cases h
 | false =>
  simp only[bF] at h ⊢
  obtain⟨rfl,rfl⟩:=h
  exact⟨_,⟨rfl,rfl⟩,agD _ _ _ hd⟩
def aGA{s s':S}{ix:Nat}{dc:Option Nat}{refs:List Nat}{an:An}{q:Option X}(h:af3 s ix dc refs [] an=some (q,s')) :
  s'.clk=s.clk/\(∀ j,dc≠some j->s'.fr j=(s.fr j).tr some (cz refs []))/\∀ r ob,r∉refs->s.objs[r]?=some ob->s'.objs[r]?=some (ob.tr some (cz refs [])):=by
 have key:∀ (O:List Ob) (d:Option Nat) (y:X),(({s with fr:=λj=>(s.fr j).tr some (cz refs []),objs:=O}:S).put d y).clk=s.clk/\(∀ j,d≠some j->(({s with fr:=λj=>(s.fr j).tr some (cz refs []),objs:=O}:S).put d y).fr j=(s.fr j).tr some (cz refs []))/\(({s with fr:=λj=>(s.fr j).tr some (cz refs []),objs:=O}:S).put d y).objs=O:=λO d y=>by
  cases d with
  | none=>exact⟨rfl,λ_ _=>rfl,rfl⟩
  | some d=>exact⟨rfl,λj hj=>by simp only[S.put,upd];rw[aj λe=>hj (by rw[e])],rfl⟩
 have hO:∀ (σ:Nat->Option Nat) (ρ:Tk->Option Tk) (l2:List Ob) (r:Nat) (ob:Ob),r∉refs->s.objs[r]?=some ob->(aay σ ρ (s.objs.map (Ob.tr some (cz refs []))) refs an.obs++l2)[r]?=some (ob.tr some (cz refs [])):=λσ ρ l2 r ob hno hob=>by
  have hr:r<s.objs.length:=(List.getElem?_eq_some_iff.1 hob).1
  rw[ba (by rw[am5];simpa using hr),ah4 _ _ refs _ _ r hno,bo,hob]
  rfl
 unfold af3 at h
 simp only at h
 split at h
 rotate_left
 .cases h
 obtain⟨pan,rs,obs⟩:=an
 cases pan with
 | true =>
  match rs,h with
  | [y],h =>
   simp only[bF] at h
   obtain⟨rfl,rfl⟩:=h
   exact⟨rfl,λ_ _=>rfl,λr ob h1 h2=>hO _ _ _ r ob h1 h2⟩
  | [],h=>cases h
  | _::_::_,h=>cases h
 | false =>
  simp only[bF] at h
  obtain⟨rfl,rfl⟩:=h
  refine⟨(key _ dc _).1,(key _ dc _).2.1,λr ob h1 h2=>?_⟩
  rw[(key _ dc _).2.2]
  exact hO _ _ _ r ob h1 h2
def aOz{P:Program}{E:En}{s s':S}{ix:Nat}{d:Option Nat}{g:Nat}{us:List X}{q:Option X}(htk:E.tk g=false)(h:callS P E s ix d g us=some (q,s')) :
  ∃ an,(∀ (s0:S) (d0:Option Nat),s0.objs=s.objs->callS P E s0 ix d0 g us=af3 s0 ix d0 (dW s.objs 999 (X.refsL us) []) [] an)/\af3 s ix d (dW s.objs 999 (X.refsL us) []) [] an=some (q,s'):=by
 unfold callS at h
 simp only[htk,ah,av] at h
 split at h
 rotate_left
 .cases h
 rename_i hc
 split at h
 rotate_left
 .cases h
 rename_i obs hobs
 split at h
 rotate_left
 .cases h
 rename_i an hor
 refine⟨an,λs0 d0 h0=>?_,h⟩
 unfold callS
 simp only[htk,ah,av,h0]
 rw[am hc,hobs]
 simp only
 rw[hor]
def aNi{ρ:Tk->Option Tk}{y:X}{D:List Nat}(h:afW y=some D):afW (y.tr some ρ)=some D:=by
 cases y with
 | own t e z cs n=>cases h
 | top r e z=>cases h
 | _=>exact h
def aIA{ρ:Tk->Option Tk}{y:X}(h:abz y=true):abz (y.tr some ρ)=true:=by
 cases y with
 | own t e z cs n=>rcases aml (ρ:=ρ) t e z cs n with h'|⟨t',h'⟩ <;> rw[h'] <;> rfl
 | top r e z=>cases h
 | _=>rfl
theorem akb{s s':S}:∀ {l:List Operand},(∀ y∈l,abz (s.ev y)=true->abz (s'.ev y)=true)->acF s l=true->acF s' l=true
 | [],_,_=>rfl
 | a::l,hl,h=>by
  simp only[acF,ap] at h ⊢
  exact⟨hl a aT h.1,akb (λy hy=>hl y (by simp[hy])) h.2⟩
def atW{s s':S}{op:Op}{D:List Nat}(h1:∀ y∈op.operands.toList,afW (s.ev y)=some D->afW (s'.ev y)=some D)(h2:∀ y∈op.operands.toList,abz (s.ev y)=true->abz (s'.ev y)=true)(h:aeK s op=some D):aeK s' op=some D:=by
 unfold aeK at h ⊢
 split at h
 .exact h1 _ (by simp[Op.operands]) h
 .rename_i c args tys
  have hn:=aiX h
  rw[akb (λy hy=>h2 y (by simp only[Op.operands,Call.operands];simpa using hy)) hn]
  rw[hn] at h
  exact h
 .rename_i t n ps
  have hn:=aiX h
  rw[akb (λy hy=>h2 y (by simp only[Op.operands];simpa using hy)) hn]
  rw[hn] at h
  exact h
 .rename_i t x i
  have hn:=aiX h
  rw[akb (λy hy=>h2 y (by simp only[cn] at hy;subst hy;simp[Op.operands])) hn]
  rw[hn] at h
  exact h
 .exact h
def aE7(t:Tk)(y:X):afW (y.drop t)=afW y:=by
 cases y with
 | own t' e z cs n=>rcases ft t t' e z cs n with h|h <;> rw[h] <;> rfl
 | _=>rfl
def aAI(t:Tk)(y:X):abz (y.drop t)=abz y:=by
 cases y with
 | own t' e z cs n=>rcases ft t t' e z cs n with h|h <;> rw[h] <;> rfl
 | _=>rfl
def aqG{ops:Array Oper}{o:Oper}{y:Operand}{j:Nat}(hy:y∈o.op.operands.toList)(e:y=.tmp j):j∈o.looksAt ops:=by
 unfold Oper.looksAt
 rw[bt]
 exact .inl (List.mem_filterMap.2 ⟨y,by simpa using hy,by rw[e]⟩)
def aW9{P:Program}{T:TT}{E:En}{s:S}{ix:Nat}{o:Oper}{x:X}{e:Option Tk}{D:List Nat}(hk:apb o.op=true)(hD:aeK s o.op=some D)(hv:val P T E s ix o=some (x,e)):e=none :=
 (aBW (P:=P) (T:=T) (E:=E) (s:=s) (ix:=ix) (s':={s with fr:=λj=>(s.fr j).tr some (cz [] []),objs:=s.objs.map (Ob.tr some (cz [] []))}) (refs:=[]) hk rfl (λy _=>aKY (λ_=>rfl) y) (λr ob _ h=>by show (s.objs.map (Ob.tr some (cz [] [])))[r]?=_;rw[bo,h];rfl) hD (λr _=>cB) hv).1
def aDR{o:Oper}(hk:apb o.op=true):dF o=o.dst:=ad2 (by
 obtain⟨d,op,ty,pos,af,g⟩:=o
 cases op <;> first|rfl|cases hk)
def a2b{P:Program}{E:En}{s:S}{o:Oper}{g:Nat}{us:List X}(h:ala P E s o g us):dF o=o.dst:=by
 obtain⟨_,⟨f,args,tys,hop,_⟩,_⟩:=h
 exact ad2 (by rw[hop];rfl)
def aXa{P:Program}{T:TT}{E:En}{ops:Array Oper}{R:Nat->Prop}{s s1 s2:S}{i c:Nat}{ou oc:Oper}{q:Option X}{g:Nat}{us:List X}(hk:apb ou.op=true)(hgu:ou.guard=none)(hap:akr ops ou oc)
  (hu:bx P T E true ops s i ou=some (none,s1)) (hld:∃ D,aeK s ou.op=some D/\∀ r∈D,¬ R r) (hca:ala P E s1 oc g us) (hR:∀ r∈dW s1.objs 999 (X.refsL us) [],R r) (hc:callS P E s1 c oc.dst g us=some (q,s2)) :
  s1.objs=s.objs/\ala P E s oc g us/\∃ s',callS P E s c oc.dst g us=some (q,s')/\blank s2=blank s'/\(q=none->bx P T E true ops s' i ou=some (none,s2)/\∃ D,aeK s' ou.op=some D/\∀ r∈D,¬ R r):=by
 obtain⟨D,hD,hDR⟩:=hld
 obtain⟨a1,a2,a3⟩:=hap
 rw[aDR hk] at a1 a2
 rw[a2b hca] at a2 a3
 have hgo:∀ s:S,bx P T E true ops s i ou=fh P T E s i ou:=λs=>by
  unfold bx dM
  rw[hgu]
  rfl
 rw[hgo] at hu
 unfold fh at hu
 split at hu
 rotate_left
 .cases hu
 rename_i x e hv
 obtain rfl:=aW9 hk hD hv
 simp only[S.drop,aau,au,bF,cV] at hu
 rw[aDR hk] at hu
 subst hu
 have ho:(s.put ou.dst x).objs=s.objs:=by cases ou.dst <;> rfl
 obtain⟨g1,⟨f,args,tys,hop,ht⟩,g2,g3⟩:=hca
 have hlk:∀ y∈oc.op.operands.toList,(s.put ou.dst x).ev y=s.ev y:=λy hy=>afu _ _ _ _ λj hj e=>a1 j hj (aqG hy e)
 have ht':ad4 s (.value f) args.toList=some (g,us):=by
  rw[hop] at hlk
  have hf:(s.put ou.dst x).ev f=s.ev f:=hlk f (by simp[Op.operands,Call.operands])
  have ha:args.toList.map (s.put ou.dst x).ev=args.toList.map s.ev:=dS λy hy=>hlk y (by simp only[Op.operands,Call.operands];simpa using .inr (by simpa using hy))
  unfold ad4 at ht ⊢
  simp only[hf,ha] at ht ⊢
  exact ht
 have hca':ala P E s oc g us:=⟨g1,⟨f,args,tys,hop,ht'⟩,g2,g3⟩
 obtain⟨an,h1,h2⟩:=aOz g3 hc
 rw[ho] at hR h1 h2
 obtain⟨s',h3,rfl⟩:=aOJ (λj hj=>a2 j hj) h2
 obtain⟨f1,f2,f3⟩:=aGA h3
 refine⟨ho,hca',s',by rw[h1 s _ rfl];exact h3,by unfold blank;cases ou.dst <;> rfl,λ_=>?_⟩
 have hev:∀ y∈ou.op.operands.toList,s'.ev y=(s.ev y).tr some (cz (dW s.objs 999 (X.refsL us) []) []):=λy hy=>by
  cases y with
  | tmp j=>exact f2 j λe=>a3 j e (aqG hy rfl)
  | const v=>exact (ax9 v).symm
  | func f=>rfl
  | global g=>rfl
 have hDn:∀ r∈D,r∉dW s.objs 999 (X.refsL us) []:=λr hr hm=>hDR r hr (hR r hm)
 obtain⟨_,h4⟩:=aBW hk f1 hev f3 hD hDn hv
 refine⟨?_,D,atW (λy hy h=>by rw[hev y hy];exact aNi h) (λy hy h=>by rw[hev y hy];exact aIA h) hD,hDR⟩
 rw[hgo]
 unfold fh
 rw[h4]
 simp only[S.drop,aau,au]
 rw[aDR hk]
def bes(R:Nat->Prop)(s:S)(op:Op):Prop:=∃ D,aeK s op=some D/\∀ r∈D,¬ R r
def StP(P:Program)(T:TT)(E:En)(ops:Array Oper)(R:Nat->Prop)(c:Option Nat)(s:S)(i:Nat)(o:Oper)(q:Option X)(s':S):Prop :=
 (some i≠c/\q=none/\bx P T E true ops s i o=some (none,s')/\(ag7 ops c i=false->afo ops c i=false->bes R s o.op)) \/
 (some i=c/\∃ g us,ala P E s o g us/\(∀ r∈dW s.objs 999 (X.refsL us) [],R r)/\aha (callS P E s i o.dst g us)=some (q,s'))
def fa(P:Program)(T:TT)(E:En)(ops:Array Oper)(R:Nat->Prop)(c:Option Nat)(m:Nat)(Qp:X->S->Prop)(Qn:S->Prop):Nat->Array Bool->S->Prop
 | 0,listed,s=>(∀ j,j<m->listed.getD j true=true)/\Qn s
 | fuel+1,listed,s=>(∃ i,i∈Region.ready .any ops listed/\i<m)/\∀ i∈Region.ready .any ops listed,i<m->∃ o q s',ops[i]?=some o/\StP P T E ops R c s i o q s'/\(∀ x,q=some x->Qp x s')/\(q=none->fa P T E ops R c m Qp Qn fuel (listed.setIfInBounds i true) s')
structure PlOk (ops:Array Oper) (c:Option Nat) (m:Nat) (pre mid:List Nat):Prop where
 cov:∀ i,i<m->i∈pre\/some i=c\/i∈mid
 solo:∀ i o,i<m->ops[i]?=some o->cU o.op=true->afU ops i=true
 pre:∀ i∈pre,ag7 ops c i=true\/uAt ops i=true
 mid:∀ i∈mid,afo ops c i=true
def aCD{P:Program}{T:TT}{E:En}{ops:Array Oper}{s s1:S}{i:Nat}{oi oj:Oper}(h:bx P T E true ops s i oi=some (none,s1))(ha:∀ d,dF oi=some d->d∉oj.looksAt ops)(D:List Nat):aeK s oj.op=some D↔aeK s1 oj.op=some D:=by
 obtain⟨_,x,e,_,rfl⟩:=aeV h
 have hev:∀ y∈oj.op.operands.toList,((s.drop e).put (dF oi) x).ev y=(s.drop e).ev y:=λy hy=>afu _ _ _ _ λj hj e'=>ha j hj (aqG hy e')
 have h1:∀ y∈oj.op.operands.toList,afW (((s.drop e).put (dF oi) x).ev y)=afW (s.ev y):=λy hy=>by
  rw[hev y hy]
  cases e with
  | none=>rfl
  | some t=>rw[dg,aE7]
 have h2:∀ y∈oj.op.operands.toList,abz (((s.drop e).put (dF oi) x).ev y)=abz (s.ev y):=λy hy=>by
  rw[hev y hy]
  cases e with
  | none=>rfl
  | some t=>rw[dg,aAI]
 exact⟨atW (λy hy h=>by rw[h1 y hy];exact h) (λy hy h=>by rw[h2 y hy];exact h),atW (λy hy h=>by rw[← h1 y hy];exact h) (λy hy h=>by rw[← h2 y hy];exact h)⟩
def aiF{listed:Array Bool}{i:Nat}:(listed.setIfInBounds i true).getD i true=true:=by
 rcases aD i listed.size with g|g
 .simp[g]
 .simp[g]
section
variable {P:Program} {T:TT} {E:En} {ops:Array Oper} {R:Nat->Prop} {c:Option Nat} {m:Nat} {pre mid:List Nat} {Qp:X->S->Prop} {Qn:S->Prop}
theorem aGL(hp:PlOk ops c m pre mid){i:Nat}{oi:Oper}(hi:ops[i]?=some oi)(him:i<m):∀ (fuel:Nat) (listed:Array Bool) (s s1:S) (q1:Option X),Dc ops listed ->
  (∀ (j:Nat) (oj:Oper),ops[j]?=some oj->j≠i->listed.getD j true=false->(∀ e∈oj.after,Region.binds .any e=true->e.on≠i)->oi.apart ops oj=true) ->
  (some i=c->∀ j,j<m->listed.getD j true=false->j≠i->afo ops c j=true) ->
  i∈Region.ready .any ops listed->StP P T E ops R c s i oi q1 s1->(∀ x,q1=some x->Qp x s1)->(q1=none->fa P T E ops R c m Qp Qn fuel (listed.setIfInBounds i true) s1)->fa P T E ops R c m Qp Qn (fuel+1) listed s:=by
 intro fuel
 induction fuel with
 | zero =>
  intro listed s s1 q1 hdc _ hlast hr hs Hp H
  refine⟨⟨i,hr,him⟩,λj hj hjm=>?_⟩
  by_cases hji:j=i
  .subst hji;exact⟨oi,q1,s1,hi,hs,Hp,H⟩
  .exfalso
   have hjun:=(mem_ready.1 hj).1
   have hiun:=(mem_ready.1 hr).1
   rcases hs with ⟨_,rfl,_⟩|⟨hc,_⟩
   .have:=(H rfl).1 j hjm
    rw[getD_set_ne true (bn hji),hjun] at this
    cases this
   .have:=hlast hc j hjm hjun hji
    rw[← hc] at this
    exact ah0 hdc hiun this hj
 | succ fuel ih =>
  intro listed s s1 q1 hdc hfree hlast hr hs Hp H
  refine⟨⟨i,hr,him⟩,λj hj hjm=>?_⟩
  by_cases hji:j=i
  .subst hji;exact⟨oi,q1,s1,hi,hs,Hp,H⟩
  .have hjun:=(mem_ready.1 hj).1
   have hiun:=(mem_ready.1 hr).1
   rcases hs with ⟨hic,rfl,hsi,hli⟩|⟨hc,_⟩
   rotate_left
   .exfalso
    have:=hlast hc j hjm hjun hji
    rw[← hc] at this
    exact ah0 hdc hiun this hj
   obtain⟨oj,qj,s2,hoj,hsj,HHp,HH⟩:=(H rfl).2 j (ready_mono hj hji) hjm
   have hji':=aa3 hj hoj hiun
   have hij':=aa3 hr hi hjun
   have hap:=ai7 hi hoj (bn hji) hij' hji' (hfree j oj hoj hji hjun hji') (λh=>hp.solo i oi him hi h) (λh=>hp.solo j oj hjm hoj h)
   have hun':∀ k,(listed.setIfInBounds j true).getD k true=false->listed.getD k true=false:=λk hk=>by
    by_cases hjk:j=k
    .subst hjk;exact hjun
    .rw[getD_set_ne true hjk] at hk;exact hk
   have go:∀ s',StP P T E ops R c s j oj none s'->StP P T E ops R c s' i oi none s2->qj=none->∃ o q s',ops[j]?=some o/\StP P T E ops R c s j o q s'/\(∀ x,q=some x->Qp x s')/\(q=none->fa P T E ops R c m Qp Qn (fuel+1) (listed.setIfInBounds j true) s'):=by
    intro s' g1 g2 hq
    refine⟨oj,none,s',hoj,g1,λx hx=>(by cases hx),λ_=>?_⟩
    exact ih (listed.setIfInBounds j true) s' s2 none (hdc.set hj) (λk ok hk hki hun hno=>hfree k ok hk hki (hun' k hun) hno) (λh=>absurd h hic) (ready_mono hr (bn hji)) g2 (λx hx=>by cases hx) (λ_=>by rw[eL _ _ hji];exact HH hq)
   rcases hsj with ⟨hjc,rfl,hsj,hlj⟩|⟨hjc,g,us,hca,hR,hcs⟩
   .obtain⟨s',g1,g2⟩:=azn hap hij' hji' hsi hsj
    refine go s' (.inl ⟨hjc,rfl,g1,λh1 h2=>?_⟩) (.inl ⟨hic,rfl,g2,λh1 h2=>?_⟩) rfl
    .obtain⟨D,hD,hDR⟩:=hlj h1 h2
     exact⟨D,(aCD hsi hap.1 D).2 hD,hDR⟩
    .obtain⟨D,hD,hDR⟩:=hli h1 h2
     exact⟨D,(aCD g1 hap.symm.1 D).1 hD,hDR⟩
   .have hf:ag7 ops c i=false:=by
     cases hf:ag7 ops c i with
     | false=>rfl
     | true=>rw[← hjc] at hf;exact absurd hj (ah0 hdc hiun hf)
    have hw:afo ops c i=false:=by
     cases hw:afo ops c i with
     | false=>rfl
     | true=>rw[← hjc] at hw;exact absurd hr (ah0 hdc hjun hw)
    have hu:uAt ops i=true:=by
     rcases hp.cov i him with h|h|h
     .rcases hp.pre i h with h|h
      .rw[hf] at h;cases h
      .exact h
     .exact absurd h hic
     .rw[hp.mid i h] at hw;cases hw
    unfold uAt at hu
    simp only[hi,ap,abr] at hu
    cases hcq:callS P E s1 j oj.dst g us with
    | none=>rw[hcq] at hcs;cases hcs
    | some p =>
     obtain⟨q0,s0⟩:=p
     rw[hcq] at hcs
     obtain⟨ho,hca',s',h1,h2,h3⟩:=aXa hu.1 hu.2 hap hsi (hli hf hw) hca hR hcq
     rw[ho] at hR
     cases q0 with
     | none =>
      simp only[aha,bF] at hcs
      obtain⟨rfl,rfl⟩:=hcs
      obtain⟨h4,h5⟩:=h3 rfl
      exact go s' (.inr ⟨hjc,g,us,hca',hR,by rw[h1];rfl⟩) (.inl ⟨hic,rfl,h4,λ_ _=>h5⟩) rfl
     | some x =>
      simp only[aha,bF] at hcs
      obtain⟨rfl,rfl⟩:=hcs
      refine⟨oj,some x,blank s',hoj,.inr ⟨hjc,g,us,hca',hR,by rw[h1];rfl⟩,λy hy=>?_,λh=>by cases h⟩
      cases hy
      rw[← h2]
      exact HHp x rfl
def al3(P:Program)(T:TT)(E:En)(ops:Array Oper)(R:Nat->Prop)(c:Option Nat):List Nat->S->Option X->S->Prop
 | [],s,q,s'=>q=none/\s'=s
 | i::l,s,q,s'=>∃ o q1 s1,ops[i]?=some o/\StP P T E ops R c s i o q1 s1/\(∀ x,q1=some x->q=some x/\s'=s1)/\(q1=none->al3 P T E ops R c l s1 q s')
theorem azO(hp:PlOk ops c m pre mid)(tl:List Nat):∀ (l:List Nat) (listed:Array Bool) (s:S) (q:Option X) (s':S),ag6 ops (l++tl) listed=true->Dc ops listed->(∀ i∈l,i<m)->(∀ j,j<m->listed.getD j true=false->j∈l) ->
  (∀ (l1 l2:List Nat) (i:Nat),l=l1++i::l2->some i=c->∀ j∈l2,afo ops c j=true)->al3 P T E ops R c l s q s'->(q=none->Qn s')->(∀ x,q=some x->Qp x s')->fa P T E ops R c m Qp Qn l.length listed s
 | [],listed,s,q,s',_,_,_,hcov,_,h,hn,_=>by
  obtain⟨rfl,rfl⟩:=h
  refine⟨λj hj=>?_,hn rfl⟩
  cases hl:listed.getD j true with
  | true=>rfl
  | false=>cases hcov j hj hl
 | i::l,listed,s,q,s',hB,hdc,hlt,hcov,hcl,h,hn,hpq=>by
  obtain⟨o,q1,s1,hi,hst,h1,h2⟩:=h
  simp only[cD,ag6,ap] at hB
  obtain⟨⟨hr,hf⟩,hB'⟩:=hB
  have hr':i∈Region.ready .any ops listed:=by simpa using hr
  refine aGL hp hi (hlt i aT) l.length listed s s1 q1 hdc (Region.free_spec hi hf) (λhc j hj hun hji=>?_) hr' hst (λx hx=>?_) (λhq=>?_)
  .rcases bp.1 (hcov j hj hun) with h|h
   .exact absurd h hji
   .exact hcl [] l i rfl hc j h
  .obtain⟨rfl,rfl⟩:=h1 x hx;exact hpq x rfl
  .refine azO hp tl l _ s1 q s' hB' (hdc.set hr') (λj hj=>hlt j (by simp[hj])) (λj hj hun=>?_) (λl1 l2 k e hc j hj=>hcl (i::l1) l2 k (by rw[e];rfl) hc j hj) (h2 hq) hn hpq
   have hji:j≠i:=λe=>by subst e;rw[aiF] at hun;cases hun
   rw[getD_set_ne true (bn hji)] at hun
   rcases bp.1 (hcov j hj hun) with h|h
   .exact absurd h hji
   .exact h
theorem aja:∀ (l1 l2:List Nat) (s:S) (q:Option X) (s1 s':S),al3 P T E ops R c l1 s none s1->al3 P T E ops R c l2 s1 q s'->al3 P T E ops R c (l1++l2) s q s'
 | [],l2,s,q,s1,s',h,h2=>by obtain⟨_,rfl⟩:=h;exact h2
 | i::l1,l2,s,q,s1,s',h,h2=>by
  obtain⟨o,q1,s0,hi,hst,g1,g2⟩:=h
  have hq:q1=none:=by
   cases q1 with
   | none=>rfl
   | some x=>cases (g1 x rfl).1
  subst hq
  exact⟨o,none,s0,hi,hst,λx hx=>(by cases hx),λ_=>aja l1 l2 s0 q s1 s' (g2 rfl) h2⟩
end
theorem Sim.blank{M0:Base}{k:Know}{ow:Own}{done:Nat->Prop}{w0 w:World}{N:Nat}{s:S}{tmps:Array Value}(h:Sim M0 k ow done w0 w N s tmps):Sim M0 k ow done w0 w N (Go.Pe.blank s) tmps :=
 {h.toHp with size:=h.size,fr:=λj=>by simp[Go.Pe.blank,aF,Rep],fresh:=h.fresh,cells:=h.cells}
section
variable {P:Program} {M0:Base} {w0:World} {N:Nat} {ds:List Deferred}
theorem aVo{ops:Array Oper}{m:Nat}(hF:aN6 ops m=true){i t:Nat}(hi:i<m)(ht:m<=t)(hts:t<ops.size):wB ops i ops.size t=true:=by
 have:=List.all_eq_true.1 hF t (List.mem_range.2 hts)
 simp only[bN,bf] at this
 rcases this with h|h
 .omega
 .exact List.all_eq_true.1 h i (List.mem_range.2 hi)
theorem asR{E:En}(horc:EnSound P M0.G E){ops:Array Oper}(hdst:∀ (j:Nat) (o:Oper),ops[j]?=some o->acj N o=true){R:Nat->Prop}{c:Option Nat}{m n:Nat}(hF:aN6 ops m=true)(hmn:ops.size=m+n){Qp:X->S->Prop}{Qn:S->Prop}{Q:Exit->Act->World->Prop}{k0:Know}
  (hP:∀ x s' v tmps' w' k' ow' done',k0.le k'->Qp x s'->Sim M0 k' ow' done' w0 w' N s' tmps'->aF k' ow' x v->Q (.panic [{v:=v,recovered:=false}]) ⟨tmps',ds⟩ w')
  (hN:∀ listed s w tmps k ow,k0.le k->Qn s->(∀ j,j<m->listed.getD j true=true)->(∀ j,m<=j->j<ops.size->listed.getD j true=false)->listed.size=ops.size->Dc ops listed->Sim M0 k ow (λj=>listed.getD j true=true) w0 w N s tmps->wpAny P .any ops Q n listed ⟨tmps,ds⟩ w) :
  ∀ (fuel:Nat) (listed:Array Bool) (s:S) (w:World) (tmps:Array Value) (k:Know) (ow:Own),k0.le k->Sim M0 k ow (λj=>listed.getD j true=true) w0 w N s tmps->listed.size=ops.size->Dc ops listed->(∀ j,m<=j->j<ops.size->listed.getD j true=false) ->
  fa P (TT.of P) E ops R c m Qp Qn fuel listed s->wpAny P .any ops Q (fuel+n) listed ⟨tmps,ds⟩ w
 | 0,listed,s,w,tmps,k,ow,hk,hs,hsz,hdc,hge,h=>by
  rw[cf]
  exact hN listed s w tmps k ow hk h.2 h.1 hge hsz hdc hs
 | fuel+1,listed,s,w,tmps,k,ow,hk,hs,hsz,hdc,hge,h=>by
  obtain⟨⟨i0,hi0,hi0m⟩,h⟩:=h
  rw[show fuel+1+n=(fuel+n)+1 by omega]
  refine⟨λh0=>(by rw[h0] at hi0;cases hi0),λi hi=>?_⟩
  have him:i<m:=by
   rcases aD i m with g|g
   .exact g
   .exfalso
    have his:i<ops.size:=by
     obtain⟨_,o,ho,_⟩:=mem_ready.1 hi
     exact (Array.getElem?_eq_some_iff.1 ho).1
    exact ah0 hdc (mem_ready.1 hi0).1 (aVo hF hi0m g his) hi
  obtain⟨o,q,s',ho,hst,Hp,H⟩:=h i hi him
  have hun:=(mem_ready.1 hi).1
  have hdone:∀ j,(listed.getD j true=true\/j=i)->(listed.setIfInBounds i true).getD j true=true:=λj hj=>by
   rcases hj with hj|rfl
   .by_cases hij:i=j
    .subst hij;rw[hun] at hj;cases hj
    .rw[getD_set_ne true hij];exact hj
   .exact aiF
  have hge':∀ j,m<=j->j<ops.size->(listed.setIfInBounds i true).getD j true=false:=λj h1 h2=>by
   rw[getD_set_ne true aC];exact hge j h1 h2
  have next:∀ s' w' tmps' k' ow',k0.le k'->fa P (TT.of P) E ops R c m Qp Qn fuel (listed.setIfInBounds i true) s'->Sim M0 k' ow' (λj=>listed.getD j true=true\/j=i) w0 w' N s' tmps'->wpAny P .any ops Q (fuel+n) (listed.setIfInBounds i true) ⟨tmps',ds⟩ w' :=
   λs' w' tmps' k' ow' g1 g2 g3=>asR horc hdst hF hmn hP hN fuel _ s' w' tmps' k' ow' g1 (g3.more hdone) (by simpa using hsz) (hdc.set hi) hge' g2
  rcases hst with ⟨_,rfl,hst,_⟩|⟨_,g,us,hca,_,hcs⟩
  .exact aaG (dr:=true) hs horc (by rw[hun];simp) ho (hdst i o ho) hst (λ_ tmps' w' k' ow' g1 g2=>next s' w' tmps' k' ow' (Know.le_trans hk g1) (H rfl) g2) (λx hx=>by cases hx)
  .have hst:∀ r,callS P E s i o.dst g us=some r->bx P (TT.of P) E false ops s i o=some r:=λr hr=>by
    unfold bx dM
    rw[hca.1]
    simp only
    rw[aCf hca]
    exact hr
   cases hcq:callS P E s i o.dst g us with
   | none=>rw[hcq] at hcs;cases hcs
   | some p =>
    obtain⟨q0,s0⟩:=p
    rw[hcq] at hcs
    refine aaG (dr:=false) hs horc (by rw[hun];simp) ho (hdst i o ho) (hst _ hcq) (λhe tmps' w' k' ow' g1 g2=>?_) (λx hx v w' k' ow' g1 g2 g3=>?_)
    .subst he
     simp only[aha,bF] at hcs
     obtain⟨rfl,rfl⟩:=hcs
     exact next s0 w' tmps' k' ow' (Know.le_trans hk g1) (H rfl) g2
    .subst hx
     simp only[aha,bF] at hcs
     obtain⟨rfl,rfl⟩:=hcs
     exact hP x _ v tmps w' k' ow' _ (Know.le_trans hk g1) (Hp x rfl) g2.blank g3
end
section
variable {P:Program} {M0:Base} {k:Know} {ow:Own} {done:Nat->Prop} {w0 w:World} {N:Nat} {s:S} {tmps:Array Value} {ds:List Deferred}
theorem aIh(hs:Sim M0 k ow done w0 w N s tmps){t':Tk}{e z n:Nat}{cs:List C}{v:Value}(hx:aF k ow (.own t' e z cs n) v) :
  ∃ xs,ow t'=some (v,e,z,n)/\w.ownsRow 0 e z v n xs/\bv k.m cs xs/\(∀ u∈xs,u.oneCell'=true)/\∀ g,v.ownBlock=some g->agZ M0.mod w0 g/\(∀ r,k.μ r=some g->fQ s.objs 0 r)/\(∀ t v2 e z n,(ow.del t') t=some (v2,e,z,n)->v2.ownBlock≠some g)/\∀ o u,k.m g o=some u->xs[o]?=some u:=by
 simp only[aF] at hx
 obtain⟨ho,hcl,hrep⟩:=hx
 obtain⟨⟨xs,hown⟩,htok⟩:=hs.tok _ _ _ _ _ ho
 simp only[Rep] at hrep
 obtain⟨a,cp,us,hve,_,hul,hum⟩:=hrep
 have hlen:us.length=xs.length:=by rw[hul.length,hown.1,hcl]
 have hat:∀ g,v.ownBlock=some g->∀ i u,us[i]?=some u->k.m g i=some u:=by
  intro g hg i u hu
  have hne:us≠[]:=by rintro rfl;simp at hu
  obtain⟨b,o,rfl,hc⟩:=hum hne
  rw[hve] at hg hown
  rcases hown.2 with ⟨h0,_⟩|⟨g',cap2,cur,hv,_⟩
  .cases h0
  .simp only[Value.slice.injEq,ab,Addr.mk.injEq] at hv
   obtain⟨⟨rfl,rfl,_⟩,_,rfl⟩:=hv
   simp only[Value.ownBlock,ab] at hg
   subst hg
   have:=hc i u hu
   simpa using this
 have hblk:xs≠[]->∃ g,v.ownBlock=some g:=λhne=>by
  rcases hown.2 with ⟨_,h0⟩|⟨g',cap2,cur,hv,_⟩
  .exfalso;subst h0;have:=hown.1;rw[abY] at this;exact hne (bK this)
  .exact⟨g',by rw[hv];rfl⟩
 have hsame:us=xs:=by
  apply ab1
  intro i
  by_cases hi:i<us.length
  .have hx2:xs[i]?=some (xs[i]'(by omega)):=by simp[show i<xs.length by omega]
   obtain⟨g,hg⟩:=hblk (by rintro rfl;simp only[aW] at hlen;omega)
   have hu:us[i]?=some us[i]:=by simp[hi]
   have hc1:=(hs.mem _ _ _ (hat g hg i _ hu)).1
   have hc2:=hown.cells hg i _ hx2
   rw[Addr.add_lit,cf,hc1] at hc2
   rw[hu,hx2]
   exact hc2
  .rw[aZ aC,aZ aC]
 subst hsame
 refine⟨us,ho,hown,hul,λu hu=>?_,λg hg=>⟨(htok g hg).1,λr hr=>?_,λt v2 e2 z2 n2 h2=>?_,λo u hm=>?_⟩⟩
 .obtain⟨i,hi⟩:=List.mem_iff_getElem?.1 hu
  obtain⟨g,hg⟩:=hblk (by rintro rfl;cases hu)
  exact (hs.mem _ _ _ (hat g hg i u hi)).2
 .obtain⟨ty,rs,q1,q2⟩:=((htok g hg).2.2 r hr).1
  cases rs with
  | nil=>exact⟨ty,[],q1,ae _⟩
  | cons a' rs =>
   exfalso
   have hnone:=(hs.toHp.lt hr).2.2 ⟨_,q1,rfl⟩
   have hpos':0<us.length:=by rw[hul.length,hcl];simp only[aN] at q2;omega
   have:=hat g hg 0 _ (aM hpos')
   rw[hnone] at this
   cases this
 .simp only[Own.del] at h2
  split at h2
  .cases h2
  .rename_i hne
   exact hs.tokne t' t _ _ _ _ _ _ _ _ ho h2 (bn hne) g hg
 .have hlt:o<n*z:=by
   rcases aD o (n*z) with g1|g1
   .exact g1
   .rw[(htok g hg).2.1 o g1] at hm;cases hm
  have hlx:o<us.length:=by rw[hown.1];exact hlt
  have:=hat g hg o _ (aM hlx)
  rw[aM hlx,← this]
  exact hm
theorem aLt{t ty e:Nat}{d:TD}(hund:P.underlying t=some (.slice e))(hd:TT.of P e=some d)(hz:0<d.size){v:Value}{n:Nat}{xs:List Value}(hown:w.ownsRow 0 e d.size v n xs)
  {A:Option Addr} {c:Nat} {news:List Value} (hl:news.length=d.size) (hA:∃ b o,A=some ⟨b,o,none⟩/\∀ i u,news[i]?=some u->w.cell? ⟨b,o+i,none⟩=some u)
  (h1:∀ u∈news,u.oneCell'=true) (hLIM:n+1<=LIM) (hby:d.bytes<=32768) {vx:Value} (hvl:vx.cells.toList.length=d.size) (hv1:∀ u∈vx.cells.toList,u.oneCell'=true) :
  ∃ v' w1 g R,(Builtin.append_ #[t,t] ty #[v,.slice A 1 c]).run P w=.ok v' w1/\(∀ w',(Instr.indexAt t v' (.int .i64 n)).run P w'=.ok (.pointer (some ⟨g,n*d.size,none⟩)) w')/\(∀ w',w'.heap[g]?=w1.heap[g]?->(Instr.storeAt e (.pointer (some ⟨g,n*d.size,none⟩)) vx).run P w'=.ok () (w'.setRow g R)) /\
   v'.ownBlock=some g/\(w1.setRow g R).ownsRow 0 e d.size v' (n+1) (xs++vx.cells.toList)/\(∃ cap,v'=.slice (some ⟨g,0,none⟩) (n+1) cap)/\((w.grownBy (w1.setRow g R) v.ownBlock/\v'.ownBlock=v.ownBlock)\/(w.grownBy (w1.setRow g R) none/\v'.ownBlock=some w.heap.size)):=by
 obtain⟨v',w1,hr,hown1,hcase⟩:=ajP (P:=P) (w:=w) (ty:=ty) (m:=1) (c:=c) hund hd hz hown (by rw[acf];exact hl) (λ_=>hA) h1 hLIM hby (aO _)
 rcases hown1.2 with ⟨_,h0⟩|⟨g,cap,cur,rfl,_,hh,hcap,hcm,hcs,htake⟩
 .omega
 have hlx:xs.length=n*d.size:=hown.1
 have hsz1:(n+1)*d.size<=cur.size:=by rw[hcs];exact Nat.mul_le_mul_right _ hcap
 have hadd:(n+1)*d.size=n*d.size+d.size:=by rw[aea,acf]
 have hpre:cur.toList.take (n*d.size)=xs:=by
  have h2:(cur.toList.take ((n+1)*d.size)).take (n*d.size)=cur.toList.take (n*d.size):=by rw[List.take_take,Nat.min_eq_left aC]
  rw[htake,List.take_append_of_le_length aC,aaW aC] at h2
  exact h2.symm
 have hfit:n*d.size+0+vx.cells.toList.length<=cur.size:=by omega
 have hst:∀ w',w'.heap[g]?=w1.heap[g]?->(storeCells ⟨g,n*d.size,none⟩ vx.cells.toList 0).run P w'=.ok () (w'.setRow g (xs++vx.cells.toList++cur.toList.drop (n*d.size+d.size)).toArray):=λw' hw'=>by
  have hst:=run_storeCells_at P g (n*d.size) e vx.cells.toList 0 cur w' (hw'.trans hh) hfit hv1
  rw[aao,hpre,hvl] at hst
  exact hst
 have hsz:vx.cells.size=d.size:=by simpa using hvl
 refine⟨_,w1,g,(xs++vx.cells.toList++cur.toList.drop (n*d.size+d.size)).toArray,hr,λw'=>?_,λw' hw'=>?_,rfl,?_,⟨cap,rfl⟩,?_⟩
 .have h0:(0:Int)<=(n:Int):=acP n
  have hru:=run_underlying (P:=P) (w:=w') hund
  simp[Instr.indexAt,asIntOf,hru,(TT.of_ok hd).run_size,h0,Addr.add_lit]
 .simp[Instr.storeAt,Instr.sureAddr,storeVar,(TT.of_ok hd).run_size,hsz,hst w' hw']
 .refine⟨by rw[bc,hlx,hvl,hadd],.inr ⟨g,cap,_,rfl,aO _,setRow_heap w1 g cur _ e _ hh,hcap,hcm,?_,?_⟩⟩
  .simp only[dG,bc,ch,eE]
   omega
  .rw[abB,hadd,show n*d.size+d.size=(xs++vx.cells.toList).length by rw[bc,hlx,hvl]]
   exact acY
 .have hoth:∀ c,c≠g->(w1.setRow g (xs++vx.cells.toList++cur.toList.drop (n*d.size+d.size)).toArray).heap[c]?=w1.heap[c]?:=λc hc=>setRow_other w1 g c _ hc
  have hsz2:(w1.setRow g (xs++vx.cells.toList++cur.toList.drop (n*d.size+d.size)).toArray).heap.size=w1.heap.size:=by simp[World.setRow]
  rcases hcase with ⟨q1,q2⟩|⟨q1,q2⟩
  .refine .inl ⟨⟨q1.os,q1.tape,q1.output,by rw[hsz2];exact q1.size,λk hk hne=>?_⟩,q2⟩
   rw[hoth k (λe=>hne (by rw[← q2,e];rfl))]
   exact q1.block k hk hne
  .refine .inr ⟨⟨q1.os,q1.tape,q1.output,by rw[hsz2];exact q1.size,λk hk hne=>?_⟩,q2⟩
   simp only[Value.ownBlock,ab] at q2
   rw[hoth k aC]
   exact q1.block k hk hne
theorem Sim.push(h:Sim M0 k ow done w0 w N s tmps){row:Option Nat}{w':World}{v':Value}{e z g cap:Nat}{us:List Value}{cs:List C}(hvv:v'=.slice (some ⟨g,0,none⟩) 1 cap)
  (hrow:∀ g,row=some g->agZ M0.mod w0 g/\(∀ r,k.μ r=some g->fQ s.objs 0 r)/\(∀ t v e z n,ow t=some (v,e,z,n)->v.ownBlock≠some g)/\∀ o,k.m g o=none)
  (hg:w.grownBy w' row) (hown:w'.ownsRow 0 e z v' 1 us) (hv:v'.ownBlock=row\/(v'.ownBlock=some w.heap.size/\row=none)) (hcs:bv k.m cs us) (h1:∀ u∈us,u.oneCell'=true) (hz:0<z) :
  ∃ k' ow',k.le k'/\Sim M0 k' ow' done w0 w' N {s with objs:=s.objs++[.row e cs]} tmps/\aF k' ow' (.top s.objs.length e z) v':=by
 have hgb:v'.ownBlock=some g:=by rw[hvv];rfl
 have hnt:ow (abQ s.objs.length)=none:=by
  cases ht:ow (abQ s.objs.length) with
  | none=>rfl
  | some p=>have:=h.cells _ _ _ ht;omega
 let k':Know:={m:=k.m,μ:=λr=>if r=s.objs.length then some g else k.μ r}
 let ow':=ow.add (abQ s.objs.length) (v',e,z,1)
 have hle:k.le k':=⟨λ_ _ _ h=>h,λr b' hr=>by
  have:=h.dom r b' hr
  show (if r=s.objs.length then some g else k.μ r)=some b'
  rw[aj aC];exact hr⟩
 have hsub:ow.sub ow':=Own.sub_add hnt
 have hnew:agZ M0.mod w0 g/\(∀ r,k.μ r=some g->fQ s.objs 0 r)/\(∀ t v e z n,ow t=some (v,e,z,n)->v.ownBlock≠some g)/\∀ o,k.m g o=none:=by
  rcases hv with hv|⟨hv,_⟩
  .exact hrow g (by rw[← hv,hgb])
  .have e1:g=w.heap.size:=ay (hgb.symm.trans hv)
   subst e1
   refine⟨.inl h.below.size,λr hr=>?_,λt v e z n ho hb=>?_,λo=>?_⟩
   .have:=(h.lt hr).2.1
    exact absurd this aC
   .have:=(h.tlt ho hb).2
    omega
   .cases hm:k.m w.heap.size o with
    | none=>rfl
    | some u=>have:=ag3 h.mem hm;omega
 obtain⟨n1,n2,n3,n4⟩:=hnew
 have hdd:∀ r,k.μ r=some g->¬ Liv s.objs r:=λr hr=>ah8 (n2 r hr)
 have hblk:∀ b,b<w.heap.size->b≠g->w'.heap[b]?=w.heap[b]?:=λb hb hne=>hg.block b hb λe=>hne (by
  rcases hv with hv|⟨_,hv⟩
  .rw[← hv,hgb] at e;exact ay e
  .rw[hv] at e;cases e)
 have hrl:∀ b,some b=row->b=g:=λb e=>by
  rcases hv with hv|⟨_,hv⟩
  .rw[← hv,hgb] at e;exact ay e
  .rw[hv] at e;cases e
 rcases hown.2 with ⟨_,h0⟩|⟨g',cap',cur,hv2,_,hh,hcap,hcm,hcsz,htake⟩
 .cases h0
 rw[hvv] at hv2
 simp only[Value.slice.injEq,ab,Addr.mk.injEq] at hv2
 obtain⟨⟨rfl,_,_⟩,_,rfl⟩:=hv2
 have hgl:g<w'.heap.size:=(Array.getElem?_eq_some_iff.1 hh).1
 rw[acf] at htake
 have hul:us.length=z:=by rw[hown.1,acf]
 have hob:w'.heap[g]?=some (.cells (us++cur.toList.drop z).toArray e (0,0)):=by
  rw[hh]
  congr 2
  rw[← htake,ads]
 refine⟨k',ow',hle,{
  good:=h.good
  size:=h.size
  below:=⟨hg.os.trans h.below.os,hg.tape.trans h.below.tape,hg.output.trans h.below.output,fJ h.below.size hg.size,
   λb hb hm=>(hblk b (cG hb h.below.size) (λe=>by subst e;rcases n1 with q|q;omega;exact hm q)).trans (h.below.block b hb hm)⟩
  fr:=λj=>aF.mono hle hsub _ _ (h.fr j)
  mem:=λb o u hm=>by
   obtain⟨g1,g2⟩:=h.mem b o u hm
   have hne:b≠g:=λe=>by subst e;have:k.m b o=some u:=hm;rw[n4] at this;cases this
   exact⟨(World.cell?_of_block (a:=⟨b,o,none⟩) (hblk b (ag3 h.mem hm) hne)).trans g1,g2⟩
  obj:=λr ob hr=>by
   by_cases hlast:r=s.objs.length
   .subst hlast
    simp at hr
    subst hr
    exact⟨g,by simp[k'],n1,hgl,λ_=>n4,.inr ⟨us,_,hob,h1,hcs⟩⟩
   .have hr':s.objs[r]?=some ob:=by
     rcases aD r s.objs.length with g'|g'
     .rwa [ba g'] at hr
     .rw[bW g'] at hr
      obtain⟨q,hq⟩:=abR (show r-s.objs.length≠0 by omega)
      rw[hq] at hr
      simp at hr
    obtain⟨b,g1,g2,g3,g4,g5⟩:=h.obj r ob hr'
    by_cases hb:b=g
    .subst hb
     exact⟨b,hle.2 _ _ g1,g2,hgl,g4,.dead (ano hr' (hdd r g1))⟩
    .exact⟨b,hle.2 _ _ g1,g2,cG g3 hg.size,g4,(g5.keep (hblk b g3 hb)).mono hle hsub⟩
  dom:=λr b' hr=>by
   simp only[k'] at hr
   simp only[bc,dX]
   split at hr
   .omega
   .have:=h.dom r b' hr;omega
  inj:=λr r' b hr hr' hl hl'=>by
   simp only[k'] at hr hr'
   split at hr
   .split at hr'
    .omega
    .have:=ay hr
     subst this
     exact absurd (aeI hl' (h.dom r' _ hr')) (hdd r' hr')
   .split at hr'
    .have:=ay hr'
     subst this
     exact absurd (aeI hl (h.dom r _ hr)) (hdd r hr)
    .exact h.inj r r' b hr hr' (aeI hl (h.dom r b hr)) (aeI hl' (h.dom r' b hr'))
  tok:=λt v e' z' n ht=>by
   have ht:(if t=abQ s.objs.length then some (v',e,z,1) else ow t)=some (v,e',z',n):=ht
   split at ht
   .rename_i ht'
    simp only[bF] at ht
    obtain⟨rfl,rfl,rfl,rfl⟩:=ht
    refine⟨⟨us,hown⟩,λg' hg'=>?_⟩
    obtain rfl:g=g':=ay (hgb.symm.trans hg')
    refine⟨n1,λo _=>n4 o,λr hr=>?_⟩
    simp only[k'] at hr
    split at hr
    .rename_i hr0
     subst hr0
     exact⟨⟨e,cs,by simp,by rw[← hcs.length,hul,acf];exact ae _⟩,λ_=>ht'⟩
    .exact⟨alr ((n2 r hr).mono (aO _)),λhl=>absurd (aeI hl (h.dom r _ hr)) (hdd r hr)⟩
   .obtain⟨⟨xs,g1⟩,g2⟩:=h.tok t v e' z' n ht
    refine⟨⟨xs,acX (λg' hgo hlt=>hblk g' hlt (λe=>n3 t v _ _ _ ht (by rw[← e];exact hgo))) g1⟩,λg' hgo=>⟨(g2 g' hgo).1,(g2 g' hgo).2.1,λr hr=>?_⟩⟩
    simp only[k'] at hr
    split at hr
    .have:=ay hr
     subst this
     exact absurd hgo (n3 t v _ _ _ ht)
    .exact⟨alr ((g2 g' hgo).2.2 r hr).1,λhl=>((g2 g' hgo).2.2 r hr).2 (aeI hl (h.dom r _ hr))⟩
  tokne:=λt1 t2 v1 e1 z1 m1 v2 e2 z2 m2 h1' h2' hne g' hg1 hg2=>by
   have h1':(if t1=abQ s.objs.length then some (v',e,z,1) else ow t1)=some (v1,e1,z1,m1):=h1'
   have h2':(if t2=abQ s.objs.length then some (v',e,z,1) else ow t2)=some (v2,e2,z2,m2):=h2'
   split at h1'
   .rename_i e1'
    simp only[bF] at h1'
    obtain⟨rfl,rfl,rfl,rfl⟩:=h1'
    obtain rfl:g=g':=ay (hgb.symm.trans hg1)
    split at h2'
    .rename_i e2';exact hne (e1'.trans e2'.symm)
    .exact n3 _ _ _ _ _ h2' hg2
   .split at h2'
    .simp only[bF] at h2'
     obtain⟨rfl,rfl,rfl,rfl⟩:=h2'
     obtain rfl:g=g':=ay (hgb.symm.trans hg2)
     exact n3 _ _ _ _ _ h1' hg1
    .exact h.tokne t1 t2 _ _ _ _ _ _ _ _ h1' h2' hne g' hg1 hg2
  fresh:=λt p ht=>by
   have ht:(if t=abQ s.objs.length then some (v',e,z,1) else ow t)=some p:=ht
   split at ht
   .rename_i e1;subst e1;trivial
   .exact h.fresh t p ht
  cells:=λr off p ht=>by
   have ht:(if Tk.cell r off=abQ s.objs.length then some (v',e,z,1) else ow (.cell r off))=some p:=ht
   simp only[bc,dX]
   split at ht
   .rename_i e1;cases e1;omega
   .have:=h.cells r off p ht;omega
  m0:=h.m0},?_⟩
 simp only[aF]
 exact⟨by simp[ow',Own.add],g,cap,by simp[k'],hvv⟩
end
def ag8{tmps:Array Value}{ds:List Deferred}{d:Nat}{v:Value}{x:Operand}(h:x≠.tmp d):((⟨tmps,ds⟩ : Act).put (some d) v).eval x=(⟨tmps,ds⟩ : Act).eval x:=by
 cases x with
 | tmp j =>
  have hj:j≠d:=λe=>h (by rw[e])
  simp[Act.put,Act.eval,be (bn hj)]
 | _=>rfl
def ajl{tmps:Array Value}{ds:List Deferred}{d:Nat}{v:Value}(h:d<tmps.size):((⟨tmps,ds⟩ : Act).put (some d) v).eval (.tmp d)=v:=by
 simp[Act.put,Act.eval,h]
def ax3{k:Know}{ow:Own}{t:Tk}{e z n:Nat}{cs:List C}{v:Value}(h:aF k ow (.own t e z cs n) v):ow t=some (v,e,z,n):=by
 simp only[aF] at h
 exact h.1
def aHl{k:Know}{ow:Own}{r e z:Nat}{v:Value}(h:aF k ow (.top r e z) v):ow (abQ r)=some (v,e,z,1):=by
 simp only[aF] at h
 exact h.1
def aH2{T:TT}{s s':S}{ix:Nat}{a b c:Oper}(hp:amz a b c=true)(h:ang T s ix a b c=some s') :
  ∃ x y i v st ty d d',a.op=.call {callee:=.builtin .append,args:=#[x,y],argTypes:=#[st,st]}/\a.guard=none/\a.dst=some d/\b.op=.indexAddr st (.tmp d) i/\b.guard=none/\b.dst=some d'/\c.op=.store ty (.tmp d') v/\c.guard=none/\c.dst=none /\
   d≠d'/\i≠.tmp d/\v≠.tmp d/\v≠.tmp d'/\arK T s ix a b c st x y i v ty=some s':=by
 unfold amz at hp
 simp only[ap,abr] at hp
 obtain⟨⟨⟨g1,g2⟩,g3,g4⟩,hp⟩:=hp
 split at hp
 rotate_left
 .cases hp
 rename_i asx ts t x i ty y v d d' h1 h2 h3 h4 h5
 simp only[ap,dw,adG,aae] at hp
 obtain⟨⟨⟨⟨⟨⟨e1,e2⟩,e3⟩,e4⟩,e5⟩,e6⟩,e7,e8⟩:=hp
 subst e1;subst e2
 unfold ang at h
 rw[h1,h2,h3] at h
 simp only at h
 split at h
 rotate_left
 .cases h
 rename_i x' y' hargs
 have ha:asx=#[x',y']:=by rw[← cM (xs:=asx),hargs]
 have ht:ts=#[t,t]:=by rw[← cM (xs:=ts),e4]
 subst ha;subst ht
 exact⟨x',y',i,v,t,ty,d,d',h1,g1,h4,h2,g2,h5,h3,g3,g4,e3,λe=>e6 (by rw[e];rfl),λe=>e7 (by rw[e];rfl),λe=>e8 (by rw[e];rfl),h⟩
section
variable {P:Program} {M0:Base} {w0:World} {N:Nat} {ds:List Deferred}
theorem aEp{k:Know}{ow:Own}{done:Nat->Prop}{w:World}{s s':S}{tmps:Array Value}(hs:Sim M0 k ow done w0 w N s tmps){ix:Nat}(hd:¬ done ix){a b c:Oper}(hda:acj N a=true)(hdb:acj N b=true)(hp:amz a b c=true)(h:ang (TT.of P) s ix a b c=some s') :
  a.guard=none/\b.guard=none/\c.guard=none/\∃ v1 w1 v2 g R,(execOp (⟨tmps,ds⟩ : Act).eval a).run P w=.ok (.value v1) w1/\(∀ w',(execOp ((⟨tmps,ds⟩ : Act).put a.dst v1).eval b).run P w'=.ok (.value v2) w') /\
   (∀ (A:Act) (w':World),(∀ y∈c.op.operands.toList,A.eval y=(((⟨tmps,ds⟩ : Act).put a.dst v1).put b.dst v2).eval y)->w'.heap[g]?=w1.heap[g]?->(execOp A.eval c).run P w'=.ok .skip (w'.setRow g R))/\c.dst=none/\v1.ownBlock=some g /\
   ∃ k' ow',k.le k'/\Sim M0 k' ow' (λj=>done j\/j=ix) w0 (w1.setRow g R) N s' (((⟨tmps,ds⟩ : Act).put a.dst v1).put b.dst v2).tmps/\(((⟨tmps,ds⟩ : Act).put a.dst v1).put b.dst v2)=⟨(((⟨tmps,ds⟩ : Act).put a.dst v1).put b.dst v2).tmps,ds⟩/\∃ t e z n,ow' t=some (v1,e,z,n):=by
 obtain⟨x,y,i,v,st,ty,d,d',ha,hga,hda',hb,hgb,hdb',hc,hgc,hdc,hne,hi,hv,hv',hX⟩:=aH2 hp h
 have hd1:d<N:=ait hda d hda'
 have hd2:d'<N:=ait hdb d' hdb'
 have hsz:tmps.size=N:=hs.size
 have hs1:=hs.more (done':=λj=>done j\/j=ix) (λ_ h=>.inl h)
 refine⟨hga,hgb,hgc,?_⟩
 unfold arK at hX
 split at hX
 rotate_left
 .cases hX
 rename_i e td cs0 j ys hel hsl hli hrd
 split at hX
 rotate_left
 .cases hX
 rename_i hcond
 obtain⟨hc0,hyl,hz,rfl⟩:=hcond
 split at hX
 rotate_left
 .cases hX
 rename_i z t obs hR
 split at hX
 rotate_left
 .cases hX
 rename_i hok
 simp only[ab] at hX
 subst hX
 obtain⟨hund,hdd⟩:=ais hel
 have hund':P.underlying st=some (.slice ty):=by
  cases hT:TT.of P st with
  | none=>simp[hT] at hund
  | some dd=>simp only[hT,aG,ab] at hund;rw[← hund];exact (TT.of_ok hT).und
 have hyv:=apO hsl (Sim.ev (ds:=ds) hs y)
 simp only[Rep] at hyv
 obtain⟨A,cap,vs,hyv,_,hvl,hm⟩:=hyv
 have hvlen:vs.length=td.size:=by rw[hvl.length];exact hc0
 have hvne:vs≠[]:=by rintro rfl;simp only[aW] at hvlen;omega
 obtain⟨b0,o0,hA,hcell⟩:=hm hvne
 have hA2:∃ b o,A=some ⟨b,o,none⟩/\∀ i u,vs[i]?=some u->w.cell? ⟨b,o+i,none⟩=some u:=⟨b0,o0,hA,λi u hu=>(hs.mem _ _ _ (hcell i u hu)).1⟩
 have hone:∀ u∈vs,u.oneCell'=true:=λu hu=>by
  obtain⟨i,hi⟩:=List.mem_iff_getElem?.1 hu
  exact (hs.mem _ _ _ (hcell i u hi)).2
 have hel2:bv k.m ys ((⟨tmps,ds⟩ : Act).eval v).cells.toList/\∀ u∈((⟨tmps,ds⟩ : Act).eval v).cells.toList,u.oneCell'=true:=by
  unfold eA at hrd
  rw[bD] at hrd
  obtain⟨xs,hx1,hx2⟩:=hrd
  obtain⟨q1,q2⟩:=ae3 hx1 (Sim.ev (ds:=ds) hs v)
  exact⟨akH _ _ _ hx2 q1,q2⟩
 obtain⟨hyr,hy1⟩:=hel2
 have hyl2:((⟨tmps,ds⟩ : Act).eval v).cells.toList.length=td.size:=by rw[hyr.length];exact hyl
 have hj:=agG hli (Sim.ev (ds:=ds) hs i)
 have run:∀ (n:Nat) (vx:Value) (xs:List Value),(⟨tmps,ds⟩ : Act).eval x=vx->j=(n:Int)->w.ownsRow 0 ty td.size vx n xs->n+1<=LIM->td.bytes<=32768 ->
   ∃ v1 w1 g R cap',(execOp (⟨tmps,ds⟩ : Act).eval a).run P w=.ok (.value v1) w1/\(∀ w',(execOp ((⟨tmps,ds⟩ : Act).put a.dst v1).eval b).run P w'=.ok (.value (.pointer (some ⟨g,n*td.size,none⟩))) w') /\
    (∀ (A:Act) (w':World),(∀ y∈c.op.operands.toList,A.eval y=(((⟨tmps,ds⟩ : Act).put a.dst v1).put b.dst (.pointer (some ⟨g,n*td.size,none⟩))).eval y)->w'.heap[g]?=w1.heap[g]?->(execOp A.eval c).run P w'=.ok .skip (w'.setRow g R)) /\
    v1=.slice (some ⟨g,0,none⟩) (n+1) cap'/\(w1.setRow g R).ownsRow 0 ty td.size v1 (n+1) (xs++((⟨tmps,ds⟩ : Act).eval v).cells.toList)/\((w.grownBy (w1.setRow g R) vx.ownBlock/\v1.ownBlock=vx.ownBlock)\/(w.grownBy (w1.setRow g R) none/\v1.ownBlock=some w.heap.size)):=by
  intro n vx xs hvx hjn hown hL hB
  obtain⟨v1,w1,g,R,r1,r2,r3,r4,r5,⟨cap',r6⟩,r7⟩:=aLt (P:=P) (ty:=a.type) (c:=cap) hund' hdd hz hown hvlen hA2 hone hL hB hyl2 hy1
  refine⟨v1,w1,g,R,cap',?_,λw'=>?_,λA w' hA hw'=>?_,r6,r5,r7⟩
  .rw[← hvx,← hyv] at r1
   simp[execOp,ha,resolve,invoke,builtin,r1]
  .have e1:((⟨tmps,ds⟩ : Act).put a.dst v1).eval (.tmp d)=v1:=by rw[hda'];exact ajl (by rw[hsz];exact hd1)
   have e2:((⟨tmps,ds⟩ : Act).put a.dst v1).eval i=.int .i64 n:=by rw[hda',ag8 hi,hj,hjn]
   simp[execOp,hb,e1,e2,r2 w']
  .have e1:A.eval (.tmp d')=.pointer (some ⟨g,n*td.size,none⟩):=by
    rw[hA (.tmp d') (by simp[hc,Op.operands]),hda',hdb']
    exact ajl (tmps:=tmps.setIfInBounds d v1) (by rw[aaD,hsz];exact hd2)
   have e2:A.eval v=(⟨tmps,ds⟩ : Act).eval v:=by
    rw[hA v (by simp[hc,Op.operands]),hda',hdb']
    exact (ag8 (tmps:=tmps.setIfInBounds d v1) hv').trans (ag8 hv)
   simp[execOp,hc,e1,e2,r3 w' hw']
 have fin:∀ (S2:S) (v1 v2:Value) (w2:World) (k':Know) (ow':Own),(∃ t e z n,ow' t=some (v1,e,z,n))->Sim M0 k' ow' (λj=>done j\/j=ix) w0 w2 N S2 tmps->aF k' ow' z v1 ->
   Sim M0 k' ow' (λj=>done j\/j=ix) w0 w2 N ((S2.put a.dst z).put b.dst (.of .any)) (((⟨tmps,ds⟩ : Act).put a.dst v1).put b.dst v2).tmps/\(((⟨tmps,ds⟩ : Act).put a.dst v1).put b.dst v2)=⟨(((⟨tmps,ds⟩ : Act).put a.dst v1).put b.dst v2).tmps,ds⟩/\∃ t e z n,ow' t=some (v1,e,z,n):=by
  intro S2 v1 v2 w2 k' ow' hot g1 g2
  have q1:=Sim.put (ds:=ds) g1 a.dst (λj hj=>ait hda j hj) g2
  have q2:=Sim.put (ds:=ds) q1 b.dst (λj hj=>ait hdb j hj) (x:=.of .any) (v:=v2) (by simp[aF,Rep])
  rw[hda',hdb'] at q2 ⊢
  exact⟨q2,rfl,hot⟩
 have hnm:ow (.nm s.clk ix 0)=none:=hs.new hd
 have app:∀ s:S,({s with objs:=s.objs++[]}:S)=s:=λs=>by rw[df]
 unfold apk at hR
 split at hR
 .rename_i hx0
  split at hR
  rotate_left
  .cases hR
  rename_i hcc
  obtain⟨hj0,hB⟩:=hcc
  simp only[bF] at hR
  obtain⟨rfl,rfl,rfl⟩:=hR
  have hvx:=Sim.ev (ds:=ds) hs x
  rw[hx0] at hvx
  simp only[aF] at hvx
  obtain⟨v1,w1,g,R,cap',r1,r2,r3,r4,r5,r6⟩:=run 0 _ [] hvx hj0 (World.ownsRow_nil w 0 ty td.size) (by simp[LIM]) hB
  simp only[cf,cj] at r4 r5
  have hgb:v1.ownBlock=some g:=by rw[r4];rfl
  have hcase:(v1.ownBlock=none\/v1.ownBlock=some w.heap.size)/\w.grownBy (w1.setRow g R) none:=by
   rcases r6 with ⟨g1,g2⟩|⟨g1,g2⟩
   .exact⟨.inl g2,g1⟩
   .exact⟨.inr g2,g1⟩
  obtain⟨k',g1,g2,g3⟩:=hs1.row (row:=none) (w':=w1.setRow g R) (v':=v1) (c:=s.clk) (ix:=ix) (i:=0) (λg hg=>by cases hg) hcase.2 r5 (hcase.1.imp id (λh=>⟨h,rfl⟩)) hyr hy1 hnm (.inr ⟨rfl,.inr rfl⟩)
  exact⟨v1,w1,_,g,R,r1,r2,r3,hdc,hgb,k',_,g1,by rw[alE,app];exact fin _ _ _ _ _ _ ⟨_,_,_,_,ax3 g3⟩ g2 g3⟩
 .rename_i t' e' z' cs n hx0
  split at hR
  rotate_left
  .cases hR
  rename_i hcc
  obtain⟨rfl,rfl,hjn,hL,hB⟩:=hcc
  have hvx:=Sim.ev (ds:=ds) hs x
  rw[hx0] at hvx
  obtain⟨xs,f1,f2,f3,f4,f5⟩:=aIh hs hvx
  obtain⟨v1,w1,g,R,cap',r1,r2,r3,r4,r5,r6⟩:=run n _ xs rfl hjn f2 hL hB
  have hgb:v1.ownBlock=some g:=by rw[r4];rfl
  split at hR
  .rename_i hn0
   subst hn0
   simp only[bF] at hR
   obtain⟨rfl,rfl,rfl⟩:=hR
   have hrow:=akL hok
   have hsd:=hs1.del t' hrow
   have hx0':xs=[]:=bK (by rw[f2.1,abY])
   subst hx0'
   simp only[cf,cj] at r4 r5
   have hdr:∀ g r,fQ s.objs g r->fQ (s.drop (some t')).objs g r:=λg r h=>agb (λ_ _=>rfl) h
   have key:∀ row:Option Nat,w.grownBy (w1.setRow g R) row->(v1.ownBlock=row\/(v1.ownBlock=some w.heap.size/\row=none))->(∀ g,row=some g->((⟨tmps,ds⟩ : Act).eval x).ownBlock=some g) ->
     ∃ k' ow',k.le k'/\Sim M0 k' ow' (λj=>done j\/j=ix) w0 (w1.setRow g R) N {s.drop (some t') with objs:=(s.drop (some t')).objs++[.row e' ys]} tmps/\aF k' ow' (.top (s.drop (some t')).objs.length e' td.size) v1:=by
    intro row q1 q2 q3
    exact hsd.push r4 (λg hg=>by
     obtain⟨p1,p2,p3,p4⟩:=f5 g (q3 g hg)
     refine⟨p1,λr hr=>hdr 0 r (p2 r hr),p3,λo=>?_⟩
     cases hm:k.m g o with
     | none=>rfl
     | some u=>have:=p4 o u hm;simp at this) q1 r5 q2 hyr hy1 hz
   have hLL:(s.drop (some t')).objs.length=s.objs.length:=by simp[S.drop]
   rcases r6 with ⟨q1,q2⟩|⟨q1,q2⟩
   .obtain⟨k',ow',g1,g2,g3⟩:=key _ q1 (.inl q2) (λg hg=>hg)
    rw[hLL] at g3
    exact⟨v1,w1,_,g,R,r1,r2,r3,hdc,hgb,k',ow',g1,fin _ _ _ _ _ _ ⟨_,_,_,_,aHl g3⟩ g2 g3⟩
   .obtain⟨k',ow',g1,g2,g3⟩:=key none q1 (.inr ⟨q2,rfl⟩) (λg hg=>by cases hg)
    rw[hLL] at g3
    exact⟨v1,w1,_,g,R,r1,r2,r3,hdc,hgb,k',ow',g1,fin _ _ _ _ _ _ ⟨_,_,_,_,aHl g3⟩ g2 g3⟩
  .simp only[bF] at hR
   obtain⟨rfl,rfl,rfl⟩:=hR
   have hrow:=akL hok
   have hsd:=hs1.del t' hrow
   have hnm':(ow.del t') (.nm s.clk ix 0)=none:=by simp only[Own.del];split;rfl;exact hnm
   have hone2:∀ u∈xs++((⟨tmps,ds⟩ : Act).eval v).cells.toList,u.oneCell'=true:=λu hu=>by
    rcases bt.1 hu with hu|hu
    .exact f4 u hu
    .exact hy1 u hu
   have hlx:xs.length=n*td.size:=f2.1
   have key:∀ row:Option Nat,w.grownBy (w1.setRow g R) row->(v1.ownBlock=row\/(v1.ownBlock=some w.heap.size/\row=none))->(∀ g,row=some g->((⟨tmps,ds⟩ : Act).eval x).ownBlock=some g) ->
     ∃ k' ow',k.le k'/\Sim M0 k' ow' (λj=>done j\/j=ix) w0 (w1.setRow g R) N (s.drop (some t')) tmps/\aF k' ow' (.own (.nm s.clk ix 0) e' td.size (cs++ys) (n+1)) v1:=by
    intro row q1 q2 q3
    obtain⟨k',g1,g2,g3⟩:=hsd.row (row:=row) (w':=w1.setRow g R) (v':=v1) (c:=s.clk) (ix:=ix) (i:=0) (λg hg=>by
     obtain⟨p1,p2,p3,p4⟩:=f5 g (q3 g hg)
     refine⟨p1,λr hr=>agb (λ_ _=>rfl) (p2 r hr),p3,λo u hm=>?_⟩
     have:=p4 o u hm
     rw[ba (List.getElem?_eq_some_iff.1 this).1]
     exact this) q1 r5 q2 (f3.append hyr) hone2 hnm' (.inr ⟨rfl,.inr rfl⟩)
    exact⟨k',_,g1,g2,g3⟩
   rcases r6 with ⟨q1,q2⟩|⟨q1,q2⟩
   .obtain⟨k',ow',g1,g2,g3⟩:=key _ q1 (.inl q2) (λg hg=>hg)
    exact⟨v1,w1,_,g,R,r1,r2,r3,hdc,hgb,k',ow',g1,by rw[app];exact fin _ _ _ _ _ _ ⟨_,_,_,_,ax3 g3⟩ g2 g3⟩
   .obtain⟨k',ow',g1,g2,g3⟩:=key none q1 (.inr ⟨q2,rfl⟩) (λg hg=>by cases hg)
    exact⟨v1,w1,_,g,R,r1,r2,r3,hdc,hgb,k',ow',g1,by rw[app];exact fin _ _ _ _ _ _ ⟨_,_,_,_,ax3 g3⟩ g2 g3⟩
 .cases hR
end
section
variable {P:Program} {M0:Base} {w0:World} {N:Nat} {ds:List Deferred}
theorem aYn{ops:Array Oper}{n k:Nat}{listed:Array Bool}(hF:aqX ops n=true)(hkn:ops.size<=k+n+1)(hdc:Dc ops listed)(hlt:∀ j,j<k->listed.getD j true=true)(hk:listed.getD k true=false){i:Nat}(hi:i∈Region.ready .any ops listed):i=k:=by
 obtain⟨hun,o,ho,_⟩:=mem_ready.1 hi
 have his:i<ops.size:=(Array.getElem?_eq_some_iff.1 ho).1
 rcases ac4 i k with h|h|h
 .rw[hlt i h] at hun;cases hun
 .exact h
 .exact absurd hi (ah0 hdc hk (ay2 hF h his aC))
theorem aXL{listed:Array Bool}{k:Nat}(hlt:∀ j,j<k->listed.getD j true=true):∀ j,j<k+1->(listed.setIfInBounds k true).getD j true=true:=λj hj=>by
 by_cases hjk:j=k
 .subst hjk;exact aiF
 .rw[getD_set_ne true (bn hjk)];exact hlt j aC
theorem aXM{ops:Array Oper}{listed:Array Bool}{k:Nat}(hge:∀ j,k<=j->j<ops.size->listed.getD j true=false):∀ j,k+1<=j->j<ops.size->(listed.setIfInBounds k true).getD j true=false:=λj h1 h2=>by
 rw[getD_set_ne true aC];exact hge j aC h2
theorem aFO{k n:Nat}(h:k<n):(List.range n).drop k=k::(List.range n).drop (k+1):=by
 rw[ce (by simpa using h)]
 simp
theorem axr{E:En}(horc:EnSound P M0.G E){ops:Array Oper}(hdst:∀ (j:Nat) (o:Oper),ops[j]?=some o->acj N o=true){n:Nat}(hF:aqX ops n=true){Q:Exit->Act->World->Prop}{q:Option X}{s':S}{k0:Know}
  (hQ:q=none->∀ tmps' w' k' ow' done',k0.le k'->Sim M0 k' ow' done' w0 w' N s' tmps'->Q .normal ⟨tmps',ds⟩ w')
  (hP:∀ x,q=some x->∀ v tmps' w' k' ow' done',k0.le k'->Sim M0 k' ow' done' w0 w' N s' tmps'->aF k' ow' x v->Q (.panic [{v:=v,recovered:=false}]) ⟨tmps',ds⟩ w') :
  ∀ (l:List Oper) (k:Nat) (listed:Array Bool) (s:S) (w:World) (tmps:Array Value) (kn:Know) (ow:Own),k+l.length=ops.size->ops.size<=k+n+1->(∀ j,l[j]?=ops[k+j]?)->(∀ j,j<k->listed.getD j true=true)->(∀ j,k<=j->j<ops.size->listed.getD j true=false)->Dc ops listed ->
  ag6 ops ((List.range ops.size).drop k) listed=true->k0.le kn->Sim M0 kn ow (λj=>listed.getD j true=true) w0 w N s tmps->abs P (TT.of P) E false ops k l s=some (q,s')->wpAny P .any ops Q l.length listed ⟨tmps,ds⟩ w
 | [],k,listed,s,w,tmps,kn,ow,hks,_,_,hlt,_,_,_,hkn,hs,h=>by
  simp only[abs,bF] at h
  obtain⟨rfl,rfl⟩:=h
  refine⟨List.eq_nil_iff_forall_not_mem.2 λi hi=>?_,hQ rfl tmps w kn ow _ hkn hs⟩
  obtain⟨hun,o,ho,_⟩:=mem_ready.1 hi
  have his:i<ops.size:=(Array.getElem?_eq_some_iff.1 ho).1
  simp only[aW] at hks
  rw[hlt i aC] at hun
  cases hun
 | o::l,k,listed,s,w,tmps,kn,ow,hks,hkn',hl,hlt,hge,hdc,hB,hkn,hs,h=>by
  simp only[aN] at hks
  have h0:ops[k]?=some o:=by simpa using (hl 0).symm
  rw[aFO aC] at hB
  simp only[ag6,ap] at hB
  obtain⟨⟨hr,_⟩,hB'⟩:=hB
  have hr':k∈Region.ready .any ops listed:=by simpa using hr
  have hun:=hge k (ae _) aC
  refine⟨λh0=>(by rw[h0] at hr';cases hr'),λi hi=>?_⟩
  obtain rfl:=aYn hF hkn' hdc hlt hun hi
  have hdone:∀ j,(listed.getD j true=true\/j=i)->(listed.setIfInBounds i true).getD j true=true:=λj hj=>by
   rcases hj with hj|rfl
   .by_cases hij:i=j
    .subst hij;exact aiF
    .rw[getD_set_ne true hij];exact hj
   .exact aiF
  simp only[abs] at h
  split at h
  .rename_i s1 h1
   refine aaG (dr:=false) hs horc (by rw[hun];simp) h0 (hdst i o h0) h1 (λ_ tmps' w' k' ow' g1 g2=>?_) (λx hx=>by cases hx)
   exact axr horc hdst hF hQ hP l (i+1) _ s1 w' tmps' k' ow' aC aC (λj=>by have:=hl (j+1);simpa [bA,eJ 1 j] using this) (aXL hlt) (aXM hge) (hdc.set hr') hB' (Know.le_trans hkn g1) (g2.more hdone) h
  .rename_i x s1 h1
   simp only[bF] at h
   obtain⟨rfl,rfl⟩:=h
   exact aaG (dr:=false) hs horc (by rw[hun];simp) h0 (hdst i o h0) h1 (λhe=>by cases he) (λx hx v w' k' ow' g1 g2 g3=>hP x hx v tmps w' k' ow' _ (Know.le_trans hkn g1) g2 g3)
  .cases h
theorem baz{o:Oper}{a:Act}{w:World}{K:Act->World->Prop}{Q Q':Exit->Act->World->Prop}(h:∀ e a w,Q e a w->Q' e a w)(hh:o.wp P a w K Q):o.wp P a w K Q':=by
 unfold Oper.wp at *
 generalize (execOp a.eval o).run P w=r at *
 cases r with
 | ok n w' =>
  cases n <;> simp only[Oper.upon] at hh ⊢ <;>
   first
    | exact hh
    | exact Calls.mono hh (λe w'' he=>by
      cases e <;> first|exact he|exact h _ _ _ he|exact he.imp λa hx=>hx.imp λw hx=>h _ _ _ hx)
 | halt x w'=>cases x <;> simp only[Oper.upon] at hh ⊢ <;> first|exact h _ _ _ hh|exact hh
theorem aBR{ops:Array Oper}{Q Q':Exit->Act->World->Prop}(h:∀ e a w,Q e a w->Q' e a w):∀ (fuel:Nat) (listed:Array Bool) (a:Act) (w:World),wpAny P .any ops Q fuel listed a w->wpAny P .any ops Q' fuel listed a w
 | 0,_,_,_,hh=>⟨hh.1,h _ _ _ hh.2⟩
 | fuel+1,listed,a,w,hh=>⟨λh0=>h _ _ _ (hh.1 h0),λi hi=>by
  have h1:=wpOp_mono (λa' w' h'=>aBR h fuel _ a' w' h') (hh.2 i hi)
  unfold wpOp at h1 ⊢
  split
  .rename_i ho
   simpa [ho] using h1
  .rename_i o ho
   simp only[ho] at h1
   split
   .rename_i hw
    simp only[hw,au] at h1
    exact h1.imp (baz h) λg=>⟨g.1,g.2.imp λa hx=>hx.imp λw hx=>h _ _ _ hx⟩
   .rename_i hw
    simp only[hw] at h1
    exact h1⟩
theorem aAv(w:World){a b:Nat}(x y:Array Value)(h:a≠b):(w.setRow a x).setRow b y=(w.setRow b y).setRow a x:=by
 unfold World.setRow
 simp only[World.mk.injEq,aaC]
 refine Array.ext_getElem? λi=>?_
 simp only[fD]
 by_cases h1:b=i
 .subst h1
  simp[h]
 .by_cases h2:a=i
  .subst h2
   simp[bn h]
  .simp[h1,h2]
theorem aHJ{E:En}(horc:EnSound P M0.G E){ops:Array Oper}(hdst:∀ (j:Nat) (o:Oper),ops[j]?=some o->acj N o=true){Q:Exit->Act->World->Prop}{q:Option X}{s':S}{k0:Know}
  (hQ:q=none->∀ tmps' w' k' ow' done',k0.le k'->Sim M0 k' ow' done' w0 w' N s' tmps'->Q .normal ⟨tmps',ds⟩ w')
  {m:Nat} {listed:Array Bool} {s:S} {w:World} {tmps:Array Value} {kn:Know} {ow:Own} {a b c n f g:Oper} (ha:ops[m]?=some a) (hb:ops[m+1]?=some b) (hc:ops[m+2]?=some c) (hn:ops[m+3]?=some n) (hf:ops[m+4]?=some f) (hg:ops[m+5]?=some g)
  (hun:∀ j,m<=j->j<ops.size->listed.getD j true=false) (hp:amz a b c=true) (ht:aDZ c n f g=true) (h6:six ops m listed=true) (hkn:k0.le kn) (hs:Sim M0 kn ow (λj=>listed.getD j true=true) w0 w N s tmps)
  (h:evT P (TT.of P) E ops m s true [a,b,c,n,f,g]=some (q,s')):wpAny P .any ops Q 6 listed ⟨tmps,ds⟩ w:=by
 have hsz:∀ j o,ops[j]?=some o->j<ops.size:=λj o ho=>(Array.getElem?_eq_some_iff.1 ho).1
 unfold evT at h
 simp only at h
 split at h
 rotate_left
 .cases h
 rename_i s1 h1
 obtain⟨ga,gb,gc,v1,w1,v2,gg,R,r1,r2,r3,hcd,hob,k1,ow1,q1,q2,q3,t0,e0,z0,n0,htok⟩:=aEp hs (ix:=m) (by rw[hun m (ae _) (hsz _ _ ha)];simp) (hdst m a ha) (hdst _ b hb) hp h1
 unfold aDZ at ht
 simp only[ap,abr] at ht
 obtain⟨⟨⟨gn,gf⟩,gg0,hgd⟩,ht⟩:=ht
 split at ht
 rotate_left
 .cases ht
 rename_i x e t e1 fi e' ty e2 v' hno hnd hfo hfd hgo
 simp only[ap,dw] at ht
 obtain⟨⟨rfl,rfl⟩,hall⟩:=ht
 have hall':∀ y∈c.op.operands.toList,y≠.tmp e1/\y≠.tmp e2:=λy hy=>by
  have:=List.all_eq_true.1 hall y hy
  simp only[ap,adG,aae] at this
  exact⟨λh=>this.1 (by rw[h];rfl),λh=>this.2 (by rw[h];rfl)⟩
 have he1:e1<N:=ait (hdst _ n hn) e1 hnd
 have he2:e2<N:=ait (hdst _ f hf) e2 hfd
 generalize hA2:((⟨tmps,ds⟩ : Act).put a.dst v1).put b.dst v2=A2 at r3 q2 q3
 obtain⟨T2,D2⟩:=A2
 simp only at q2
 obtain rfl:ds=D2:=by have:=congrArg Act.defers q3;exact this.symm
 simp only[abs] at h
 have hdE:∀ {o:Oper},(∃ x,o.op=.nilCheck x)\/(∃ t x i,o.op=.fieldAddr t x i)->dF o=o.dst:=λho=>ad2 (by
  rcases ho with ⟨x,ho⟩|⟨t,x,i,ho⟩ <;> rw[ho] <;> rfl)
 have hstn:∀ (s:S) (ix:Nat) r,bx P (TT.of P) E false ops s ix n=some r->∃ y,r=(none,s.put (some e1) y)/\s.ev x=y/\((∃ r o,y=.ptr r o)\/∃ cs,y=.of (.ref cs)):=λs ix r hr=>by
  unfold bx dM at hr
  rw[gn] at hr
  simp only[abm,ah,av,hno,fh,val] at hr
  rw[hdE (.inl ⟨_,hno⟩),hnd] at hr
  split at hr
  rotate_left
  .cases hr
  rename_i y tk hv
  split at hr
  rotate_left
  .cases hr
  simp only[ab] at hr
  subst hr
  split at hv
  .rename_i r0 o0 hx
   obtain⟨rfl,rfl⟩:=eC hv
   exact⟨_,by rw[alE],hx,.inl ⟨_,_,rfl⟩⟩
  .rename_i cs hx
   obtain⟨rfl,rfl⟩:=eC hv
   exact⟨_,by rw[alE],hx,.inr ⟨_,rfl⟩⟩
  .cases hv
 have hstf:∀ (s:S) (ix:Nat) r,bx P (TT.of P) E false ops s ix f=some r->∃ y,r=(none,s.put (some e2) y)/\fP (TT.of P) t fi (s.ev (.tmp e1))=some (y,none):=λs ix r hr=>by
  unfold bx dM at hr
  rw[gf] at hr
  simp only[abm,ah,av,hfo,fh,val] at hr
  rw[hdE (.inr ⟨_,_,_,hfo⟩),hfd] at hr
  split at hr
  rotate_left
  .cases hr
  rename_i y tk hv
  split at hr
  rotate_left
  .cases hr
  simp only[ab] at hr
  subst hr
  obtain⟨rfl,_⟩:=akX (ρ:=λt=>some t) hv
  exact⟨y,by rw[alE],hv⟩
 have hstg:∀ (s:S) (ix:Nat) r,(∀ tk z1 z2,s.ev (.tmp e2)≠.nw tk z1 z2)->bx P (TT.of P) E false ops s ix g=some r->∃ d r0 o0 xs s4,r=(none,s4)/\TT.of P ty=some d/\s.ev (.tmp e2)=.ptr r0 o0/\cE (s.ev v')=some xs/\af9 s none d.size r0 o0 xs=some s4:=λs ix r hnw hr=>by
  unfold bx dM at hr
  rw[gg0] at hr
  simp only[abm,ah,av,hgo] at hr
  split at hr
  .rename_i tk z1 z2 hx
   exact absurd hx (hnw _ _ _)
  split at hr
  rotate_left
  .cases hr
  rename_i d r0 o0 xs hT hx hxs
  rw[hgd] at hr
  simp only[ar] at hr
  obtain⟨s4,h4,rfl⟩:=hr
  exact⟨d,r0,o0,xs,s4,rfl,hT,hx,hxs,h4⟩
 cases hr1:bx P (TT.of P) E false ops s1 (m+3) n with
 | none=>rw[hr1] at h;cases h
 | some p1 =>
 obtain⟨y1,rfl,hy1,hyc⟩:=hstn _ _ _ hr1
 rw[hr1] at h
 simp only at h
 cases hr2:bx P (TT.of P) E false ops (s1.put (some e1) y1) (m+3+1) f with
 | none=>rw[hr2] at h;cases h
 | some p2 =>
 obtain⟨y2,rfl,hy2⟩:=hstf _ _ _ hr2
 rw[hr2] at h
 simp only at h
 have hev1:(s1.put (some e1) y1).ev (.tmp e1)=y1:=by simp[S.ev,S.put,upd]
 rw[hev1] at hy2
 have hev2:((s1.put (some e1) y1).put (some e2) y2).ev (.tmp e2)=y2:=by simp[S.ev,S.put,upd]
 have hy2c:(∃ r o z,y1=.ptr r o/\y2=.ptr r (o+z))\/∃ cs,y2=.of (.ref cs):=by
  unfold fP at hy2
  split at hy2
  rotate_left
  .cases hy2
  split at hy2
  rotate_left
  .cases hy2
  split at hy2
  .exact .inl ⟨_,_,_,rfl,(eC hy2).1.symm⟩
  .exact .inr ⟨_,(eC hy2).1.symm⟩
  .cases hy2
 cases hr3:bx P (TT.of P) E false ops ((s1.put (some e1) y1).put (some e2) y2) (m+3+1+1) g with
 | none=>rw[hr3] at h;cases h
 | some p3 =>
 obtain⟨d,r0,o0,xs,s4,rfl,hT,hx3,hxs,h4⟩:=hstg _ _ _ (λtk z1 z2 he=>by
  rw[hev2] at he
  rcases hy2c with ⟨_,_,_,_,h'⟩|⟨_,h'⟩ <;> rw[h'] at he <;> cases he) hr3
 rw[hr3] at h
 simp only[bF] at h
 obtain⟨rfl,rfl⟩:=h
 rw[hev2] at hx3
 subst hx3
 rcases hy2c with ⟨ra,oa,z,rfl,hy⟩|⟨_,hy⟩
 rotate_left
 .cases hy
 simp only[X.ptr.injEq] at hy
 obtain⟨rfl,rfl⟩:=hy
 have hsT:T2.size=N:=q2.size
 have hav:=Sim.ev (ds:=ds) q2 x
 rw[hy1] at hav
 simp only[aF] at hav
 obtain⟨bl,hbl,hav⟩:=hav
 have q2n:=Sim.put (ds:=ds) q2 (some e1) (λj hj=>by cases hj;exact he1) (x:=.ptr r0 oa) (v:=.pointer (some ⟨bl,oa,none⟩)) (by simp only[aF];exact⟨bl,hbl,rfl⟩)
 have r4:∀ w',(execOp (⟨T2,ds⟩ : Act).eval n).run P w'=.ok (.value (.pointer (some ⟨bl,oa,none⟩))) w':=λw'=>by simp[execOp,hno,hav]
 have hfu:∀ w',(Instr.fieldAt t (.pointer (some ⟨bl,oa,none⟩)) fi).run P w'=.ok (.pointer (some ⟨bl,oa+z,none⟩)) w':=λw'=>by
  obtain⟨_,u,hu,hux⟩:=alD (P:=P) (w:=w') (k:=k1) (ow:=ow1) hy2 (v:=.pointer (some ⟨bl,oa,none⟩)) (by simp only[aF];exact⟨bl,hbl,rfl⟩)
  simp only[aF] at hux
  obtain⟨b',hb',rfl⟩:=hux
  obtain rfl:bl=b':=ay (hbl.symm.trans hb')
  exact hu
 have r5:∀ w',(execOp ((⟨T2,ds⟩ : Act).put (some e1) (.pointer (some ⟨bl,oa,none⟩))).eval f).run P w'=.ok (.value (.pointer (some ⟨bl,oa+z,none⟩))) w':=λw'=>by
  have e3:((⟨T2,ds⟩ : Act).put (some e1) (.pointer (some ⟨bl,oa,none⟩))).eval (.tmp e1)=.pointer (some ⟨bl,oa,none⟩):=ajl (by rw[hsT];exact he1)
  simp[execOp,hfo,e3,hfu w']
 have q2f:=Sim.put (ds:=ds) q2n (some e2) (λj hj=>by cases hj;exact he2) (x:=.ptr r0 (oa+z)) (v:=.pointer (some ⟨bl,oa+z,none⟩)) (by simp only[aF];exact⟨bl,hbl,rfl⟩)
 have hA4:(⟨((⟨((⟨T2,ds⟩ : Act).put (some e1) (.pointer (some ⟨bl,oa,none⟩))).tmps,ds⟩ : Act).put (some e2) (.pointer (some ⟨bl,oa+z,none⟩))).tmps,ds⟩ : Act)=(((⟨T2,ds⟩ : Act).put (some e1) (.pointer (some ⟨bl,oa,none⟩))).put (some e2) (.pointer (some ⟨bl,oa+z,none⟩))):=rfl
 generalize hA4e:(((⟨T2,ds⟩ : Act).put (some e1) (.pointer (some ⟨bl,oa,none⟩))).put (some e2) (.pointer (some ⟨bl,oa+z,none⟩)))=A4 at hA4
 have hA4p:A4.eval (.tmp e2)=.pointer (some ⟨bl,oa+z,none⟩):=by
  rw[← hA4e]
  exact ajl (tmps:=T2.setIfInBounds e1 _) (by rw[aaD,hsT];exact he2)
 have r6:∃ R',bl≠gg/\∀ w',w'.heap[bl]?=w1.heap[bl]?->(execOp A4.eval g).run P w'=.ok .skip (w'.setRow bl R'):=by
  unfold af9 at h4
  split at h4
  rotate_left
  .cases h4
  rename_i ty' ys hr
  split at h4
  rotate_left
  .cases h4
  rename_i hcd'
  have hne:bl≠gg:=by
   rintro rfl
   obtain⟨_,hk⟩:=q2f.tok _ _ _ _ _ htok
   exact akw hr (λ_ _ e=>by cases e) ((hk bl hob).2.2 r0 hbl).1
  obtain⟨hl,h1⟩:=ae3 hxs (q2f.ev v')
  rw[hA4] at hl h1
  obtain⟨b',g1,g2,g3,g4,vs,hh,hone,hvs⟩:=q2f.obj r0 _ hr
  obtain rfl:bl=b':=ay (hbl.symm.trans g1)
  rw[setRow_other _ _ _ _ hne] at hh
  have ok:=TT.of_ok hT
  have hlen:=hl.length
  have hvl:=hvs.length
  have hfit:(oa+z)+0+(A4.eval v').cells.toList.length<=vs.toArray.size:=by
   simp only[dG]
   omega
  have hsz2:(A4.eval v').cells.size=d.size:=by
   have:(A4.eval v').cells.toList.length=d.size:=by omega
   simpa using this
  refine⟨(vs.toArray.toList.take (oa+z+0)++(A4.eval v').cells.toList++vs.toArray.toList.drop (oa+z+0+(A4.eval v').cells.toList.length)).toArray,hne,λw' hw'=>?_⟩
  have hrun:=run_storeCells_at P bl (oa+z) ty' (A4.eval v').cells.toList 0 vs.toArray w' (hw'.trans hh) hfit h1
  simp[execOp,hgo,Instr.storeAt,hA4p,Instr.sureAddr,storeVar,ok.run_size,hsz2,hrun]
 obtain⟨R',hne,r6⟩:=r6
 have hfin:Q .normal A4 ((w1.setRow gg R).setRow bl R'):=by
  have hk:=aaG (dr:=false) q2f horc (ix:=m+3+1+1) (by rw[hun _ aC (hsz _ _ hg)];simp;omega) (o:=g) hg (hdst _ g hg) hr3 (K:=λA w'=>∃ k' ow',k1.le k'/\Sim M0 k' ow' (λj=>(listed.getD j true=true\/j=m)\/j=m+3+1+1) w0 w' N s4 A.tmps/\A=⟨A.tmps,ds⟩) (Q:=λ_ _ _=>False) (λ_ tmps' w' k' ow' g1 g2=>⟨k',ow',g1,g2,rfl⟩) (λx hx=>by cases hx)
  rw[hA4] at hk
  unfold wpOp at hk
  have hg':ops[m+3+1+1]?=some g:=hg
  simp only[hg'] at hk
  rw[am (by unfold Region.wanted;rw[gg0])] at hk
  rcases hk with hk|⟨_,_,_,hk⟩
  .unfold Oper.wp at hk
   rw[r6 _ (setRow_other _ _ _ _ hne)] at hk
   simp only[Oper.upon] at hk
   rw[hgd] at hk
   obtain⟨k',ow',g1,g2,g3⟩:=hk
   have:=hQ rfl _ _ k' ow' _ (Know.le_trans hkn (Know.le_trans q1 g1)) g2
   rw[← g3] at this
   exact this
  .exact hk.elim
 simp only[six,ap,dw] at h6
 obtain⟨⟨⟨⟨hns,hrd0⟩,⟨hf1,hc1⟩,hf2,hc2⟩,⟨⟨hf3,hc3⟩,hrd4⟩,hrd5,hrd6⟩,hrd7⟩:=h6
 refine wpAny_all hrd0 aT λi hi=>?_
 obtain rfl:=cn.1 hi
 unfold wpOp
 simp only[ha]
 rw[am (by unfold Region.wanted;rw[ga])]
 refine .inl (ada r1 ?_)
 refine aBR (Q:=λe a w=>e=.normal/\Q .normal a w) (λe a w he=>by obtain⟨rfl,he⟩:=he;exact he) _ _ _ _ ?_
 refine wpAny_take hb hns hf1 hc1 (λc a w h=>by cases h.1) (.inl ⟨by unfold Region.wanted;rw[gb],r2⟩) ?_
 rw[hA2]
 refine wpAny_take hn hns hf2 hc2 (λc a w h=>by cases h.1) (.inl ⟨by unfold Region.wanted;rw[gn],r4⟩) ?_
 rw[hnd]
 refine wpAny_take hf hns hf3 hc3 (λc a w h=>by cases h.1) (.inl ⟨by unfold Region.wanted;rw[gf],r5⟩) ?_
 rw[hfd,hA4e]
 have r3':∀ w',w'.heap[gg]?=w1.heap[gg]?->(execOp A4.eval c).run P w'=.ok .skip (w'.setRow gg R):=λw' hw'=>r3 A4 w' (λy hy=>by
  rw[← hA4e]
  exact (ag8 (tmps:=T2.setIfInBounds e1 _) (hall' y hy).2).trans (ag8 (hall' y hy).1)) hw'
 refine wpAny_all hrd4 aT λi hi=>?_
 simp only[bp,cB,eV] at hi
 rcases hi with rfl|rfl
 .unfold wpOp
  simp only[hc]
  rw[am (by unfold Region.wanted;rw[gc])]
  refine .inl ?_
  unfold Oper.wp
  rw[r3' _ rfl]
  simp only[Oper.upon]
  rw[hcd]
  refine wpAny_all hrd5 aT λi hi=>?_
  obtain rfl:=cn.1 hi
  unfold wpOp
  simp only[hg]
  rw[am (by unfold Region.wanted;rw[gg0])]
  refine .inl ?_
  unfold Oper.wp
  rw[show A4.put none undef=A4 from rfl,r6 _ (setRow_other _ _ _ _ hne)]
  simp only[Oper.upon]
  rw[hgd]
  exact⟨hrd7,rfl,hfin⟩
 .unfold wpOp
  simp only[hg]
  rw[am (by unfold Region.wanted;rw[gg0])]
  refine .inl ?_
  unfold Oper.wp
  rw[r6 _ rfl]
  simp only[Oper.upon]
  rw[hgd]
  refine wpAny_all hrd6 aT λi hi=>?_
  obtain rfl:=cn.1 hi
  unfold wpOp
  simp only[hc]
  rw[am (by unfold Region.wanted;rw[gc])]
  refine .inl ?_
  unfold Oper.wp
  rw[show A4.put none undef=A4 from rfl,r3' _ (setRow_other _ _ _ _ (bn hne))]
  simp only[Oper.upon]
  rw[hcd]
  refine⟨?_,rfl,?_⟩
  .rw[eL _ _ aC];exact hrd7
  .rw[← aAv _ _ _ (bn hne)];exact hfin
end
def aH7{obj:Nat->Bool}{ops:Array Oper}{p:Pn}(h:ajA obj ops=some p):arN ops p=true:=by
 unfold ajA at h
 split at h
 .rename_i hp
  obtain rfl:=ay h
  exact hp
 .cases h
section
variable {P:Program} {T:TT} {E:En} {ops:Array Oper} {R:Nat->Prop} {c:Option Nat}
theorem at7:∀ (l:List (Nat×Bool)) (D D':List Nat) (s s':S),evA P T E ops l D s=some (D',s')->(∀ x∈l,some x.1≠c/\(x.2=true->ag7 ops c x.1=true))->(∀ r,R r->r∉D')->al3 P T E ops R c (l.map (·.1)) s none s'/\∀ r∈D,r∈D'
 | [],D,D',s,s',h,_,_=>by
  simp only[evA,bF] at h
  obtain⟨rfl,rfl⟩:=h
  exact⟨⟨rfl,rfl⟩,λ_ h=>h⟩
 | i::l,D,D',s,s',h,hne,hR=>by
  simp only[evA] at h
  split at h
  rotate_left
  .cases h
  rename_i o ho
  split at h
  rotate_left
  .cases h
  rename_i D1 hD
  split at h
  rotate_left
  .cases h
  rename_i s1 h1
  obtain⟨g1,g2⟩:=at7 l (D1++D) D' s1 s' h (λj hj=>hne j (by simp[hj])) hR
  refine⟨⟨o,none,s1,ho,.inl ⟨(hne i aT).1,rfl,h1,λhf _=>?_⟩,λx hx=>(by cases hx),λ_=>g1⟩,λr hr=>g2 r (by simp[hr])⟩
  have hb:i.2=false:=by
   cases hb:i.2 with
   | false=>rfl
   | true=>rw[(hne i aT).2 hb] at hf;cases hf
  rw[hb] at hD
  exact⟨D1,hD,λr hr hRr=>hR r hRr (g2 r (by simp[hr]))⟩
theorem at9:∀ (l:List (Nat×Bool)) (D D':List Nat) (s s':S),evA P T E ops l D s=some (D',s')->(∀ x∈l,some x.1≠c/\afo ops c x.1=true)->al3 P T E ops R c (l.map (·.1)) s none s'
 | [],D,D',s,s',h,_=>by
  simp only[evA,bF] at h
  obtain⟨rfl,rfl⟩:=h
  exact⟨rfl,rfl⟩
 | i::l,D,D',s,s',h,hne=>by
  simp only[evA] at h
  split at h
  rotate_left
  .cases h
  rename_i o ho
  split at h
  rotate_left
  .cases h
  rename_i D1 hD
  split at h
  rotate_left
  .cases h
  rename_i s1 h1
  refine⟨o,none,s1,ho,.inl ⟨(hne i aT).1,rfl,h1,λ_ hw=>?_⟩,λx hx=>(by cases hx),λ_=>at9 l (D1++D) D' s1 s' h (λj hj=>hne j (by simp[hj]))⟩
  rw[(hne i aT).2] at hw
  cases hw
end
theorem ap5{ops:Array Oper}(tl:List Nat):∀ (l:List Nat) (listed:Array Bool),ag6 ops (l++tl) listed=true->ag6 ops tl (l.foldl (λa i=>a.setIfInBounds i true) listed)=true
 | [],_,h=>h
 | i::l,listed,h=>by
  simp only[cD,ag6,ap] at h
  exact ap5 tl l _ h.2
theorem ayR:∀ (l:List Nat) (a:Array Bool) (j:Nat),j<a.size->(l.foldl (λa i=>a.setIfInBounds i true) a).getD j true=if j∈l then true else a.getD j true
 | [],a,j,_=>by simp
 | i::l,a,j,hj=>by
  rw[adS,ayR l _ j (by simpa using hj)]
  by_cases h1:j∈l
  .rw[am h1,am (eX _ h1)]
  .rw[aj h1]
   by_cases h2:j=i
   .subst h2;rw[aiF,am aT]
   .rw[getD_set_ne true (bn h2),aj (by simp[h1,h2])]
theorem avc:∀ (l:List Nat) (a:Array Bool),(l.foldl (λa i=>a.setIfInBounds i true) a).size=a.size
 | [],_=>rfl
 | i::l,a=>by rw[adS,avc l];simp
def aVn(l:List Nat)(a b:Array Bool)(hs:b.size=a.size)(h:∀ j,j<a.size->b.getD j true=if j∈l then true else a.getD j true):l.foldl (λa i=>a.setIfInBounds i true) a=b:=by
 refine Array.ext (by rw[avc,hs]) λj h1 h2=>?_
 have hj:j<a.size:=by rw[← hs];exact h2
 have e1:=ayR l a j hj
 rw[← h j hj] at e1
 have e2:(l.foldl (λa i=>a.setIfInBounds i true) a).getD j true=(l.foldl (λa i=>a.setIfInBounds i true) a)[j]:=by simp[h1]
 have e3:b.getD j true=b[j]:=by simp[h2]
 rw[← e2,← e3]
 exact e1
theorem axH{α:Type}{a:α}:∀ (A B l1 l2:List α),a∉A->a∉B->A++a::B=l1++a::l2->l2=B
 | [],B,[],l2,_,_,h=>by simp only[cj,fO] at h;exact h.2.symm
 | [],B,x::l1,l2,_,hB,h=>by
  simp only[cj,cD,fO] at h
  exact absurd (by rw[h.2];simp) hB
 | x::A,B,[],l2,hA,_,h=>by
  simp only[aw0,fO] at h
  exact absurd (by rw[h.1];simp) hA
 | x::A,B,y::l1,l2,hA,hB,h=>by
  simp only[cD,fO] at h
  exact axH A B l1 l2 (λh'=>hA (by simp[h'])) hB h.2
section
variable {P:Program} {M0:Base} {w0:World} {N:Nat} {ds:List Deferred}
theorem aJA{E:En}(horc:EnSound P M0.G E){ops:Array Oper}(hdst:∀ (j:Nat) (o:Oper),ops[j]?=some o->acj N o=true){p:Pn}(hok:arN ops p=true){s s':S}{q:Option X}{w:World}{tmps:Array Value}{k:Know}{ow:Own}
  (hs:Sim M0 k ow (λj=>(Array.replicate ops.size false).getD j true=true) w0 w N s tmps) (h:evP P (TT.of P) E ops p s=some (q,s')) {Q:Exit->Act->World->Prop}
  (hQ:q=none->∀ tmps' w' k' ow' done',k.le k'->Sim M0 k' ow' done' w0 w' N s' tmps'->Q .normal ⟨tmps',ds⟩ w')
  (hP:∀ x,q=some x->∀ v tmps' w' k' ow' done',k.le k'->Sim M0 k' ow' done' w0 w' N s' tmps'->aF k' ow' x v->Q (.panic [{v:=v,recovered:=false}]) ⟨tmps',ds⟩ w') :
  wpAny P .any ops Q ops.size (Array.replicate ops.size false) ⟨tmps,ds⟩ w:=by
 unfold arN at hok
 simp only[ap,bf] at hok
 obtain⟨⟨⟨⟨hB,hF⟩,hm,hlen⟩,⟨hcov,hord⟩,hnc⟩,⟨hcb,hpre,hmid⟩,hpush⟩:=hok
 obtain⟨c,preB,midB,m,push⟩:=p
 simp only[Pn.ord] at hB hF hm hlen hcov hord hnc hcb hpre hmid hpush
 have hpre2:∀ x∈preB,(x.2=true->ag7 ops c x.1=true)/\(ag7 ops c x.1=true\/uAt ops x.1=true):=λx hx=>by
  have:=List.all_eq_true.1 hpre x hx
  simp only[ap,bN,cZ] at this
  exact⟨λh=>this.1.resolve_left (by rw[h];simp),this.2⟩
 have hmid2:∀ x∈midB,afo ops c x.1=true:=λx hx=>by
  have:=List.all_eq_true.1 hmid x hx
  simp only[ap] at this
  exact this.2
 generalize hpreE:preB.map (·.1)=pre at hB hlen hcov hord hnc
 generalize hmidE:midB.map (·.1)=mid at hB hlen hcov hord hnc
 have hmem:∀ i,i∈pre++c.toList++mid↔i∈pre\/some i=c\/i∈mid:=λi=>by
  cases c with
  | none=>simp
  | some c=>simp[]
 have hnc':∀ i,i∈pre\/i∈mid->some i≠c:=λi hi=>by
  have:=List.all_eq_true.1 hnc i (bt.2 hi)
  simpa using this
 have hcov':∀ i,i<m->i∈pre++c.toList++mid:=λi hi=>by
  have:=List.all_eq_true.1 hcov i (List.mem_range.2 hi)
  simpa using this
 have hord':∀ i∈pre++c.toList++mid,i<m/\aEc ops i=true:=λi hi=>by
  have:=List.all_eq_true.1 hord i hi
  simpa using this
 have hpl:PlOk ops c m pre mid:={
  cov:=λi hi=>(hmem i).1 (hcov' i hi)
  solo:=λi o hi ho hst=>by
   have:=(hord' i (hcov' i hi)).2
   unfold aEc at this
   rw[ho] at this
   simpa [hst] using this
  pre:=λi hi=>by
   rw[← hpreE] at hi
   obtain⟨x,hx,rfl⟩:=List.mem_map.1 hi
   exact (hpre2 x hx).2
  mid:=λi hi=>by
   rw[← hmidE] at hi
   obtain⟨x,hx,rfl⟩:=List.mem_map.1 hi
   exact hmid2 x hx}
 have hdc0:Dc ops (Array.replicate ops.size false):=λk o hk hl=>by
  have hks:k<ops.size:=(Array.getElem?_eq_some_iff.1 hk).1
  simp[hks] at hl
 have hun0:∀ j,j<ops.size->(Array.replicate ops.size false).getD j true=false:=λj hj=>by simp[hj]
 have hpos:∀ (l1 l2:List Nat) (i:Nat),pre++c.toList++mid=l1++i::l2->some i=c->∀ j∈l2,afo ops c j=true:=λl1 l2 i he hc j hj=>by
  subst hc
  have:=axH pre mid l1 l2 (λh=>hnc' i (.inl h) rfl) (λh=>hnc' i (.inr h) rfl) (by rw[← he];simp)
  subst this
  exact hpl.mid j hj
 have main:∀ (R:Nat->Prop) (q0:Option X) (s2:S),al3 P (TT.of P) E ops R c (pre++c.toList++mid) s q0 s2->(∀ x,q0=some x->q=some x/\s'=s2)->(q0=none->evT P (TT.of P) E ops m s2 push (ops.toList.drop m)=some (q,s')) ->
   wpAny P .any ops Q ops.size (Array.replicate ops.size false) ⟨tmps,ds⟩ w:=by
  intro R q0 s2 hrun hqp hqn
  have hany:=azO (m:=m) (Qp:=λx t=>q=some x/\s'=t) (Qn:=λt=>evT P (TT.of P) E ops m t push (ops.toList.drop m)=some (q,s')) hpl ((List.range ops.size).drop m) _ (Array.replicate ops.size false) s q0 s2 hB hdc0 (λi hi=>(hord' i hi).1) (λj hj _=>hcov' j hj) hpos hrun hqn hqp
  have hfin:=asR (P:=P) (Q:=Q) (k0:=k) (n:=ops.size-m) horc hdst hF aC (λx t v tmps' w' k' ow' done' g1 g2 g3 g4=>by
    obtain⟨g2,rfl⟩:=g2
    exact hP x g2 v tmps' w' k' ow' done' g1 g3 g4) (λlisted t w' tmps' k' ow' g1 g2 g3 g4 gs g5 g6=>by
    have hB2:ag6 ops ((List.range ops.size).drop m) listed=true:=by
     have:=ap5 _ _ _ hB
     rwa [aVn (pre++c.toList++mid) (Array.replicate ops.size false) listed (by simpa using gs) λj hj=>?_] at this
     have hj':j<ops.size:=by simpa using hj
     rcases aD j m with g|g
     .rw[g3 j g,am (hcov' j g)]
     .rw[g4 j g hj',aj (λh=>by have:=(hord' j h).1;omega),hun0 j hj']
    have hlt:listed=akQ ops.size m:=by
     refine Array.ext (by simp[akQ,gs]) λj h1 h2=>?_
     have hj:j<ops.size:=by rw[← gs];exact h1
     have e2:listed.getD j true=listed[j]:=by simp[h1]
     rw[← e2]
     rcases aD j m with g|g
     .rw[g3 j g];simp[akQ,g]
     .rw[g4 j g hj];simp[akQ];omega
    have this:wpAny P .any ops Q (ops.toList.drop m).length listed ⟨tmps',ds⟩ w':=by
     cases push with
     | false =>
      refine axr horc hdst hpush (k0:=k) hQ hP (ops.toList.drop m) m listed t w' tmps' k' ow' (by simp;omega) aC (λj=>by rw[ef];simp) g3 g4 g5 hB2 g1 g6 ?_
      simpa [evT] using g2
     | true =>
      simp only[aB8,ap] at hpush
      obtain⟨hph,h6⟩:=hpush
      rw[← hlt] at h6
      have hdr:∀ j,(ops.toList.drop m)[j]?=ops[m+j]?:=λj=>by rw[ef];simp
      generalize ops.toList.drop m=l at hph hdr g2 ⊢
      unfold axV at hph
      split at hph
      rotate_left
      .cases hph
      rename_i a b c n f g
      simp only[ap] at hph
      exact aHJ horc hdst (k0:=k) hQ (a:=a) (b:=b) (c:=c) (n:=n) (f:=f) (g:=g) (by simpa using (hdr 0).symm) (by simpa using (hdr 1).symm) (by simpa using (hdr 2).symm) (by simpa using (hdr 3).symm) (by simpa using (hdr 4).symm) (by simpa using (hdr 5).symm) g4 hph.1 hph.2 h6 g1 g6 g2
    simpa using this) _ (Array.replicate ops.size false) s w tmps k ow (Know.le_refl k) hs aT hdc0 (λj _ hj=>hun0 j hj) hany
  rw[hlen,show m+(ops.size-m)=ops.size by omega] at hfin
  exact hfin
 unfold evP at h
 simp only at h
 split at h
 rotate_left
 .cases h
 rename_i D s1 h1
 cases c with
 | none =>
  simp only[ai1] at h
  split at h
  rotate_left
  .cases h
  rename_i D2 s3 h3
  have r1:=(at7 (R:=λ_=>False) (c:=none) preB [] D s s1 h1 (λx hx=>⟨by simp,λ_=>rfl⟩) (λr hr=>hr.elim)).1
  rw[hpreE] at r1
  have r2:=at9 (R:=λ_=>False) (c:=none) midB [] D2 s1 s3 h3 (λx hx=>⟨by simp,hmid2 x hx⟩)
  rw[hmidE] at r2
  exact main (λ_=>False) none s3 (by simpa using aja pre mid s none s1 s3 r1 r2) (λx hx=>by cases hx) (λ_=>h)
 | some c =>
  have hbare:=List.all_eq_true.1 hcb c aT
  simp only[ai1] at h
  cases ho:ops[c]? with
  | none=>rw[ho] at h;cases h
  | some o =>
   rw[ho] at h
   simp only at h
   by_cases hclk:aoQ E.obj E.tk s1 D o.op=true
   .rw[am hclk] at h
    have hgn:o.guard=none:=by
     unfold aKo at hbare
     rw[ho] at hbare
     simpa using hbare
    obtain⟨g,us,hca,hno⟩:=aJV (P:=P) hgn hclk
    rw[aCf hca] at h
    have r1:=(at7 (R:=λr=>r∈dW s1.objs 999 (X.refsL us) []) (c:=some c) preB [] D s s1 h1 (λx hx=>⟨hnc' x.1 (.inl (by rw[← hpreE];exact List.mem_map.2 ⟨x,hx,rfl⟩)),(hpre2 x hx).1⟩) (λr hr=>hno r hr)).1
    rw[hpreE] at r1
    cases hcq:aha (callS P E s1 c o.dst g us) with
    | none=>rw[hcq] at h;cases h
    | some pq =>
     obtain⟨q0,s2⟩:=pq
     rw[hcq] at h
     have hst:StP P (TT.of P) E ops (λr=>r∈dW s1.objs 999 (X.refsL us) []) (some c) s1 c o q0 s2:=.inr ⟨rfl,g,us,hca,λr hr=>hr,hcq⟩
     cases q0 with
     | some x =>
      simp only[bF] at h
      obtain⟨rfl,rfl⟩:=h
      refine main (λr=>r∈dW s1.objs 999 (X.refsL us) []) (some x) s2 ?_ (λy hy=>⟨hy,rfl⟩) (λhe=>by cases he)
      have:al3 P (TT.of P) E ops (λr=>r∈dW s1.objs 999 (X.refsL us) []) (some c) (c::mid) s1 (some x) s2:=⟨o,some x,s2,ho,hst,λy hy=>⟨hy,rfl⟩,λhe=>(by cases he)⟩
      simpa using aja pre (c::mid) s (some x) s1 s2 r1 this
     | none =>
      simp only at h
      split at h
      rotate_left
      .cases h
      rename_i D2 s3 h3
      have r2:=at9 (R:=λr=>r∈dW s1.objs 999 (X.refsL us) []) (c:=some c) midB [] D2 s2 s3 h3 (λx hx=>⟨hnc' x.1 (.inr (by rw[← hmidE];exact List.mem_map.2 ⟨x,hx,rfl⟩)),hmid2 x hx⟩)
      rw[hmidE] at r2
      have:al3 P (TT.of P) E ops (λr=>r∈dW s1.objs 999 (X.refsL us) []) (some c) (c::mid) s1 none s3:=⟨o,none,s2,ho,hst,λy hy=>(by cases hy),λ_=>r2⟩
      exact main (λr=>r∈dW s1.objs 999 (X.refsL us) []) none s3 (by simpa using aja pre (c::mid) s none s1 s3 r1 this) (λx hx=>by cases hx) (λ_=>h)
   .rw[aj hclk] at h;cases h
end
section
variable {P:Program} {M0:Base} {w0:World} {N:Nat} {ds:List Deferred}
theorem aom(hm:P.follows .mixedOrders=true){E:En}(horc:EnSound P M0.G E){id:Nat}{ops:Array Oper}{draw:Bool}(hok:aEA E.mt N ops draw=true){s:S}{q:Option X}{s':S}{w:World}{tmps:Array Value}{k:Know}{ow:Own}
  (hs:Sim M0 k ow (λ_=>False) w0 w N s tmps) (h:evR P (TT.of P) E draw ops s=some (q,s')) {Q:Exit->Act->World->Prop}
  (hQ:q=none->∀ tmps' w' k' ow',k.le k'->Sim M0 k' ow' (λ_=>False) w0 w' N {s' with clk:=s'.clk+1} tmps'->Q .normal ⟨tmps',ds⟩ w')
  (hP:∀ x,q=some x->∀ v tmps' w' k' ow',k.le k'->Sim M0 k' ow' (λ_=>False) w0 w' N {s' with clk:=s'.clk+1} tmps'->aF k' ow' x v->Q (.panic [{v:=v,recovered:=false}]) ⟨tmps',ds⟩ w'):(Code.region id ops draw).wp P Q ⟨tmps,ds⟩ w:=by
 unfold aEA at hok
 simp only[ap,bN,cZ] at hok
 obtain⟨hd,hok⟩:=hok
 have hdst:∀ o∈ops.toList,acj N o=true:=λo ho=>by
  rw[Array.all_eq_true_iff_forall_mem] at hd
  exact hd o (by simpa using ho)
 cases draw with
 | false =>
  have h:abs P (TT.of P) E false ops 0 ops.toList s=some (q,s'):=by simpa [evR] using h
  refine wp_region ?_
  rw[List.range_eq_range',← eE]
  exact ap7 horc ops.toList 0 s w tmps k ow _ aT hdst (λj hj=>hj.elim) hs h (λhe tmps' w' k' ow' done' g1 g2=>hQ he tmps' w' k' ow' g1 g2.tick) (λx he v tmps' w' k' ow' done' g1 g2 g3=>hP x he v tmps' w' k' ow' g1 g2.tick g3)
 | true =>
  simp only[acQ,aij] at hok
  have hb:Below w.heap.size w {w with drawn:=w.drawn+1}:=⟨rfl,rfl,rfl,ae _,λ_ _=>rfl⟩
  have h2:=(hs.grow hb).more (done':=λj=>(Array.replicate ops.size false).getD j true=true) (λ_ h=>h.elim)
  have hd':∀ (j:Nat) (o:Oper),ops[j]?=some o->acj N o=true:=λj o ho=>hdst o (by simpa using Array.mem_of_getElem? ho)
  unfold evR at h
  simp only[dz] at h
  by_cases hpl:plB E.mt ops.toList=true
  .rw[am hpl] at h
   unfold ay4 at h
   split at h
   rotate_left
   .cases h
   rename_i p hpo
   refine wp_region_any hm ?_
   exact aJA horc hd' (aH7 hpo) (h2.more λj hj=>hj) h (λhe tmps' w' k' ow' done' g1 g2=>hQ he tmps' w' k' ow' g1 g2.tick) (λx he v tmps' w' k' ow' done' g1 g2 g3=>hP x he v tmps' w' k' ow' g1 g2.tick g3)
  rw[aj hpl] at h
  obtain⟨⟨hlex,hfed,hlk⟩,hok⟩:=hok.resolve_left hpl
  unfold Region.lexB at hlex
  simp only[ap] at hlex
  by_cases htl:tlB ops.toList=true
  .rw[am htl] at h hok
   have hdc:Dc ops (Array.replicate ops.size false):=λk o hk hl=>by
    have hks:k<ops.size:=(Array.getElem?_eq_some_iff.1 hk).1
    simp[hks] at hl
   obtain⟨rfl,h1⟩:=azN (P:=P) (T:=TT.of P) (E:=E) (Q:=λt=>t=s') hok (aS0 _ htl) ops.toList 0 (Array.replicate ops.size false) s s' q aT aT hdc (by simpa using hlex.2) h rfl
   refine wp_region_any hm ?_
   have h3:=anS (m:=2) (P:=P) horc hd' (Q:=Q) (Qs:=λt=>t=s') (k0:=k) (λt tmps' w' k' ow' done' g1 g2 g3=>by subst g2;exact hQ rfl tmps' w' k' ow' g1 g3.tick) _ _ s _ tmps k ow (Know.le_refl k) h2 h1
   simpa using h3
  rw[aj htl] at h
  simp only[htl,ah,av,ap,bN,cZ] at hok
  obtain⟨hS,hfd⟩:=hok
  by_cases htn:(!(acL E.obj ops.toList == 0))=true
  .rw[am htn] at h
   have hne:acL E.obj ops.toList≠0:=by simpa using htn
   rw[an9 _ hne] at hfed
   simp only[ar,aX] at h
   obtain⟨t,ht,rfl,rfl⟩:=h
   have hst:=axs _ _ hne
   have hdc:Dc ops (Array.replicate ops.size false):=λk o hk hl=>by
    have hks:k<ops.size:=(Array.getElem?_eq_some_iff.1 hk).1
    simp[hks] at hl
   have h1:=azP (P:=P) (T:=TT.of P) (E:=E) (Q:=λu=>u=t) hfed hlk (am4 hS hst) ops.toList 0 false (Array.replicate ops.size false) s t aT aT hdc (λj hj=>absurd hj aC) (by simpa using hlex.2) ht rfl
   refine wp_region_any hm ?_
   have h3:=asS (P:=P) horc hd' (Q:=Q) (Qs:=λu=>u=t) (k0:=k) (λt tmps' w' k' ow' done' g1 g2 g3=>by subst g2;exact hQ rfl tmps' w' k' ow' g1 g3.tick) _ _ s _ tmps k ow (Know.le_refl k) h2 h1
   simpa using h3
  rw[aj htn] at h
  split at h
  .rename_i hsp
   unfold anH at h
   split at h
   .rename_i hst
    have hfeed:aoI ops=true:=by
     rcases hfd with h'|h'
     .rw[hst] at h';cases h'
     .exact h'
    have hdc:Dc ops (Array.replicate ops.size false):=λk o hk hl=>by
     have hks:k<ops.size:=(Array.getElem?_eq_some_iff.1 hk).1
     simp[hks] at hl
    obtain⟨rfl,h1⟩:=azR (P:=P) (T:=TT.of P) (E:=E) (Q:=λt=>t=s') hfeed hS hst ops.toList 0 (Array.replicate ops.size false) s s' q aT aT hdc (by simpa using hlex.2) h rfl
    refine wp_region_any hm ?_
    have h3:=anS (m:=1) (P:=P) horc hd' (Q:=Q) (Qs:=λt=>t=s') (k0:=k) (λt tmps' w' k' ow' done' g1 g2 g3=>by subst g2;exact hQ rfl tmps' w' k' ow' g1 g3.tick) _ _ s _ tmps k ow (Know.le_refl k) h2 h1
    simpa using h3
   .rename_i hst
    have hst:abj ops.toList=false:=by simpa using hst
    have hmk:aiU E.obj ops.toList=true:=by
     unfold spB at hsp
     rw[hst,aE] at hsp
     exact hsp
    split at h
    rotate_left
    .cases h
    rename_i o r hl
    split at h
    rotate_left
    .cases h
    rename_i s1 hm1
    obtain rfl:=anJ _ _ _ _ _ h
    rw[hl] at hmk
    simp only[aiU] at hmk
    have hsz:ops.size=r.length+1:=by rw[← eE,hl];rfl
    have h0:ops[0]?=some o:=by
     have:ops.toList[0]?=some o:=by rw[hl];rfl
     simpa using this
    have hlex2:=hlex.2
    rw[hsz] at hlex2
    unfold Region.lexFrom at hlex2
    simp only[ap] at hlex2
    obtain⟨⟨hr,hfr⟩,hB'⟩:=hlex2
    refine wp_region_any hm ?_
    have h1:=aq7 (P:=P) (T:=TT.of P) (E:=E) (Q:=λt=>t=s') (am4 hS hst) r 1 ((Array.replicate (r.length+1) false).setIfInBounds 0 true) s1 s' (λj=>by
     have:ops.toList[1+j]?=r[j]?:=by rw[hl,eJ,eY]
     rw[← this];simp) (by simpa using hB') h rfl
    rw[hsz] at h2 ⊢
    exact aMC (P:=P) horc (am4 hS hst) hd' (Q:=Q) (Qs:=λt=>t=s') (k0:=k) (λt tmps' w' k' ow' done' g1 g2 g3=>by subst g2;exact hQ rfl tmps' w' k' ow' g1 g3.tick) h0 hmk r.length _ s s1 _ tmps k ow (Know.le_refl k) h2 (Region.free_spec h0 hfr) (by simpa using hr) hm1 h1
  .rename_i hsp
   have hst:abj ops.toList=false:=by
    unfold spB at hsp
    cases h':abj ops.toList with
    | false=>rfl
    | true=>rw[h',bj] at hsp;exact absurd rfl hsp
   obtain rfl:=anJ _ _ _ _ _ h
   refine wp_region_any hm ?_
   have h1:=aq7 (P:=P) (T:=TT.of P) (E:=E) (Q:=λt=>t=s') (am4 hS hst) ops.toList 0 (Array.replicate ops.size false) s s' aT (by simpa using hlex.2) h rfl
   have h3:=akq (P:=P) horc hd' (Q:=Q) (Qs:=λt=>t=s') (k0:=k) (λt tmps' w' k' ow' done' g1 g2 g3=>by subst g2;exact hQ rfl tmps' w' k' ow' g1 g3.tick) _ _ s _ tmps k ow (Know.le_refl k) h2 h1
   simpa using h3
end

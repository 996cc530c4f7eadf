/- A part. Conditions: none. -/
import Derived.Test.YtghkmcffifpkeaaGreatPa2
set_option linter.all false
set_option maxRecDepth 100000
set_option maxHeartbeats 64000000
namespace Go.Pe
open RowKit
def aeW(s:S)(d:Option Nat)(z:X)(x:Operand)(h:∀ j,d=some j->x≠.tmp j):(s.put d z).ev x=s.ev x:=by
 cases d with
 | none=>rfl
 | some d =>
  cases x with
  | tmp t =>
   have:t≠d:=λe=>h d rfl (by rw[e])
   simp[S.put,S.ev,upd,this]
  | _=>rfl
theorem aj6{f g:Operand->X}:∀ (ps:List (Nat×Operand)),(∀ p∈ps,f p.2=g p.2)->fQ f ps=fQ g ps
 | [],_=>rfl
 | (i,x)::r,h=>by
  simp only[fQ]
  rw[h (i,x) aT,aj6 r (λp hp=>h p (by simp[hp]))]
theorem ala{f g:Operand->X}:∀ (l:List Operand),(∀ x∈l,f x=g x)->abh f l=abh g l
 | [],_=>rfl
 | x::r,h=>by
  simp only[abh]
  rw[h x aT,ala r (λp hp=>h p (by simp[hp]))]
def atw(P:Program)(T:TT)(E:En){s s':S}(ix:Nat)(o:Oper)(hc:s'.clk=s.clk)(hob:s'.objs=s.objs)(h:∀ x∈o.op.operands.toList,s'.ev x=s.ev x) :
  val P T E s' ix o=val P T E s ix o:=by
 unfold val
 split <;> rename_i ho <;> (try rw[ho] at h)
 .rw[h _ (by simp[Op.operands])]
 .rw[h _ (by simp[Op.operands])]
 .rw[h _ (by simp[Op.operands]),h _ (by simp[Op.operands]),h _ (by simp[Op.operands])]
 .rw[h _ (by simp[Op.operands]),h _ (by simp[Op.operands])]
 .rw[h _ (by simp[Op.operands])]
 .rw[h _ (by simp[Op.operands]),hob]
 .rw[h _ (by simp[Op.operands])]
 .rw[h _ (by simp[Op.operands])]
 .rw[h _ (by simp[Op.operands]),h _ (by simp[Op.operands])]
 .rw[h _ (by simp[Op.operands]),h _ (by simp[Op.operands])]
 .rename_i t x lo hi
  rw[h x (by simp[Op.operands])]
  have h1:lo.map s'.ev=lo.map s.ev:=by
   cases lo with
   | none=>rfl
   | some y=>simp[h y (by simp[Op.operands])]
  have h2:hi.map s'.ev=hi.map s.ev:=by
   cases hi with
   | none=>rfl
   | some y=>simp[h y (by simp[Op.operands])]
  rw[h1,h2]
 .rename_i t ps
  rw[aj6 (f:=s'.ev) (g:=s.ev) ps.toList (λp hp=>h p.2 (by simp only[Op.operands];exact List.mem_map.2 ⟨p,hp,rfl⟩))]
 .rename_i t n ps
  rw[aj6 (f:=s'.ev) (g:=s.ev) ps.toList (λp hp=>h p.2 (by simp only[Op.operands];exact List.mem_map.2 ⟨p,hp,rfl⟩)),hc]
 .rw[h _ (by simp[Op.operands])]
 .rw[h _ (by simp[Op.operands])]
 .rename_i f first caps
  rw[ala (f:=s'.ev) (g:=s.ev) caps.toList (λx hx=>h x (by simp only[Op.operands,aat,br];exact .inr hx)),ff (l:=caps.toList) (f:=s'.ev) (g:=s.ev) (λx hx=>h x (by simp only[Op.operands,aat,br];exact .inr hx)),ff (l:=first.toList) (f:=s'.ev) (g:=s.ev) (λx hx=>h x (by simp only[Op.operands,aat,br];exact .inl (by simp[hx])))]
 .rw[h _ (by simp[Op.operands])]
 .rw[h _ (by simp[Op.operands]),h _ (by simp[Op.operands]),hob]
 .rw[h _ (by simp[Op.operands])]
 .rw[h _ (by simp[Op.operands])]
 .rename_i cal args tys
  have hargs:∀ x∈args.toList,s'.ev x=s.ev x:=λx hx=>h x (by simp only[Op.operands,Call.operands,aat,br];exact .inr hx)
  unfold aeY
  split
  .rename_i hl _;rw[hargs _ (by rw[hl];simp)]
  .rename_i hl _;rw[hargs _ (by rw[hl];simp),hargs _ (by rw[hl];simp),hc]
  .rename_i hl;rw[hargs _ (by rw[hl];simp),hargs _ (by rw[hl];simp)]
  .rename_i hl;rw[hargs _ (by rw[hl];simp),hargs _ (by rw[hl];simp)]
  .rename_i f
   rw[ala (f:=s'.ev) (g:=s.ev) args.toList hargs,h f (by simp[Op.operands,Call.operands]),hc]
  .rfl
 .rw[hc]
 .rename_i t d x
  have h1:s'.fr d=s.fr d:=h (.tmp d) (by simp[Op.operands])
  rw[h1,h x (by simp[Op.operands])]
 .rfl
def Y(P:Program)(T:TT)(E:En)(ops:Array Oper)(s:S)(ix:Nat)(o:Oper)(x:X)(e:Option Tk):Prop :=
 (dI ops s o=some true/\val P T E s ix o=some (x,e)/\aae s.clk o.after.toList e=true)\/(dI ops s o=some false/\x=.of .undef/\e=none)
section
variable {P:Program} {T:TT} {E:En} {ops:Array Oper} {s:S} {ix:Nat} {o:Oper}
theorem ank:aaV P T E true s ix o=eV P T E s ix o:=rfl
theorem arA{ops:Array Oper}{s:S}{o:Oper}(h:dI ops s o=some false):dB o=o.dst:=by
 unfold dB
 split
 .rename_i hg
  unfold dI at h
  rw[hg] at h
  cases h
 .rfl
theorem aew{q:Option X}{s':S}(h:bv P T E true ops s ix o=some (q,s')):q=none/\∃ x e,Y P T E ops s ix o x e/\s'=(s.drop e).put (dB o) x:=by
 unfold bv at h
 split at h
 .rename_i hg
  rw[ank] at h
  unfold eV at h
  split at h
  .rename_i x e hv
   split at h
   .rename_i hok
    simp only[bD] at h
    exact⟨h.1.symm,x,e,.inl ⟨hg,hv,hok⟩,h.2.symm⟩
   .cases h
  .cases h
 .rename_i hg
  simp only[bD] at h
  exact⟨h.1.symm,_,none,.inr ⟨hg,rfl,rfl⟩,by rw[arA hg];exact h.2.symm⟩
 .cases h
theorem aiL{x:X}{e:Option Tk}(h:Y P T E ops s ix o x e):bv P T E true ops s ix o=some (none,(s.drop e).put (dB o) x):=by
 unfold bv
 rcases h with ⟨hg,hv,hok⟩|⟨hg,rfl,rfl⟩
 .rw[hg,ank]
  unfold eV
  simp only[hv,hok,am]
 .rw[hg,arA hg]
  rfl
theorem aro(t:Tk):dI ops (s.drop (some t)) o=dI ops s o:=by
 unfold dI
 split
 .rfl
 .split
  .rename_i d _
   simp only[S.drop]
   cases s.fr d with
   | own t' e z cs n=>rcases fa t t' e z cs n with h|h <;> rw[h]
   | _=>rfl
  .rfl
theorem aH4{d:Option Nat}{z:X}(h:∀ j,d=some j->j∉o.looksAt ops):dI ops (s.put d z) o=dI ops s o:=by
 unfold dI
 split
 .rfl
 .rename_i j want hg
  split
  .rename_i c hc
   have hne:∀ q,d=some q->c≠q:=λq hq e=>h q hq (by
    unfold Oper.looksAt
    rw[hg]
    simp[hc,e])
   cases d with
   | none=>rfl
   | some q =>
    have:=hne q rfl
    simp[S.put,upd,this]
  .rfl
theorem arV{x:X}{e:Option Tk}{d:Option Nat}{z:X}(h:∀ j,d=some j->j∉o.looksAt ops):Y P T E ops (s.put d z) ix o x e↔Y P T E ops s ix o x e:=by
 unfold Y
 have hv:val P T E (s.put d z) ix o=val P T E s ix o:=by
  refine atw P T E ix o (by cases d <;> rfl) (by cases d <;> rfl) λy hy=>aeW s d z y λj hj e=>h j hj ?_
  unfold Oper.looksAt
  rw[br]
  refine .inl (List.mem_filterMap.2 ⟨y,hy,?_⟩)
  rw[e]
 rw[aH4 h,hv,show (s.put d z).clk=s.clk by cases d <;> rfl]
theorem a0U{x:X}{e:Option Tk}{t:Tk}(ht:∀ i,t≠.nm s.clk ix i)(hne:e≠some t)(h:Y P T E ops s ix o x e):Y P T E ops (s.drop (some t)) ix o (x.drop t) e:=by
 unfold Y at *
 rw[aro,awm P T E t s ix ht o]
 rcases h with ⟨hg,hv,hok⟩|⟨hg,rfl,rfl⟩
 .exact .inl ⟨hg,by rw[hv];simp[fd,hne],hok⟩
 .exact .inr ⟨hg,rfl,rfl⟩
theorem aNE{x:X}{e:Option Tk}{t:Tk}(ht:∀ i,t≠.nm s.clk ix i)(h:Y P T E ops (s.drop (some t)) ix o x e):∃ x',Y P T E ops s ix o x' e/\x=x'.drop t/\e≠some t:=by
 unfold Y at *
 rw[aro,awm P T E t s ix ht o] at h
 rcases h with ⟨hg,hv,hok⟩|⟨hg,rfl,rfl⟩
 .cases hval:val P T E s ix o with
  | none=>rw[hval] at hv;simp[fd] at hv
  | some p =>
   obtain⟨x',u⟩:=p
   rw[hval] at hv
   simp only[fd] at hv
   split at hv
   .cases hv
   .rename_i hne
    simp only[bD] at hv
    obtain⟨rfl,rfl⟩:=hv
    exact⟨x',.inl ⟨hg,rfl,hok⟩,rfl,hne⟩
 .exact⟨.of .undef,.inr ⟨hg,rfl,rfl⟩,rfl,by simp⟩
theorem a0Q{x:X}{c j i:Nat}(h:Y P T E ops s ix o x (some (.nm c j i))):c<s.clk\/(c=s.clk/\∃ e∈o.after,Region.binds .any e=true/\e.on=j):=by
 rcases h with ⟨_,_,hok⟩|⟨_,_,h⟩
 .simp only[aae,bk,aV,aj,List.any_eq_true,dm] at hok
  rcases hok with h|⟨h1,e,he,h2,h3⟩
  .exact .inl h
  .exact .inr ⟨h1,e,by simpa using he,h2,h3⟩
 .cases h
end
def ah7(s:S)(d:Option Nat)(x:X)(t:Tk):(s.put d x).drop (some t)=(s.drop (some t)).put d (x.drop t):=by
 cases d with
 | none=>rfl
 | some d =>
  simp only[S.put,S.drop]
  congr 1
  funext j
  simp only[upd]
  split <;> rfl
def af4(s:S){d c:Option Nat}(x y:X)(h:∀ j,d=some j->c≠some j):(s.put d x).put c y=(s.put c y).put d x:=by
 cases d with
 | none=>rfl
 | some d =>
  cases c with
  | none=>rfl
  | some c =>
   have hne:c≠d:=λe=>h d rfl (by rw[e])
   simp only[S.put]
   congr 1
   funext j
   simp only[upd]
   by_cases h1:j=d
   .subst h1
    rw[ar (bo hne)]
    simp
   .simp[h1]
def azC(t u:Tk)(o:Ob):(o.drop t).drop u=(o.drop u).drop t:=by
 cases o with
 | var ty xs=>simp only[Ob.drop,ab0,agY];congr 1;apply ff;intro x _;exact drop_drop t u x
 | map es=>rfl
 | row ty cs=>rfl
def aC0(s:S)(e u:Option Tk):(s.drop e).drop u=(s.drop u).drop e:=by
 cases e with
 | none=>rfl
 | some e =>
  cases u with
  | none=>rfl
  | some u =>
   simp only[S.drop]
   congr 1
   .funext j;exact drop_drop e u _
   .simp only[agY];apply ff;intro o _;exact azC e u o
def ajJ(ops:Array Oper)(oi oj:Oper):Prop:=(∀ d,dB oi=some d->d∉oj.looksAt ops)/\(∀ d,dB oi=some d->dB oj≠some d)/\(∀ d,dB oj=some d->d∉oi.looksAt ops)
theorem ajJ.symm{ops:Array Oper}{oi oj:Oper}(h:ajJ ops oi oj):ajJ ops oj oi:=⟨h.2.2,λd hd e=>h.2.1 d e hd,h.1⟩
def anl{ops:Array Oper}{i j:Nat}{oi oj:Oper}(hi:ops[i]?=some oi)(hj:ops[j]?=some oj)(hne:i≠j)(hij:∀ e∈oi.after,Region.binds .any e=true->e.on≠j)(h:afe ops i=true):∀ d,dB oi=some d->d∉oj.looksAt ops/\dB oj≠some d:=by
 intro d hd
 unfold afe at h
 simp only[hi,hd] at h
 rw[aj] at h
 have hjs:j<ops.size:=(Array.getElem?_eq_some_iff.1 hj).1
 have:=List.all_eq_true.1 h.2 j (List.mem_range.2 hjs)
 rw[hj] at this
 simp only[bk,aj,dm,cV,ado,fR,abu] at this
 rcases this with e|⟨h1,h2⟩
 .exact absurd e.symm hne
 .refine⟨λhm=>?_,λe=>?_⟩
  .have:(oj.looksAt ops).contains d=true:=by simpa using hm
   rw[this] at h1
   cases h1
  .rcases h2 with h2|⟨_,e',he,hb,hon⟩
   .exact h2 e
   .exact hij e' he hb hon
def aim{ops:Array Oper}{i j:Nat}{oi oj:Oper}(hi:ops[i]?=some oi)(hj:ops[j]?=some oj)(hne:i≠j)(hij:∀ e∈oi.after,Region.binds .any e=true->e.on≠j)(hji:∀ e∈oj.after,Region.binds .any e=true->e.on≠i)
  (hap:oi.apart ops oj=true) (si:cL oi.op=true->afe ops i=true) (sj:cL oj.op=true->afe ops j=true):ajJ ops oi oj:=by
 obtain⟨a1,a2,a3⟩:=Oper.apart_spec hap
 cases hsi:cL oi.op with
 | true =>
  have q1:=anl hi hj hne hij (si hsi)
  cases hsj:cL oj.op with
  | true =>
   have q2:=anl hj hi (bo hne) hji (sj hsj)
   exact⟨λd hd=>(q1 d hd).1,λd hd=>(q1 d hd).2,λd hd=>(q2 d hd).1⟩
  | false=>exact⟨λd hd=>(q1 d hd).1,λd hd=>(q1 d hd).2,λd hd=>a3 d (by rw[← hd,adI hsj])⟩
 | false =>
  cases hsj:cL oj.op with
  | true =>
   have q2:=anl hj hi (bo hne) hji (sj hsj)
   exact⟨λd hd=>a1 d (by rw[← hd,adI hsi]),λd hd e=>(q2 d e).2 hd,λd hd=>(q2 d hd).1⟩
  | false=>exact⟨λd hd=>a1 d (by rw[← hd,adI hsi]),λd hd=>by rw[adI hsj];exact a2 d (by rw[← hd,adI hsi]),λd hd=>a3 d (by rw[← hd,adI hsj])⟩
def aym{P:Program}{T:TT}{E:En}{ops:Array Oper}{s s1 s2:S}{i j:Nat}{oi oj:Oper}(hap:ajJ ops oi oj)
  (hij:∀ e∈oi.after,Region.binds .any e=true->e.on≠j) (hji:∀ e∈oj.after,Region.binds .any e=true->e.on≠i)
  (h1:bv P T E true ops s i oi=some (none,s1)) (h2:bv P T E true ops s1 j oj=some (none,s2)):∃ s',bv P T E true ops s j oj=some (none,s')/\bv P T E true ops s' i oi=some (none,s2):=by
 obtain⟨a1,a2,a3⟩:=hap
 obtain⟨_,xi,ei,yi,rfl⟩:=aew h1
 obtain⟨_,xj,ej,yj,rfl⟩:=aew h2
 have yj1:Y P T E ops (s.drop ei) j oj xj ej:=(arV (λd hd=>a1 d hd)).1 yj
 obtain⟨xj',yj2,hxj,hne⟩ : ∃ x',Y P T E ops s j oj x' ej/\xj=aoX ei x'/\(ei=none\/ej≠ei):=by
  cases ei with
  | none=>exact⟨xj,yj1,rfl,.inl rfl⟩
  | some t =>
   have ht:∀ q,t≠.nm s.clk j q:=λq e=>by
    subst e
    rcases a0Q yi with h|⟨_,e,he,hb,h⟩
    .omega
    .exact hij e he hb h
   obtain⟨x',g1,g2,g3⟩:=aNE ht yj1
   exact⟨x',g1,g2,.inr g3⟩
 refine⟨(s.drop ej).put (dB oj) xj',aiL yj2,?_⟩
 have yi2:Y P T E ops (s.drop ej) i oi (aoX ej xi) ei:=by
  cases ej with
  | none=>exact yi
  | some t =>
   have ht:∀ q,t≠.nm s.clk i q:=λq e=>by
    subst e
    rcases a0Q yj2 with h|⟨_,e,he,hb,h⟩
    .omega
    .exact hji e he hb h
   refine a0U ht ?_ yi
   rcases hne with h|h
   .rw[h];simp
   .exact bo h
 have yi3:Y P T E ops ((s.drop ej).put (dB oj) xj') i oi (aoX ej xi) ei:=(arV (λd hd=>a3 d hd)).2 yi2
 rw[aiL yi3]
 congr 1
 have hd:∀ d,(dB oj)=some d->(dB oi)≠some d:=λd hd e=>a2 d e hd
 have e1:((s.drop ej).put (dB oj) xj').drop ei=((s.drop ej).drop ei).put (dB oj) xj:=by
  rw[hxj]
  cases ei with
  | none=>rfl
  | some t=>exact ah7 _ _ _ _
 have e2:((s.drop ei).put (dB oi) xi).drop ej=((s.drop ei).drop ej).put (dB oi) (aoX ej xi):=by
  cases ej with
  | none=>rfl
  | some t=>exact ah7 _ _ _ _
 rw[e1,e2,af4 _ _ _ (λd h=>hd d h),aC0]
def ath(P:Program)(T:TT)(E:En)(ops:Array Oper)(Q:S->Prop):Nat->Array Bool->S->Prop
 | 0,listed,s=>Region.ready .any ops listed=[]/\Q s
 | fuel+1,listed,s=>(Region.ready .any ops listed=[]->Q s) /\
  ∀ i∈Region.ready .any ops listed,∃ o s',ops[i]?=some o/\bv P T E true ops s i o=some (none,s')/\ath P T E ops Q fuel (listed.setIfInBounds i true) s'
section
variable {P:Program} {T:TT} {E:En} {ops:Array Oper} {Q:S->Prop}
theorem aaF{i:Nat}{listed:Array Bool}{o:Oper}(hi:i∈Region.ready .any ops listed)(ho:ops[i]?=some o){j:Nat}(hj:listed.getD j true=false):∀ e∈o.after,Region.binds .any e=true->e.on≠j:=by
 obtain⟨_,oi,hoi,hall⟩:=mem_ready.1 hi
 obtain rfl:oi=o:=ay (hoi.symm.trans ho)
 intro e he hb heq
 have h1:=hall e he hb
 rw[heq] at h1
 rcases aA j listed.size with h'|h'
 .simp[h'] at hj h1;rw[hj] at h1;cases h1
 .simp[Array.getElem?_eq_none h'] at h1
theorem aFC(hS:∀ (i:Nat) (o:Oper),ops[i]?=some o->cL o.op=true->afe ops i=true){i:Nat}{oi:Oper}(hi:ops[i]?=some oi):∀ (fuel:Nat) (listed:Array Bool) (s s1:S),
  (∀ (j:Nat) (oj:Oper),ops[j]?=some oj->j≠i->listed.getD j true=false->(∀ e∈oj.after,Region.binds .any e=true->e.on≠i)->oi.apart ops oj=true) ->
  i∈Region.ready .any ops listed->bv P T E true ops s i oi=some (none,s1)->ath P T E ops Q fuel (listed.setIfInBounds i true) s1->ath P T E ops Q (fuel+1) listed s:=by
 intro fuel
 induction fuel with
 | zero =>
  intro listed s s1 _ hr hs H
  refine⟨λh=>(by rw[h] at hr;cases hr),λj hj=>?_⟩
  by_cases hji:j=i
  .subst hji;exact⟨oi,s1,hi,hs,H⟩
  .have:=ready_mono hj hji
   rw[H.1] at this
   cases this
 | succ fuel ih =>
  intro listed s s1 hfree hr hs H
  refine⟨λh=>(by rw[h] at hr;cases hr),λj hj=>?_⟩
  by_cases hji:j=i
  .subst hji;exact⟨oi,s1,hi,hs,H⟩
  .obtain⟨oj,s2,hoj,hs2,H2⟩:=H.2 j (ready_mono hj hji)
   have hjun:=(mem_ready.1 hj).1
   have hiun:=(mem_ready.1 hr).1
   have hji':=aaF hj hoj hiun
   have hij':=aaF hr hi hjun
   obtain⟨s',g1,g2⟩:=aym (aim hi hoj (bo hji) hij' hji' (hfree j oj hoj hji hjun hji') (hS i oi hi) (hS j oj hoj)) hij' hji' hs hs2
   refine⟨oj,s',hoj,g1,ih (listed.setIfInBounds j true) s' s2 (λk ok hk hki hun hno=>?_) (ready_mono hr (bo hji)) g2 (by rw[eC _ _ hji];exact H2)⟩
   refine hfree k ok hk hki ?_ hno
   by_cases hjk:j=k
   .subst hjk;exact hjun
   .rw[getD_set_ne true hjk] at hun;exact hun
theorem aqh(hS:∀ (i:Nat) (o:Oper),ops[i]?=some o->cL o.op=true->afe ops i=true):∀ (l:List Oper) (n:Nat) (listed:Array Bool) (s s':S),(∀ j,l[j]?=ops[n+j]?)->Region.lexFrom .any ops l.length n listed=true ->
  aa1 P T E true ops n l s=some (none,s')->Q s'->ath P T E ops Q l.length listed s
 | [],n,listed,s,s',_,hB,h,hQ=>by
  simp only[aa1,bD,cM] at h
  subst h
  exact⟨by simpa [Region.lexFrom] using hB,hQ⟩
 | o::l,n,listed,s,s',hl,hB,h,hQ=>by
  have h0:ops[n]?=some o:=by simpa using (hl 0).symm
  simp only[aN,Region.lexFrom,aj] at hB
  obtain⟨⟨hr,hf⟩,hB'⟩:=hB
  simp only[aa1] at h
  split at h
  .rename_i s1 h1
   exact aFC hS h0 l.length listed s s1 (Region.free_spec h0 hf) (by simpa using hr) h1
    (aqh hS l (n+1) _ s1 s' (λj=>by have:=hl (j+1);simpa [bA,ey 1 j] using this) hB' h hQ)
  .cases h
  .cases h
end
section
variable {P:Program} {M0:Base} {w0:World} {N:Nat} {ds:List Deferred}
theorem ajI{E:En}(horc:EnSound P M0.G E){ops:Array Oper}(hdst:∀ (j:Nat) (o:Oper),ops[j]?=some o->abZ N o=true){Q:Exit->Act->World->Prop}{Qs:S->Prop}{k0:Know}
  (hQ:∀ s' tmps' w' k' ow' done',k0.le k'->Qs s'->Sim M0 k' ow' done' w0 w' N s' tmps'->Q .normal ⟨tmps',ds⟩ w'):∀ (fuel:Nat) (listed:Array Bool) (s:S) (w:World) (tmps:Array Value) (k:Know) (ow:Own),
  k0.le k->Sim M0 k ow (λj=>listed.getD j true=true) w0 w N s tmps->ath P (TT.of P) E ops Qs fuel listed s->wpAny P .any ops Q fuel listed ⟨tmps,ds⟩ w
 | 0,listed,s,w,tmps,k,ow,hk,hs,h=>⟨h.1,hQ s tmps w k ow _ hk h.2 hs⟩
 | fuel+1,listed,s,w,tmps,k,ow,hk,hs,h=>by
  refine⟨λh0=>hQ s tmps w k ow _ hk (h.1 h0) hs,λi hi=>?_⟩
  obtain⟨o,s',ho,hst,H⟩:=h.2 i hi
  have hun:=(mem_ready.1 hi).1
  refine aao hs horc (by rw[hun];simp) ho (hdst i o ho) hst (λ_ tmps' w' k' ow' g1 g2=>?_) (λx hx=>by cases hx)
  refine ajI horc hdst hQ fuel _ s' w' tmps' k' ow' (Know.le_trans hk g1) (g2.more λj hj=>?_) H
  rcases hj with hj|rfl
  .by_cases hij:i=j
   .subst hij;rw[hun] at hj;cases hj
   .rw[getD_set_ne true hij];exact hj
  .rcases aA j listed.size with g|g
   .simp[g]
   .simp[g]
theorem amT{P:Program}{T:TT}{E:En}{ops:Array Oper}:∀ (l:List Oper) (n:Nat) (s:S) (q:Option X) (s':S),aa1 P T E true ops n l s=some (q,s')->q=none
 | [],n,s,q,s',h=>by
  simp only[aa1,bD] at h
  exact h.1.symm
 | o::l,n,s,q,s',h=>by
  simp only[aa1] at h
  split at h
  .exact amT l _ _ _ _ h
  .rename_i h1
   exact absurd (aew h1).1 aT
  .cases h
end
def av6(L:Nat):X->Prop
 | .ptr r _=>r<L
 | .mp r=>r<L
 | _=>True
def aJz{P:Program}{T:TT}{E:En}{s:S}{ix:Nat}{o:Oper}{ob:Ob}{y:X×Option Tk}(hwf:∀ y:Operand,av6 s.objs.length (s.ev y))(h:val P T E {s with objs:=s.objs++[ob]} ix o=some y):val P T E s ix o=some y:=by
 cases hop:o.op with
 | load t a =>
  simp only[val,hop] at h ⊢
  have ha:=hwf a
  have e:({s with objs:=s.objs++[ob]}:S).ev a=s.ev a:=rfl
  rw[e] at h
  cases hx:s.ev a with
  | ptr r off =>
   rw[hx] at h ha
   simp only[abk] at h ⊢
   rw[aZ (show r<s.objs.length from ha)] at h
   exact h
  | of c=>rw[hx] at h;cases c <;> exact h
  | _=>rw[hx] at h;exact h
 | lookup t x i b =>
  simp only[val,hop] at h ⊢
  have ha:=hwf x
  have e:({s with objs:=s.objs++[ob]}:S).ev x=s.ev x:=rfl
  have e2:({s with objs:=s.objs++[ob]}:S).ev i=s.ev i:=rfl
  rw[e,e2] at h
  have hm:agE (s.objs++[ob]) (s.ev x)=agE s.objs (s.ev x):=by
   cases hx:s.ev x with
   | mp r =>
    rw[hx] at ha
    simp only[agE]
    rw[aZ (show r<s.objs.length from ha)]
   | of c =>
    cases c with
    | lit v =>
     cases v with
     | map p=>cases p <;> rfl
     | _=>rfl
    | _=>rfl
   | _=>rfl
  unfold aei at h ⊢
  rw[hm] at h
  exact h
 | makeFunc f a b =>
  simp only[val,hop] at h ⊢
  cases f <;> exact h
 | slice t x lo hi mx =>
  simp only[val,hop] at h ⊢
  cases mx <;> exact h
 | store t a x =>
  simp only[val,hop] at h ⊢
  cases a <;> exact h
 | _ =>
  simp only[val,hop] at h ⊢
  exact h
def a0T{P:Program}{T:TT}{E:En}{ops:Array Oper}{s:S}{ix:Nat}{o:Oper}{ob:Ob}{x:X}{e:Option Tk}(hwf:∀ y:Operand,av6 s.objs.length (s.ev y))(h:Y P T E ops {s with objs:=s.objs++[ob]} ix o x e):Y P T E ops s ix o x e:=by
 rcases h with ⟨h1,h2,h3⟩|⟨h1,h2,h3⟩
 .exact .inl ⟨h1,aJz hwf h2,h3⟩
 .exact .inr ⟨h1,h2,h3⟩
def aST{P:Program}{T:TT}{E:En}{ops:Array Oper}{s s1 s2:S}{j:Nat}{o0 oj:Oper}(hap:ajJ ops o0 oj)(hE:dB o0=o0.dst)(hwf:∀ y:Operand,av6 s.objs.length (s.ev y))
  (h1:mkS P E s o0=some s1) (h2:bv P T E true ops s1 j oj=some (none,s2)):∃ s',bv P T E true ops s j oj=some (none,s')/\mkS P E s' o0=some s2:=by
 obtain⟨a1,a2,a3⟩:=hap
 rw[hE] at a1 a2
 unfold mkS at h1
 simp only[ap] at h1
 obtain⟨es,he,rfl⟩:=h1
 obtain⟨_,xj,ej,yj,rfl⟩:=aew h2
 have yj1:=a0T hwf ((arV (λd hd=>a1 d hd)).1 yj)
 refine⟨(s.drop ej).put (dB oj) xj,aiL yj1,?_⟩
 unfold mkS
 rw[he]
 simp only[aJ,ab]
 have hd:∀ d,(dB oj)=some d->o0.dst≠some d:=λd hd e=>a2 d e hd
 have e1:(({s with objs:=s.objs++[Ob.map es]}:S).put o0.dst (.mp s.objs.length)).drop ej=({s.drop ej with objs:=(s.drop ej).objs++[Ob.map es]}:S).put o0.dst (.mp s.objs.length):=by
  cases ej with
  | none=>rfl
  | some t =>
   rw[ah7]
   simp only[S.drop,bX,bc,bm,Ob.drop,X.drop]
 have e2:((s.drop ej).put (dB oj) xj).objs.length=s.objs.length:=by
  cases ej <;> cases (dB oj) <;> simp[S.put,S.drop]
 have e3:({(s.drop ej).put (dB oj) xj with objs:=((s.drop ej).put (dB oj) xj).objs++[Ob.map es]}:S)=({s.drop ej with objs:=(s.drop ej).objs++[Ob.map es]}:S).put (dB oj) xj:=by
  cases (dB oj) <;> rfl
 rw[e1,e2,e3,af4 _ _ _ (λd h=>hd d h)]
def aHQ:cf [] []=some:=by
 funext t
 cases t <;> simp[cf]
def asQ{P:Program}{T:TT}{E:En}{ops:Array Oper}{s s1:S}{ix:Nat}{o:Oper}(hmk:(aem E.obj o.op&&o.guard.isNone)=true)(h:mkS P E s o=some s1):bv P T E false ops s ix o=some (none,s1):=by
 simp only[aj,aa0] at hmk
 obtain⟨hmk,hg⟩:=hmk
 unfold mkS at h
 simp only[ap] at h
 obtain⟨es,he,rfl⟩:=h
 unfold bv dI
 rw[hg]
 simp only
 unfold aem at hmk
 split at hmk
 rotate_left
 .cases hmk
 rename_i g args tys hop
 simp only[aj] at hmk
 obtain⟨hargs,hobj⟩:=hmk
 have ha:args.toList=[]:=by simpa using hargs
 simp only[mkA,hop] at he
 split at he
 rotate_left
 .cases he
 rename_i hc
 split at he
 rotate_left
 .cases he
 rename_i es' ho
 simp only[ab] at he
 subst he
 unfold aaV
 simp only[ah,av,hop,ha]
 have ht:adJ s (.value (.func g)) []=some (g,[]):=rfl
 rw[ht]
 simp only[hobj,am]
 unfold callS
 rw[au hc]
 have hr:dQ s.objs 999 (X.refsL []) []=[]:=rfl
 have hts:(if E.tk g=true then nub (X.toksL []) [] else [])=[]:=by split <;> rfl
 simp only[hr,hts,aaj,X.trs,ho,af7,aj5]
 unfold afq
 simp only[aR,aU,am,aHQ,aai,abG,bc,bm,Ob.tr,X.trs,X.tr,ae8,ce,aek,aeG,abC]
 congr 2
 have e1:(λj=>(s.fr j).tr some some)=s.fr:=by funext j;exact X.tr_id _
 have e2:s.objs.map (Ob.tr some some)=s.objs:=by
  conv=>rhs;rw[← List.map_id s.objs]
  exact ff λo _=>Ob.tr_id o
 rw[e1,e2]
section
variable {P:Program} {M0:Base} {w0:World} {N:Nat} {ds:List Deferred}
theorem aSD{k:Know}{ow:Own}{done:Nat->Prop}{w:World}{s:S}{tmps:Array Value}(hs:Sim M0 k ow done w0 w N s tmps)(y:Operand):av6 s.objs.length (s.ev y):=by
 have h:=Sim.ev (ds:=[]) hs y
 cases hx:s.ev y with
 | ptr r off =>
  rw[hx] at h
  simp only[aE] at h
  obtain⟨b,hb,_⟩:=h
  exact hs.dom r b hb
 | mp r =>
  rw[hx] at h
  simp only[aE] at h
  obtain⟨b,hb,_⟩:=h
  exact hs.dom r b hb
 | _=>trivial
theorem aO5{obj:Nat->Bool}{o:Op}(h:aem obj o=true):cL o=false:=by
 cases o with
 | store t a x=>cases h
 | _=>rfl
theorem aLm{E:En}(horc:EnSound P M0.G E){ops:Array Oper}(hS:∀ (i:Nat) (o:Oper),ops[i]?=some o->cL o.op=true->afe ops i=true)(hdst:∀ (j:Nat) (o:Oper),ops[j]?=some o->abZ N o=true){Q:Exit->Act->World->Prop}{Qs:S->Prop}{k0:Know}
  (hQ:∀ s' tmps' w' k' ow' done',k0.le k'->Qs s'->Sim M0 k' ow' done' w0 w' N s' tmps'->Q .normal ⟨tmps',ds⟩ w') {o0:Oper} (h0:ops[0]?=some o0) (hmk:(aem E.obj o0.op&&o0.guard.isNone)=true) :
  ∀ (fuel:Nat) (listed:Array Bool) (s s1:S) (w:World) (tmps:Array Value) (k:Know) (ow:Own),k0.le k->Sim M0 k ow (λj=>listed.getD j true=true) w0 w N s tmps ->
   (∀ (j:Nat) (oj:Oper),ops[j]?=some oj->j≠0->listed.getD j true=false->(∀ e∈oj.after,Region.binds .any e=true->e.on≠0)->o0.apart ops oj=true) ->
   0∈Region.ready .any ops listed->mkS P E s o0=some s1->ath P (TT.of P) E ops Qs fuel (listed.setIfInBounds 0 true) s1->wpAny P .any ops Q (fuel+1) listed ⟨tmps,ds⟩ w:=by
 have hmore:∀ (listed:Array Bool) (i:Nat),listed.getD i true=false->∀ j,(listed.setIfInBounds i true).getD j true=true->(listed.getD j true=true\/j=i):=λlisted i hun j hj=>by
  by_cases hij:i=j
  .exact .inr hij.symm
  .rw[getD_set_ne true hij] at hj;exact .inl hj
 have hback:∀ (listed:Array Bool) (i:Nat),listed.getD i true=false->∀ j,(listed.getD j true=true\/j=i)->(listed.setIfInBounds i true).getD j true=true:=λlisted i hun j hj=>by
  rcases hj with hj|rfl
  .by_cases hij:i=j
   .subst hij;rw[hun] at hj;cases hj
   .rw[getD_set_ne true hij];exact hj
  .rcases aA j listed.size with g|g
   .simp[g]
   .simp[g]
 intro fuel
 induction fuel with
 | zero =>
  intro listed s s1 w tmps k ow hk hs _ hr hm H
  refine⟨λh=>(by rw[h] at hr;cases hr),λj hj=>?_⟩
  have hun:=(mem_ready.1 hj).1
  by_cases hj0:j=0
  .subst hj0
   refine aao (dr:=false) hs horc (by rw[hun];simp) h0 (hdst 0 o0 h0) (asQ hmk hm) (λ_ tmps' w' k' ow' g1 g2=>?_) (λx hx=>by cases hx)
   exact ajI horc hdst hQ 0 _ s1 w' tmps' k' ow' (Know.le_trans hk g1) (g2.more (hback listed 0 hun)) H
  .have:=ready_mono hj hj0
   rw[H.1] at this
   cases this
 | succ fuel ih =>
  intro listed s s1 w tmps k ow hk hs hfree hr hm H
  refine⟨λh=>(by rw[h] at hr;cases hr),λj hj=>?_⟩
  have hun:=(mem_ready.1 hj).1
  by_cases hj0:j=0
  .subst hj0
   refine aao (dr:=false) hs horc (by rw[hun];simp) h0 (hdst 0 o0 h0) (asQ hmk hm) (λ_ tmps' w' k' ow' g1 g2=>?_) (λx hx=>by cases hx)
   exact ajI horc hdst hQ (fuel+1) _ s1 w' tmps' k' ow' (Know.le_trans hk g1) (g2.more (hback listed 0 hun)) H
  .obtain⟨oj,s2,hoj,hs2,H2⟩:=H.2 j (ready_mono hj hj0)
   have h0un:=(mem_ready.1 hr).1
   have hji':=aaF hj hoj h0un
   have hno:cL o0.op=false:=by rw[aj] at hmk;exact aO5 hmk.1
   obtain⟨s',g1,g2⟩:=aST (aim h0 hoj (bo hj0) (aaF hr h0 hun) hji' (hfree j oj hoj hj0 hun hji') (λh=>by rw[hno] at h;cases h) (hS j oj hoj)) (adI hno) (aSD hs) hm hs2
   refine aao (dr:=true) hs horc (by rw[hun];simp) hoj (hdst j oj hoj) g1 (λ_ tmps' w' k' ow' q1 q2=>?_) (λx hx=>by cases hx)
   refine ih (listed.setIfInBounds j true) s' s2 w' tmps' k' ow' (Know.le_trans hk q1) (q2.more (hback listed j hun)) (λk ok hok hk0 hkun hno=>?_) (ready_mono hr (bo hj0)) g2 (by rw[eC _ _ hj0];exact H2)
   refine hfree k ok hok hk0 ?_ hno
   by_cases hjk:j=k
   .subst hjk;exact hun
   .rw[getD_set_ne true hjk] at hkun;exact hkun
end
def Dm(m:Nat)(ops:Array Oper)(i:Nat):Bool:=decide (i+m<ops.size)
def atg(m:Nat)(P:Program)(T:TT)(E:En)(ops:Array Oper)(Q:S->Prop):Nat->Array Bool->S->Prop
 | 0,listed,s=>Region.ready .any ops listed=[]/\Q s
 | fuel+1,listed,s=>(Region.ready .any ops listed=[]->Q s) /\
  ∀ i∈Region.ready .any ops listed,∃ o s',ops[i]?=some o/\bv P T E (Dm m ops i) ops s i o=some (none,s')/\atg m P T E ops Q fuel (listed.setIfInBounds i true) s'
abbrev aNA:=atg 1
def Dc(ops:Array Oper)(listed:Array Bool):Prop:=∀ (k:Nat) (o:Oper),ops[k]?=some o->listed.getD k true=true->∀ e∈o.after,Region.binds .any e=true->listed.getD e.on false=true
def ahM{listed:Array Bool}{i:Nat}(h:listed.getD i false=true):listed.getD i true=true:=by
 rcases aA i listed.size with g|g
 .simp[g] at h ⊢;exact h
 .simp[g] at h
def atI{listed:Array Bool}{i j:Nat}(h:listed.getD i false=true):(listed.setIfInBounds j true).getD i false=true:=by
 by_cases hij:j=i
 .subst hij
  rcases aA j listed.size with g|g
  .simp[g]
  .simp[g] at h
 .rw[getD_set_ne false hij];exact h
theorem Dc.set{ops:Array Oper}{listed:Array Bool}(h:Dc ops listed){j:Nat}(hj:j∈Region.ready .any ops listed):Dc ops (listed.setIfInBounds j true):=λk o hk hl e he hb=>by
 by_cases hjk:j=k
 .subst hjk
  obtain⟨_,oj,hoj,hall⟩:=mem_ready.1 hj
  obtain rfl:oj=o:=ay (hoj.symm.trans hk)
  exact atI (hall e he hb)
 .rw[getD_set_ne true hjk] at hl
  exact atI (h k o hk hl e he hb)
theorem aZy{ops:Array Oper}(hf:anS ops=true){listed:Array Bool}(hd:Dc ops listed):∀ (m i:Nat),ops.size-i<=m->i+1<ops.size->alN ops i=false->listed.getD i true=false->ops.size-1∉Region.ready .any ops listed
 | 0,i,hm,hi,_,_,_=>by omega
 | m+1,i,hm,hi,hli,hun,hr=>by
  have hfi:=List.all_eq_true.1 hf i (List.mem_range.2 aC)
  rw[hli,eG] at hfi
  simp only[List.any_eq_true,List.mem_range,aj,aV] at hfi
  obtain⟨k,hk,hik,hx⟩:=hfi
  split at hx
  rotate_left
  .cases hx
  rename_i o ho
  simp only[abu,aj,dm,cV] at hx
  obtain⟨hlo,e,he,hb,rfl⟩:=hx
  by_cases hkn:k=ops.size-1
  .subst hkn
   obtain⟨_,oj,hoj,hall⟩:=mem_ready.1 hr
   obtain rfl:oj=o:=ay (hoj.symm.trans ho)
   have:=ahM (hall e he hb)
   rw[hun] at this
   cases this
  .have hkun:listed.getD k true=false:=by
    cases hl:listed.getD k true with
    | false=>rfl
    | true =>
     have:=ahM (hd k o ho hl e he hb)
     rw[hun] at this
     cases this
   exact aZy hf hd m k aC aC (by unfold alN;rw[ho];split;rename_i e _;obtain rfl:=ay e;rw[hlo];rfl;rfl) hkun hr
def aRE(ρ:Tk->Option Tk)(s:S)(d:Option Nat)(x:X):(s.put d x).tr ρ=(s.tr ρ).put d (x.tr some ρ):=by
 cases d with
 | none=>rfl
 | some d =>
  simp only[S.put,S.tr]
  congr 1
  funext j
  simp only[upd]
  split <;> rfl
theorem aAT(σ:Nat->Option Nat)(ρ:Tk->Option Tk):∀ (xs:List X) (i:Nat),(X.trs σ ρ xs)[i]?=(xs[i]?).map (X.tr σ ρ)
 | [],i=>by simp[X.trs]
 | x::r,0=>by simp[X.trs]
 | x::r,i+1=>by simpa [X.trs] using aAT σ ρ r i
def exX(i:Nat):X->Out
 | .tup xs=>bE (xs[i]?)
 | .of (.tup cs)=>bE ((cs[i]?).map .of)
 | _=>none
structure GoodF (F:X->X):Prop where
 ex:∀ i x y t,exX i x=some (y,t)->t=none/\exX i (F x)=some (F y,none)
 val:∀ v,F (aa5 v)=aa5 v
 fn:∀ f,F (.of (.fn f []))=.of (.fn f [])
 any:F (.of .any)=.of .any
 of:∀ c,F (.of c)=.of c
def as3:GoodF id where
 ex:=λi x y t h=>by
  unfold exX at h ⊢
  split at h
  .simp only[bE,ap,aY] at h
   obtain⟨a,ha,rfl,rfl⟩:=h
   exact⟨rfl,by simp[ha,bE]⟩
  .simp only[bE,ap,aY] at h
   obtain⟨a,⟨c,hc,rfl⟩,rfl,rfl⟩:=h
   exact⟨rfl,by simp[hc,bE]⟩
  .cases h
 val:=λ_=>rfl
 fn:=λ_=>rfl
 any:=rfl
 of:=λ_=>rfl
def as2(ρ:Tk->Option Tk):GoodF (X.tr some ρ) where
 ex:=λi x y t h=>by
  unfold exX at h
  split at h
  .simp only[bE,ap,aY] at h
   obtain⟨a,ha,rfl,rfl⟩:=h
   exact⟨rfl,by simp only[exX,X.tr,aAT,ha,aJ,bE]⟩
  .simp only[bE,ap,aY] at h
   obtain⟨a,⟨c,hc,rfl⟩,rfl,rfl⟩:=h
   exact⟨rfl,by simp only[exX,X.tr,hc,aJ,bE]⟩
  .cases h
 val:=λv=>by unfold aa5;split <;> rfl
 fn:=λ_=>rfl
 any:=rfl
 of:=λ_=>rfl
def auc(u:Tk):GoodF (X.drop u) where
 ex:=λi x y t h=>by
  unfold exX at h
  split at h
  .simp only[bE,ap,aY] at h
   obtain⟨a,ha,rfl,rfl⟩:=h
   exact⟨rfl,by simp[exX,X.drop,ab0,ha,bE]⟩
  .simp only[bE,ap,aY] at h
   obtain⟨a,⟨c,hc,rfl⟩,rfl,rfl⟩:=h
   exact⟨rfl,by simp[exX,X.drop,hc,bE]⟩
  .cases h
 val:=amA u
 fn:=λ_=>rfl
 any:=rfl
 of:=λ_=>rfl
theorem GoodF.ev{F:X->X}(h:GoodF F){s s1:S}(hf:∀ j,s1.fr j=F (s.fr j))(x:Operand):s1.ev x=F (s.ev x):=by
 cases x with
 | tmp t=>exact hf t
 | const v=>exact (h.val v).symm
 | func f=>exact (h.fn f).symm
 | global g=>exact h.any.symm
def av5(s:S)(d:Option Nat)(y:X)(dj:Option Nat)(s2:S)(F:X->X)(s1:S):Prop :=
 GoodF F/\s1.clk=s.clk/\(∀ x:Operand,(∀ q,dj=some q->x≠.tmp q)->s1.ev x=F (s.ev x))/\s2=s1.put d (F y)
def aCT{s:S}{d d':Option Nat}{n r off:Nat}{xs:List X}{y:X}{s2:S}(hd:∀ j,d=some j->d'≠some j)(h:afv (s.put d y) d' n r off xs=some s2) :
  ∃ F s1,afv s d' n r off xs=some s1/\av5 s d y d' s2 F s1:=by
 have ho:(s.put d y).objs=s.objs:=by cases d <;> rfl
 unfold afv at h ⊢
 rw[ho] at h
 cases hr:s.objs[r]? with
 | none=>rw[hr] at h;cases h
 | some ob =>
  rw[hr] at h
  cases ob with
  | map es=>cases h
  | row ty cs=>cases h
  | var ty ys =>
   simp only at h ⊢
   split at h
   rotate_left
   .cases h
   rename_i hc
   rw[au hc]
   simp only[ab] at h
   subst h
   unfold apY
   have e1:∀ z:X,({s.put d y with objs:=s.objs.set r (Ob.var ty (ys.take off++xs++ys.drop (off+xs.length)))}:S)=({s with objs:=s.objs.set r (Ob.var ty (ys.take off++xs++ys.drop (off+xs.length)))}:S).put d y:=λ_=>by cases d <;> rfl
   rw[e1 y]
   by_cases hn:(ace xs&&ace ((ys.drop off).take xs.length))=true
   .rw[au hn]
    refine⟨id,_,rfl,as3,by cases d' <;> rfl,λx hx=>?_,?_⟩
    .rw[aeW _ _ _ _ hx]
     cases x <;> rfl
    .rw[au hn]
     exact af4 _ _ _ hd
   .rw[ar hn]
    refine⟨X.tr some (aar r off xs.length (dN r off xs)),_,rfl,as2 _,by cases d' <;> rfl,λx hx=>?_,?_⟩
    .rw[aeW _ _ _ _ hx]
     exact (as2 _).ev (λj=>rfl) x
    .rw[ar hn,aRE]
     exact af4 _ _ _ hd
def aGl{P:Program}{T:TT}{E:En}{s s2:S}{d:Option Nat}{y:X}{ix:Nat}{o:Oper}(hst:cL o.op=true)(hop:∀ q,d=some q->∀ x∈o.op.operands.toList,x≠.tmp q)(hd1:∀ q,d=some q->o.dst≠some q)(hd2:∀ q,d=some q->dB o≠some q)
  (h:aaV P T E false (s.put d y) ix o=some (none,s2)):∃ F s1 dj,aaV P T E false s ix o=some (none,s1)/\(dj=o.dst\/dj=dB o)/\av5 s d y dj s2 F s1:=by
 obtain⟨di,op,tyi,pi,afi,gi⟩:=o
 unfold cL at hst
 split at hst
 rotate_left
 .cases hst
 rename_i t a v heq
 simp only at heq
 subst heq
 have ea:(s.put d y).ev a=s.ev a:=aeW _ _ _ _ (λq hq=>hop q hq a (by simp[Op.operands]))
 have ev':(s.put d y).ev v=s.ev v:=aeW _ _ _ _ (λq hq=>hop q hq v (by simp[Op.operands]))
 have hc:(s.put d y).clk=s.clk:=by cases d <;> rfl
 have key:eV P T E (s.put d y) ix ⟨di,.store t a v,tyi,pi,afi,gi⟩=some (none,s2)->∃ F s1 dj,eV P T E s ix ⟨di,.store t a v,tyi,pi,afi,gi⟩=some (none,s1)/\(dj=di\/dj=dB ⟨di,.store t a v,tyi,pi,afi,gi⟩)/\av5 s d y dj s2 F s1:=by
  intro h
  unfold eV at h ⊢
  have hv:val P T E (s.put d y) ix ⟨di,.store t a v,tyi,pi,afi,gi⟩=val P T E s ix ⟨di,.store t a v,tyi,pi,afi,gi⟩ :=
   atw P T E ix _ hc (by cases d <;> rfl) λx hx=>aeW _ _ _ _ (λq hq=>hop q hq x hx)
  rw[hv,hc] at h
  split at h
  rotate_left
  .cases h
  rename_i z tk hz
  split at h
  rotate_left
  .cases h
  rename_i hok
  simp only[bD,cM] at h
  subst h
  simp only[hok,am]
  cases tk with
  | none =>
   refine⟨id,_,_,rfl,.inr rfl,as3,by cases dB (⟨di,.store t a v,tyi,pi,afi,gi⟩ : Oper) <;> rfl,λx hx=>?_,?_⟩
   .rw[aeW _ _ _ _ hx];rfl
   .exact af4 _ _ _ hd2
  | some tk =>
   refine⟨X.drop tk,_,_,rfl,.inr rfl,auc tk,by cases dB (⟨di,.store t a v,tyi,pi,afi,gi⟩ : Oper) <;> rfl,λx hx=>?_,?_⟩
   .rw[aeW _ _ _ _ hx]
    exact da tk s x
   .rw[ah7]
    exact af4 _ _ _ hd2
 unfold aaV at h ⊢
 simp only[ah,av,ea,ev',hc] at h ⊢
 have old:(match T t,s.ev a,cn (s.ev v) with
   | some d',.ptr r off,some xs=>(afv (s.put d y) di d'.size r off xs).map λs=>(none,s)
   | _,_,_=>none)=some ((none:Option X),s2)->∃ F s1 dj,(match T t,s.ev a,cn (s.ev v) with
   | some d',.ptr r off,some xs=>(afv s di d'.size r off xs).map λs=>(none,s)
   | _,_,_=>none)=some ((none:Option X),s1)/\(dj=di\/dj=dB ⟨di,.store t a v,tyi,pi,afi,gi⟩)/\av5 s d y dj s2 F s1:=by
  intro h0
  split at h0
  rotate_left
  .cases h0
  rename_i d' r off xs e1 e2 e3
  simp only[ap,aY,cM] at h0
  obtain⟨s2',h0,e0⟩:=h0
  subst e0
  obtain⟨F,s1,g1,g2⟩:=aCT hd1 h0
  exact⟨F,s1,di,by simp only[g1,aJ],.inl rfl,g2⟩
 split at h
 .rename_i tk ty z hnw
  split at h
  rotate_left
  .rename_i hmt
   rw[ar hmt]
   exact key h
  rename_i hmt
  rw[au hmt]
  split at h
  rotate_left
  .cases h
  rename_i d' xs j e1 e2 e3
  split at h
  rotate_left
  .cases h
  rename_i hcc
  simp only[bD,cM] at h
  subst h
  rw[au hcc]
  refine⟨X.drop tk,_,some j,rfl,.inr (by rw[← e3]),auc tk,rfl,λx hx=>?_,?_⟩
  .unfold aoN
   rw[aeW _ _ _ _ hx]
   exact da tk s x
  .unfold aoN
   rw[ah7]
   have e4:∀ (A:List Ob) (z:X),({(s.drop (some tk)).put d z with objs:=A}:S)=({s.drop (some tk) with objs:=A}:S).put d z:=λA z=>by cases d <;> rfl
   have e5:((s.drop (some tk)).put d (y.drop tk)).objs=(s.drop (some tk)).objs:=by cases d <;> rfl
   rw[e5,e4]
   exact af4 _ _ _ (λq hq e=>hd2 q hq (by rw[e3,← e]))
 .exact old h
def aES{P:Program}{T:TT}{E:En}{ops:Array Oper}{s s1 s2:S}{i j:Nat}{oi oj:Oper}(hap:oi.apart ops oj=true)(hap2:∀ d,oi.dst=some d->dB oj≠some d)(hap3:∀ d,dB oj=some d->d∉oi.looksAt ops)(hl:aq2 oi=true)(hst:cL oj.op=true)(hg:oj.guard=none)
  (h1:bv P T E true ops s i oi=some (none,s1)) (h2:bv P T E false ops s1 j oj=some (none,s2)):∃ s',bv P T E false ops s j oj=some (none,s')/\bv P T E true ops s' i oi=some (none,s2):=by
 obtain⟨a1,a2,a3⟩:=Oper.apart_spec hap
 obtain⟨di,opi,tyi,pi,afi,gi⟩:=oi
 unfold aq2 at hl
 simp only at hl
 split at hl
 rotate_left
 .cases hl
 rename_i x k
 have hv:∀ s:S,bv P T E true ops s i ⟨di,.extract x k,tyi,pi,afi,none⟩=match exX k (s.ev x) with
   | some (y,t)=>if aae s.clk afi.toList t=true then some (none,(s.drop t).put di y) else none
   | none=>none:=λs=>by
  show eV P T E s i _=_
  unfold eV val
  simp only[exX]
  cases s.ev x with
  | of c=>cases c <;> rfl
  | _=>rfl
 rw[hv] at h1
 split at h1
 rotate_left
 .cases h1
 rename_i y tk he
 obtain⟨rfl,_⟩:=as3.ex _ _ _ _ he
 rw[au (show aae s.clk afi.toList none=true from rfl)] at h1
 simp only[S.drop,bD,cM] at h1
 subst h1
 have hgo:∀ s:S,bv P T E false ops s j oj=aaV P T E false s j oj:=λs=>by
  unfold bv dI
  rw[hg]
 rw[hgo] at h2 ⊢
 obtain⟨F,s',dj,g1,g2,g3,g4,g5,g6⟩:=aGl hst (λq hq z hz e=>a1 q hq (by
  unfold Oper.looksAt
  rw[br]
  exact .inl (List.mem_filterMap.2 ⟨z,hz,by rw[e]⟩))) a2 hap2 h2
 refine⟨s',g1,?_⟩
 have hx:∀ q,dj=some q->x≠.tmp q:=λq hq e=>by
  have hm:q∈(⟨di,.extract x k,tyi,pi,afi,none⟩ : Oper).looksAt ops:=by
   unfold Oper.looksAt
   rw[br]
   exact .inl (List.mem_filterMap.2 ⟨x,by simp[Op.operands],by rw[e]⟩)
  rcases g2 with rfl|rfl
  .exact a3 q hq hm
  .exact hap3 q hq hm
 rw[hv,g5 x hx]
 obtain⟨_,q2⟩:=g3.ex _ _ _ _ he
 simp only[q2]
 rw[au (show aae s'.clk afi.toList none=true from rfl),g6]
 rfl
def aA2{ops:Array Oper}(hS:aj0 ops=true){i:Nat}{o:Oper}(hi:ops[i]?=some o)(hin:i+1<ops.size)(hst:cL o.op=true):afe ops i=true:=by
 have:=List.all_eq_true.1 hS i (List.mem_range.2 aC)
 simp only[hi,hst,cX,eG,bk,aj,dm] at this
 rcases this with h|h
 .omega
 .exact h
def amk{ops:Array Oper}(hS:aj0 ops=true)(hst:aaU ops.toList=false)(i:Nat)(o:Oper)(hi:ops[i]?=some o)(h:cL o.op=true):afe ops i=true:=by
 have his:i<ops.size:=(Array.getElem?_eq_some_iff.1 hi).1
 have:=List.all_eq_true.1 hS i (List.mem_range.2 his)
 simp only[hi,h,hst] at this
 simpa using this
theorem atE:∀ (l:List Oper) (o:Oper),aaU l=true->l[l.length-1]?=some o->cL o.op=true/\o.guard=none
 | [],o,h,_=>by cases h
 | [a],o,h,e=>by
  simp only[abf,bK,acp,dg,ab] at e
  subst e
  simpa [aaU] using h
 | a::b::l,o,h,e=>atE (b::l) o h (by simpa using e)
section
variable {P:Program} {T:TT} {E:En} {ops:Array Oper} {Q:S->Prop}
theorem aFB(hf:anS ops=true)(hS:aj0 ops=true)(hst:aaU ops.toList=true){i:Nat}{oi:Oper}(hi:ops[i]?=some oi)(hin:i+1<ops.size):∀ (fuel:Nat) (listed:Array Bool) (s s1:S),Dc ops listed ->
  (∀ (j:Nat) (oj:Oper),ops[j]?=some oj->j≠i->listed.getD j true=false->(∀ e∈oj.after,Region.binds .any e=true->e.on≠i)->oi.apart ops oj=true) ->
  i∈Region.ready .any ops listed->bv P T E true ops s i oi=some (none,s1)->aNA P T E ops Q fuel (listed.setIfInBounds i true) s1->aNA P T E ops Q (fuel+1) listed s:=by
 have hD:Dm 1 ops i=true:=dM hin
 intro fuel
 induction fuel with
 | zero =>
  intro listed s s1 _ _ hr hs H
  refine⟨λh=>(by rw[h] at hr;cases hr),λj hj=>?_⟩
  by_cases hji:j=i
  .subst hji;exact⟨oi,s1,hi,by rw[hD];exact hs,H⟩
  .have:=ready_mono hj hji
   rw[H.1] at this
   cases this
 | succ fuel ih =>
  intro listed s s1 hdc hfree hr hs H
  refine⟨λh=>(by rw[h] at hr;cases hr),λj hj=>?_⟩
  by_cases hji:j=i
  .subst hji;exact⟨oi,s1,hi,by rw[hD];exact hs,H⟩
  .obtain⟨oj,s2,hoj,hs2,H2⟩:=H.2 j (ready_mono hj hji)
   have hjun:=(mem_ready.1 hj).1
   have hiun:=(mem_ready.1 hr).1
   have hjs:j<ops.size:=(Array.getElem?_eq_some_iff.1 hoj).1
   have hji':=aaF hj hoj hiun
   have hij':=aaF hr hi hjun
   obtain⟨s',g1,g2⟩ : ∃ s',bv P T E (Dm 1 ops j) ops s j oj=some (none,s')/\bv P T E true ops s' i oi=some (none,s2):=by
    rcases aA (j+1) ops.size with g|g
    .have hDj:Dm 1 ops j=true:=dM g
     rw[hDj] at hs2 ⊢
     exact aym (aim hi hoj (bo hji) hij' hji' (hfree j oj hoj hji hjun hji') (aA2 hS hi hin) (aA2 hS hoj g)) hij' hji' hs hs2
    .have hDj:Dm 1 ops j=false:=bd aC
     rw[hDj] at hs2 ⊢
     obtain rfl:j=ops.size-1:=by omega
     cases hlo:alN ops i with
     | false=>exact absurd hj (aZy hf hdc _ i (ae _) hin hlo hiun)
     | true =>
      unfold alN at hlo
      rw[hi,hoj] at hlo
      simp only[aj] at hlo
      obtain⟨hlo,hlo2⟩:=hlo
      obtain⟨q1,q2⟩:=atE ops.toList oj hst (by simpa using hoj)
      have h3:∀ d,dB oj=some d->d∉oi.looksAt ops/\oi.dst≠some d:=λd hd=>by
       rw[hd] at hlo2
       simp only[aj,cV,ado,fR] at hlo2
       refine⟨λhm=>?_,hlo2.2⟩
       have:(oi.looksAt ops).contains d=true:=by simpa using hm
       rw[this] at hlo2
       cases hlo2.1
      exact aES (hfree _ oj hoj hji hjun hji') (λd hd e=>(h3 d e).2 hd) (λd hd=>(h3 d hd).1) hlo q1 q2 hs hs2
   refine⟨oj,s',hoj,g1,ih (listed.setIfInBounds j true) s' s2 (hdc.set hj) (λk ok hk hki hun hno=>?_) (ready_mono hr (bo hji)) g2 (by rw[eC _ _ hji];exact H2)⟩
   refine hfree k ok hk hki ?_ hno
   by_cases hjk:j=k
   .subst hjk;exact hjun
   .rw[getD_set_ne true hjk] at hun;exact hun
theorem ayO(hf:anS ops=true)(hS:aj0 ops=true)(hst:aaU ops.toList=true):∀ (l:List Oper) (n:Nat) (listed:Array Bool) (s s':S) (q:Option X),n+l.length=ops.size->(∀ j,l[j]?=ops[n+j]?)->Dc ops listed->Region.lexFrom .any ops l.length n listed=true ->
  ach P T E ops n l s=some (q,s')->Q s'->q=none/\aNA P T E ops Q l.length listed s
 | [],n,listed,s,s',q,_,_,_,_,h,_=>by simp[ach] at h
 | [o],n,listed,s,s',q,hn,hl,hdc,hB,h,hQ=>by
  have h0:ops[n]?=some o:=by simpa using (hl 0).symm
  simp only[abf,Region.lexFrom,aj] at hB
  obtain⟨⟨hr,hfr⟩,hB'⟩:=hB
  have hr':n∈Region.ready .any ops listed:=by simpa using hr
  have he:Region.ready .any ops (listed.setIfInBounds n true)=[]:=by simpa using hB'
  have hD:Dm 1 ops n=false:=bd (by simp at hn;omega)
  simp only[ach] at h
  split at h
  .rename_i s2 h1
   simp only[bD] at h
   obtain⟨rfl,rfl⟩:=h
   refine⟨rfl,λh=>(by rw[h] at hr';cases hr'),λj hj=>?_⟩
   by_cases hji:j=n
   .subst hji;exact⟨o,s2,h0,by rw[hD];exact h1,he,hQ⟩
   .have:=ready_mono hj hji
    rw[he] at this
    cases this
  .cases h
 | o::o'::l,n,listed,s,s',q,hn,hl,hdc,hB,h,hQ=>by
  have h0:ops[n]?=some o:=by simpa using (hl 0).symm
  simp only[aN] at hB hn
  unfold Region.lexFrom at hB
  simp only[aj] at hB
  obtain⟨⟨hr,hfr⟩,hB'⟩:=hB
  have hr':n∈Region.ready .any ops listed:=by simpa using hr
  simp only[ach] at h
  split at h
  .rename_i s1 h1
   obtain⟨e1,e2⟩:=ayO hf hS hst (o'::l) (n+1) _ s1 s' q (by simp only[aN];omega) (λj=>by have:=hl (j+1);simpa [bA,ey 1 j] using this) (hdc.set hr') hB' h hQ
   exact⟨e1,aFB hf hS hst h0 aC _ listed s s1 hdc (Region.free_spec h0 hfr) hr' h1 e2⟩
  .cases h
end
def ldX(T:TT)(t:Nat):X->Out
 | .of (.ref cs)=>bE ((bi T t cs).map .of)
 | _=>none
def aIx{P:Program}{T:TT}{E:En}{ops:Array Oper}{s s1 s2:S}{i j:Nat}{oi oj:Oper}(hap:oi.apart ops oj=true)(hap2:∀ d,oi.dst=some d->dB oj≠some d)(hap3:∀ d,dB oj=some d->d∉oi.looksAt ops)(hl:opK oi.op=4)(hgi:oi.guard=none)(hfz:ae4 s oi=true)(hst:cL oj.op=true)(hg:oj.guard=none)
  (h1:bv P T E true ops s i oi=some (none,s1)) (h2:bv P T E false ops s1 j oj=some (none,s2)):∃ s',bv P T E false ops s j oj=some (none,s')/\bv P T E true ops s' i oi=some (none,s2)/\ae4 s' oi=true:=by
 obtain⟨a1,a2,a3⟩:=Oper.apart_spec hap
 obtain⟨di,opi,tyi,pi,afi,gi⟩:=oi
 simp only at hgi
 subst hgi
 unfold opK at hl
 simp only at hl
 split at hl <;> first|cases hl|skip
 rename_i t x
 have hfz:∃ cs,s.ev x=.of (.ref cs):=by
  simp only[ae4,opK,aEc] at hfz
  cases e:s.ev x with
  | of c=>cases c with
   | ref cs=>exact⟨cs,rfl⟩
   | _=>rw[e] at hfz;cases hfz
  | _=>rw[e] at hfz;cases hfz
 obtain⟨cs,hcs⟩:=hfz
 have hv:∀ s:S,s.ev x=.of (.ref cs)->bv P T E true ops s i ⟨di,.load t x,tyi,pi,afi,none⟩=match ldX T t (.of (.ref cs)) with
   | some (y,t)=>if aae s.clk afi.toList t=true then some (none,(s.drop t).put di y) else none
   | none=>none:=λs e=>by
  show eV P T E s i _=_
  unfold eV val
  simp only[abk,e,ldX]
  rfl
 rw[hv s hcs] at h1
 split at h1
 rotate_left
 .cases h1
 rename_i y tk he
 obtain⟨c,rfl,rfl⟩ : ∃ c,y=.of c/\tk=none:=by
  simp only[ldX,bE,ap,aY] at he
  obtain⟨a,⟨c,_,rfl⟩,rfl,rfl⟩:=he
  exact⟨c,rfl,rfl⟩
 rw[au (show aae s.clk afi.toList none=true from rfl)] at h1
 simp only[S.drop,bD,cM] at h1
 subst h1
 have hgo:∀ s:S,bv P T E false ops s j oj=aaV P T E false s j oj:=λs=>by
  unfold bv dI
  rw[hg]
 rw[hgo] at h2 ⊢
 obtain⟨F,s',dj,g1,g2,g3,g4,g5,g6⟩:=aGl hst (λq hq z hz e=>a1 q hq (by
  unfold Oper.looksAt
  rw[br]
  exact .inl (List.mem_filterMap.2 ⟨z,hz,by rw[e]⟩))) a2 hap2 h2
 have hx:∀ q,dj=some q->x≠.tmp q:=λq hq e=>by
  have hm:q∈(⟨di,.load t x,tyi,pi,afi,none⟩ : Oper).looksAt ops:=by
   unfold Oper.looksAt
   rw[br]
   exact .inl (List.mem_filterMap.2 ⟨x,by simp[Op.operands],by rw[e]⟩)
  rcases g2 with rfl|rfl
  .exact a3 q hq hm
  .exact hap3 q hq hm
 have hcs':s'.ev x=.of (.ref cs):=by rw[g5 x hx,hcs,g3.of]
 refine⟨s',g1,?_,?_⟩
 .rw[hv s' hcs',he]
  simp only
  rw[au (show aae s'.clk afi.toList none=true from rfl),g6,g3.of]
  rfl
 .simp only[ae4,opK,aEc,hcs']
  rfl
def az0{P:Program}{T:TT}{E:En}{ops:Array Oper}{s s':S}{j:Nat}{oi oj:Oper}(hap:∀ d,dB oj=some d->d∉oi.looksAt ops)(hfz:ae4 s oi=true)(h:bv P T E true ops s j oj=some (none,s')):ae4 s' oi=true:=by
 obtain⟨_,x,e,_,rfl⟩:=aew h
 obtain⟨di,opi,tyi,pi,afi,gi⟩:=oi
 unfold ae4 at *
 simp only at *
 cases h4:(opK opi == 4) with
 | false=>rfl
 | true =>
  rw[h4] at hfz
  have hl:opK opi=4:=by simpa using h4
  unfold opK at hl
  split at hl <;> first|cases hl|skip
  rename_i t a
  simp only[cX,eG,aEc] at hfz ⊢
  have e1:((s.drop e).put (dB oj) x).ev a=(s.drop e).ev a:=aeW _ _ _ _ λq hq hx=>hap q hq (by
   unfold Oper.looksAt
   rw[br]
   exact .inl (List.mem_filterMap.2 ⟨a,by simp[Op.operands],by rw[hx]⟩))
  rw[e1]
  cases ha:s.ev a with
  | of c =>
   rw[ha] at hfz
   have e2:(s.drop e).ev a=.of c:=by
    cases e with
    | none=>exact ha
    | some t=>rw[da,ha];rfl
   rw[e2]
   exact hfz
  | _=>rw[ha] at hfz;cases hfz
def amc{ops:Array Oper}{k j:Nat}(h:als ops k j=true){listed:Array Bool}(hun:listed.getD j true=false):k∉Region.ready .any ops listed:=λhr=>by
 unfold als at h
 split at h
 rotate_left
 .cases h
 rename_i o ho
 simp only[abu,aj,dm] at h
 obtain⟨e,he,hb,rfl⟩:=h
 exact aaF hr ho hun e he hb rfl
def aRz(l:List Oper)(h:tlB l=true):2<=l.length/\∀ o,l[l.length-2]?=some o->cL o.op=true/\o.guard=none:=by
 have key:∀ (l:List Oper) (d:Nat),akJ l=some d->2<=l.length/\∀ o,l[l.length-2]?=some o->cL o.op=true/\o.guard=none:=by
  intro l
  induction l with
  | nil=>intro d h;cases h
  | cons a l ih =>
   intro d h
   cases l with
   | nil=>cases h
   | cons b l =>
    cases l with
    | nil =>
     simp only[akJ] at h
     split at h
     .rename_i hc
      simp only[aj] at hc
      refine⟨by simp,λo ho=>?_⟩
      simp only[abf,bK,Nat.reduceAdd,acp,dg,ab] at ho
      subst ho
      exact⟨hc.1.1,by simpa using hc.1.2⟩
     .cases h
    | cons c l =>
     obtain⟨h1,h2⟩:=ih d h
     refine⟨by simp,λo ho=>h2 o ?_⟩
     have e:(a::b::c::l).length-2=((b::c::l).length-2)+1:=by
      simp only[aN]
      omega
     rw[e,eL] at ho
     exact ho
 unfold tlB tlM at h
 split at h
 .rename_i d hd
  exact key l d hd
 .cases h
section
variable {P:Program} {T:TT} {E:En} {ops:Array Oper} {Q:S->Prop}
theorem apD(ht:ajZ ops=true){i:Nat}(hin:i+2<ops.size):(∀ o,ops[i]?=some o->cL o.op=false)/\(als ops (ops.size-2) i=true\/axB ops i (ops.size-2)=true):=by
 unfold ajZ at ht
 rw[aj] at ht
 have h1:=List.all_eq_true.1 ht.1 i (List.mem_range.2 aC)
 rw[aj,bk] at h1
 refine⟨λo ho=>?_,h1.2⟩
 have:=h1.1
 rw[ho] at this
 simpa using this
theorem atz(ht:ajZ ops=true){j:Nat}(hin:j+1<ops.size):als ops (ops.size-1) j=true:=by
 unfold ajZ at ht
 rw[aj] at ht
 exact List.all_eq_true.1 ht.2 j (List.mem_range.2 aC)
theorem aFy(ht:ajZ ops=true)(hst:2<=ops.toList.length/\∀ o,ops.toList[ops.toList.length-2]?=some o->cL o.op=true/\o.guard=none){i:Nat}{oi:Oper}(hi:ops[i]?=some oi)(hin:i+2<ops.size):∀ (fuel:Nat) (listed:Array Bool) (s s1:S),Dc ops listed ->
  (∀ (j:Nat) (oj:Oper),ops[j]?=some oj->j≠i->listed.getD j true=false->(∀ e∈oj.after,Region.binds .any e=true->e.on≠i)->oi.apart ops oj=true) ->
  i∈Region.ready .any ops listed->ae4 s oi=true->bv P T E true ops s i oi=some (none,s1)->atg 2 P T E ops Q fuel (listed.setIfInBounds i true) s1->atg 2 P T E ops Q (fuel+1) listed s:=by
 have hD:Dm 2 ops i=true:=dM hin
 intro fuel
 induction fuel with
 | zero =>
  intro listed s s1 _ _ hr hfz hs H
  refine⟨λh=>(by rw[h] at hr;cases hr),λj hj=>?_⟩
  by_cases hji:j=i
  .subst hji;exact⟨oi,s1,hi,by rw[hD];exact hs,H⟩
  .have:=ready_mono hj hji
   rw[H.1] at this
   cases this
 | succ fuel ih =>
  intro listed s s1 hdc hfree hr hfz hs H
  refine⟨λh=>(by rw[h] at hr;cases hr),λj hj=>?_⟩
  by_cases hji:j=i
  .subst hji;exact⟨oi,s1,hi,by rw[hD];exact hs,H⟩
  .obtain⟨oj,s2,hoj,hs2,H2⟩:=H.2 j (ready_mono hj hji)
   have hjun:=(mem_ready.1 hj).1
   have hiun:=(mem_ready.1 hr).1
   have hjs:j<ops.size:=(Array.getElem?_eq_some_iff.1 hoj).1
   have hji':=aaF hj hoj hiun
   have hij':=aaF hr hi hjun
   have hiS:=(apD ht hin).1 oi hi
   obtain⟨s',g1,g2,g3⟩ : ∃ s',bv P T E (Dm 2 ops j) ops s j oj=some (none,s')/\bv P T E true ops s' i oi=some (none,s2)/\ae4 s' oi=true:=by
    rcases aA (j+2) ops.size with g|g
    .have hDj:Dm 2 ops j=true:=dM g
     rw[hDj] at hs2 ⊢
     have hjS:=(apD ht g).1 oj hoj
     have hap:=aim hi hoj (bo hji) hij' hji' (hfree j oj hoj hji hjun hji') (λh=>by rw[hiS] at h;cases h) (λh=>by rw[hjS] at h;cases h)
     obtain⟨s',g1,g2⟩:=aym hap hij' hji' hs hs2
     exact⟨s',g1,g2,az0 hap.2.2 hfz g1⟩
    .rcases aA (j+1) ops.size with g'|g'
     .have hDj:Dm 2 ops j=false:=bd aC
      rw[hDj] at hs2 ⊢
      obtain rfl:j=ops.size-2:=by omega
      rcases (apD ht hin).2 with hw|hlo
      .exact absurd hj (amc hw hiun)
      .unfold axB at hlo
       rw[hi,hoj] at hlo
       simp only[aj,dm] at hlo
       obtain⟨⟨hlo,hgi⟩,hlo2⟩:=hlo
       obtain⟨q1,q2⟩:=hst.2 oj (by simpa using hoj)
       have h3:∀ d,dB oj=some d->d∉oi.looksAt ops/\oi.dst≠some d:=λd hd=>by
        rw[hd] at hlo2
        simp only[aj,cV,ado,fR] at hlo2
        refine⟨λhm=>?_,hlo2.2⟩
        have:(oi.looksAt ops).contains d=true:=by simpa using hm
        rw[this] at hlo2
        cases hlo2.1
       exact aIx (hfree _ oj hoj hji hjun hji') (λd hd e=>(h3 d e).2 hd) (λd hd=>(h3 d hd).1) hlo (by simpa using hgi) hfz q1 q2 hs hs2
     .obtain rfl:j=ops.size-1:=by omega
      exact absurd hj (amc (atz ht aC) hiun)
   refine⟨oj,s',hoj,g1,ih (listed.setIfInBounds j true) s' s2 (hdc.set hj) (λk ok hk hki hun hno=>?_) (ready_mono hr (bo hji)) g3 g2 (by rw[eC _ _ hji];exact H2)⟩
   refine hfree k ok hk hki ?_ hno
   by_cases hjk:j=k
   .subst hjk;exact hjun
   .rw[getD_set_ne true hjk] at hun;exact hun
theorem ayK(ht:ajZ ops=true)(hst:2<=ops.toList.length/\∀ o,ops.toList[ops.toList.length-2]?=some o->cL o.op=true/\o.guard=none):∀ (l:List Oper) (n:Nat) (listed:Array Bool) (s s':S) (q:Option X),n+l.length=ops.size->(∀ j,l[j]?=ops[n+j]?)->Dc ops listed->Region.lexFrom .any ops l.length n listed=true ->
  ahN P T E ops n l s=some (q,s')->Q s'->q=none/\atg 2 P T E ops Q l.length listed s
 | [],n,listed,s,s',q,_,_,_,_,h,_=>by simp[ahN] at h
 | [o],n,listed,s,s',q,hn,hl,hdc,hB,h,hQ=>by simp[ahN] at h
 | [o,o'],n,listed,s,s',q,hn,hl,hdc,hB,h,hQ=>by
  have h0:ops[n]?=some o:=by simpa using (hl 0).symm
  have h0':ops[n+1]?=some o':=by simpa using (hl 1).symm
  simp only[abf] at hn
  simp only[abf,Region.lexFrom,aj] at hB
  obtain⟨⟨hr,hfr⟩,⟨hr2,hfr2⟩,hB'⟩:=hB
  have hr':n∈Region.ready .any ops listed:=by simpa using hr
  have hr2':n+1∈Region.ready .any ops (listed.setIfInBounds n true):=by simpa using hr2
  have he:Region.ready .any ops ((listed.setIfInBounds n true).setIfInBounds (n+1) true)=[]:=by simpa using hB'
  have hD:Dm 2 ops n=false:=bd aC
  have hD':Dm 2 ops (n+1)=false:=bd aC
  have hun:=(mem_ready.1 hr').1
  simp only[ahN] at h
  split at h
  rotate_left
  .cases h
  rename_i s1 h1
  split at h
  rotate_left
  .cases h
  rename_i s2 h2
  simp only[bD] at h
  obtain⟨rfl,rfl⟩:=h
  have hn1:n+1=ops.size-1:=by omega
  refine⟨rfl,λh=>(by rw[h] at hr';cases hr'),λj hj=>?_⟩
  have hjn:j=n:=by
   by_cases hji:j=n
   .exact hji
   .exfalso
    have g1:=ready_mono hj hji
    by_cases hj1:j=n+1
    .subst hj1
     rw[hn1] at hj
     exact amc (atz ht aC) hun hj
    .have:=ready_mono g1 hj1
     rw[he] at this
     cases this
  subst hjn
  refine⟨o,s1,h0,by rw[hD];exact h1,λh=>(by rw[h] at hr2';cases hr2'),λk hk=>?_⟩
  have hkn:k=j+1:=by
   by_cases hki:k=j+1
   .exact hki
   .have:=ready_mono hk hki
    rw[he] at this
    cases this
  subst hkn
  exact⟨o',s2,h0',by rw[hD'];exact h2,he,hQ⟩
 | o::o'::o''::l,n,listed,s,s',q,hn,hl,hdc,hB,h,hQ=>by
  have h0:ops[n]?=some o:=by simpa using (hl 0).symm
  simp only[aN] at hB hn
  unfold Region.lexFrom at hB
  simp only[aj] at hB
  obtain⟨⟨hr,hfr⟩,hB'⟩:=hB
  have hr':n∈Region.ready .any ops listed:=by simpa using hr
  simp only[ahN] at h
  split at h
  rotate_left
  .cases h
  rename_i hfz
  split at h
  .rename_i s1 h1
   obtain⟨e1,e2⟩:=ayK ht hst (o'::o''::l) (n+1) _ s1 s' q (by simp only[aN];omega) (λj=>by have:=hl (j+1);simpa [bA,ey 1 j] using this) (hdc.set hr') hB' h hQ
   exact⟨e1,aFy ht hst h0 aC _ listed s s1 hdc (Region.free_spec h0 hfr) hr' hfz h1 e2⟩
  .cases h
end
section
variable {P:Program} {M0:Base} {w0:World} {N:Nat} {ds:List Deferred}
theorem am0{m:Nat}{E:En}(horc:EnSound P M0.G E){ops:Array Oper}(hdst:∀ (j:Nat) (o:Oper),ops[j]?=some o->abZ N o=true){Q:Exit->Act->World->Prop}{Qs:S->Prop}{k0:Know}
  (hQ:∀ s' tmps' w' k' ow' done',k0.le k'->Qs s'->Sim M0 k' ow' done' w0 w' N s' tmps'->Q .normal ⟨tmps',ds⟩ w'):∀ (fuel:Nat) (listed:Array Bool) (s:S) (w:World) (tmps:Array Value) (k:Know) (ow:Own),
  k0.le k->Sim M0 k ow (λj=>listed.getD j true=true) w0 w N s tmps->atg m P (TT.of P) E ops Qs fuel listed s->wpAny P .any ops Q fuel listed ⟨tmps,ds⟩ w
 | 0,listed,s,w,tmps,k,ow,hk,hs,h=>⟨h.1,hQ s tmps w k ow _ hk h.2 hs⟩
 | fuel+1,listed,s,w,tmps,k,ow,hk,hs,h=>by
  refine⟨λh0=>hQ s tmps w k ow _ hk (h.1 h0) hs,λi hi=>?_⟩
  obtain⟨o,s',ho,hst,H⟩:=h.2 i hi
  have hun:=(mem_ready.1 hi).1
  refine aao hs horc (by rw[hun];simp) ho (hdst i o ho) hst (λ_ tmps' w' k' ow' g1 g2=>?_) (λx hx=>by cases hx)
  refine am0 horc hdst hQ fuel _ s' w' tmps' k' ow' (Know.le_trans hk g1) (g2.more λj hj=>?_) H
  rcases hj with hj|rfl
  .by_cases hij:i=j
   .subst hij;rw[hun] at hj;cases hj
   .rw[getD_set_ne true hij];exact hj
  .rcases aA j listed.size with g|g
   .simp[g]
   .simp[g]
end
def ald{obj:Nat->Bool}{o:Op}(h:acM obj o=true):acM (λ_=>true) o=true:=by
 unfold acM at h ⊢
 split at h
 .rfl
 .cases h
def aX8{obj:Nat->Bool}{o:Op}(h:opK o=2):acM obj o=false:=by
 cases o <;> first|rfl|cases h
theorem ang{obj:Nat->Bool}:∀ l:List Oper,acw obj l≠0->acw (λ_=>true) l=acw obj l
 | [],h=>absurd rfl h
 | [o],h=>by
  unfold acw at h ⊢
  by_cases hc:(acM obj o.op&&o.guard.isNone)=true
  .rw[au hc]
   rw[aj] at hc
   rw[au (by rw[ald hc.1,hc.2];rfl)]
  .rw[ar hc] at h;exact absurd rfl h
 | [o,o'],h=>by
  unfold acw at h ⊢
  by_cases hc:(acM obj o'.op&&o'.guard.isNone)=true
  .rw[au hc]
   rw[aj] at hc
   rw[au (by rw[ald hc.1,hc.2];rfl)]
  .rw[ar hc] at h ⊢
   by_cases h2:(acM obj o.op&&o.guard.isNone&&(opK o'.op == 2&&o'.guard.isNone))=true
   .rw[au h2]
    simp only[aj,dm] at h2
    rw[ar (by rw[aX8 h2.2.1];simp),au (by simp[ald h2.1.1,h2.1.2,h2.2.1,h2.2.2])]
   .rw[ar h2] at h;exact absurd rfl h
 | _::o::o'::l,h=>ang (o::o'::l) h
theorem awA(obj:Nat->Bool):∀ l:List Oper,acw obj l≠0->aaU l=false
 | [],h=>rfl
 | [o],h=>by
  unfold acw at h
  split at h
  .rename_i hc
   rw[aj] at hc
   unfold aaU
   have:cL o.op=false:=by
    have h1:=hc.1
    unfold acM at h1
    split at h1
    .rename_i e;rw[e];rfl
    .cases h1
   rw[this];rfl
  .exact absurd rfl h
 | [o,o'],h=>by
  unfold acw at h
  show aaU [o']=false
  unfold aaU
  have key:cL o'.op=false:=by
   split at h
   .rename_i hc
    rw[aj] at hc
    have h1:=hc.1
    unfold acM at h1
    split at h1
    .rename_i e;rw[e];rfl
    .cases h1
   .split at h
    .rename_i hc
     simp only[aj,dm] at hc
     have h1:=hc.2.1
     generalize o'.op=q at h1
     cases q <;> first|rfl|cases h1
    .exact absurd rfl h
  rw[key];rfl
 | _::o::o'::l,h=>awA obj (o::o'::l) h
theorem atv{ops:Array Oper}{i:Nat}{listed:Array Bool}(hd:Dc ops listed):∀ (f j:Nat),wB ops i f j=true->listed.getD j false=true->listed.getD i true=true
 | 0,j,h,_=>by cases h
 | f+1,j,h,hl=>by
  unfold wB at h
  split at h
  rotate_left
  .cases h
  rename_i o ho
  simp only[abu,aj,bk,dm] at h
  obtain⟨e,he,hb,hc⟩:=h
  have hle:=hd j o ho (ahM hl) e he hb
  rcases hc with rfl|hc
  .exact ahM hle
  .exact atv hd f e.on hc hle
def ahp{ops:Array Oper}{i:Nat}{listed:Array Bool}(hd:Dc ops listed)(hun:listed.getD i true=false){f j:Nat}(h:wB ops i f j=true):j∉Region.ready .any ops listed:=λhr=>by
 cases f with
 | zero=>cases h
 | succ f =>
  unfold wB at h
  split at h
  rotate_left
  .cases h
  rename_i o ho
  simp only[abu,aj,bk,dm] at h
  obtain⟨e,he,hb,hc⟩:=h
  obtain⟨_,oj,hoj,hall⟩:=mem_ready.1 hr
  obtain rfl:oj=o:=ay (hoj.symm.trans ho)
  have hle:=hall e he hb
  rcases hc with rfl|hc
  .rw[ahM hle] at hun;cases hun
  .rw[atv hd f e.on hc hle] at hun;cases hun
def ax1{ops:Array Oper}{n:Nat}(hF:ap8 ops n=true){i t:Nat}(hit:i<t)(ht:t<ops.size)(hn:ops.size<=t+n):wB ops i ops.size t=true:=by
 have:=List.all_eq_true.1 hF t (List.mem_range.2 ht)
 simp only[bk,aV] at this
 rcases this with h|h
 .omega
 .exact List.all_eq_true.1 h i (List.mem_range.2 hit)
def aSY{ops:Array Oper}(hL:aq3 ops=true){m j:Nat}{om oj:Oper}(hm:ops[m]?=some om)(hj:ops[j]?=some oj)(h0:aD1 om.op=true)(h1:ap1 oj.op=true):wB ops m ops.size j=true:=by
 have:=List.all_eq_true.1 hL m (List.mem_range.2 (Array.getElem?_eq_some_iff.1 hm).1)
 simp only[opP,hm,h0,cX,eG] at this
 have:=List.all_eq_true.1 this j (List.mem_range.2 (Array.getElem?_eq_some_iff.1 hj).1)
 simpa only [hj,h1,cX,eG] using this
def a5n{obj:Nat->Bool}{o:Op}(h:aem obj o=true):aD1 o=true:=by
 unfold aem at h
 split at h
 .rw[aj] at h;exact h.1
 .cases h
def agV{q:Option (Option X×S)}{s:S}(h:okS q=some s):q=some (none,s):=by
 unfold okS at h
 split at h
 .cases h;rfl
 .cases h
def aJy{P:Program}{T:TT}{E:En}{s:S}{ix:Nat}{o:Oper}{es:List (Value×C)}{y:X×Option Tk}(hno:ap1 o.op=false)(h:val P T E {s with objs:=s.objs++[Ob.map es]} ix o=some y):val P T E s ix o=some y:=by
 cases hop:o.op with
 | load t a =>
  simp only[val,hop] at h ⊢
  have e:({s with objs:=s.objs++[Ob.map es]}:S).ev a=s.ev a:=rfl
  rw[e] at h
  cases ha:s.ev a with
  | ptr r off =>
   rw[ha] at h
   simp only[abk] at h ⊢
   rcases acP r s.objs.length with hr|hr|hr
   .rw[aZ hr] at h;exact h
   .subst hr;rw[bJ (ae _),acp] at h;cases h
   .rw[aX (by simp;omega)] at h;cases h
  | of c=>rw[ha] at h;cases c <;> exact h
  | _=>rw[ha] at h;exact h
 | lookup t x i ok=>rw[hop] at hno;cases hno
 | makeFunc f a b =>
  simp only[val,hop] at h ⊢
  cases f <;> exact h
 | slice t x lo hi mx =>
  simp only[val,hop] at h ⊢
  cases mx <;> exact h
 | store t a x =>
  simp only[val,hop] at h ⊢
  cases a <;> exact h
 | _ =>
  simp only[val,hop] at h ⊢
  exact h
def aJw{P:Program}{T:TT}{E:En}{s:S}{ix:Nat}{o:Oper}{ob:Ob}{y:X×Option Tk}(h:val P T E s ix o=some y):val P T E {s with objs:=s.objs++[ob]} ix o=some y:=by
 cases hop:o.op with
 | load t a =>
  simp only[val,hop] at h ⊢
  have e:({s with objs:=s.objs++[ob]}:S).ev a=s.ev a:=rfl
  rw[e]
  cases ha:s.ev a with
  | ptr r off =>
   rw[ha] at h
   simp only[abk] at h ⊢
   rcases aA r s.objs.length with hr|hr
   .rw[aZ hr];exact h
   .rw[aX hr] at h;cases h
  | of c=>rw[ha] at h;cases c <;> exact h
  | _=>rw[ha] at h;exact h
 | lookup t x i ok =>
  simp only[val,hop] at h ⊢
  have e:({s with objs:=s.objs++[ob]}:S).ev x=s.ev x:=rfl
  have e2:({s with objs:=s.objs++[ob]}:S).ev i=s.ev i:=rfl
  rw[e,e2]
  unfold aei at h ⊢
  cases hx:s.ev x with
  | mp r =>
   rw[hx] at h
   simp only[agE] at h ⊢
   rcases aA r s.objs.length with hr|hr
   .rw[aZ hr];exact h
   .rw[aX hr] at h
    split at h
    .rename_i e;cases e
    .cases h
  | of c =>
   rw[hx] at h
   cases c with
   | lit v =>
    cases v with
    | map p=>cases p <;> exact h
    | _=>exact h
   | _=>exact h
  | _=>rw[hx] at h;exact h
 | makeFunc f a b =>
  simp only[val,hop] at h ⊢
  cases f <;> exact h
 | slice t x lo hi mx =>
  simp only[val,hop] at h ⊢
  cases mx <;> exact h
 | store t a x =>
  simp only[val,hop] at h ⊢
  cases a <;> exact h
 | _ =>
  simp only[val,hop] at h ⊢
  exact h
def a0S{P:Program}{T:TT}{E:En}{ops:Array Oper}{s:S}{ix:Nat}{o:Oper}{es:List (Value×C)}{x:X}{e:Option Tk}(hno:ap1 o.op=false)(h:Y P T E ops {s with objs:=s.objs++[Ob.map es]} ix o x e):Y P T E ops s ix o x e:=by
 rcases h with ⟨h1,h2,h3⟩|⟨h1,h2,h3⟩
 .exact .inl ⟨h1,aJy hno h2,h3⟩
 .exact .inr ⟨h1,h2,h3⟩
def a0R{P:Program}{T:TT}{E:En}{ops:Array Oper}{s:S}{ix:Nat}{o:Oper}{ob:Ob}{x:X}{e:Option Tk}(h:Y P T E ops s ix o x e):Y P T E ops {s with objs:=s.objs++[ob]} ix o x e:=by
 rcases h with ⟨h1,h2,h3⟩|⟨h1,h2,h3⟩
 .exact .inl ⟨h1,aJw h2,h3⟩
 .exact .inr ⟨h1,h2,h3⟩
def axp{s:S}{d d':Option Nat}{ej:Option Tk}{xj:X}{es:List (Value×C)}(hd:∀ j,d'=some j->d≠some j) :
  ((({s with objs:=s.objs++[Ob.map es]}:S).put d (.mp s.objs.length)).drop ej).put d' xj={(s.drop ej).put d' xj with objs:=((s.drop ej).put d' xj).objs++[Ob.map es]}.put d (.mp ((s.drop ej).put d' xj).objs.length):=by
 have e1:(({s with objs:=s.objs++[Ob.map es]}:S).put d (.mp s.objs.length)).drop ej=({s.drop ej with objs:=(s.drop ej).objs++[Ob.map es]}:S).put d (.mp s.objs.length):=by
  cases ej with
  | none=>rfl
  | some t =>
   rw[ah7]
   simp only[S.drop,bX,bc,bm,Ob.drop,X.drop]
 have e2:((s.drop ej).put d' xj).objs.length=s.objs.length:=by
  cases ej <;> cases d' <;> simp[S.put,S.drop]
 have e3:({(s.drop ej).put d' xj with objs:=((s.drop ej).put d' xj).objs++[Ob.map es]}:S)=({s.drop ej with objs:=(s.drop ej).objs++[Ob.map es]}:S).put d' xj:=by
  cases d' <;> rfl
 rw[e1,e2,e3,af4 _ _ _ (λd h=>hd d h)]
def aLn{P:Program}{T:TT}{E:En}{ops:Array Oper}{s s1 s2:S}{j:Nat}{o0 oj:Oper}(hap:ajJ ops o0 oj)(hE:dB o0=o0.dst)(hno:ap1 oj.op=false)
  (h1:mkS P E s o0=some s1) (h2:bv P T E true ops s1 j oj=some (none,s2)):∃ s',bv P T E true ops s j oj=some (none,s')/\mkS P E s' o0=some s2:=by
 obtain⟨a1,a2,a3⟩:=hap
 rw[hE] at a1 a2
 unfold mkS at h1
 simp only[ap] at h1
 obtain⟨es,he,rfl⟩:=h1
 obtain⟨_,xj,ej,yj,rfl⟩:=aew h2
 have yj1:=a0S hno ((arV (λd hd=>a1 d hd)).1 yj)
 refine⟨(s.drop ej).put (dB oj) xj,aiL yj1,?_⟩
 unfold mkS
 rw[he]
 simp only[aJ,ab]
 exact (axp λd hd e=>a2 d e hd).symm
def aHs{P:Program}{T:TT}{E:En}{ops:Array Oper}{s s1 s2:S}{i:Nat}{oi o0:Oper}(hap:ajJ ops oi o0)(hE:dB o0=o0.dst)
  (h1:bv P T E true ops s i oi=some (none,s1)) (h2:mkS P E s1 o0=some s2):∃ s',mkS P E s o0=some s'/\bv P T E true ops s' i oi=some (none,s2):=by
 obtain⟨a1,a2,a3⟩:=hap
 rw[hE] at a2 a3
 obtain⟨_,xi,ei,yi,rfl⟩:=aew h1
 unfold mkS at h2
 simp only[ap] at h2
 obtain⟨es,he,rfl⟩:=h2
 refine⟨({s with objs:=s.objs++[Ob.map es]}:S).put o0.dst (.mp s.objs.length),by unfold mkS;rw[he];rfl,?_⟩
 rw[aiL ((arV (λd hd=>a3 d hd)).2 (a0R yi)),axp λd hd e=>a2 d hd e]
def ayN(P:Program)(T:TT)(E:En)(ops:Array Oper)(n:Nat)(Q:S->Prop):Nat->Array Bool->S->Prop
 | 0,listed,s=>Region.ready .any ops listed=[]/\Q s
 | fuel+1,listed,s=>(Region.ready .any ops listed=[]->Q s) /\
  ∀ i∈Region.ready .any ops listed,∃ o s',ops[i]?=some o/\stX P T E ops (decide (ops.size<=i+n)) s i o=some s'/\ayN P T E ops n Q fuel (listed.setIfInBounds i true) s'
section
variable {P:Program} {T:TT} {E:En} {ops:Array Oper} {Q:S->Prop} {n:Nat}
theorem aFA(hF:ap8 ops n=true)(hL:aq3 ops=true)(hS:∀ (i:Nat) (o:Oper),ops[i]?=some o->cL o.op=true->afe ops i=true){i:Nat}{oi:Oper}(hi:ops[i]?=some oi):∀ (fuel:Nat) (listed:Array Bool) (s s1:S),Dc ops listed ->
  (∀ (j:Nat) (oj:Oper),ops[j]?=some oj->j≠i->listed.getD j true=false->(∀ e∈oj.after,Region.binds .any e=true->e.on≠i)->oi.apart ops oj=true) ->
  (i+n<ops.size->kM E.obj oi=true->∀ (j:Nat) (oj:Oper),ops[j]?=some oj->j≠i->listed.getD j true=false->j+n<ops.size->kM E.obj oj=false) ->
  (ops.size<=i+n->∀ k,k<i->listed.getD k true=true) ->
  i∈Region.ready .any ops listed->stX P T E ops (decide (ops.size<=i+n)) s i oi=some s1->ayN P T E ops n Q fuel (listed.setIfInBounds i true) s1->ayN P T E ops n Q (fuel+1) listed s:=by
 intro fuel
 induction fuel with
 | zero =>
  intro listed s s1 _ _ _ _ hr hs H
  refine⟨λh=>(by rw[h] at hr;cases hr),λj hj=>?_⟩
  by_cases hji:j=i
  .subst hji;exact⟨oi,s1,hi,hs,H⟩
  .have:=ready_mono hj hji
   rw[H.1] at this
   cases this
 | succ fuel ih =>
  intro listed s s1 hdc hfree hone hpre hr hs H
  refine⟨λh=>(by rw[h] at hr;cases hr),λj hj=>?_⟩
  by_cases hji:j=i
  .subst hji;exact⟨oi,s1,hi,hs,H⟩
  .obtain⟨oj,s2,hoj,hs2,H2⟩:=H.2 j (ready_mono hj hji)
   have hjun:=(mem_ready.1 hj).1
   have hiun:=(mem_ready.1 hr).1
   have hjs:j<ops.size:=(Array.getElem?_eq_some_iff.1 hoj).1
   have hji':=aaF hj hoj hiun
   have hij':=aaF hr hi hjun
   have hti:i+n<ops.size:=by
    rcases aA (i+n) ops.size with g|g
    .exact g
    .exfalso
     rcases acP j i with h|h|h
     .rw[hpre g j h] at hjun;cases hjun
     .exact hji h
     .exact ahp hdc hiun (ax1 hF h hjs aC) hj
   have htj:j+n<ops.size:=by
    rcases aA (j+n) ops.size with g|g
    .exact g
    .exact absurd hj (ahp hdc hiun (ax1 hF aC hjs g))
   have hdi:decide (ops.size<=i+n)=false:=bd aC
   have hdj:decide (ops.size<=j+n)=false:=bd aC
   have hap:=aim hi hoj (bo hji) hij' hji' (hfree j oj hoj hji hjun hji') (hS i oi hi) (hS j oj hoj)
   obtain⟨s',g1,g2⟩ : ∃ s',stX P T E ops (decide (ops.size<=j+n)) s j oj=some s'/\stX P T E ops (decide (ops.size<=i+n)) s' i oi=some s2:=by
    rw[hdj] at hs2 ⊢
    rw[hdi] at hs ⊢
    simp only[stX,ah,av] at hs hs2 ⊢
    have mkd:∀ o:Oper,kM E.obj o=true->dB o=o.dst:=λo h=>by
     unfold kM at h
     rw[aj] at h
     exact adI (aO5 h.1)
    cases ki:kM E.obj oi with
    | true =>
     have kj:=hone hti ki j oj hoj hji hjun htj
     rw[ki] at hs
     rw[kj] at hs2 ⊢
     simp only[am,ah,av] at hs hs2 ⊢
     have hno:ap1 oj.op=false:=by
      cases hl:ap1 oj.op with
      | false=>rfl
      | true =>
       have h0:aD1 oi.op=true:=by unfold kM at ki;rw[aj] at ki;exact a5n ki.1
       exact absurd hj (ahp hdc hiun (aSY hL hi hoj h0 hl))
     obtain⟨s',g1,g2⟩:=aLn hap (mkd oi ki) hno hs (agV hs2)
     exact⟨s',by rw[g1];rfl,g2⟩
    | false =>
     rw[ki] at hs
     simp only[ah,av] at hs ⊢
     cases kj:kM E.obj oj with
     | true =>
      rw[kj] at hs2
      simp only[am] at hs2 ⊢
      obtain⟨s',g1,g2⟩:=aHs hap (mkd oj kj) (agV hs) hs2
      exact⟨s',g1,by rw[g2];rfl⟩
     | false =>
      rw[kj] at hs2
      simp only[ah,av] at hs2 ⊢
      obtain⟨s',g1,g2⟩:=aym hap hij' hji' (agV hs) (agV hs2)
      exact⟨s',by rw[g1];rfl,by rw[g2];rfl⟩
   have hun':∀ k,(listed.setIfInBounds j true).getD k true=false->listed.getD k true=false:=λk hk=>by
    by_cases hjk:j=k
    .subst hjk;exact hjun
    .rw[getD_set_ne true hjk] at hk;exact hk
   refine⟨oj,s',hoj,g1,ih (listed.setIfInBounds j true) s' s2 (hdc.set hj) (λk ok hk hki hun hno=>hfree k ok hk hki (hun' k hun) hno) (λh1 h2 k ok hk hki hun h3=>hone h1 h2 k ok hk hki (hun' k hun) h3) (λh1=>absurd h1 aC) (ready_mono hr (bo hji)) g2 (by rw[eC _ _ hji];exact H2)⟩
theorem ax5:∀ (l:List Oper) (k:Nat) (s s':S),evD P T E ops n k true l s=some s'->∀ (j:Nat) (o:Oper),l[j]?=some o->j+n<l.length->kM E.obj o=false
 | [],k,s,s',h,j,o,hj,_=>by simp at hj
 | a::l,k,s,s',h,j,o,hj,hn=>by
  unfold evD at h
  split at h
  .cases h
  rename_i hc
  split at h
  rotate_left
  .cases h
  rename_i s1 h1
  rw[eA] at h
  cases j with
  | zero =>
   simp only[dg,ab] at hj
   subst hj
   simp only[aN] at hn
   cases hk:kM E.obj a with
   | false=>rfl
   | true=>exact absurd (by simp[hk];omega) hc
  | succ j=>exact ax5 l (k+1) s1 s' h j o (by simpa using hj) (by simp only[aN] at hn;omega)
theorem ayM(hF:ap8 ops n=true)(hL:aq3 ops=true)(hS:∀ (i:Nat) (o:Oper),ops[i]?=some o->cL o.op=true->afe ops i=true):∀ (l:List Oper) (k:Nat) (b:Bool) (listed:Array Bool) (s s':S),k+l.length=ops.size->(∀ j,l[j]?=ops[k+j]?)->Dc ops listed->(∀ j,j<k->listed.getD j true=true)->Region.lexFrom .any ops l.length k listed=true ->
  evD P T E ops n k b l s=some s'->Q s'->ayN P T E ops n Q l.length listed s
 | [],k,b,listed,s,s',_,_,_,_,hB,h,hQ=>by
  simp only[evD,ab] at h
  subst h
  exact⟨by simpa [Region.lexFrom] using hB,hQ⟩
 | o::l,k,b,listed,s,s',hk,hl,hdc,hpre,hB,h,hQ=>by
  have h0:ops[k]?=some o:=by simpa using (hl 0).symm
  simp only[aN,Region.lexFrom,aj] at hB
  obtain⟨⟨hr,hf⟩,hB'⟩:=hB
  simp only[aN] at hk
  have hr':k∈Region.ready .any ops listed:=by simpa using hr
  have hdec:decide (l.length<n)=decide (ops.size<=k+n):=decide_eq_decide.2 aC
  unfold evD at h
  split at h
  .cases h
  rename_i hb
  split at h
  rotate_left
  .cases h
  rename_i s1 h1
  have hset:∀ j,j<k+1->(listed.setIfInBounds k true).getD j true=true:=λj hj=>by
   by_cases hjk:k=j
   .subst hjk
    rcases aA k listed.size with g|g
    .simp[g]
    .simp[g]
   .rw[getD_set_ne true hjk];exact hpre j aC
  rw[hdec] at h1
  refine aFA hF hL hS h0 l.length listed s s1 hdc (Region.free_spec h0 hf) (λg1 g2 j oj hoj hji hun hjn=>?_) (λ_=>hpre) hr' h1
   (ayM hF hL hS l (k+1) _ _ s1 s' aC (λj=>by have:=hl (j+1);simpa [bA,ey 1 j] using this) (hdc.set hr') hset hB' h hQ)
  have hjk:k<j:=by
   rcases acP j k with h|h|h
   .rw[hpre j h] at hun;cases hun
   .exact absurd h hji
   .exact h
  have e:decide (l.length<n)=false:=bd aC
  rw[e,g2,dH,cO,bh] at h
  refine ax5 l (k+1) s1 s' h (j-(k+1)) oj ?_ aC
  have:=hl (j-k)
  rw[show j-k=(j-(k+1))+1 by omega,eL] at this
  rw[this,← hoj]
  congr 1
  omega
end
section
variable {P:Program} {M0:Base} {w0:World} {N:Nat} {ds:List Deferred}
theorem arS{n:Nat}{E:En}(horc:EnSound P M0.G E){ops:Array Oper}(hdst:∀ (j:Nat) (o:Oper),ops[j]?=some o->abZ N o=true){Q:Exit->Act->World->Prop}{Qs:S->Prop}{k0:Know}
  (hQ:∀ s' tmps' w' k' ow' done',k0.le k'->Qs s'->Sim M0 k' ow' done' w0 w' N s' tmps'->Q .normal ⟨tmps',ds⟩ w'):∀ (fuel:Nat) (listed:Array Bool) (s:S) (w:World) (tmps:Array Value) (k:Know) (ow:Own),
  k0.le k->Sim M0 k ow (λj=>listed.getD j true=true) w0 w N s tmps->ayN P (TT.of P) E ops n Qs fuel listed s->wpAny P .any ops Q fuel listed ⟨tmps,ds⟩ w
 | 0,listed,s,w,tmps,k,ow,hk,hs,h=>⟨h.1,hQ s tmps w k ow _ hk h.2 hs⟩
 | fuel+1,listed,s,w,tmps,k,ow,hk,hs,h=>by
  refine⟨λh0=>hQ s tmps w k ow _ hk (h.1 h0) hs,λi hi=>?_⟩
  obtain⟨o,s',ho,hst,H⟩:=h.2 i hi
  have hun:=(mem_ready.1 hi).1
  obtain⟨dr,hst⟩ : ∃ dr,bv P (TT.of P) E dr ops s i o=some (none,s'):=by
   unfold stX at hst
   split at hst
   .exact⟨false,agV hst⟩
   .split at hst
    .rename_i hk;exact⟨false,asQ (by unfold kM at hk;exact hk) hst⟩
    .exact⟨true,agV hst⟩
  refine aao (dr:=dr) hs horc (by rw[hun];simp) ho (hdst i o ho) hst (λ_ tmps' w' k' ow' g1 g2=>?_) (λx hx=>by cases hx)
  refine arS horc hdst hQ fuel _ s' w' tmps' k' ow' (Know.le_trans hk g1) (g2.more λj hj=>?_) H
  rcases hj with hj|rfl
  .by_cases hij:i=j
   .subst hij;rw[hun] at hj;cases hj
   .rw[getD_set_ne true hij];exact hj
  .rcases aA j listed.size with g|g
   .simp[g]
   .simp[g]
end
theorem aos(σ:Nat->Option Nat)(ρ:Tk->Option Tk):∀ xs:List X,X.trs σ ρ xs=xs.map (X.tr σ ρ)
 | []=>rfl
 | x::r=>by simp only[X.trs,bc,aos σ ρ r]
section
variable {ρ:Tk->Option Tk}
theorem aC6:∀ (x:X) (c:C),x.rd=some c->(x.tr some ρ).rd=some c :=
 X.rec (motive_1:=λx=>∀ c,x.rd=some c->(x.tr some ρ).rd=some c) (motive_2:=λxs=>∀ cs,X.rds xs=some cs->X.rds (X.trs some ρ xs)=some cs)
  (λ_ _ h=>h) (λ_ h=>h) (λt e z cs n c h=>by simp only[X.tr];split <;> simpa [X.rd] using h) (λ_ _ _ h=>h) (λ_ _ h=>h) (λ_ _ _ _ h=>by simp[X.rd] at h)
  (λxs ih c h=>by
   simp only[X.rd,ap] at h
   obtain⟨cs,h1,rfl⟩:=h
   simp only[X.tr,X.rd,ih cs h1,aJ]) (λ_ _ _ h=>by simp[X.rd] at h) (λ_ _ _ _ h=>by simp[X.rd] at h) (λ_ _ _ _ h=>by simp[X.rd] at h)
  (λ_ h=>h) (λx xs ih1 ih2 cs h=>by
   simp only[X.rds] at h
   split at h
   .rename_i c cs' h1 h2
    simp only[X.trs,X.rds,ih1 _ h1,ih2 _ h2]
    exact h
   .cases h)
theorem aGI:∀ (xs:List X) (cs:List C),X.rds xs=some cs->X.rds (xs.map (X.tr some ρ))=some cs
 | [],cs,h=>h
 | x::r,cs,h=>by
  simp only[X.rds] at h
  split at h
  .rename_i c cs' h1 h2
   simp only[bc,X.rds,aC6 _ _ h1,aGI _ _ h2]
   exact h
  .cases h
theorem alE(t:Tk)(e z:Nat)(cs:List C)(n:Nat):(X.own t e z cs n).tr some ρ=.of (.sl cs n)\/∃ t',(X.own t e z cs n).tr some ρ=.own t' e z cs n:=by
 simp only[X.tr]
 split
 .exact .inr ⟨_,rfl⟩
 .exact .inl rfl
theorem awv(r e z:Nat):(X.top r e z).tr some ρ=.top r e z\/(X.top r e z).tr some ρ=.of .any:=by
 simp only[X.tr]
 split
 .exact .inl rfl
 .exact .inr rfl
theorem axx(x:X):fu (x.tr some ρ)=fu x:=by
 cases x with
 | own t e z cs n=>rcases alE (ρ:=ρ) t e z cs n with h|⟨t',h⟩ <;> rw[h] <;> rfl
 | top r e z=>rcases awv (ρ:=ρ) r e z with h|h <;> rw[h] <;> rfl
 | _=>rfl
theorem aHF(x:X):aas (x.tr some ρ)=aas x:=by
 cases x with
 | own t e z cs n=>rcases alE (ρ:=ρ) t e z cs n with h|⟨t',h⟩ <;> rw[h] <;> rfl
 | top r e z=>rcases awv (ρ:=ρ) r e z with h|h <;> rw[h] <;> rfl
 | _=>rfl
theorem aU5(x:X):aaT (x.tr some ρ)=aaT x:=by
 cases x with
 | own t e z cs n=>rcases alE (ρ:=ρ) t e z cs n with h|⟨t',h⟩ <;> rw[h] <;> rfl
 | top r e z=>rcases awv (ρ:=ρ) r e z with h|h <;> rw[h] <;> rfl
 | _=>rfl
theorem aIG{x:X}(h:abb x=true):cn (x.tr some ρ)=(cn x).map (List.map (X.tr some ρ)):=by
 cases x with
 | own t e z cs n=>simp only[cn,aJ,bc,bm];rcases alE (ρ:=ρ) t e z cs n with h|⟨t',h⟩ <;> rw[h] <;> rfl
 | of c=>cases c <;> simp[X.tr,cn]
 | top r e z=>cases h
 | agg xs=>simp only[X.tr,cn,aos,aJ]
 | _=>rfl
theorem axd(v:Value):(aa5 v).tr some ρ=aa5 v:=by
 unfold aa5
 split <;> rfl
theorem aJs(d:TD):(fj d).map (X.tr some ρ)=fj d:=by
 simp[fj,axd]
theorem aGW(T:TT)(ty:Nat)(xs:List X):bx T ty (xs.map (X.tr some ρ))=(bx T ty xs).map (X.tr some ρ):=by
 unfold bx
 split
 .rfl
 .rename_i d _
  simp only[cN]
  split
  .split
   .simp[X.tr,aos,aeb]
   .cases xs <;> simp
  .rfl
theorem axX(place:Nat->Option (Nat×Nat)):∀ (qs:List (Nat×List X)) (cells:List X),aah place (cells.map (X.tr some ρ)) (qs.map λp=>(p.1,p.2.map (X.tr some ρ)))=(aah place cells qs).map (List.map (X.tr some ρ))
 | [],cells=>rfl
 | (i,xs)::r,cells=>by
  simp only[bc,aah]
  cases place i with
  | none=>rfl
  | some p =>
   obtain⟨off,size⟩:=p
   simp only[cN]
   split
   .rw[← axX place r]
    simp[aeb,ab2]
   .rfl
theorem atS{f g:Operand->X}:∀ (ps:List (Nat×Operand)),(∀ p∈ps,g p.2=(f p.2).tr some ρ/\abb (f p.2)=true)->fQ g ps=(fQ f ps).map (List.map λp=>(p.1,p.2.map (X.tr some ρ)))
 | [],_=>rfl
 | (i,x)::r,h=>by
  obtain⟨h1,h2⟩:=h (i,x) (abt ..)
  simp only[fQ,h1,aIG h2,atS r λp hp=>h p (dY _ hp)]
  cases cn (f x) <;> cases fQ f r <;> simp
theorem aJG{s s':S}(h:∀ j,s'.fr j=(s.fr j).tr some ρ)(x:Operand):s'.ev x=(s.ev x).tr some ρ:=(as2 ρ).ev h x
end
theorem ajv{s:S}:∀ {l:List Operand},acm s l=true->∀ x∈l,abb (s.ev x)=true
 | [],_,x,hx=>by cases hx
 | a::l,h,x,hx=>by
  simp only[acm,aj] at h
  rcases bj.1 hx with rfl|hx
  .exact h.1
  .exact ajv h.2 x hx
section
variable {T:TT} {refs:List Nat}
theorem azP{objs objs':List Ob}{t:Nat}{y x:X}{e:Option Tk}{D:List Nat}(hob:∀ r ob,r∉refs->objs[r]?=some ob->objs'[r]?=some (ob.tr some (cf refs [])))
  (hD:afj y=some D) (hDr:∀ r∈D,r∉refs) (hv:abk T objs t y=some (x,e)):e=none/\abk T objs' t (y.tr some (cf refs []))=some (x.tr some (cf refs []),none):=by
 cases y with
 | ptr r off =>
  simp only[afj,ab] at hD
  subst hD
  have hno:=hDr r aT
  unfold abk at hv
  simp only at hv
  cases hx:objs[r]? with
  | none=>rw[hx] at hv;cases hv
  | some ob =>
   rw[hx] at hv
   have h':=hob r ob hno hx
   cases ob with
   | var ty' xs =>
    obtain⟨hv2,rfl⟩:=acV hv
    refine⟨rfl,?_⟩
    simp only[X.tr,abk,h',Ob.tr,aos,← ab2,aGW,hv2,aJ,bE]
   | map es=>cases hv
   | row ty' cs =>
    cases cs with
    | nil=>cases hv
    | cons c cs =>
     obtain⟨hv2,rfl⟩:=acV hv
     simp only[ap] at hv2
     obtain⟨c',hv2,rfl⟩:=hv2
     exact⟨rfl,by simp only[X.tr,abk,h',Ob.tr,hv2,aJ,bE]⟩
 | of c =>
  cases c with
  | ref cs =>
   obtain⟨hv2,rfl⟩:=acV hv
   simp only[ap] at hv2
   obtain⟨c',hv2,rfl⟩:=hv2
   exact⟨rfl,by simp only[X.tr,abk,hv2,aJ,bE]⟩
  | _=>cases hv
 | _=>cases hv
theorem akm{ρ:Tk->Option Tk}{t f:Nat}{y x:X}{e:Option Tk}(hv:fF T t f y=some (x,e)):e=none/\fF T t f (y.tr some ρ)=some (x.tr some ρ,none):=by
 unfold fF at hv ⊢
 cases hf:aig T t f with
 | none=>rw[hf] at hv;cases hv
 | some p =>
  obtain⟨o',z'⟩:=p
  rw[hf] at hv
  simp only at hv ⊢
  by_cases hz:0<z'
  .rw[au hz] at hv ⊢
   cases y with
   | ptr r off=>obtain⟨rfl,rfl⟩:=ef hv;exact⟨rfl,rfl⟩
   | of c=>cases c with
    | ref cs=>obtain⟨rfl,rfl⟩:=ef hv;exact⟨rfl,rfl⟩
    | _=>cases hv
   | _=>cases hv
  .rw[ar hz] at hv;cases hv
theorem ap2{ρ:Tk->Option Tk}{t:Nat}{y i x:X}{e:Option Tk}(hnt:abb y=true)(hv:bz T t y i=some (x,e)):e=none/\bz T t (y.tr some ρ) (i.tr some ρ)=some (x.tr some ρ,none):=by
 unfold bz at hv ⊢
 rw[aHF]
 cases hl:aas i with
 | none=>rw[hl] at hv;cases hv
 | some j =>
  rw[hl] at hv
  simp only at hv ⊢
  cases hT:T t with
  | none=>rw[hT] at hv;cases hv
  | some d =>
   obtain⟨und,n0,b0,a0,z0,f0⟩:=d
   rw[hT] at hv
   cases und with
   | slice et =>
    simp only at hv ⊢
    rw[aU5]
    cases hE:T et with
    | none=>rw[hE] at hv;cases hv
    | some d =>
     rw[hE] at hv
     cases hs:aaT y with
     | none =>
      exfalso
      rw[hs] at hv
      cases y with
      | top r e z=>cases hnt
      | _=>simp[ahX] at hv
     | some p =>
      obtain⟨cs,n⟩:=p
      rw[hs] at hv
      simp only at hv ⊢
      split at hv
      .rename_i hc
       rw[au hc]
       obtain⟨rfl,rfl⟩:=ef hv
       exact⟨rfl,rfl⟩
      .cases hv
   | array n et =>
    simp only at hv ⊢
    cases hE:T et with
    | none=>rw[hE] at hv;cases hv
    | some d =>
     rw[hE] at hv
     simp only at hv ⊢
     by_cases hc:0<=j/\j<(n:Int)
     .rw[au hc] at hv ⊢
      cases y with
      | ptr r off=>obtain⟨rfl,rfl⟩:=ef hv;exact⟨rfl,rfl⟩
      | of c=>cases c with
       | ref cs=>obtain⟨rfl,rfl⟩:=ef hv;exact⟨rfl,rfl⟩
       | _=>cases hv
      | _=>cases hv
     .rw[ar hc] at hv;cases hv
   | _=>cases hv
theorem aFn{ρ:Tk->Option Tk}{P:Program}{t:Nat}{u:Option TypeDesc}{op:BinOp}{a b x:X}{e:Option Tk}(hv:eT P T t u op a b=some (x,e)):e=none/\eT P T t u op (a.tr some ρ) (b.tr some ρ)=some (x.tr some ρ,none):=by
 unfold eT at hv ⊢
 rw[axx,axx]
 have key:afS P T t op a.rd b.rd=some (x,e)->e=none/\afS P T t op (a.tr some ρ).rd (b.tr some ρ).rd=some (x.tr some ρ,none):=by
  intro hv
  unfold afS at hv
  split at hv
  .rename_i cs ds h1 h2
   rw[aC6 _ _ h1,aC6 _ _ h2]
   unfold afS
   simp only
   split at hv
   .obtain⟨hv2,rfl⟩:=acV hv
    simp only[ap] at hv2
    obtain⟨w,hv2,rfl⟩:=hv2
    exact⟨rfl,by simp only[hv2,aJ,bE,X.tr]⟩
   .obtain⟨hv2,rfl⟩:=acV hv
    simp only[ap] at hv2
    obtain⟨w,hv2,rfl⟩:=hv2
    exact⟨rfl,by simp only[hv2,aJ,bE,X.tr]⟩
   .cases hv
  .cases hv
 cases h1:fu a with
 | none=>rw[h1] at hv;exact key hv
 | some u' =>
  cases h2:fu b with
  | none=>rw[h1,h2] at hv;exact key hv
  | some v' =>
   rw[h1,h2] at hv
   obtain⟨hv2,rfl⟩:=acV hv
   simp only[ap] at hv2
   obtain⟨w,hv2,rfl⟩:=hv2
   refine⟨rfl,?_⟩
   simp only[hv2,aJ,bE,X.tr]
theorem aDS{ρ:Tk->Option Tk}{u:Option TypeDesc}{y x:X}{e:Option Tk}(hnt:abb y=true)(hv:fV u y=some (x,e)):e=none/\fV u (y.tr some ρ)=some (x.tr some ρ,none):=by
 have sl:∀ (cs:List C) (n:Nat) (y:X),(if ahK u then out (aQ n) else none)=some (x,e)->fV u y=(if ahK u then out (aQ n) else none)->e=none/\fV u y=some (x.tr some ρ,none):=by
  intro cs n y hv h
  rw[h]
  split at hv
  .rename_i hs
   rw[au hs]
   obtain⟨rfl,rfl⟩:=ef hv
   exact⟨rfl,rfl⟩
  .cases hv
 cases y with
 | of c =>
  cases c with
  | lit v =>
   cases v with
   | string st =>
    unfold fV at hv ⊢
    simp only[X.tr] at hv ⊢
    split at hv
    .rename_i hs
     rw[au hs]
     obtain⟨rfl,rfl⟩:=ef hv
     exact⟨rfl,rfl⟩
    .cases hv
   | _=>cases hv
  | sl cs n=>exact sl cs n _ hv rfl
  | _=>cases hv
 | nil=>exact sl [] 0 _ hv rfl
 | own t e z cs n =>
  rcases alE (ρ:=ρ) t e z cs n with h|⟨t',h⟩ <;> rw[h]
  .exact sl cs n _ hv rfl
  .exact sl cs n _ hv rfl
 | top r e z=>cases hnt
 | _=>cases hv
end
def aid{b:Bool}{D:List Nat}(h:akX b=some D):b=true:=by
 cases b with
 | true=>rfl
 | false=>cases h
def aAR{P:Program}{T:TT}{E:En}{s s':S}{ix:Nat}{o:Oper}{x:X}{e:Option Tk}{refs D:List Nat}(hk:aor o.op=true)(hc:s'.clk=s.clk)(hev:∀ y∈o.op.operands.toList,s'.ev y=(s.ev y).tr some (cf refs []))
  (hob:∀ r ob,r∉refs->s.objs[r]?=some ob->s'.objs[r]?=some (ob.tr some (cf refs []))) (hD:ael s o.op=some D) (hDr:∀ r∈D,r∉refs) (hv:val P T E s ix o=some (x,e)) :
  e=none/\val P T E s' ix o=some (x.tr some (cf refs []),none):=by
 obtain⟨d,op,ty,pos,af,g⟩:=o
 simp only at hk hev hD
 unfold aor at hk
 split at hk
 .rename_i y
  have hv:out (s.ev y)=some (x,e):=hv
  obtain⟨rfl,rfl⟩:=ef hv
  refine⟨rfl,?_⟩
  show out (s'.ev y)=_
  rw[hev y (by simp[Op.operands])]
  rfl
 .rename_i t a
  have hv:abk T s.objs t (s.ev a)=some (x,e):=hv
  show _/\abk T s'.objs t (s'.ev a)=_
  rw[hev a (by simp[Op.operands])]
  exact azP hob hD hDr hv
 .rename_i t a f
  have hv:fF T t f (s.ev a)=some (x,e):=hv
  show _/\fF T t f (s'.ev a)=_
  rw[hev a (by simp[Op.operands])]
  exact akm hv
 .rename_i t a i
  have hn:=aid hD
  have hv:bz T t (s.ev a) (s.ev i)=some (x,e):=hv
  show _/\bz T t (s'.ev a) (s'.ev i)=_
  rw[hev a (by simp[Op.operands]),hev i (by simp[Op.operands])]
  exact ap2 (ajv hn a aT) hv
 .rename_i a
  have hn:∀ s:S,val P T E s ix ⟨d,.nilCheck a,ty,pos,af,g⟩=match s.ev a with
   | .ptr r off=>out (.ptr r off)
   | .of (.ref cs)=>out (.of (.ref cs))
   | _=>none:=λ_=>rfl
  rw[hn] at hv ⊢
  rw[hev a (by simp[Op.operands])]
  cases hy:s.ev a with
  | ptr r off=>rw[hy] at hv;obtain⟨rfl,rfl⟩:=ef hv;exact⟨rfl,rfl⟩
  | of c=>cases c with
   | ref cs=>rw[hy] at hv;obtain⟨rfl,rfl⟩:=ef hv;exact⟨rfl,rfl⟩
   | _=>rw[hy] at hv;cases hv
  | _=>rw[hy] at hv;cases hv
 .rename_i bop t a b yt
  have hv:eT P T t ((T t).map (·.und)) bop (s.ev a) (s.ev b)=some (x,e):=hv
  show _/\eT P T t ((T t).map (·.und)) bop (s'.ev a) (s'.ev b)=_
  rw[hev a (by simp[Op.operands]),hev b (by simp[Op.operands])]
  exact aFn hv
 .rename_i t n ps
  have hn:=aid hD
  have hp:=atS (ρ:=cf refs []) (f:=s.ev) (g:=s'.ev) ps.toList λp hp=>⟨hev p.2 (by simp only[Op.operands];simpa using ⟨p.1,by simpa using hp⟩),ajv hn _ (List.mem_map.2 ⟨p,hp,rfl⟩)⟩
  simp only[val] at hv ⊢
  rw[hp,hc]
  cases h1:elemOf T t with
  | none=>rw[h1] at hv;cases hv
  | some p =>
   obtain⟨e',d'⟩:=p
   cases h2:fQ s.ev ps.toList with
   | none=>rw[h1,h2] at hv;cases hv
   | some qs =>
    rw[h1,h2] at hv
    simp only[aJ] at hv ⊢
    by_cases hcond:n*d'.size<=16777216/\0<d'.size/\d'.zero.length=d'.size
    .rw[au hcond] at hv ⊢
     have:=axX (ρ:=cf refs []) (λi=>some (i*d'.size,d'.size)) qs ((List.replicate n (fj d')).flatten)
     have hz:((List.replicate n (fj d')).flatten).map (X.tr some (cf refs []))=(List.replicate n (fj d')).flatten:=by
      rw[List.map_flatten,List.map_replicate,aJs]
     rw[hz] at this
     rw[this]
     cases hf:aah (λi=>some (i*d'.size,d'.size)) ((List.replicate n (fj d')).flatten) qs with
     | none=>rw[hf] at hv;cases hv
     | some xs =>
      rw[hf] at hv
      simp only[aJ] at hv ⊢
      cases hcs:X.rds xs with
      | none=>rw[hcs] at hv;cases hv
      | some cs =>
       rw[hcs] at hv
       rw[aGI _ _ hcs]
       simp only at hv ⊢
       obtain⟨rfl,rfl⟩:=ef hv
       exact⟨rfl,by simp only[out,X.tr,cf,bH,av]⟩
    .rw[ar hcond] at hv;cases hv
 .rename_i c args tys
  have hn:=aid hD
  have hv:aeY P T E s ix (.builtin .len) args.toList tys.toList=some (x,e):=hv
  show _/\aeY P T E s' ix (.builtin .len) args.toList tys.toList=_
  match hA:args.toList,tys.toList,hv,hn with
  | [y],[t],hv,hn =>
   have hm:y∈args.toList:=by rw[hA];simp
   have hy:=hev y (by simp only[Op.operands,Call.operands];simpa using hm)
   have hv:fV ((T t).map (·.und)) (s.ev y)=some (x,e):=hv
   show _/\fV ((T t).map (·.und)) (s'.ev y)=_
   rw[hy]
   exact aDS (ajv hn y aT) hv
  | [],_,hv,_=>cases hv
  | _::_::_,_,hv,_=>cases hv
  | [_],[],hv,_=>cases hv
  | [_],_::_::_,hv,_=>cases hv
 .cases hk
def akA(P:Program)(E:En)(s:S)(o:Oper)(g:Nat)(us:List X):Prop:=o.guard=none/\(∃ f args tys,o.op=.call {callee:=.value f,args:=args,argTypes:=tys}/\adJ s (.value f) args.toList=some (g,us))/\E.obj g=true/\E.tk g=false
def aID{P:Program}{E:En}{s:S}{D:List Nat}{o:Oper}(hg:o.guard=none)(h:an1 E.obj E.tk s D o.op=true):∃ g us,akA P E s o g us/\∀ r∈dQ s.objs 999 (X.refsL us) [],r∉D:=by
 unfold an1 at h
 split at h
 rotate_left
 .cases h
 rename_i cal args tys hop
 cases cal with
 | value f =>
  cases ht:adJ s (.value f) args.toList with
  | none=>rw[ht] at h;cases h
  | some p =>
   obtain⟨g,us⟩:=p
   rw[ht] at h
   simp only[ayn,aj,cV] at h
   obtain⟨⟨h1,h2⟩,h3⟩:=h
   refine⟨g,us,⟨hg,⟨f,args,_,hop,ht⟩,h1,h2⟩,λr hr hD=>?_⟩
   have:=List.all_eq_true.1 h3 r hr
   simp[hD] at this
 | _=>cases h
def aA1{P:Program}{T:TT}{E:En}{s:S}{ix:Nat}{o:Oper}{g:Nat}{us:List X}(h:akA P E s o g us):aaV P T E false s ix o=callS P E s ix o.dst g us:=by
 obtain⟨_,⟨f,args,tys,hop,ht⟩,ho,_⟩:=h
 unfold aaV
 simp only[ah,av,hop,ht,ho,am]
def aNr{s s2:S}{ix:Nat}{du dc:Option Nat}{x:X}{refs:List Nat}{an:An}{q:Option X}(hd:∀ j,du=some j->dc≠some j)(h:afq (s.put du x) ix dc refs [] an=some (q,s2)) :
  ∃ s',afq s ix dc refs [] an=some (q,s')/\s2=s'.put du (x.tr some (cf refs [])):=by
 have e1:(s.put du x).objs=s.objs:=by cases du <;> rfl
 have e2:(s.put du x).clk=s.clk:=by cases du <;> rfl
 have e3:∀ O:List Ob,(⟨λj=>((s.put du x).fr j).tr some (cf refs []),O,s.clk⟩ : S)=(⟨λj=>(s.fr j).tr some (cf refs []),O,s.clk⟩ : S).put du (x.tr some (cf refs [])):=λO=>by
  cases du with
  | none=>rfl
  | some d =>
   simp only[S.put]
   congr 1
   funext j
   simp only[upd]
   split <;> rfl
 unfold afq at h ⊢
 simp only[e1,e2] at h ⊢
 split at h
 rotate_left
 .cases h
 rename_i hlen
 rw[au hlen]
 rw[e3] at h
 obtain⟨pan,rs,obs⟩:=an
 cases pan with
 | true =>
  match rs,h with
  | [y],h =>
   simp only[bD] at h ⊢
   obtain⟨rfl,rfl⟩:=h
   exact⟨_,⟨rfl,rfl⟩,rfl⟩
  | [],h=>cases h
  | _::_::_,h=>cases h
 | false =>
  simp only[bD] at h ⊢
  obtain⟨rfl,rfl⟩:=h
  exact⟨_,⟨rfl,rfl⟩,af4 _ _ _ hd⟩
def aFo{s s':S}{ix:Nat}{dc:Option Nat}{refs:List Nat}{an:An}{q:Option X}(h:afq s ix dc refs [] an=some (q,s')) :
  s'.clk=s.clk/\(∀ j,dc≠some j->s'.fr j=(s.fr j).tr some (cf refs []))/\∀ r ob,r∉refs->s.objs[r]?=some ob->s'.objs[r]?=some (ob.tr some (cf refs [])):=by
 have key:∀ (O:List Ob) (d:Option Nat) (y:X),(({s with fr:=λj=>(s.fr j).tr some (cf refs []),objs:=O}:S).put d y).clk=s.clk/\(∀ j,d≠some j->(({s with fr:=λj=>(s.fr j).tr some (cf refs []),objs:=O}:S).put d y).fr j=(s.fr j).tr some (cf refs []))/\(({s with fr:=λj=>(s.fr j).tr some (cf refs []),objs:=O}:S).put d y).objs=O:=λO d y=>by
  cases d with
  | none=>exact⟨rfl,λ_ _=>rfl,rfl⟩
  | some d=>exact⟨rfl,λj hj=>by simp only[S.put,upd];rw[ar λe=>hj (by rw[e])],rfl⟩
 have hO:∀ (σ:Nat->Option Nat) (ρ:Tk->Option Tk) (l2:List Ob) (r:Nat) (ob:Ob),r∉refs->s.objs[r]?=some ob->(aai σ ρ (s.objs.map (Ob.tr some (cf refs []))) refs an.obs++l2)[r]?=some (ob.tr some (cf refs [])):=λσ ρ l2 r ob hno hob=>by
  have hr:r<s.objs.length:=(List.getElem?_eq_some_iff.1 hob).1
  rw[aZ (by rw[aml];simpa using hr),aht _ _ refs _ _ r hno,bp,hob]
  rfl
 unfold afq at h
 simp only at h
 split at h
 rotate_left
 .cases h
 obtain⟨pan,rs,obs⟩:=an
 cases pan with
 | true =>
  match rs,h with
  | [y],h =>
   simp only[bD] at h
   obtain⟨rfl,rfl⟩:=h
   exact⟨rfl,λ_ _=>rfl,λr ob h1 h2=>hO _ _ _ r ob h1 h2⟩
  | [],h=>cases h
  | _::_::_,h=>cases h
 | false =>
  simp only[bD] at h
  obtain⟨rfl,rfl⟩:=h
  refine⟨(key _ dc _).1,(key _ dc _).2.1,λr ob h1 h2=>?_⟩
  rw[(key _ dc _).2.2]
  exact hO _ _ _ r ob h1 h2
def aNh{P:Program}{E:En}{s s':S}{ix:Nat}{d:Option Nat}{g:Nat}{us:List X}{q:Option X}(htk:E.tk g=false)(h:callS P E s ix d g us=some (q,s')) :
  ∃ an,(∀ (s0:S) (d0:Option Nat),s0.objs=s.objs->callS P E s0 ix d0 g us=afq s0 ix d0 (dQ s.objs 999 (X.refsL us) []) [] an)/\afq s ix d (dQ s.objs 999 (X.refsL us) []) [] an=some (q,s'):=by
 unfold callS at h
 simp only[htk,ah,av] at h
 split at h
 rotate_left
 .cases h
 rename_i hc
 split at h
 rotate_left
 .cases h
 rename_i obs hobs
 split at h
 rotate_left
 .cases h
 rename_i an hor
 refine⟨an,λs0 d0 h0=>?_,h⟩
 unfold callS
 simp only[htk,ah,av,h0]
 rw[au hc,hobs]
 simp only
 rw[hor]
def aL1{ρ:Tk->Option Tk}{y:X}{D:List Nat}(h:afj y=some D):afj (y.tr some ρ)=some D:=by
 cases y with
 | own t e z cs n=>cases h
 | top r e z=>cases h
 | _=>exact h
def aHi{ρ:Tk->Option Tk}{y:X}(h:abb y=true):abb (y.tr some ρ)=true:=by
 cases y with
 | own t e z cs n=>rcases alE (ρ:=ρ) t e z cs n with h'|⟨t',h'⟩ <;> rw[h'] <;> rfl
 | top r e z=>cases h
 | _=>rfl
theorem aju{s s':S}:∀ {l:List Operand},(∀ y∈l,abb (s.ev y)=true->abb (s'.ev y)=true)->acm s l=true->acm s' l=true
 | [],_,_=>rfl
 | a::l,hl,h=>by
  simp only[acm,aj] at h ⊢
  exact⟨hl a aT h.1,aju (λy hy=>hl y (by simp[hy])) h.2⟩
def asV{s s':S}{op:Op}{D:List Nat}(h1:∀ y∈op.operands.toList,afj (s.ev y)=some D->afj (s'.ev y)=some D)(h2:∀ y∈op.operands.toList,abb (s.ev y)=true->abb (s'.ev y)=true)(h:ael s op=some D):ael s' op=some D:=by
 unfold ael at h ⊢
 split at h
 .exact h1 _ (by simp[Op.operands]) h
 .rename_i c args tys
  have hn:=aid h
  rw[aju (λy hy=>h2 y (by simp only[Op.operands,Call.operands];simpa using hy)) hn]
  rw[hn] at h
  exact h
 .rename_i t n ps
  have hn:=aid h
  rw[aju (λy hy=>h2 y (by simp only[Op.operands];simpa using hy)) hn]
  rw[hn] at h
  exact h
 .rename_i t x i
  have hn:=aid h
  rw[aju (λy hy=>h2 y (by simp only[cC] at hy;subst hy;simp[Op.operands])) hn]
  rw[hn] at h
  exact h
 .exact h
def aDU(t:Tk)(y:X):afj (y.drop t)=afj y:=by
 cases y with
 | own t' e z cs n=>rcases fa t t' e z cs n with h|h <;> rw[h] <;> rfl
 | _=>rfl
def azD(t:Tk)(y:X):abb (y.drop t)=abb y:=by
 cases y with
 | own t' e z cs n=>rcases fa t t' e z cs n with h|h <;> rw[h] <;> rfl
 | _=>rfl
def apV{ops:Array Oper}{o:Oper}{y:Operand}{j:Nat}(hy:y∈o.op.operands.toList)(e:y=.tmp j):j∈o.looksAt ops:=by
 unfold Oper.looksAt
 rw[br]
 exact .inl (List.mem_filterMap.2 ⟨y,by simpa using hy,by rw[e]⟩)
def aVE{P:Program}{T:TT}{E:En}{s:S}{ix:Nat}{o:Oper}{x:X}{e:Option Tk}{D:List Nat}(hk:aor o.op=true)(hD:ael s o.op=some D)(hv:val P T E s ix o=some (x,e)):e=none :=
 (aAR (P:=P) (T:=T) (E:=E) (s:=s) (ix:=ix) (s':={s with fr:=λj=>(s.fr j).tr some (cf [] []),objs:=s.objs.map (Ob.tr some (cf [] []))}) (refs:=[]) hk rfl (λy _=>aJG (λ_=>rfl) y) (λr ob _ h=>by show (s.objs.map (Ob.tr some (cf [] [])))[r]?=_;rw[bp,h];rfl) hD (λr _=>bH) hv).1
def aCE{o:Oper}(hk:aor o.op=true):dB o=o.dst:=adI (by
 obtain⟨d,op,ty,pos,af,g⟩:=o
 cases op <;> first|rfl|cases hk)
def a0j{P:Program}{E:En}{s:S}{o:Oper}{g:Nat}{us:List X}(h:akA P E s o g us):dB o=o.dst:=by
 obtain⟨_,⟨f,args,tys,hop,_⟩,_⟩:=h
 exact adI (by rw[hop];rfl)
def aVF{P:Program}{T:TT}{E:En}{ops:Array Oper}{R:Nat->Prop}{s s1 s2:S}{i c:Nat}{ou oc:Oper}{q:Option X}{g:Nat}{us:List X}(hk:aor ou.op=true)(hgu:ou.guard=none)(hap:ajJ ops ou oc)
  (hu:bv P T E true ops s i ou=some (none,s1)) (hld:∃ D,ael s ou.op=some D/\∀ r∈D,¬ R r) (hca:akA P E s1 oc g us) (hR:∀ r∈dQ s1.objs 999 (X.refsL us) [],R r) (hc:callS P E s1 c oc.dst g us=some (q,s2)) :
  s1.objs=s.objs/\akA P E s oc g us/\∃ s',callS P E s c oc.dst g us=some (q,s')/\blank s2=blank s'/\(q=none->bv P T E true ops s' i ou=some (none,s2)/\∃ D,ael s' ou.op=some D/\∀ r∈D,¬ R r):=by
 obtain⟨D,hD,hDR⟩:=hld
 obtain⟨a1,a2,a3⟩:=hap
 rw[aCE hk] at a1 a2
 rw[a0j hca] at a2 a3
 have hgo:∀ s:S,bv P T E true ops s i ou=eV P T E s i ou:=λs=>by
  unfold bv dI
  rw[hgu]
  rfl
 rw[hgo] at hu
 unfold eV at hu
 split at hu
 rotate_left
 .cases hu
 rename_i x e hv
 obtain rfl:=aVE hk hD hv
 simp only[S.drop,aae,am,bD,cM] at hu
 rw[aCE hk] at hu
 subst hu
 have ho:(s.put ou.dst x).objs=s.objs:=by cases ou.dst <;> rfl
 obtain⟨g1,⟨f,args,tys,hop,ht⟩,g2,g3⟩:=hca
 have hlk:∀ y∈oc.op.operands.toList,(s.put ou.dst x).ev y=s.ev y:=λy hy=>aeW _ _ _ _ λj hj e=>a1 j hj (apV hy e)
 have ht':adJ s (.value f) args.toList=some (g,us):=by
  rw[hop] at hlk
  have hf:(s.put ou.dst x).ev f=s.ev f:=hlk f (by simp[Op.operands,Call.operands])
  have ha:args.toList.map (s.put ou.dst x).ev=args.toList.map s.ev:=ff λy hy=>hlk y (by simp only[Op.operands,Call.operands];simpa using .inr (by simpa using hy))
  unfold adJ at ht ⊢
  simp only[hf,ha] at ht ⊢
  exact ht
 have hca':akA P E s oc g us:=⟨g1,⟨f,args,tys,hop,ht'⟩,g2,g3⟩
 obtain⟨an,h1,h2⟩:=aNh g3 hc
 rw[ho] at hR h1 h2
 obtain⟨s',h3,rfl⟩:=aNr (λj hj=>a2 j hj) h2
 obtain⟨f1,f2,f3⟩:=aFo h3
 refine⟨ho,hca',s',by rw[h1 s _ rfl];exact h3,by unfold blank;cases ou.dst <;> rfl,λ_=>?_⟩
 have hev:∀ y∈ou.op.operands.toList,s'.ev y=(s.ev y).tr some (cf (dQ s.objs 999 (X.refsL us) []) []):=λy hy=>by
  cases y with
  | tmp j=>exact f2 j λe=>a3 j e (apV hy rfl)
  | const v=>exact (axd v).symm
  | func f=>rfl
  | global g=>rfl
 have hDn:∀ r∈D,r∉dQ s.objs 999 (X.refsL us) []:=λr hr hm=>hDR r hr (hR r hm)
 obtain⟨_,h4⟩:=aAR hk f1 hev f3 hD hDn hv
 refine⟨?_,D,asV (λy hy h=>by rw[hev y hy];exact aL1 h) (λy hy h=>by rw[hev y hy];exact aHi h) hD,hDR⟩
 rw[hgo]
 unfold eV
 rw[h4]
 simp only[S.drop,aae,am]
 rw[aCE hk]
def bct(R:Nat->Prop)(s:S)(op:Op):Prop:=∃ D,ael s op=some D/\∀ r∈D,¬ R r
def StP(P:Program)(T:TT)(E:En)(ops:Array Oper)(R:Nat->Prop)(c:Option Nat)(s:S)(i:Nat)(o:Oper)(q:Option X)(s':S):Prop :=
 (some i≠c/\q=none/\bv P T E true ops s i o=some (none,s')/\(agw ops c i=false->aeS ops c i=false->bct R s o.op)) \/
 (some i=c/\∃ g us,akA P E s o g us/\(∀ r∈dQ s.objs 999 (X.refsL us) [],R r)/\agz (callS P E s i o.dst g us)=some (q,s'))
def eM(P:Program)(T:TT)(E:En)(ops:Array Oper)(R:Nat->Prop)(c:Option Nat)(m:Nat)(Qp:X->S->Prop)(Qn:S->Prop):Nat->Array Bool->S->Prop
 | 0,listed,s=>(∀ j,j<m->listed.getD j true=true)/\Qn s
 | fuel+1,listed,s=>(∃ i,i∈Region.ready .any ops listed/\i<m)/\∀ i∈Region.ready .any ops listed,i<m->∃ o q s',ops[i]?=some o/\StP P T E ops R c s i o q s'/\(∀ x,q=some x->Qp x s')/\(q=none->eM P T E ops R c m Qp Qn fuel (listed.setIfInBounds i true) s')
structure PlOk (ops:Array Oper) (c:Option Nat) (m:Nat) (pre mid:List Nat):Prop where
 cov:∀ i,i<m->i∈pre\/some i=c\/i∈mid
 solo:∀ i o,i<m->ops[i]?=some o->cL o.op=true->afe ops i=true
 pre:∀ i∈pre,agw ops c i=true\/uAt ops i=true
 mid:∀ i∈mid,aeS ops c i=true
def aBr{P:Program}{T:TT}{E:En}{ops:Array Oper}{s s1:S}{i:Nat}{oi oj:Oper}(h:bv P T E true ops s i oi=some (none,s1))(ha:∀ d,dB oi=some d->d∉oj.looksAt ops)(D:List Nat):ael s oj.op=some D↔ael s1 oj.op=some D:=by
 obtain⟨_,x,e,_,rfl⟩:=aew h
 have hev:∀ y∈oj.op.operands.toList,((s.drop e).put (dB oi) x).ev y=(s.drop e).ev y:=λy hy=>aeW _ _ _ _ λj hj e'=>ha j hj (apV hy e')
 have h1:∀ y∈oj.op.operands.toList,afj (((s.drop e).put (dB oi) x).ev y)=afj (s.ev y):=λy hy=>by
  rw[hev y hy]
  cases e with
  | none=>rfl
  | some t=>rw[da,aDU]
 have h2:∀ y∈oj.op.operands.toList,abb (((s.drop e).put (dB oi) x).ev y)=abb (s.ev y):=λy hy=>by
  rw[hev y hy]
  cases e with
  | none=>rfl
  | some t=>rw[da,azD]
 exact⟨asV (λy hy h=>by rw[h1 y hy];exact h) (λy hy h=>by rw[h2 y hy];exact h),asV (λy hy h=>by rw[← h1 y hy];exact h) (λy hy h=>by rw[← h2 y hy];exact h)⟩
def ah2{listed:Array Bool}{i:Nat}:(listed.setIfInBounds i true).getD i true=true:=by
 rcases aA i listed.size with g|g
 .simp[g]
 .simp[g]
section
variable {P:Program} {T:TT} {E:En} {ops:Array Oper} {R:Nat->Prop} {c:Option Nat} {m:Nat} {pre mid:List Nat} {Qp:X->S->Prop} {Qn:S->Prop}
theorem aFz(hp:PlOk ops c m pre mid){i:Nat}{oi:Oper}(hi:ops[i]?=some oi)(him:i<m):∀ (fuel:Nat) (listed:Array Bool) (s s1:S) (q1:Option X),Dc ops listed ->
  (∀ (j:Nat) (oj:Oper),ops[j]?=some oj->j≠i->listed.getD j true=false->(∀ e∈oj.after,Region.binds .any e=true->e.on≠i)->oi.apart ops oj=true) ->
  (some i=c->∀ j,j<m->listed.getD j true=false->j≠i->aeS ops c j=true) ->
  i∈Region.ready .any ops listed->StP P T E ops R c s i oi q1 s1->(∀ x,q1=some x->Qp x s1)->(q1=none->eM P T E ops R c m Qp Qn fuel (listed.setIfInBounds i true) s1)->eM P T E ops R c m Qp Qn (fuel+1) listed s:=by
 intro fuel
 induction fuel with
 | zero =>
  intro listed s s1 q1 hdc _ hlast hr hs Hp H
  refine⟨⟨i,hr,him⟩,λj hj hjm=>?_⟩
  by_cases hji:j=i
  .subst hji;exact⟨oi,q1,s1,hi,hs,Hp,H⟩
  .exfalso
   have hjun:=(mem_ready.1 hj).1
   have hiun:=(mem_ready.1 hr).1
   rcases hs with ⟨_,rfl,_⟩|⟨hc,_⟩
   .have:=(H rfl).1 j hjm
    rw[getD_set_ne true (bo hji),hjun] at this
    cases this
   .have:=hlast hc j hjm hjun hji
    rw[← hc] at this
    exact ahp hdc hiun this hj
 | succ fuel ih =>
  intro listed s s1 q1 hdc hfree hlast hr hs Hp H
  refine⟨⟨i,hr,him⟩,λj hj hjm=>?_⟩
  by_cases hji:j=i
  .subst hji;exact⟨oi,q1,s1,hi,hs,Hp,H⟩
  .have hjun:=(mem_ready.1 hj).1
   have hiun:=(mem_ready.1 hr).1
   rcases hs with ⟨hic,rfl,hsi,hli⟩|⟨hc,_⟩
   rotate_left
   .exfalso
    have:=hlast hc j hjm hjun hji
    rw[← hc] at this
    exact ahp hdc hiun this hj
   obtain⟨oj,qj,s2,hoj,hsj,HHp,HH⟩:=(H rfl).2 j (ready_mono hj hji) hjm
   have hji':=aaF hj hoj hiun
   have hij':=aaF hr hi hjun
   have hap:=aim hi hoj (bo hji) hij' hji' (hfree j oj hoj hji hjun hji') (λh=>hp.solo i oi him hi h) (λh=>hp.solo j oj hjm hoj h)
   have hun':∀ k,(listed.setIfInBounds j true).getD k true=false->listed.getD k true=false:=λk hk=>by
    by_cases hjk:j=k
    .subst hjk;exact hjun
    .rw[getD_set_ne true hjk] at hk;exact hk
   have go:∀ s',StP P T E ops R c s j oj none s'->StP P T E ops R c s' i oi none s2->qj=none->∃ o q s',ops[j]?=some o/\StP P T E ops R c s j o q s'/\(∀ x,q=some x->Qp x s')/\(q=none->eM P T E ops R c m Qp Qn (fuel+1) (listed.setIfInBounds j true) s'):=by
    intro s' g1 g2 hq
    refine⟨oj,none,s',hoj,g1,λx hx=>(by cases hx),λ_=>?_⟩
    exact ih (listed.setIfInBounds j true) s' s2 none (hdc.set hj) (λk ok hk hki hun hno=>hfree k ok hk hki (hun' k hun) hno) (λh=>absurd h hic) (ready_mono hr (bo hji)) g2 (λx hx=>by cases hx) (λ_=>by rw[eC _ _ hji];exact HH hq)
   rcases hsj with ⟨hjc,rfl,hsj,hlj⟩|⟨hjc,g,us,hca,hR,hcs⟩
   .obtain⟨s',g1,g2⟩:=aym hap hij' hji' hsi hsj
    refine go s' (.inl ⟨hjc,rfl,g1,λh1 h2=>?_⟩) (.inl ⟨hic,rfl,g2,λh1 h2=>?_⟩) rfl
    .obtain⟨D,hD,hDR⟩:=hlj h1 h2
     exact⟨D,(aBr hsi hap.1 D).2 hD,hDR⟩
    .obtain⟨D,hD,hDR⟩:=hli h1 h2
     exact⟨D,(aBr g1 hap.symm.1 D).1 hD,hDR⟩
   .have hf:agw ops c i=false:=by
     cases hf:agw ops c i with
     | false=>rfl
     | true=>rw[← hjc] at hf;exact absurd hj (ahp hdc hiun hf)
    have hw:aeS ops c i=false:=by
     cases hw:aeS ops c i with
     | false=>rfl
     | true=>rw[← hjc] at hw;exact absurd hr (ahp hdc hjun hw)
    have hu:uAt ops i=true:=by
     rcases hp.cov i him with h|h|h
     .rcases hp.pre i h with h|h
      .rw[hf] at h;cases h
      .exact h
     .exact absurd h hic
     .rw[hp.mid i h] at hw;cases hw
    unfold uAt at hu
    simp only[hi,aj,aa0] at hu
    cases hcq:callS P E s1 j oj.dst g us with
    | none=>rw[hcq] at hcs;cases hcs
    | some p =>
     obtain⟨q0,s0⟩:=p
     rw[hcq] at hcs
     obtain⟨ho,hca',s',h1,h2,h3⟩:=aVF hu.1 hu.2 hap hsi (hli hf hw) hca hR hcq
     rw[ho] at hR
     cases q0 with
     | none =>
      simp only[agz,bD] at hcs
      obtain⟨rfl,rfl⟩:=hcs
      obtain⟨h4,h5⟩:=h3 rfl
      exact go s' (.inr ⟨hjc,g,us,hca',hR,by rw[h1];rfl⟩) (.inl ⟨hic,rfl,h4,λ_ _=>h5⟩) rfl
     | some x =>
      simp only[agz,bD] at hcs
      obtain⟨rfl,rfl⟩:=hcs
      refine⟨oj,some x,blank s',hoj,.inr ⟨hjc,g,us,hca',hR,by rw[h1];rfl⟩,λy hy=>?_,λh=>by cases h⟩
      cases hy
      rw[← h2]
      exact HHp x rfl
def alp(P:Program)(T:TT)(E:En)(ops:Array Oper)(R:Nat->Prop)(c:Option Nat):List Nat->S->Option X->S->Prop
 | [],s,q,s'=>q=none/\s'=s
 | i::l,s,q,s'=>∃ o q1 s1,ops[i]?=some o/\StP P T E ops R c s i o q1 s1/\(∀ x,q1=some x->q=some x/\s'=s1)/\(q1=none->alp P T E ops R c l s1 q s')
theorem ayL(hp:PlOk ops c m pre mid)(tl:List Nat):∀ (l:List Nat) (listed:Array Bool) (s:S) (q:Option X) (s':S),agv ops (l++tl) listed=true->Dc ops listed->(∀ i∈l,i<m)->(∀ j,j<m->listed.getD j true=false->j∈l) ->
  (∀ (l1 l2:List Nat) (i:Nat),l=l1++i::l2->some i=c->∀ j∈l2,aeS ops c j=true)->alp P T E ops R c l s q s'->(q=none->Qn s')->(∀ x,q=some x->Qp x s')->eM P T E ops R c m Qp Qn l.length listed s
 | [],listed,s,q,s',_,_,_,hcov,_,h,hn,_=>by
  obtain⟨rfl,rfl⟩:=h
  refine⟨λj hj=>?_,hn rfl⟩
  cases hl:listed.getD j true with
  | true=>rfl
  | false=>cases hcov j hj hl
 | i::l,listed,s,q,s',hB,hdc,hlt,hcov,hcl,h,hn,hpq=>by
  obtain⟨o,q1,s1,hi,hst,h1,h2⟩:=h
  simp only[cQ,agv,aj] at hB
  obtain⟨⟨hr,hf⟩,hB'⟩:=hB
  have hr':i∈Region.ready .any ops listed:=by simpa using hr
  refine aFz hp hi (hlt i aT) l.length listed s s1 q1 hdc (Region.free_spec hi hf) (λhc j hj hun hji=>?_) hr' hst (λx hx=>?_) (λhq=>?_)
  .rcases bj.1 (hcov j hj hun) with h|h
   .exact absurd h hji
   .exact hcl [] l i rfl hc j h
  .obtain⟨rfl,rfl⟩:=h1 x hx;exact hpq x rfl
  .refine ayL hp tl l _ s1 q s' hB' (hdc.set hr') (λj hj=>hlt j (by simp[hj])) (λj hj hun=>?_) (λl1 l2 k e hc j hj=>hcl (i::l1) l2 k (by rw[e];rfl) hc j hj) (h2 hq) hn hpq
   have hji:j≠i:=λe=>by subst e;rw[ah2] at hun;cases hun
   rw[getD_set_ne true (bo hji)] at hun
   rcases bj.1 (hcov j hj hun) with h|h
   .exact absurd h hji
   .exact h
theorem ais:∀ (l1 l2:List Nat) (s:S) (q:Option X) (s1 s':S),alp P T E ops R c l1 s none s1->alp P T E ops R c l2 s1 q s'->alp P T E ops R c (l1++l2) s q s'
 | [],l2,s,q,s1,s',h,h2=>by obtain⟨_,rfl⟩:=h;exact h2
 | i::l1,l2,s,q,s1,s',h,h2=>by
  obtain⟨o,q1,s0,hi,hst,g1,g2⟩:=h
  have hq:q1=none:=by
   cases q1 with
   | none=>rfl
   | some x=>cases (g1 x rfl).1
  subst hq
  exact⟨o,none,s0,hi,hst,λx hx=>(by cases hx),λ_=>ais l1 l2 s0 q s1 s' (g2 rfl) h2⟩
end
theorem Sim.blank{M0:Base}{k:Know}{ow:Own}{done:Nat->Prop}{w0 w:World}{N:Nat}{s:S}{tmps:Array Value}(h:Sim M0 k ow done w0 w N s tmps):Sim M0 k ow done w0 w N (Go.Pe.blank s) tmps :=
 {h.toHp with size:=h.size,fr:=λj=>by simp[Go.Pe.blank,aE,Rep],fresh:=h.fresh,cells:=h.cells}
section
variable {P:Program} {M0:Base} {w0:World} {N:Nat} {ds:List Deferred}
theorem aTX{ops:Array Oper}{m:Nat}(hF:aMN ops m=true){i t:Nat}(hi:i<m)(ht:m<=t)(hts:t<ops.size):wB ops i ops.size t=true:=by
 have:=List.all_eq_true.1 hF t (List.mem_range.2 hts)
 simp only[bk,aV] at this
 rcases this with h|h
 .omega
 .exact List.all_eq_true.1 h i (List.mem_range.2 hi)
theorem arR{E:En}(horc:EnSound P M0.G E){ops:Array Oper}(hdst:∀ (j:Nat) (o:Oper),ops[j]?=some o->abZ N o=true){R:Nat->Prop}{c:Option Nat}{m n:Nat}(hF:aMN ops m=true)(hmn:ops.size=m+n){Qp:X->S->Prop}{Qn:S->Prop}{Q:Exit->Act->World->Prop}{k0:Know}
  (hP:∀ x s' v tmps' w' k' ow' done',k0.le k'->Qp x s'->Sim M0 k' ow' done' w0 w' N s' tmps'->aE k' ow' x v->Q (.panic [{v:=v,recovered:=false}]) ⟨tmps',ds⟩ w')
  (hN:∀ listed s w tmps k ow,k0.le k->Qn s->(∀ j,j<m->listed.getD j true=true)->(∀ j,m<=j->j<ops.size->listed.getD j true=false)->listed.size=ops.size->Dc ops listed->Sim M0 k ow (λj=>listed.getD j true=true) w0 w N s tmps->wpAny P .any ops Q n listed ⟨tmps,ds⟩ w) :
  ∀ (fuel:Nat) (listed:Array Bool) (s:S) (w:World) (tmps:Array Value) (k:Know) (ow:Own),k0.le k->Sim M0 k ow (λj=>listed.getD j true=true) w0 w N s tmps->listed.size=ops.size->Dc ops listed->(∀ j,m<=j->j<ops.size->listed.getD j true=false) ->
  eM P (TT.of P) E ops R c m Qp Qn fuel listed s->wpAny P .any ops Q (fuel+n) listed ⟨tmps,ds⟩ w
 | 0,listed,s,w,tmps,k,ow,hk,hs,hsz,hdc,hge,h=>by
  rw[bK]
  exact hN listed s w tmps k ow hk h.2 h.1 hge hsz hdc hs
 | fuel+1,listed,s,w,tmps,k,ow,hk,hs,hsz,hdc,hge,h=>by
  obtain⟨⟨i0,hi0,hi0m⟩,h⟩:=h
  rw[show fuel+1+n=(fuel+n)+1 by omega]
  refine⟨λh0=>(by rw[h0] at hi0;cases hi0),λi hi=>?_⟩
  have him:i<m:=by
   rcases aA i m with g|g
   .exact g
   .exfalso
    have his:i<ops.size:=by
     obtain⟨_,o,ho,_⟩:=mem_ready.1 hi
     exact (Array.getElem?_eq_some_iff.1 ho).1
    exact ahp hdc (mem_ready.1 hi0).1 (aTX hF hi0m g his) hi
  obtain⟨o,q,s',ho,hst,Hp,H⟩:=h i hi him
  have hun:=(mem_ready.1 hi).1
  have hdone:∀ j,(listed.getD j true=true\/j=i)->(listed.setIfInBounds i true).getD j true=true:=λj hj=>by
   rcases hj with hj|rfl
   .by_cases hij:i=j
    .subst hij;rw[hun] at hj;cases hj
    .rw[getD_set_ne true hij];exact hj
   .exact ah2
  have hge':∀ j,m<=j->j<ops.size->(listed.setIfInBounds i true).getD j true=false:=λj h1 h2=>by
   rw[getD_set_ne true aC];exact hge j h1 h2
  have next:∀ s' w' tmps' k' ow',k0.le k'->eM P (TT.of P) E ops R c m Qp Qn fuel (listed.setIfInBounds i true) s'->Sim M0 k' ow' (λj=>listed.getD j true=true\/j=i) w0 w' N s' tmps'->wpAny P .any ops Q (fuel+n) (listed.setIfInBounds i true) ⟨tmps',ds⟩ w' :=
   λs' w' tmps' k' ow' g1 g2 g3=>arR horc hdst hF hmn hP hN fuel _ s' w' tmps' k' ow' g1 (g3.more hdone) (by simpa using hsz) (hdc.set hi) hge' g2
  rcases hst with ⟨_,rfl,hst,_⟩|⟨_,g,us,hca,_,hcs⟩
  .exact aao (dr:=true) hs horc (by rw[hun];simp) ho (hdst i o ho) hst (λ_ tmps' w' k' ow' g1 g2=>next s' w' tmps' k' ow' (Know.le_trans hk g1) (H rfl) g2) (λx hx=>by cases hx)
  .have hst:∀ r,callS P E s i o.dst g us=some r->bv P (TT.of P) E false ops s i o=some r:=λr hr=>by
    unfold bv dI
    rw[hca.1]
    simp only
    rw[aA1 hca]
    exact hr
   cases hcq:callS P E s i o.dst g us with
   | none=>rw[hcq] at hcs;cases hcs
   | some p =>
    obtain⟨q0,s0⟩:=p
    rw[hcq] at hcs
    refine aao (dr:=false) hs horc (by rw[hun];simp) ho (hdst i o ho) (hst _ hcq) (λhe tmps' w' k' ow' g1 g2=>?_) (λx hx v w' k' ow' g1 g2 g3=>?_)
    .subst he
     simp only[agz,bD] at hcs
     obtain⟨rfl,rfl⟩:=hcs
     exact next s0 w' tmps' k' ow' (Know.le_trans hk g1) (H rfl) g2
    .subst hx
     simp only[agz,bD] at hcs
     obtain⟨rfl,rfl⟩:=hcs
     exact hP x _ v tmps w' k' ow' _ (Know.le_trans hk g1) (Hp x rfl) g2.blank g3
end
section
variable {P:Program} {M0:Base} {k:Know} {ow:Own} {done:Nat->Prop} {w0 w:World} {N:Nat} {s:S} {tmps:Array Value} {ds:List Deferred}
theorem aGZ(hs:Sim M0 k ow done w0 w N s tmps){t':Tk}{e z n:Nat}{cs:List C}{v:Value}(hx:aE k ow (.own t' e z cs n) v) :
  ∃ xs,ow t'=some (v,e,z,n)/\w.ownsRow 0 e z v n xs/\bu k.m cs xs/\(∀ u∈xs,u.oneCell'=true)/\∀ g,v.ownBlock=some g->agq M0.mod w0 g/\(∀ r,k.μ r=some g->fG s.objs 0 r)/\(∀ t v2 e z n,(ow.del t') t=some (v2,e,z,n)->v2.ownBlock≠some g)/\∀ o u,k.m g o=some u->xs[o]?=some u:=by
 simp only[aE] at hx
 obtain⟨ho,hcl,hrep⟩:=hx
 obtain⟨⟨xs,hown⟩,htok⟩:=hs.tok _ _ _ _ _ ho
 simp only[Rep] at hrep
 obtain⟨a,cp,us,hve,_,hul,hum⟩:=hrep
 have hlen:us.length=xs.length:=by rw[hul.length,hown.1,hcl]
 have hat:∀ g,v.ownBlock=some g->∀ i u,us[i]?=some u->k.m g i=some u:=by
  intro g hg i u hu
  have hne:us≠[]:=by rintro rfl;simp at hu
  obtain⟨b,o,rfl,hc⟩:=hum hne
  rw[hve] at hg hown
  rcases hown.2 with ⟨h0,_⟩|⟨g',cap2,cur,hv,_⟩
  .cases h0
  .simp only[Value.slice.injEq,ab,Addr.mk.injEq] at hv
   obtain⟨⟨rfl,rfl,_⟩,_,rfl⟩:=hv
   simp only[Value.ownBlock,ab] at hg
   subst hg
   have:=hc i u hu
   simpa using this
 have hblk:xs≠[]->∃ g,v.ownBlock=some g:=λhne=>by
  rcases hown.2 with ⟨_,h0⟩|⟨g',cap2,cur,hv,_⟩
  .exfalso;subst h0;have:=hown.1;rw[abB] at this;exact hne (bP this)
  .exact⟨g',by rw[hv];rfl⟩
 have hsame:us=xs:=by
  apply abF
  intro i
  by_cases hi:i<us.length
  .have hx2:xs[i]?=some (xs[i]'(by omega)):=by simp[show i<xs.length by omega]
   obtain⟨g,hg⟩:=hblk (by rintro rfl;simp only[aR] at hlen;omega)
   have hu:us[i]?=some us[i]:=by simp[hi]
   have hc1:=(hs.mem _ _ _ (hat g hg i _ hu)).1
   have hc2:=hown.cells hg i _ hx2
   rw[Addr.add_lit,bK,hc1] at hc2
   rw[hu,hx2]
   exact hc2
  .rw[aX aC,aX aC]
 subst hsame
 refine⟨us,ho,hown,hul,λu hu=>?_,λg hg=>⟨(htok g hg).1,λr hr=>?_,λt v2 e2 z2 n2 h2=>?_,λo u hm=>?_⟩⟩
 .obtain⟨i,hi⟩:=List.mem_iff_getElem?.1 hu
  obtain⟨g,hg⟩:=hblk (by rintro rfl;cases hu)
  exact (hs.mem _ _ _ (hat g hg i u hi)).2
 .obtain⟨ty,rs,q1,q2⟩:=((htok g hg).2.2 r hr).1
  cases rs with
  | nil=>exact⟨ty,[],q1,ae _⟩
  | cons a' rs =>
   exfalso
   have hnone:=(hs.toHp.lt hr).2.2 ⟨_,q1,rfl⟩
   have hpos':0<us.length:=by rw[hul.length,hcl];simp only[aN] at q2;omega
   have:=hat g hg 0 _ (aL hpos')
   rw[hnone] at this
   cases this
 .simp only[Own.del] at h2
  split at h2
  .cases h2
  .rename_i hne
   exact hs.tokne t' t _ _ _ _ _ _ _ _ ho h2 (bo hne) g hg
 .have hlt:o<n*z:=by
   rcases aA o (n*z) with g1|g1
   .exact g1
   .rw[(htok g hg).2.1 o g1] at hm;cases hm
  have hlx:o<us.length:=by rw[hown.1];exact hlt
  have:=hat g hg o _ (aL hlx)
  rw[aL hlx,← this]
  exact hm
theorem aKa{t ty e:Nat}{d:TD}(hund:P.underlying t=some (.slice e))(hd:TT.of P e=some d)(hz:0<d.size){v:Value}{n:Nat}{xs:List Value}(hown:w.ownsRow 0 e d.size v n xs)
  {A:Option Addr} {c:Nat} {news:List Value} (hl:news.length=d.size) (hA:∃ b o,A=some ⟨b,o,none⟩/\∀ i u,news[i]?=some u->w.cell? ⟨b,o+i,none⟩=some u)
  (h1:∀ u∈news,u.oneCell'=true) (hLIM:n+1<=LIM) (hby:d.bytes<=32768) {vx:Value} (hvl:vx.cells.toList.length=d.size) (hv1:∀ u∈vx.cells.toList,u.oneCell'=true) :
  ∃ v' w1 g R,(Builtin.append_ #[t,t] ty #[v,.slice A 1 c]).run P w=.ok v' w1/\(∀ w',(Instr.indexAt t v' (.int .i64 n)).run P w'=.ok (.pointer (some ⟨g,n*d.size,none⟩)) w')/\(∀ w',w'.heap[g]?=w1.heap[g]?->(Instr.storeAt e (.pointer (some ⟨g,n*d.size,none⟩)) vx).run P w'=.ok () (w'.setRow g R)) /\
   v'.ownBlock=some g/\(w1.setRow g R).ownsRow 0 e d.size v' (n+1) (xs++vx.cells.toList)/\(∃ cap,v'=.slice (some ⟨g,0,none⟩) (n+1) cap)/\((w.grownBy (w1.setRow g R) v.ownBlock/\v'.ownBlock=v.ownBlock)\/(w.grownBy (w1.setRow g R) none/\v'.ownBlock=some w.heap.size)):=by
 obtain⟨v',w1,hr,hown1,hcase⟩:=ai4 (P:=P) (w:=w) (ty:=ty) (m:=1) (c:=c) hund hd hz hown (by rw[abW];exact hl) (λ_=>hA) h1 hLIM hby (aU _)
 rcases hown1.2 with ⟨_,h0⟩|⟨g,cap,cur,rfl,_,hh,hcap,hcm,hcs,htake⟩
 .omega
 have hlx:xs.length=n*d.size:=hown.1
 have hsz1:(n+1)*d.size<=cur.size:=by rw[hcs];exact Nat.mul_le_mul_right _ hcap
 have hadd:(n+1)*d.size=n*d.size+d.size:=by rw[adN,abW]
 have hpre:cur.toList.take (n*d.size)=xs:=by
  have h2:(cur.toList.take ((n+1)*d.size)).take (n*d.size)=cur.toList.take (n*d.size):=by rw[List.take_take,Nat.min_eq_left aC]
  rw[htake,List.take_append_of_le_length aC,aaB aC] at h2
  exact h2.symm
 have hfit:n*d.size+0+vx.cells.toList.length<=cur.size:=by omega
 have hst:∀ w',w'.heap[g]?=w1.heap[g]?->(storeCells ⟨g,n*d.size,none⟩ vx.cells.toList 0).run P w'=.ok () (w'.setRow g (xs++vx.cells.toList++cur.toList.drop (n*d.size+d.size)).toArray):=λw' hw'=>by
  have hst:=run_storeCells_at P g (n*d.size) e vx.cells.toList 0 cur w' (hw'.trans hh) hfit hv1
  rw[abC,hpre,hvl] at hst
  exact hst
 have hsz:vx.cells.size=d.size:=by simpa using hvl
 refine⟨_,w1,g,(xs++vx.cells.toList++cur.toList.drop (n*d.size+d.size)).toArray,hr,λw'=>?_,λw' hw'=>?_,rfl,?_,⟨cap,rfl⟩,?_⟩
 .have h0:(0:Int)<=(n:Int):=acA n
  have hru:=run_underlying (P:=P) (w:=w') hund
  simp[Instr.indexAt,asIntOf,hru,(TT.of_ok hd).run_size,h0,Addr.add_lit]
 .simp[Instr.storeAt,Instr.sureAddr,storeVar,(TT.of_ok hd).run_size,hsz,hst w' hw']
 .refine⟨by rw[bg,hlx,hvl,hadd],.inr ⟨g,cap,_,rfl,aU _,setRow_heap w1 g cur _ e _ hh,hcap,hcm,?_,?_⟩⟩
  .simp only[dD,bg,cP,ep]
   omega
  .rw[abd,hadd,show n*d.size+d.size=(xs++vx.cells.toList).length by rw[bg,hlx,hvl]]
   exact acL
 .have hoth:∀ c,c≠g->(w1.setRow g (xs++vx.cells.toList++cur.toList.drop (n*d.size+d.size)).toArray).heap[c]?=w1.heap[c]?:=λc hc=>setRow_other w1 g c _ hc
  have hsz2:(w1.setRow g (xs++vx.cells.toList++cur.toList.drop (n*d.size+d.size)).toArray).heap.size=w1.heap.size:=by simp[World.setRow]
  rcases hcase with ⟨q1,q2⟩|⟨q1,q2⟩
  .refine .inl ⟨⟨q1.os,q1.tape,q1.output,by rw[hsz2];exact q1.size,λk hk hne=>?_⟩,q2⟩
   rw[hoth k (λe=>hne (by rw[← q2,e];rfl))]
   exact q1.block k hk hne
  .refine .inr ⟨⟨q1.os,q1.tape,q1.output,by rw[hsz2];exact q1.size,λk hk hne=>?_⟩,q2⟩
   simp only[Value.ownBlock,ab] at q2
   rw[hoth k aC]
   exact q1.block k hk hne
theorem Sim.push(h:Sim M0 k ow done w0 w N s tmps){row:Option Nat}{w':World}{v':Value}{e z g cap:Nat}{us:List Value}{cs:List C}(hvv:v'=.slice (some ⟨g,0,none⟩) 1 cap)
  (hrow:∀ g,row=some g->agq M0.mod w0 g/\(∀ r,k.μ r=some g->fG s.objs 0 r)/\(∀ t v e z n,ow t=some (v,e,z,n)->v.ownBlock≠some g)/\∀ o,k.m g o=none)
  (hg:w.grownBy w' row) (hown:w'.ownsRow 0 e z v' 1 us) (hv:v'.ownBlock=row\/(v'.ownBlock=some w.heap.size/\row=none)) (hcs:bu k.m cs us) (h1:∀ u∈us,u.oneCell'=true) (hz:0<z) :
  ∃ k' ow',k.le k'/\Sim M0 k' ow' done w0 w' N {s with objs:=s.objs++[.row e cs]} tmps/\aE k' ow' (.top s.objs.length e z) v':=by
 have hgb:v'.ownBlock=some g:=by rw[hvv];rfl
 have hnt:ow (abq s.objs.length)=none:=by
  cases ht:ow (abq s.objs.length) with
  | none=>rfl
  | some p=>have:=h.cells _ _ _ ht;omega
 let k':Know:={m:=k.m,μ:=λr=>if r=s.objs.length then some g else k.μ r}
 let ow':=ow.add (abq s.objs.length) (v',e,z,1)
 have hle:k.le k':=⟨λ_ _ _ h=>h,λr b' hr=>by
  have:=h.dom r b' hr
  show (if r=s.objs.length then some g else k.μ r)=some b'
  rw[ar aC];exact hr⟩
 have hsub:ow.sub ow':=Own.sub_add hnt
 have hnew:agq M0.mod w0 g/\(∀ r,k.μ r=some g->fG s.objs 0 r)/\(∀ t v e z n,ow t=some (v,e,z,n)->v.ownBlock≠some g)/\∀ o,k.m g o=none:=by
  rcases hv with hv|⟨hv,_⟩
  .exact hrow g (by rw[← hv,hgb])
  .have e1:g=w.heap.size:=ay (hgb.symm.trans hv)
   subst e1
   refine⟨.inl h.below.size,λr hr=>?_,λt v e z n ho hb=>?_,λo=>?_⟩
   .have:=(h.lt hr).2.1
    exact absurd this aC
   .have:=(h.tlt ho hb).2
    omega
   .cases hm:k.m w.heap.size o with
    | none=>rfl
    | some u=>have:=agt h.mem hm;omega
 obtain⟨n1,n2,n3,n4⟩:=hnew
 have hdd:∀ r,k.μ r=some g->¬ Liv s.objs r:=λr hr=>ahy (n2 r hr)
 have hblk:∀ b,b<w.heap.size->b≠g->w'.heap[b]?=w.heap[b]?:=λb hb hne=>hg.block b hb λe=>hne (by
  rcases hv with hv|⟨_,hv⟩
  .rw[← hv,hgb] at e;exact ay e
  .rw[hv] at e;cases e)
 have hrl:∀ b,some b=row->b=g:=λb e=>by
  rcases hv with hv|⟨_,hv⟩
  .rw[← hv,hgb] at e;exact ay e
  .rw[hv] at e;cases e
 rcases hown.2 with ⟨_,h0⟩|⟨g',cap',cur,hv2,_,hh,hcap,hcm,hcsz,htake⟩
 .cases h0
 rw[hvv] at hv2
 simp only[Value.slice.injEq,ab,Addr.mk.injEq] at hv2
 obtain⟨⟨rfl,_,_⟩,_,rfl⟩:=hv2
 have hgl:g<w'.heap.size:=(Array.getElem?_eq_some_iff.1 hh).1
 rw[abW] at htake
 have hul:us.length=z:=by rw[hown.1,abW]
 have hob:w'.heap[g]?=some (.cells (us++cur.toList.drop z).toArray e (0,0)):=by
  rw[hh]
  congr 2
  rw[← htake,ac6]
 refine⟨k',ow',hle,{
  good:=h.good
  size:=h.size
  below:=⟨hg.os.trans h.below.os,hg.tape.trans h.below.tape,hg.output.trans h.below.output,fx h.below.size hg.size,
   λb hb hm=>(hblk b (cq hb h.below.size) (λe=>by subst e;rcases n1 with q|q;omega;exact hm q)).trans (h.below.block b hb hm)⟩
  fr:=λj=>aE.mono hle hsub _ _ (h.fr j)
  mem:=λb o u hm=>by
   obtain⟨g1,g2⟩:=h.mem b o u hm
   have hne:b≠g:=λe=>by subst e;have:k.m b o=some u:=hm;rw[n4] at this;cases this
   exact⟨(World.cell?_of_block (a:=⟨b,o,none⟩) (hblk b (agt h.mem hm) hne)).trans g1,g2⟩
  obj:=λr ob hr=>by
   by_cases hlast:r=s.objs.length
   .subst hlast
    simp at hr
    subst hr
    exact⟨g,by simp[k'],n1,hgl,λ_=>n4,.inr ⟨us,_,hob,h1,hcs⟩⟩
   .have hr':s.objs[r]?=some ob:=by
     rcases aA r s.objs.length with g'|g'
     .rwa [aZ g'] at hr
     .rw[bJ g'] at hr
      obtain⟨q,hq⟩:=abs (show r-s.objs.length≠0 by omega)
      rw[hq] at hr
      simp at hr
    obtain⟨b,g1,g2,g3,g4,g5⟩:=h.obj r ob hr'
    by_cases hb:b=g
    .subst hb
     exact⟨b,hle.2 _ _ g1,g2,hgl,g4,.dead (amB hr' (hdd r g1))⟩
    .exact⟨b,hle.2 _ _ g1,g2,cq g3 hg.size,g4,(g5.keep (hblk b g3 hb)).mono hle hsub⟩
  dom:=λr b' hr=>by
   simp only[k'] at hr
   simp only[bg,dR]
   split at hr
   .omega
   .have:=h.dom r b' hr;omega
  inj:=λr r' b hr hr' hl hl'=>by
   simp only[k'] at hr hr'
   split at hr
   .split at hr'
    .omega
    .have:=ay hr
     subst this
     exact absurd (aej hl' (h.dom r' _ hr')) (hdd r' hr')
   .split at hr'
    .have:=ay hr'
     subst this
     exact absurd (aej hl (h.dom r _ hr)) (hdd r hr)
    .exact h.inj r r' b hr hr' (aej hl (h.dom r b hr)) (aej hl' (h.dom r' b hr'))
  tok:=λt v e' z' n ht=>by
   have ht:(if t=abq s.objs.length then some (v',e,z,1) else ow t)=some (v,e',z',n):=ht
   split at ht
   .rename_i ht'
    simp only[bD] at ht
    obtain⟨rfl,rfl,rfl,rfl⟩:=ht
    refine⟨⟨us,hown⟩,λg' hg'=>?_⟩
    obtain rfl:g=g':=ay (hgb.symm.trans hg')
    refine⟨n1,λo _=>n4 o,λr hr=>?_⟩
    simp only[k'] at hr
    split at hr
    .rename_i hr0
     subst hr0
     exact⟨⟨e,cs,by simp,by rw[← hcs.length,hul,abW];exact ae _⟩,λ_=>ht'⟩
    .exact⟨akP ((n2 r hr).mono (aU _)),λhl=>absurd (aej hl (h.dom r _ hr)) (hdd r hr)⟩
   .obtain⟨⟨xs,g1⟩,g2⟩:=h.tok t v e' z' n ht
    refine⟨⟨xs,acK (λg' hgo hlt=>hblk g' hlt (λe=>n3 t v _ _ _ ht (by rw[← e];exact hgo))) g1⟩,λg' hgo=>⟨(g2 g' hgo).1,(g2 g' hgo).2.1,λr hr=>?_⟩⟩
    simp only[k'] at hr
    split at hr
    .have:=ay hr
     subst this
     exact absurd hgo (n3 t v _ _ _ ht)
    .exact⟨akP ((g2 g' hgo).2.2 r hr).1,λhl=>((g2 g' hgo).2.2 r hr).2 (aej hl (h.dom r _ hr))⟩
  tokne:=λt1 t2 v1 e1 z1 m1 v2 e2 z2 m2 h1' h2' hne g' hg1 hg2=>by
   have h1':(if t1=abq s.objs.length then some (v',e,z,1) else ow t1)=some (v1,e1,z1,m1):=h1'
   have h2':(if t2=abq s.objs.length then some (v',e,z,1) else ow t2)=some (v2,e2,z2,m2):=h2'
   split at h1'
   .rename_i e1'
    simp only[bD] at h1'
    obtain⟨rfl,rfl,rfl,rfl⟩:=h1'
    obtain rfl:g=g':=ay (hgb.symm.trans hg1)
    split at h2'
    .rename_i e2';exact hne (e1'.trans e2'.symm)
    .exact n3 _ _ _ _ _ h2' hg2
   .split at h2'
    .simp only[bD] at h2'
     obtain⟨rfl,rfl,rfl,rfl⟩:=h2'
     obtain rfl:g=g':=ay (hgb.symm.trans hg2)
     exact n3 _ _ _ _ _ h1' hg1
    .exact h.tokne t1 t2 _ _ _ _ _ _ _ _ h1' h2' hne g' hg1 hg2
  fresh:=λt p ht=>by
   have ht:(if t=abq s.objs.length then some (v',e,z,1) else ow t)=some p:=ht
   split at ht
   .rename_i e1;subst e1;trivial
   .exact h.fresh t p ht
  cells:=λr off p ht=>by
   have ht:(if Tk.cell r off=abq s.objs.length then some (v',e,z,1) else ow (.cell r off))=some p:=ht
   simp only[bg,dR]
   split at ht
   .rename_i e1;cases e1;omega
   .have:=h.cells r off p ht;omega
  m0:=h.m0},?_⟩
 simp only[aE]
 exact⟨by simp[ow',Own.add],g,cap,by simp[k'],hvv⟩
end
def agx{tmps:Array Value}{ds:List Deferred}{d:Nat}{v:Value}{x:Operand}(h:x≠.tmp d):((⟨tmps,ds⟩ : Act).put (some d) v).eval x=(⟨tmps,ds⟩ : Act).eval x:=by
 cases x with
 | tmp j =>
  have hj:j≠d:=λe=>h (by rw[e])
  simp[Act.put,Act.eval,aaa (bo hj)]
 | _=>rfl
def aiB{tmps:Array Value}{ds:List Deferred}{d:Nat}{v:Value}(h:d<tmps.size):((⟨tmps,ds⟩ : Act).put (some d) v).eval (.tmp d)=v:=by
 simp[Act.put,Act.eval,h]
def aw6{k:Know}{ow:Own}{t:Tk}{e z n:Nat}{cs:List C}{v:Value}(h:aE k ow (.own t e z cs n) v):ow t=some (v,e,z,n):=by
 simp only[aE] at h
 exact h.1
def aF7{k:Know}{ow:Own}{r e z:Nat}{v:Value}(h:aE k ow (.top r e z) v):ow (abq r)=some (v,e,z,1):=by
 simp only[aE] at h
 exact h.1
def aGL{T:TT}{s s':S}{ix:Nat}{a b c:Oper}(hp:alR a b c=true)(h:amw T s ix a b c=some s') :
  ∃ x y i v st ty d d',a.op=.call {callee:=.builtin .append,args:=#[x,y],argTypes:=#[st,st]}/\a.guard=none/\a.dst=some d/\b.op=.indexAddr st (.tmp d) i/\b.guard=none/\b.dst=some d'/\c.op=.store ty (.tmp d') v/\c.guard=none/\c.dst=none /\
   d≠d'/\i≠.tmp d/\v≠.tmp d/\v≠.tmp d'/\aqO T s ix a b c st x y i v ty=some s':=by
 unfold alR at hp
 simp only[aj,aa0] at hp
 obtain⟨⟨⟨g1,g2⟩,g3,g4⟩,hp⟩:=hp
 split at hp
 rotate_left
 .cases hp
 rename_i asx ts t x i ty y v d d' h1 h2 h3 h4 h5
 simp only[aj,dm,ado,fR] at hp
 obtain⟨⟨⟨⟨⟨⟨e1,e2⟩,e3⟩,e4⟩,e5⟩,e6⟩,e7,e8⟩:=hp
 subst e1;subst e2
 unfold amw at h
 rw[h1,h2,h3] at h
 simp only at h
 split at h
 rotate_left
 .cases h
 rename_i x' y' hargs
 have ha:asx=#[x',y']:=by rw[← cz (xs:=asx),hargs]
 have ht:ts=#[t,t]:=by rw[← cz (xs:=ts),e4]
 subst ha;subst ht
 exact⟨x',y',i,v,t,ty,d,d',h1,g1,h4,h2,g2,h5,h3,g3,g4,e3,λe=>e6 (by rw[e];rfl),λe=>e7 (by rw[e];rfl),λe=>e8 (by rw[e];rfl),h⟩
section
variable {P:Program} {M0:Base} {w0:World} {N:Nat} {ds:List Deferred}
theorem aC9{k:Know}{ow:Own}{done:Nat->Prop}{w:World}{s s':S}{tmps:Array Value}(hs:Sim M0 k ow done w0 w N s tmps){ix:Nat}(hd:¬ done ix){a b c:Oper}(hda:abZ N a=true)(hdb:abZ N b=true)(hp:alR a b c=true)(h:amw (TT.of P) s ix a b c=some s') :
  a.guard=none/\b.guard=none/\c.guard=none/\∃ v1 w1 v2 g R,(execOp (⟨tmps,ds⟩ : Act).eval a).run P w=.ok (.value v1) w1/\(∀ w',(execOp ((⟨tmps,ds⟩ : Act).put a.dst v1).eval b).run P w'=.ok (.value v2) w') /\
   (∀ (A:Act) (w':World),(∀ y∈c.op.operands.toList,A.eval y=(((⟨tmps,ds⟩ : Act).put a.dst v1).put b.dst v2).eval y)->w'.heap[g]?=w1.heap[g]?->(execOp A.eval c).run P w'=.ok .skip (w'.setRow g R))/\c.dst=none/\v1.ownBlock=some g /\
   ∃ k' ow',k.le k'/\Sim M0 k' ow' (λj=>done j\/j=ix) w0 (w1.setRow g R) N s' (((⟨tmps,ds⟩ : Act).put a.dst v1).put b.dst v2).tmps/\(((⟨tmps,ds⟩ : Act).put a.dst v1).put b.dst v2)=⟨(((⟨tmps,ds⟩ : Act).put a.dst v1).put b.dst v2).tmps,ds⟩/\∃ t e z n,ow' t=some (v1,e,z,n):=by
 obtain⟨x,y,i,v,st,ty,d,d',ha,hga,hda',hb,hgb,hdb',hc,hgc,hdc,hne,hi,hv,hv',hX⟩:=aGL hp h
 have hd1:d<N:=ahP hda d hda'
 have hd2:d'<N:=ahP hdb d' hdb'
 have hsz:tmps.size=N:=hs.size
 have hs1:=hs.more (done':=λj=>done j\/j=ix) (λ_ h=>.inl h)
 refine⟨hga,hgb,hgc,?_⟩
 unfold aqO at hX
 split at hX
 rotate_left
 .cases hX
 rename_i e td cs0 j ys hel hsl hli hrd
 split at hX
 rotate_left
 .cases hX
 rename_i hcond
 obtain⟨hc0,hyl,hz,rfl⟩:=hcond
 split at hX
 rotate_left
 .cases hX
 rename_i z t obs hR
 split at hX
 rotate_left
 .cases hX
 rename_i hok
 simp only[ab] at hX
 subst hX
 obtain⟨hund,hdd⟩:=ahO hel
 have hund':P.underlying st=some (.slice ty):=by
  cases hT:TT.of P st with
  | none=>simp[hT] at hund
  | some dd=>simp only[hT,aJ,ab] at hund;rw[← hund];exact (TT.of_ok hT).und
 have hyv:=ao5 hsl (Sim.ev (ds:=ds) hs y)
 simp only[Rep] at hyv
 obtain⟨A,cap,vs,hyv,_,hvl,hm⟩:=hyv
 have hvlen:vs.length=td.size:=by rw[hvl.length];exact hc0
 have hvne:vs≠[]:=by rintro rfl;simp only[aR] at hvlen;omega
 obtain⟨b0,o0,hA,hcell⟩:=hm hvne
 have hA2:∃ b o,A=some ⟨b,o,none⟩/\∀ i u,vs[i]?=some u->w.cell? ⟨b,o+i,none⟩=some u:=⟨b0,o0,hA,λi u hu=>(hs.mem _ _ _ (hcell i u hu)).1⟩
 have hone:∀ u∈vs,u.oneCell'=true:=λu hu=>by
  obtain⟨i,hi⟩:=List.mem_iff_getElem?.1 hu
  exact (hs.mem _ _ _ (hcell i u hi)).2
 have hel2:bu k.m ys ((⟨tmps,ds⟩ : Act).eval v).cells.toList/\∀ u∈((⟨tmps,ds⟩ : Act).eval v).cells.toList,u.oneCell'=true:=by
  unfold ec at hrd
  rw[bI] at hrd
  obtain⟨xs,hx1,hx2⟩:=hrd
  obtain⟨q1,q2⟩:=aeE hx1 (Sim.ev (ds:=ds) hs v)
  exact⟨aj2 _ _ _ hx2 q1,q2⟩
 obtain⟨hyr,hy1⟩:=hel2
 have hyl2:((⟨tmps,ds⟩ : Act).eval v).cells.toList.length=td.size:=by rw[hyr.length];exact hyl
 have hj:=af8 hli (Sim.ev (ds:=ds) hs i)
 have run:∀ (n:Nat) (vx:Value) (xs:List Value),(⟨tmps,ds⟩ : Act).eval x=vx->j=(n:Int)->w.ownsRow 0 ty td.size vx n xs->n+1<=LIM->td.bytes<=32768 ->
   ∃ v1 w1 g R cap',(execOp (⟨tmps,ds⟩ : Act).eval a).run P w=.ok (.value v1) w1/\(∀ w',(execOp ((⟨tmps,ds⟩ : Act).put a.dst v1).eval b).run P w'=.ok (.value (.pointer (some ⟨g,n*td.size,none⟩))) w') /\
    (∀ (A:Act) (w':World),(∀ y∈c.op.operands.toList,A.eval y=(((⟨tmps,ds⟩ : Act).put a.dst v1).put b.dst (.pointer (some ⟨g,n*td.size,none⟩))).eval y)->w'.heap[g]?=w1.heap[g]?->(execOp A.eval c).run P w'=.ok .skip (w'.setRow g R)) /\
    v1=.slice (some ⟨g,0,none⟩) (n+1) cap'/\(w1.setRow g R).ownsRow 0 ty td.size v1 (n+1) (xs++((⟨tmps,ds⟩ : Act).eval v).cells.toList)/\((w.grownBy (w1.setRow g R) vx.ownBlock/\v1.ownBlock=vx.ownBlock)\/(w.grownBy (w1.setRow g R) none/\v1.ownBlock=some w.heap.size)):=by
  intro n vx xs hvx hjn hown hL hB
  obtain⟨v1,w1,g,R,r1,r2,r3,r4,r5,⟨cap',r6⟩,r7⟩:=aKa (P:=P) (ty:=a.type) (c:=cap) hund' hdd hz hown hvlen hA2 hone hL hB hyl2 hy1
  refine⟨v1,w1,g,R,cap',?_,λw'=>?_,λA w' hA hw'=>?_,r6,r5,r7⟩
  .rw[← hvx,← hyv] at r1
   simp[execOp,ha,resolve,invoke,builtin,r1]
  .have e1:((⟨tmps,ds⟩ : Act).put a.dst v1).eval (.tmp d)=v1:=by rw[hda'];exact aiB (by rw[hsz];exact hd1)
   have e2:((⟨tmps,ds⟩ : Act).put a.dst v1).eval i=.int .i64 n:=by rw[hda',agx hi,hj,hjn]
   simp[execOp,hb,e1,e2,r2 w']
  .have e1:A.eval (.tmp d')=.pointer (some ⟨g,n*td.size,none⟩):=by
    rw[hA (.tmp d') (by simp[hc,Op.operands]),hda',hdb']
    exact aiB (tmps:=tmps.setIfInBounds d v1) (by rw[acq,hsz];exact hd2)
   have e2:A.eval v=(⟨tmps,ds⟩ : Act).eval v:=by
    rw[hA v (by simp[hc,Op.operands]),hda',hdb']
    exact (agx (tmps:=tmps.setIfInBounds d v1) hv').trans (agx hv)
   simp[execOp,hc,e1,e2,r3 w' hw']
 have fin:∀ (S2:S) (v1 v2:Value) (w2:World) (k':Know) (ow':Own),(∃ t e z n,ow' t=some (v1,e,z,n))->Sim M0 k' ow' (λj=>done j\/j=ix) w0 w2 N S2 tmps->aE k' ow' z v1 ->
   Sim M0 k' ow' (λj=>done j\/j=ix) w0 w2 N ((S2.put a.dst z).put b.dst (.of .any)) (((⟨tmps,ds⟩ : Act).put a.dst v1).put b.dst v2).tmps/\(((⟨tmps,ds⟩ : Act).put a.dst v1).put b.dst v2)=⟨(((⟨tmps,ds⟩ : Act).put a.dst v1).put b.dst v2).tmps,ds⟩/\∃ t e z n,ow' t=some (v1,e,z,n):=by
  intro S2 v1 v2 w2 k' ow' hot g1 g2
  have q1:=Sim.put (ds:=ds) g1 a.dst (λj hj=>ahP hda j hj) g2
  have q2:=Sim.put (ds:=ds) q1 b.dst (λj hj=>ahP hdb j hj) (x:=.of .any) (v:=v2) (by simp[aE,Rep])
  rw[hda',hdb'] at q2 ⊢
  exact⟨q2,rfl,hot⟩
 have hnm:ow (.nm s.clk ix 0)=none:=hs.new hd
 have app:∀ s:S,({s with objs:=s.objs++[]}:S)=s:=λs=>by rw[cZ]
 unfold aoA at hR
 split at hR
 .rename_i hx0
  split at hR
  rotate_left
  .cases hR
  rename_i hcc
  obtain⟨hj0,hB⟩:=hcc
  simp only[bD] at hR
  obtain⟨rfl,rfl,rfl⟩:=hR
  have hvx:=Sim.ev (ds:=ds) hs x
  rw[hx0] at hvx
  simp only[aE] at hvx
  obtain⟨v1,w1,g,R,cap',r1,r2,r3,r4,r5,r6⟩:=run 0 _ [] hvx hj0 (World.ownsRow_nil w 0 ty td.size) (by simp[LIM]) hB
  simp only[bK,ch] at r4 r5
  have hgb:v1.ownBlock=some g:=by rw[r4];rfl
  have hcase:(v1.ownBlock=none\/v1.ownBlock=some w.heap.size)/\w.grownBy (w1.setRow g R) none:=by
   rcases r6 with ⟨g1,g2⟩|⟨g1,g2⟩
   .exact⟨.inl g2,g1⟩
   .exact⟨.inr g2,g1⟩
  obtain⟨k',g1,g2,g3⟩:=hs1.row (row:=none) (w':=w1.setRow g R) (v':=v1) (c:=s.clk) (ix:=ix) (i:=0) (λg hg=>by cases hg) hcase.2 r5 (hcase.1.imp id (λh=>⟨h,rfl⟩)) hyr hy1 hnm (.inr ⟨rfl,.inr rfl⟩)
  exact⟨v1,w1,_,g,R,r1,r2,r3,hdc,hgb,k',_,g1,by rw[ak1,app];exact fin _ _ _ _ _ _ ⟨_,_,_,_,aw6 g3⟩ g2 g3⟩
 .rename_i t' e' z' cs n hx0
  split at hR
  rotate_left
  .cases hR
  rename_i hcc
  obtain⟨rfl,rfl,hjn,hL,hB⟩:=hcc
  have hvx:=Sim.ev (ds:=ds) hs x
  rw[hx0] at hvx
  obtain⟨xs,f1,f2,f3,f4,f5⟩:=aGZ hs hvx
  obtain⟨v1,w1,g,R,cap',r1,r2,r3,r4,r5,r6⟩:=run n _ xs rfl hjn f2 hL hB
  have hgb:v1.ownBlock=some g:=by rw[r4];rfl
  split at hR
  .rename_i hn0
   subst hn0
   simp only[bD] at hR
   obtain⟨rfl,rfl,rfl⟩:=hR
   have hrow:=aj7 hok
   have hsd:=hs1.del t' hrow
   have hx0':xs=[]:=bP (by rw[f2.1,abB])
   subst hx0'
   simp only[bK,ch] at r4 r5
   have hdr:∀ g r,fG s.objs g r->fG (s.drop (some t')).objs g r:=λg r h=>afy (λ_ _=>rfl) h
   have key:∀ row:Option Nat,w.grownBy (w1.setRow g R) row->(v1.ownBlock=row\/(v1.ownBlock=some w.heap.size/\row=none))->(∀ g,row=some g->((⟨tmps,ds⟩ : Act).eval x).ownBlock=some g) ->
     ∃ k' ow',k.le k'/\Sim M0 k' ow' (λj=>done j\/j=ix) w0 (w1.setRow g R) N {s.drop (some t') with objs:=(s.drop (some t')).objs++[.row e' ys]} tmps/\aE k' ow' (.top (s.drop (some t')).objs.length e' td.size) v1:=by
    intro row q1 q2 q3
    exact hsd.push r4 (λg hg=>by
     obtain⟨p1,p2,p3,p4⟩:=f5 g (q3 g hg)
     refine⟨p1,λr hr=>hdr 0 r (p2 r hr),p3,λo=>?_⟩
     cases hm:k.m g o with
     | none=>rfl
     | some u=>have:=p4 o u hm;simp at this) q1 r5 q2 hyr hy1 hz
   have hLL:(s.drop (some t')).objs.length=s.objs.length:=by simp[S.drop]
   rcases r6 with ⟨q1,q2⟩|⟨q1,q2⟩
   .obtain⟨k',ow',g1,g2,g3⟩:=key _ q1 (.inl q2) (λg hg=>hg)
    rw[hLL] at g3
    exact⟨v1,w1,_,g,R,r1,r2,r3,hdc,hgb,k',ow',g1,fin _ _ _ _ _ _ ⟨_,_,_,_,aF7 g3⟩ g2 g3⟩
   .obtain⟨k',ow',g1,g2,g3⟩:=key none q1 (.inr ⟨q2,rfl⟩) (λg hg=>by cases hg)
    rw[hLL] at g3
    exact⟨v1,w1,_,g,R,r1,r2,r3,hdc,hgb,k',ow',g1,fin _ _ _ _ _ _ ⟨_,_,_,_,aF7 g3⟩ g2 g3⟩
  .simp only[bD] at hR
   obtain⟨rfl,rfl,rfl⟩:=hR
   have hrow:=aj7 hok
   have hsd:=hs1.del t' hrow
   have hnm':(ow.del t') (.nm s.clk ix 0)=none:=by simp only[Own.del];split;rfl;exact hnm
   have hone2:∀ u∈xs++((⟨tmps,ds⟩ : Act).eval v).cells.toList,u.oneCell'=true:=λu hu=>by
    rcases br.1 hu with hu|hu
    .exact f4 u hu
    .exact hy1 u hu
   have hlx:xs.length=n*td.size:=f2.1
   have key:∀ row:Option Nat,w.grownBy (w1.setRow g R) row->(v1.ownBlock=row\/(v1.ownBlock=some w.heap.size/\row=none))->(∀ g,row=some g->((⟨tmps,ds⟩ : Act).eval x).ownBlock=some g) ->
     ∃ k' ow',k.le k'/\Sim M0 k' ow' (λj=>done j\/j=ix) w0 (w1.setRow g R) N (s.drop (some t')) tmps/\aE k' ow' (.own (.nm s.clk ix 0) e' td.size (cs++ys) (n+1)) v1:=by
    intro row q1 q2 q3
    obtain⟨k',g1,g2,g3⟩:=hsd.row (row:=row) (w':=w1.setRow g R) (v':=v1) (c:=s.clk) (ix:=ix) (i:=0) (λg hg=>by
     obtain⟨p1,p2,p3,p4⟩:=f5 g (q3 g hg)
     refine⟨p1,λr hr=>afy (λ_ _=>rfl) (p2 r hr),p3,λo u hm=>?_⟩
     have:=p4 o u hm
     rw[aZ (List.getElem?_eq_some_iff.1 this).1]
     exact this) q1 r5 q2 (f3.append hyr) hone2 hnm' (.inr ⟨rfl,.inr rfl⟩)
    exact⟨k',_,g1,g2,g3⟩
   rcases r6 with ⟨q1,q2⟩|⟨q1,q2⟩
   .obtain⟨k',ow',g1,g2,g3⟩:=key _ q1 (.inl q2) (λg hg=>hg)
    exact⟨v1,w1,_,g,R,r1,r2,r3,hdc,hgb,k',ow',g1,by rw[app];exact fin _ _ _ _ _ _ ⟨_,_,_,_,aw6 g3⟩ g2 g3⟩
   .obtain⟨k',ow',g1,g2,g3⟩:=key none q1 (.inr ⟨q2,rfl⟩) (λg hg=>by cases hg)
    exact⟨v1,w1,_,g,R,r1,r2,r3,hdc,hgb,k',ow',g1,by rw[app];exact fin _ _ _ _ _ _ ⟨_,_,_,_,aw6 g3⟩ g2 g3⟩
 .cases hR
end
section
variable {P:Program} {M0:Base} {w0:World} {N:Nat} {ds:List Deferred}
theorem aWS{ops:Array Oper}{n k:Nat}{listed:Array Bool}(hF:ap8 ops n=true)(hkn:ops.size<=k+n+1)(hdc:Dc ops listed)(hlt:∀ j,j<k->listed.getD j true=true)(hk:listed.getD k true=false){i:Nat}(hi:i∈Region.ready .any ops listed):i=k:=by
 obtain⟨hun,o,ho,_⟩:=mem_ready.1 hi
 have his:i<ops.size:=(Array.getElem?_eq_some_iff.1 ho).1
 rcases acP i k with h|h|h
 .rw[hlt i h] at hun;cases hun
 .exact h
 .exact absurd hi (ahp hdc hk (ax1 hF h his aC))
theorem aWi{listed:Array Bool}{k:Nat}(hlt:∀ j,j<k->listed.getD j true=true):∀ j,j<k+1->(listed.setIfInBounds k true).getD j true=true:=λj hj=>by
 by_cases hjk:j=k
 .subst hjk;exact ah2
 .rw[getD_set_ne true (bo hjk)];exact hlt j aC
theorem aWj{ops:Array Oper}{listed:Array Bool}{k:Nat}(hge:∀ j,k<=j->j<ops.size->listed.getD j true=false):∀ j,k+1<=j->j<ops.size->(listed.setIfInBounds k true).getD j true=false:=λj h1 h2=>by
 rw[getD_set_ne true aC];exact hge j aC h2
theorem aEC{k n:Nat}(h:k<n):(List.range n).drop k=k::(List.range n).drop (k+1):=by
 rw[co (by simpa using h)]
 simp
theorem awz{E:En}(horc:EnSound P M0.G E){ops:Array Oper}(hdst:∀ (j:Nat) (o:Oper),ops[j]?=some o->abZ N o=true){n:Nat}(hF:ap8 ops n=true){Q:Exit->Act->World->Prop}{q:Option X}{s':S}{k0:Know}
  (hQ:q=none->∀ tmps' w' k' ow' done',k0.le k'->Sim M0 k' ow' done' w0 w' N s' tmps'->Q .normal ⟨tmps',ds⟩ w')
  (hP:∀ x,q=some x->∀ v tmps' w' k' ow' done',k0.le k'->Sim M0 k' ow' done' w0 w' N s' tmps'->aE k' ow' x v->Q (.panic [{v:=v,recovered:=false}]) ⟨tmps',ds⟩ w') :
  ∀ (l:List Oper) (k:Nat) (listed:Array Bool) (s:S) (w:World) (tmps:Array Value) (kn:Know) (ow:Own),k+l.length=ops.size->ops.size<=k+n+1->(∀ j,l[j]?=ops[k+j]?)->(∀ j,j<k->listed.getD j true=true)->(∀ j,k<=j->j<ops.size->listed.getD j true=false)->Dc ops listed ->
  agv ops ((List.range ops.size).drop k) listed=true->k0.le kn->Sim M0 kn ow (λj=>listed.getD j true=true) w0 w N s tmps->aa1 P (TT.of P) E false ops k l s=some (q,s')->wpAny P .any ops Q l.length listed ⟨tmps,ds⟩ w
 | [],k,listed,s,w,tmps,kn,ow,hks,_,_,hlt,_,_,_,hkn,hs,h=>by
  simp only[aa1,bD] at h
  obtain⟨rfl,rfl⟩:=h
  refine⟨List.eq_nil_iff_forall_not_mem.2 λi hi=>?_,hQ rfl tmps w kn ow _ hkn hs⟩
  obtain⟨hun,o,ho,_⟩:=mem_ready.1 hi
  have his:i<ops.size:=(Array.getElem?_eq_some_iff.1 ho).1
  simp only[aR] at hks
  rw[hlt i aC] at hun
  cases hun
 | o::l,k,listed,s,w,tmps,kn,ow,hks,hkn',hl,hlt,hge,hdc,hB,hkn,hs,h=>by
  simp only[aN] at hks
  have h0:ops[k]?=some o:=by simpa using (hl 0).symm
  rw[aEC aC] at hB
  simp only[agv,aj] at hB
  obtain⟨⟨hr,_⟩,hB'⟩:=hB
  have hr':k∈Region.ready .any ops listed:=by simpa using hr
  have hun:=hge k (ae _) aC
  refine⟨λh0=>(by rw[h0] at hr';cases hr'),λi hi=>?_⟩
  obtain rfl:=aWS hF hkn' hdc hlt hun hi
  have hdone:∀ j,(listed.getD j true=true\/j=i)->(listed.setIfInBounds i true).getD j true=true:=λj hj=>by
   rcases hj with hj|rfl
   .by_cases hij:i=j
    .subst hij;exact ah2
    .rw[getD_set_ne true hij];exact hj
   .exact ah2
  simp only[aa1] at h
  split at h
  .rename_i s1 h1
   refine aao (dr:=false) hs horc (by rw[hun];simp) h0 (hdst i o h0) h1 (λ_ tmps' w' k' ow' g1 g2=>?_) (λx hx=>by cases hx)
   exact awz horc hdst hF hQ hP l (i+1) _ s1 w' tmps' k' ow' aC aC (λj=>by have:=hl (j+1);simpa [bA,ey 1 j] using this) (aWi hlt) (aWj hge) (hdc.set hr') hB' (Know.le_trans hkn g1) (g2.more hdone) h
  .rename_i x s1 h1
   simp only[bD] at h
   obtain⟨rfl,rfl⟩:=h
   exact aao (dr:=false) hs horc (by rw[hun];simp) h0 (hdst i o h0) h1 (λhe=>by cases he) (λx hx v w' k' ow' g1 g2 g3=>hP x hx v tmps w' k' ow' _ (Know.le_trans hkn g1) g2 g3)
  .cases h
theorem a8K{o:Oper}{a:Act}{w:World}{K:Act->World->Prop}{Q Q':Exit->Act->World->Prop}(h:∀ e a w,Q e a w->Q' e a w)(hh:o.wp P a w K Q):o.wp P a w K Q':=by
 unfold Oper.wp at *
 generalize (execOp a.eval o).run P w=r at *
 cases r with
 | ok n w' =>
  cases n <;> simp only[Oper.upon] at hh ⊢ <;>
   first
    | exact hh
    | exact Calls.mono hh (λe w'' he=>by
      cases e <;> first|exact he|exact h _ _ _ he|exact he.imp λa hx=>hx.imp λw hx=>h _ _ _ hx)
 | halt x w'=>cases x <;> simp only[Oper.upon] at hh ⊢ <;> first|exact h _ _ _ hh|exact hh
theorem aAN{ops:Array Oper}{Q Q':Exit->Act->World->Prop}(h:∀ e a w,Q e a w->Q' e a w):∀ (fuel:Nat) (listed:Array Bool) (a:Act) (w:World),wpAny P .any ops Q fuel listed a w->wpAny P .any ops Q' fuel listed a w
 | 0,_,_,_,hh=>⟨hh.1,h _ _ _ hh.2⟩
 | fuel+1,listed,a,w,hh=>⟨λh0=>h _ _ _ (hh.1 h0),λi hi=>by
  have h1:=wpOp_mono (λa' w' h'=>aAN h fuel _ a' w' h') (hh.2 i hi)
  unfold wpOp at h1 ⊢
  split
  .rename_i ho
   simpa [ho] using h1
  .rename_i o ho
   simp only[ho] at h1
   split
   .rename_i hw
    simp only[hw,am] at h1
    exact h1.imp (a8K h) λg=>⟨g.1,g.2.imp λa hx=>hx.imp λw hx=>h _ _ _ hx⟩
   .rename_i hw
    simp only[hw] at h1
    exact h1⟩
theorem azr(w:World){a b:Nat}(x y:Array Value)(h:a≠b):(w.setRow a x).setRow b y=(w.setRow b y).setRow a x:=by
 unfold World.setRow
 simp only[World.mk.injEq,aak]
 refine Array.ext_getElem? λi=>?_
 simp only[aab]
 by_cases h1:b=i
 .subst h1
  simp[h]
 .by_cases h2:a=i
  .subst h2
   simp[bo h]
  .simp[h1,h2]
theorem aGt{E:En}(horc:EnSound P M0.G E){ops:Array Oper}(hdst:∀ (j:Nat) (o:Oper),ops[j]?=some o->abZ N o=true){Q:Exit->Act->World->Prop}{q:Option X}{s':S}{k0:Know}
  (hQ:q=none->∀ tmps' w' k' ow' done',k0.le k'->Sim M0 k' ow' done' w0 w' N s' tmps'->Q .normal ⟨tmps',ds⟩ w')
  {m:Nat} {listed:Array Bool} {s:S} {w:World} {tmps:Array Value} {kn:Know} {ow:Own} {a b c n f g:Oper} (ha:ops[m]?=some a) (hb:ops[m+1]?=some b) (hc:ops[m+2]?=some c) (hn:ops[m+3]?=some n) (hf:ops[m+4]?=some f) (hg:ops[m+5]?=some g)
  (hun:∀ j,m<=j->j<ops.size->listed.getD j true=false) (hp:alR a b c=true) (ht:aCM c n f g=true) (h6:six ops m listed=true) (hkn:k0.le kn) (hs:Sim M0 kn ow (λj=>listed.getD j true=true) w0 w N s tmps)
  (h:evT P (TT.of P) E ops m s true [a,b,c,n,f,g]=some (q,s')):wpAny P .any ops Q 6 listed ⟨tmps,ds⟩ w:=by
 have hsz:∀ j o,ops[j]?=some o->j<ops.size:=λj o ho=>(Array.getElem?_eq_some_iff.1 ho).1
 unfold evT at h
 simp only at h
 split at h
 rotate_left
 .cases h
 rename_i s1 h1
 obtain⟨ga,gb,gc,v1,w1,v2,gg,R,r1,r2,r3,hcd,hob,k1,ow1,q1,q2,q3,t0,e0,z0,n0,htok⟩:=aC9 hs (ix:=m) (by rw[hun m (ae _) (hsz _ _ ha)];simp) (hdst m a ha) (hdst _ b hb) hp h1
 unfold aCM at ht
 simp only[aj,aa0] at ht
 obtain⟨⟨⟨gn,gf⟩,gg0,hgd⟩,ht⟩:=ht
 split at ht
 rotate_left
 .cases ht
 rename_i x e t e1 fi e' ty e2 v' hno hnd hfo hfd hgo
 simp only[aj,dm] at ht
 obtain⟨⟨rfl,rfl⟩,hall⟩:=ht
 have hall':∀ y∈c.op.operands.toList,y≠.tmp e1/\y≠.tmp e2:=λy hy=>by
  have:=List.all_eq_true.1 hall y hy
  simp only[aj,ado,fR] at this
  exact⟨λh=>this.1 (by rw[h];rfl),λh=>this.2 (by rw[h];rfl)⟩
 have he1:e1<N:=ahP (hdst _ n hn) e1 hnd
 have he2:e2<N:=ahP (hdst _ f hf) e2 hfd
 generalize hA2:((⟨tmps,ds⟩ : Act).put a.dst v1).put b.dst v2=A2 at r3 q2 q3
 obtain⟨T2,D2⟩:=A2
 simp only at q2
 obtain rfl:ds=D2:=by have:=congrArg Act.defers q3;exact this.symm
 simp only[aa1] at h
 have hdE:∀ {o:Oper},(∃ x,o.op=.nilCheck x)\/(∃ t x i,o.op=.fieldAddr t x i)->dB o=o.dst:=λho=>adI (by
  rcases ho with ⟨x,ho⟩|⟨t,x,i,ho⟩ <;> rw[ho] <;> rfl)
 have hstn:∀ (s:S) (ix:Nat) r,bv P (TT.of P) E false ops s ix n=some r->∃ y,r=(none,s.put (some e1) y)/\s.ev x=y/\((∃ r o,y=.ptr r o)\/∃ cs,y=.of (.ref cs)):=λs ix r hr=>by
  unfold bv dI at hr
  rw[gn] at hr
  simp only[aaV,ah,av,hno,eV,val] at hr
  rw[hdE (.inl ⟨_,hno⟩),hnd] at hr
  split at hr
  rotate_left
  .cases hr
  rename_i y tk hv
  split at hr
  rotate_left
  .cases hr
  simp only[ab] at hr
  subst hr
  split at hv
  .rename_i r0 o0 hx
   obtain⟨rfl,rfl⟩:=ef hv
   exact⟨_,by rw[ak1],hx,.inl ⟨_,_,rfl⟩⟩
  .rename_i cs hx
   obtain⟨rfl,rfl⟩:=ef hv
   exact⟨_,by rw[ak1],hx,.inr ⟨_,rfl⟩⟩
  .cases hv
 have hstf:∀ (s:S) (ix:Nat) r,bv P (TT.of P) E false ops s ix f=some r->∃ y,r=(none,s.put (some e2) y)/\fF (TT.of P) t fi (s.ev (.tmp e1))=some (y,none):=λs ix r hr=>by
  unfold bv dI at hr
  rw[gf] at hr
  simp only[aaV,ah,av,hfo,eV,val] at hr
  rw[hdE (.inr ⟨_,_,_,hfo⟩),hfd] at hr
  split at hr
  rotate_left
  .cases hr
  rename_i y tk hv
  split at hr
  rotate_left
  .cases hr
  simp only[ab] at hr
  subst hr
  obtain⟨rfl,_⟩:=akm (ρ:=λt=>some t) hv
  exact⟨y,by rw[ak1],hv⟩
 have hstg:∀ (s:S) (ix:Nat) r,(∀ tk z1 z2,s.ev (.tmp e2)≠.nw tk z1 z2)->bv P (TT.of P) E false ops s ix g=some r->∃ d r0 o0 xs s4,r=(none,s4)/\TT.of P ty=some d/\s.ev (.tmp e2)=.ptr r0 o0/\cn (s.ev v')=some xs/\afv s none d.size r0 o0 xs=some s4:=λs ix r hnw hr=>by
  unfold bv dI at hr
  rw[gg0] at hr
  simp only[aaV,ah,av,hgo] at hr
  split at hr
  .rename_i tk z1 z2 hx
   exact absurd hx (hnw _ _ _)
  split at hr
  rotate_left
  .cases hr
  rename_i d r0 o0 xs hT hx hxs
  rw[hgd] at hr
  simp only[ap] at hr
  obtain⟨s4,h4,rfl⟩:=hr
  exact⟨d,r0,o0,xs,s4,rfl,hT,hx,hxs,h4⟩
 cases hr1:bv P (TT.of P) E false ops s1 (m+3) n with
 | none=>rw[hr1] at h;cases h
 | some p1 =>
 obtain⟨y1,rfl,hy1,hyc⟩:=hstn _ _ _ hr1
 rw[hr1] at h
 simp only at h
 cases hr2:bv P (TT.of P) E false ops (s1.put (some e1) y1) (m+3+1) f with
 | none=>rw[hr2] at h;cases h
 | some p2 =>
 obtain⟨y2,rfl,hy2⟩:=hstf _ _ _ hr2
 rw[hr2] at h
 simp only at h
 have hev1:(s1.put (some e1) y1).ev (.tmp e1)=y1:=by simp[S.ev,S.put,upd]
 rw[hev1] at hy2
 have hev2:((s1.put (some e1) y1).put (some e2) y2).ev (.tmp e2)=y2:=by simp[S.ev,S.put,upd]
 have hy2c:(∃ r o z,y1=.ptr r o/\y2=.ptr r (o+z))\/∃ cs,y2=.of (.ref cs):=by
  unfold fF at hy2
  split at hy2
  rotate_left
  .cases hy2
  split at hy2
  rotate_left
  .cases hy2
  split at hy2
  .exact .inl ⟨_,_,_,rfl,(ef hy2).1.symm⟩
  .exact .inr ⟨_,(ef hy2).1.symm⟩
  .cases hy2
 cases hr3:bv P (TT.of P) E false ops ((s1.put (some e1) y1).put (some e2) y2) (m+3+1+1) g with
 | none=>rw[hr3] at h;cases h
 | some p3 =>
 obtain⟨d,r0,o0,xs,s4,rfl,hT,hx3,hxs,h4⟩:=hstg _ _ _ (λtk z1 z2 he=>by
  rw[hev2] at he
  rcases hy2c with ⟨_,_,_,_,h'⟩|⟨_,h'⟩ <;> rw[h'] at he <;> cases he) hr3
 rw[hr3] at h
 simp only[bD] at h
 obtain⟨rfl,rfl⟩:=h
 rw[hev2] at hx3
 subst hx3
 rcases hy2c with ⟨ra,oa,z,rfl,hy⟩|⟨_,hy⟩
 rotate_left
 .cases hy
 simp only[X.ptr.injEq] at hy
 obtain⟨rfl,rfl⟩:=hy
 have hsT:T2.size=N:=q2.size
 have hav:=Sim.ev (ds:=ds) q2 x
 rw[hy1] at hav
 simp only[aE] at hav
 obtain⟨bl,hbl,hav⟩:=hav
 have q2n:=Sim.put (ds:=ds) q2 (some e1) (λj hj=>by cases hj;exact he1) (x:=.ptr r0 oa) (v:=.pointer (some ⟨bl,oa,none⟩)) (by simp only[aE];exact⟨bl,hbl,rfl⟩)
 have r4:∀ w',(execOp (⟨T2,ds⟩ : Act).eval n).run P w'=.ok (.value (.pointer (some ⟨bl,oa,none⟩))) w':=λw'=>by simp[execOp,hno,hav]
 have hfu:∀ w',(Instr.fieldAt t (.pointer (some ⟨bl,oa,none⟩)) fi).run P w'=.ok (.pointer (some ⟨bl,oa+z,none⟩)) w':=λw'=>by
  obtain⟨_,u,hu,hux⟩:=ak0 (P:=P) (w:=w') (k:=k1) (ow:=ow1) hy2 (v:=.pointer (some ⟨bl,oa,none⟩)) (by simp only[aE];exact⟨bl,hbl,rfl⟩)
  simp only[aE] at hux
  obtain⟨b',hb',rfl⟩:=hux
  obtain rfl:bl=b':=ay (hbl.symm.trans hb')
  exact hu
 have r5:∀ w',(execOp ((⟨T2,ds⟩ : Act).put (some e1) (.pointer (some ⟨bl,oa,none⟩))).eval f).run P w'=.ok (.value (.pointer (some ⟨bl,oa+z,none⟩))) w':=λw'=>by
  have e3:((⟨T2,ds⟩ : Act).put (some e1) (.pointer (some ⟨bl,oa,none⟩))).eval (.tmp e1)=.pointer (some ⟨bl,oa,none⟩):=aiB (by rw[hsT];exact he1)
  simp[execOp,hfo,e3,hfu w']
 have q2f:=Sim.put (ds:=ds) q2n (some e2) (λj hj=>by cases hj;exact he2) (x:=.ptr r0 (oa+z)) (v:=.pointer (some ⟨bl,oa+z,none⟩)) (by simp only[aE];exact⟨bl,hbl,rfl⟩)
 have hA4:(⟨((⟨((⟨T2,ds⟩ : Act).put (some e1) (.pointer (some ⟨bl,oa,none⟩))).tmps,ds⟩ : Act).put (some e2) (.pointer (some ⟨bl,oa+z,none⟩))).tmps,ds⟩ : Act)=(((⟨T2,ds⟩ : Act).put (some e1) (.pointer (some ⟨bl,oa,none⟩))).put (some e2) (.pointer (some ⟨bl,oa+z,none⟩))):=rfl
 generalize hA4e:(((⟨T2,ds⟩ : Act).put (some e1) (.pointer (some ⟨bl,oa,none⟩))).put (some e2) (.pointer (some ⟨bl,oa+z,none⟩)))=A4 at hA4
 have hA4p:A4.eval (.tmp e2)=.pointer (some ⟨bl,oa+z,none⟩):=by
  rw[← hA4e]
  exact aiB (tmps:=T2.setIfInBounds e1 _) (by rw[acq,hsT];exact he2)
 have r6:∃ R',bl≠gg/\∀ w',w'.heap[bl]?=w1.heap[bl]?->(execOp A4.eval g).run P w'=.ok .skip (w'.setRow bl R'):=by
  unfold afv at h4
  split at h4
  rotate_left
  .cases h4
  rename_i ty' ys hr
  split at h4
  rotate_left
  .cases h4
  rename_i hcd'
  have hne:bl≠gg:=by
   rintro rfl
   obtain⟨_,hk⟩:=q2f.tok _ _ _ _ _ htok
   exact ajP hr (λ_ _ e=>by cases e) ((hk bl hob).2.2 r0 hbl).1
  obtain⟨hl,h1⟩:=aeE hxs (q2f.ev v')
  rw[hA4] at hl h1
  obtain⟨b',g1,g2,g3,g4,vs,hh,hone,hvs⟩:=q2f.obj r0 _ hr
  obtain rfl:bl=b':=ay (hbl.symm.trans g1)
  rw[setRow_other _ _ _ _ hne] at hh
  have ok:=TT.of_ok hT
  have hlen:=hl.length
  have hvl:=hvs.length
  have hfit:(oa+z)+0+(A4.eval v').cells.toList.length<=vs.toArray.size:=by
   simp only[dD]
   omega
  have hsz2:(A4.eval v').cells.size=d.size:=by
   have:(A4.eval v').cells.toList.length=d.size:=by omega
   simpa using this
  refine⟨(vs.toArray.toList.take (oa+z+0)++(A4.eval v').cells.toList++vs.toArray.toList.drop (oa+z+0+(A4.eval v').cells.toList.length)).toArray,hne,λw' hw'=>?_⟩
  have hrun:=run_storeCells_at P bl (oa+z) ty' (A4.eval v').cells.toList 0 vs.toArray w' (hw'.trans hh) hfit h1
  simp[execOp,hgo,Instr.storeAt,hA4p,Instr.sureAddr,storeVar,ok.run_size,hsz2,hrun]
 obtain⟨R',hne,r6⟩:=r6
 have hfin:Q .normal A4 ((w1.setRow gg R).setRow bl R'):=by
  have hk:=aao (dr:=false) q2f horc (ix:=m+3+1+1) (by rw[hun _ aC (hsz _ _ hg)];simp;omega) (o:=g) hg (hdst _ g hg) hr3 (K:=λA w'=>∃ k' ow',k1.le k'/\Sim M0 k' ow' (λj=>(listed.getD j true=true\/j=m)\/j=m+3+1+1) w0 w' N s4 A.tmps/\A=⟨A.tmps,ds⟩) (Q:=λ_ _ _=>False) (λ_ tmps' w' k' ow' g1 g2=>⟨k',ow',g1,g2,rfl⟩) (λx hx=>by cases hx)
  rw[hA4] at hk
  unfold wpOp at hk
  have hg':ops[m+3+1+1]?=some g:=hg
  simp only[hg'] at hk
  rw[au (by unfold Region.wanted;rw[gg0])] at hk
  rcases hk with hk|⟨_,_,_,hk⟩
  .unfold Oper.wp at hk
   rw[r6 _ (setRow_other _ _ _ _ hne)] at hk
   simp only[Oper.upon] at hk
   rw[hgd] at hk
   obtain⟨k',ow',g1,g2,g3⟩:=hk
   have:=hQ rfl _ _ k' ow' _ (Know.le_trans hkn (Know.le_trans q1 g1)) g2
   rw[← g3] at this
   exact this
  .exact hk.elim
 simp only[six,aj,dm] at h6
 obtain⟨⟨⟨⟨hns,hrd0⟩,⟨hf1,hc1⟩,hf2,hc2⟩,⟨⟨hf3,hc3⟩,hrd4⟩,hrd5,hrd6⟩,hrd7⟩:=h6
 refine wpAny_all hrd0 aT λi hi=>?_
 obtain rfl:=cC.1 hi
 unfold wpOp
 simp only[ha]
 rw[au (by unfold Region.wanted;rw[ga])]
 refine .inl (acT r1 ?_)
 refine aAN (Q:=λe a w=>e=.normal/\Q .normal a w) (λe a w he=>by obtain⟨rfl,he⟩:=he;exact he) _ _ _ _ ?_
 refine wpAny_take hb hns hf1 hc1 (λc a w h=>by cases h.1) (.inl ⟨by unfold Region.wanted;rw[gb],r2⟩) ?_
 rw[hA2]
 refine wpAny_take hn hns hf2 hc2 (λc a w h=>by cases h.1) (.inl ⟨by unfold Region.wanted;rw[gn],r4⟩) ?_
 rw[hnd]
 refine wpAny_take hf hns hf3 hc3 (λc a w h=>by cases h.1) (.inl ⟨by unfold Region.wanted;rw[gf],r5⟩) ?_
 rw[hfd,hA4e]
 have r3':∀ w',w'.heap[gg]?=w1.heap[gg]?->(execOp A4.eval c).run P w'=.ok .skip (w'.setRow gg R):=λw' hw'=>r3 A4 w' (λy hy=>by
  rw[← hA4e]
  exact (agx (tmps:=T2.setIfInBounds e1 _) (hall' y hy).2).trans (agx (hall' y hy).1)) hw'
 refine wpAny_all hrd4 aT λi hi=>?_
 simp only[bj,bH,dJ] at hi
 rcases hi with rfl|rfl
 .unfold wpOp
  simp only[hc]
  rw[au (by unfold Region.wanted;rw[gc])]
  refine .inl ?_
  unfold Oper.wp
  rw[r3' _ rfl]
  simp only[Oper.upon]
  rw[hcd]
  refine wpAny_all hrd5 aT λi hi=>?_
  obtain rfl:=cC.1 hi
  unfold wpOp
  simp only[hg]
  rw[au (by unfold Region.wanted;rw[gg0])]
  refine .inl ?_
  unfold Oper.wp
  rw[show A4.put none undef=A4 from rfl,r6 _ (setRow_other _ _ _ _ hne)]
  simp only[Oper.upon]
  rw[hgd]
  exact⟨hrd7,rfl,hfin⟩
 .unfold wpOp
  simp only[hg]
  rw[au (by unfold Region.wanted;rw[gg0])]
  refine .inl ?_
  unfold Oper.wp
  rw[r6 _ rfl]
  simp only[Oper.upon]
  rw[hgd]
  refine wpAny_all hrd6 aT λi hi=>?_
  obtain rfl:=cC.1 hi
  unfold wpOp
  simp only[hc]
  rw[au (by unfold Region.wanted;rw[gc])]
  refine .inl ?_
  unfold Oper.wp
  rw[show A4.put none undef=A4 from rfl,r3' _ (setRow_other _ _ _ _ (bo hne))]
  simp only[Oper.upon]
  rw[hcd]
  refine⟨?_,rfl,?_⟩
  .rw[eC _ _ aC];exact hrd7
  .rw[← azr _ _ _ (bo hne)];exact hfin
end
def aGQ{obj:Nat->Bool}{ops:Array Oper}{p:Pn}(h:aiP obj ops=some p):aqR ops p=true:=by
 unfold aiP at h
 split at h
 .rename_i hp
  obtain rfl:=ay h
  exact hp
 .cases h
section
variable {P:Program} {T:TT} {E:En} {ops:Array Oper} {R:Nat->Prop} {c:Option Nat}
theorem as9:∀ (l:List (Nat×Bool)) (D D':List Nat) (s s':S),evA P T E ops l D s=some (D',s')->(∀ x∈l,some x.1≠c/\(x.2=true->agw ops c x.1=true))->(∀ r,R r->r∉D')->alp P T E ops R c (l.map (·.1)) s none s'/\∀ r∈D,r∈D'
 | [],D,D',s,s',h,_,_=>by
  simp only[evA,bD] at h
  obtain⟨rfl,rfl⟩:=h
  exact⟨⟨rfl,rfl⟩,λ_ h=>h⟩
 | i::l,D,D',s,s',h,hne,hR=>by
  simp only[evA] at h
  split at h
  rotate_left
  .cases h
  rename_i o ho
  split at h
  rotate_left
  .cases h
  rename_i D1 hD
  split at h
  rotate_left
  .cases h
  rename_i s1 h1
  obtain⟨g1,g2⟩:=as9 l (D1++D) D' s1 s' h (λj hj=>hne j (by simp[hj])) hR
  refine⟨⟨o,none,s1,ho,.inl ⟨(hne i aT).1,rfl,h1,λhf _=>?_⟩,λx hx=>(by cases hx),λ_=>g1⟩,λr hr=>g2 r (by simp[hr])⟩
  have hb:i.2=false:=by
   cases hb:i.2 with
   | false=>rfl
   | true=>rw[(hne i aT).2 hb] at hf;cases hf
  rw[hb] at hD
  exact⟨D1,hD,λr hr hRr=>hR r hRr (g2 r (by simp[hr]))⟩
theorem ata:∀ (l:List (Nat×Bool)) (D D':List Nat) (s s':S),evA P T E ops l D s=some (D',s')->(∀ x∈l,some x.1≠c/\aeS ops c x.1=true)->alp P T E ops R c (l.map (·.1)) s none s'
 | [],D,D',s,s',h,_=>by
  simp only[evA,bD] at h
  obtain⟨rfl,rfl⟩:=h
  exact⟨rfl,rfl⟩
 | i::l,D,D',s,s',h,hne=>by
  simp only[evA] at h
  split at h
  rotate_left
  .cases h
  rename_i o ho
  split at h
  rotate_left
  .cases h
  rename_i D1 hD
  split at h
  rotate_left
  .cases h
  rename_i s1 h1
  refine⟨o,none,s1,ho,.inl ⟨(hne i aT).1,rfl,h1,λ_ hw=>?_⟩,λx hx=>(by cases hx),λ_=>ata l (D1++D) D' s1 s' h (λj hj=>hne j (by simp[hj]))⟩
  rw[(hne i aT).2] at hw
  cases hw
end
theorem apn{ops:Array Oper}(tl:List Nat):∀ (l:List Nat) (listed:Array Bool),agv ops (l++tl) listed=true->agv ops tl (l.foldl (λa i=>a.setIfInBounds i true) listed)=true
 | [],_,h=>h
 | i::l,listed,h=>by
  simp only[cQ,agv,aj] at h
  exact apn tl l _ h.2
theorem axQ:∀ (l:List Nat) (a:Array Bool) (j:Nat),j<a.size->(l.foldl (λa i=>a.setIfInBounds i true) a).getD j true=if j∈l then true else a.getD j true
 | [],a,j,_=>by simp
 | i::l,a,j,hj=>by
  rw[adw,axQ l _ j (by simpa using hj)]
  by_cases h1:j∈l
  .rw[au h1,au (dY _ h1)]
  .rw[ar h1]
   by_cases h2:j=i
   .subst h2;rw[ah2,au aT]
   .rw[getD_set_ne true (bo h2),ar (by simp[h1,h2])]
theorem aue:∀ (l:List Nat) (a:Array Bool),(l.foldl (λa i=>a.setIfInBounds i true) a).size=a.size
 | [],_=>rfl
 | i::l,a=>by rw[adw,aue l];simp
def aTW(l:List Nat)(a b:Array Bool)(hs:b.size=a.size)(h:∀ j,j<a.size->b.getD j true=if j∈l then true else a.getD j true):l.foldl (λa i=>a.setIfInBounds i true) a=b:=by
 refine Array.ext (by rw[aue,hs]) λj h1 h2=>?_
 have hj:j<a.size:=by rw[← hs];exact h2
 have e1:=axQ l a j hj
 rw[← h j hj] at e1
 have e2:(l.foldl (λa i=>a.setIfInBounds i true) a).getD j true=(l.foldl (λa i=>a.setIfInBounds i true) a)[j]:=by simp[h1]
 have e3:b.getD j true=b[j]:=by simp[h2]
 rw[← e2,← e3]
 exact e1
theorem awN{α:Type}{a:α}:∀ (A B l1 l2:List α),a∉A->a∉B->A++a::B=l1++a::l2->l2=B
 | [],B,[],l2,_,_,h=>by simp only[ch,fE] at h;exact h.2.symm
 | [],B,x::l1,l2,_,hB,h=>by
  simp only[ch,cQ,fE] at h
  exact absurd (by rw[h.2];simp) hB
 | x::A,B,[],l2,hA,_,h=>by
  simp only[av7,fE] at h
  exact absurd (by rw[h.1];simp) hA
 | x::A,B,y::l1,l2,hA,hB,h=>by
  simp only[cQ,fE] at h
  exact awN A B l1 l2 (λh'=>hA (by simp[h'])) hB h.2
section
variable {P:Program} {M0:Base} {w0:World} {N:Nat} {ds:List Deferred}
theorem aIj{E:En}(horc:EnSound P M0.G E){ops:Array Oper}(hdst:∀ (j:Nat) (o:Oper),ops[j]?=some o->abZ N o=true){p:Pn}(hok:aqR ops p=true){s s':S}{q:Option X}{w:World}{tmps:Array Value}{k:Know}{ow:Own}
  (hs:Sim M0 k ow (λj=>(Array.replicate ops.size false).getD j true=true) w0 w N s tmps) (h:evP P (TT.of P) E ops p s=some (q,s')) {Q:Exit->Act->World->Prop}
  (hQ:q=none->∀ tmps' w' k' ow' done',k.le k'->Sim M0 k' ow' done' w0 w' N s' tmps'->Q .normal ⟨tmps',ds⟩ w')
  (hP:∀ x,q=some x->∀ v tmps' w' k' ow' done',k.le k'->Sim M0 k' ow' done' w0 w' N s' tmps'->aE k' ow' x v->Q (.panic [{v:=v,recovered:=false}]) ⟨tmps',ds⟩ w') :
  wpAny P .any ops Q ops.size (Array.replicate ops.size false) ⟨tmps,ds⟩ w:=by
 unfold aqR at hok
 simp only[aj,aV] at hok
 obtain⟨⟨⟨⟨hB,hF⟩,hm,hlen⟩,⟨hcov,hord⟩,hnc⟩,⟨hcb,hpre,hmid⟩,hpush⟩:=hok
 obtain⟨c,preB,midB,m,push⟩:=p
 simp only[Pn.ord] at hB hF hm hlen hcov hord hnc hcb hpre hmid hpush
 have hpre2:∀ x∈preB,(x.2=true->agw ops c x.1=true)/\(agw ops c x.1=true\/uAt ops x.1=true):=λx hx=>by
  have:=List.all_eq_true.1 hpre x hx
  simp only[aj,bk,cV] at this
  exact⟨λh=>this.1.resolve_left (by rw[h];simp),this.2⟩
 have hmid2:∀ x∈midB,aeS ops c x.1=true:=λx hx=>by
  have:=List.all_eq_true.1 hmid x hx
  simp only[aj] at this
  exact this.2
 generalize hpreE:preB.map (·.1)=pre at hB hlen hcov hord hnc
 generalize hmidE:midB.map (·.1)=mid at hB hlen hcov hord hnc
 have hmem:∀ i,i∈pre++c.toList++mid↔i∈pre\/some i=c\/i∈mid:=λi=>by
  cases c with
  | none=>simp
  | some c=>simp[]
 have hnc':∀ i,i∈pre\/i∈mid->some i≠c:=λi hi=>by
  have:=List.all_eq_true.1 hnc i (br.2 hi)
  simpa using this
 have hcov':∀ i,i<m->i∈pre++c.toList++mid:=λi hi=>by
  have:=List.all_eq_true.1 hcov i (List.mem_range.2 hi)
  simpa using this
 have hord':∀ i∈pre++c.toList++mid,i<m/\aCY ops i=true:=λi hi=>by
  have:=List.all_eq_true.1 hord i hi
  simpa using this
 have hpl:PlOk ops c m pre mid:={
  cov:=λi hi=>(hmem i).1 (hcov' i hi)
  solo:=λi o hi ho hst=>by
   have:=(hord' i (hcov' i hi)).2
   unfold aCY at this
   rw[ho] at this
   simpa [hst] using this
  pre:=λi hi=>by
   rw[← hpreE] at hi
   obtain⟨x,hx,rfl⟩:=List.mem_map.1 hi
   exact (hpre2 x hx).2
  mid:=λi hi=>by
   rw[← hmidE] at hi
   obtain⟨x,hx,rfl⟩:=List.mem_map.1 hi
   exact hmid2 x hx}
 have hdc0:Dc ops (Array.replicate ops.size false):=λk o hk hl=>by
  have hks:k<ops.size:=(Array.getElem?_eq_some_iff.1 hk).1
  simp[hks] at hl
 have hun0:∀ j,j<ops.size->(Array.replicate ops.size false).getD j true=false:=λj hj=>by simp[hj]
 have hpos:∀ (l1 l2:List Nat) (i:Nat),pre++c.toList++mid=l1++i::l2->some i=c->∀ j∈l2,aeS ops c j=true:=λl1 l2 i he hc j hj=>by
  subst hc
  have:=awN pre mid l1 l2 (λh=>hnc' i (.inl h) rfl) (λh=>hnc' i (.inr h) rfl) (by rw[← he];simp)
  subst this
  exact hpl.mid j hj
 have main:∀ (R:Nat->Prop) (q0:Option X) (s2:S),alp P (TT.of P) E ops R c (pre++c.toList++mid) s q0 s2->(∀ x,q0=some x->q=some x/\s'=s2)->(q0=none->evT P (TT.of P) E ops m s2 push (ops.toList.drop m)=some (q,s')) ->
   wpAny P .any ops Q ops.size (Array.replicate ops.size false) ⟨tmps,ds⟩ w:=by
  intro R q0 s2 hrun hqp hqn
  have hany:=ayL (m:=m) (Qp:=λx t=>q=some x/\s'=t) (Qn:=λt=>evT P (TT.of P) E ops m t push (ops.toList.drop m)=some (q,s')) hpl ((List.range ops.size).drop m) _ (Array.replicate ops.size false) s q0 s2 hB hdc0 (λi hi=>(hord' i hi).1) (λj hj _=>hcov' j hj) hpos hrun hqn hqp
  have hfin:=arR (P:=P) (Q:=Q) (k0:=k) (n:=ops.size-m) horc hdst hF aC (λx t v tmps' w' k' ow' done' g1 g2 g3 g4=>by
    obtain⟨g2,rfl⟩:=g2
    exact hP x g2 v tmps' w' k' ow' done' g1 g3 g4) (λlisted t w' tmps' k' ow' g1 g2 g3 g4 gs g5 g6=>by
    have hB2:agv ops ((List.range ops.size).drop m) listed=true:=by
     have:=apn _ _ _ hB
     rwa [aTW (pre++c.toList++mid) (Array.replicate ops.size false) listed (by simpa using gs) λj hj=>?_] at this
     have hj':j<ops.size:=by simpa using hj
     rcases aA j m with g|g
     .rw[g3 j g,au (hcov' j g)]
     .rw[g4 j g hj',ar (λh=>by have:=(hord' j h).1;omega),hun0 j hj']
    have hlt:listed=akc ops.size m:=by
     refine Array.ext (by simp[akc,gs]) λj h1 h2=>?_
     have hj:j<ops.size:=by rw[← gs];exact h1
     have e2:listed.getD j true=listed[j]:=by simp[h1]
     rw[← e2]
     rcases aA j m with g|g
     .rw[g3 j g];simp[akc,g]
     .rw[g4 j g hj];simp[akc];omega
    have this:wpAny P .any ops Q (ops.toList.drop m).length listed ⟨tmps',ds⟩ w':=by
     cases push with
     | false =>
      refine awz horc hdst hpush (k0:=k) hQ hP (ops.toList.drop m) m listed t w' tmps' k' ow' (by simp;omega) aC (λj=>by rw[dW];simp) g3 g4 g5 hB2 g1 g6 ?_
      simpa [evT] using g2
     | true =>
      simp only[aAW,aj] at hpush
      obtain⟨hph,h6⟩:=hpush
      rw[← hlt] at h6
      have hdr:∀ j,(ops.toList.drop m)[j]?=ops[m+j]?:=λj=>by rw[dW];simp
      generalize ops.toList.drop m=l at hph hdr g2 ⊢
      unfold aw0 at hph
      split at hph
      rotate_left
      .cases hph
      rename_i a b c n f g
      simp only[aj] at hph
      exact aGt horc hdst (k0:=k) hQ (a:=a) (b:=b) (c:=c) (n:=n) (f:=f) (g:=g) (by simpa using (hdr 0).symm) (by simpa using (hdr 1).symm) (by simpa using (hdr 2).symm) (by simpa using (hdr 3).symm) (by simpa using (hdr 4).symm) (by simpa using (hdr 5).symm) g4 hph.1 hph.2 h6 g1 g6 g2
    simpa using this) _ (Array.replicate ops.size false) s w tmps k ow (Know.le_refl k) hs aT hdc0 (λj _ hj=>hun0 j hj) hany
  rw[hlen,show m+(ops.size-m)=ops.size by omega] at hfin
  exact hfin
 unfold evP at h
 simp only at h
 split at h
 rotate_left
 .cases h
 rename_i D s1 h1
 cases c with
 | none =>
  simp only[aih] at h
  split at h
  rotate_left
  .cases h
  rename_i D2 s3 h3
  have r1:=(as9 (R:=λ_=>False) (c:=none) preB [] D s s1 h1 (λx hx=>⟨by simp,λ_=>rfl⟩) (λr hr=>hr.elim)).1
  rw[hpreE] at r1
  have r2:=ata (R:=λ_=>False) (c:=none) midB [] D2 s1 s3 h3 (λx hx=>⟨by simp,hmid2 x hx⟩)
  rw[hmidE] at r2
  exact main (λ_=>False) none s3 (by simpa using ais pre mid s none s1 s3 r1 r2) (λx hx=>by cases hx) (λ_=>h)
 | some c =>
  have hbare:=List.all_eq_true.1 hcb c aT
  simp only[aih] at h
  cases ho:ops[c]? with
  | none=>rw[ho] at h;cases h
  | some o =>
   rw[ho] at h
   simp only at h
   by_cases hclk:an1 E.obj E.tk s1 D o.op=true
   .rw[au hclk] at h
    have hgn:o.guard=none:=by
     unfold aI8 at hbare
     rw[ho] at hbare
     simpa using hbare
    obtain⟨g,us,hca,hno⟩:=aID (P:=P) hgn hclk
    rw[aA1 hca] at h
    have r1:=(as9 (R:=λr=>r∈dQ s1.objs 999 (X.refsL us) []) (c:=some c) preB [] D s s1 h1 (λx hx=>⟨hnc' x.1 (.inl (by rw[← hpreE];exact List.mem_map.2 ⟨x,hx,rfl⟩)),(hpre2 x hx).1⟩) (λr hr=>hno r hr)).1
    rw[hpreE] at r1
    cases hcq:agz (callS P E s1 c o.dst g us) with
    | none=>rw[hcq] at h;cases h
    | some pq =>
     obtain⟨q0,s2⟩:=pq
     rw[hcq] at h
     have hst:StP P (TT.of P) E ops (λr=>r∈dQ s1.objs 999 (X.refsL us) []) (some c) s1 c o q0 s2:=.inr ⟨rfl,g,us,hca,λr hr=>hr,hcq⟩
     cases q0 with
     | some x =>
      simp only[bD] at h
      obtain⟨rfl,rfl⟩:=h
      refine main (λr=>r∈dQ s1.objs 999 (X.refsL us) []) (some x) s2 ?_ (λy hy=>⟨hy,rfl⟩) (λhe=>by cases he)
      have:alp P (TT.of P) E ops (λr=>r∈dQ s1.objs 999 (X.refsL us) []) (some c) (c::mid) s1 (some x) s2:=⟨o,some x,s2,ho,hst,λy hy=>⟨hy,rfl⟩,λhe=>(by cases he)⟩
      simpa using ais pre (c::mid) s (some x) s1 s2 r1 this
     | none =>
      simp only at h
      split at h
      rotate_left
      .cases h
      rename_i D2 s3 h3
      have r2:=ata (R:=λr=>r∈dQ s1.objs 999 (X.refsL us) []) (c:=some c) midB [] D2 s2 s3 h3 (λx hx=>⟨hnc' x.1 (.inr (by rw[← hmidE];exact List.mem_map.2 ⟨x,hx,rfl⟩)),hmid2 x hx⟩)
      rw[hmidE] at r2
      have:alp P (TT.of P) E ops (λr=>r∈dQ s1.objs 999 (X.refsL us) []) (some c) (c::mid) s1 none s3:=⟨o,none,s2,ho,hst,λy hy=>(by cases hy),λ_=>r2⟩
      exact main (λr=>r∈dQ s1.objs 999 (X.refsL us) []) none s3 (by simpa using ais pre (c::mid) s none s1 s3 r1 this) (λx hx=>by cases hx) (λ_=>h)
   .rw[ar hclk] at h;cases h
end
section
variable {P:Program} {M0:Base} {w0:World} {N:Nat} {ds:List Deferred}
theorem anv(hm:P.follows .mixedOrders=true){E:En}(horc:EnSound P M0.G E){id:Nat}{ops:Array Oper}{draw:Bool}(hok:aDl E.mt N ops draw=true){s:S}{q:Option X}{s':S}{w:World}{tmps:Array Value}{k:Know}{ow:Own}
  (hs:Sim M0 k ow (λ_=>False) w0 w N s tmps) (h:evR P (TT.of P) E draw ops s=some (q,s')) {Q:Exit->Act->World->Prop}
  (hQ:q=none->∀ tmps' w' k' ow',k.le k'->Sim M0 k' ow' (λ_=>False) w0 w' N {s' with clk:=s'.clk+1} tmps'->Q .normal ⟨tmps',ds⟩ w')
  (hP:∀ x,q=some x->∀ v tmps' w' k' ow',k.le k'->Sim M0 k' ow' (λ_=>False) w0 w' N {s' with clk:=s'.clk+1} tmps'->aE k' ow' x v->Q (.panic [{v:=v,recovered:=false}]) ⟨tmps',ds⟩ w'):(Code.region id ops draw).wp P Q ⟨tmps,ds⟩ w:=by
 unfold aDl at hok
 simp only[aj,bk,cV] at hok
 obtain⟨hd,hok⟩:=hok
 have hdst:∀ o∈ops.toList,abZ N o=true:=λo ho=>by
  rw[Array.all_eq_true_iff_forall_mem] at hd
  exact hd o (by simpa using ho)
 cases draw with
 | false =>
  have h:aa1 P (TT.of P) E false ops 0 ops.toList s=some (q,s'):=by simpa [evR] using h
  refine wp_region ?_
  rw[List.range_eq_range',← ep]
  exact apq horc ops.toList 0 s w tmps k ow _ aT hdst (λj hj=>hj.elim) hs h (λhe tmps' w' k' ow' done' g1 g2=>hQ he tmps' w' k' ow' g1 g2.tick) (λx he v tmps' w' k' ow' done' g1 g2 g3=>hP x he v tmps' w' k' ow' g1 g2.tick g3)
 | true =>
  simp only[acB,ahG] at hok
  have hb:Below w.heap.size w {w with drawn:=w.drawn+1}:=⟨rfl,rfl,rfl,ae _,λ_ _=>rfl⟩
  have h2:=(hs.grow hb).more (done':=λj=>(Array.replicate ops.size false).getD j true=true) (λ_ h=>h.elim)
  have hd':∀ (j:Nat) (o:Oper),ops[j]?=some o->abZ N o=true:=λj o ho=>hdst o (by simpa using Array.mem_of_getElem? ho)
  unfold evR at h
  simp only[cO] at h
  by_cases hpl:plB E.mt ops.toList=true
  .rw[au hpl] at h
   unfold ax4 at h
   split at h
   rotate_left
   .cases h
   rename_i p hpo
   refine wp_region_any hm ?_
   exact aIj horc hd' (aGQ hpo) (h2.more λj hj=>hj) h (λhe tmps' w' k' ow' done' g1 g2=>hQ he tmps' w' k' ow' g1 g2.tick) (λx he v tmps' w' k' ow' done' g1 g2 g3=>hP x he v tmps' w' k' ow' g1 g2.tick g3)
  rw[ar hpl] at h
  obtain⟨⟨hlex,hfed,hlk⟩,hok⟩:=hok.resolve_left hpl
  unfold Region.lexB at hlex
  simp only[aj] at hlex
  by_cases htl:tlB ops.toList=true
  .rw[au htl] at h hok
   have hdc:Dc ops (Array.replicate ops.size false):=λk o hk hl=>by
    have hks:k<ops.size:=(Array.getElem?_eq_some_iff.1 hk).1
    simp[hks] at hl
   obtain⟨rfl,h1⟩:=ayK (P:=P) (T:=TT.of P) (E:=E) (Q:=λt=>t=s') hok (aRz _ htl) ops.toList 0 (Array.replicate ops.size false) s s' q aT aT hdc (by simpa using hlex.2) h rfl
   refine wp_region_any hm ?_
   have h3:=am0 (m:=2) (P:=P) horc hd' (Q:=Q) (Qs:=λt=>t=s') (k0:=k) (λt tmps' w' k' ow' done' g1 g2 g3=>by subst g2;exact hQ rfl tmps' w' k' ow' g1 g3.tick) _ _ s _ tmps k ow (Know.le_refl k) h2 h1
   simpa using h3
  rw[ar htl] at h
  simp only[htl,ah,av,aj,bk,cV] at hok
  obtain⟨hS,hfd⟩:=hok
  by_cases htn:(!(acw E.obj ops.toList == 0))=true
  .rw[au htn] at h
   have hne:acw E.obj ops.toList≠0:=by simpa using htn
   rw[ang _ hne] at hfed
   simp only[ap,aY] at h
   obtain⟨t,ht,rfl,rfl⟩:=h
   have hst:=awA _ _ hne
   have hdc:Dc ops (Array.replicate ops.size false):=λk o hk hl=>by
    have hks:k<ops.size:=(Array.getElem?_eq_some_iff.1 hk).1
    simp[hks] at hl
   have h1:=ayM (P:=P) (T:=TT.of P) (E:=E) (Q:=λu=>u=t) hfed hlk (amk hS hst) ops.toList 0 false (Array.replicate ops.size false) s t aT aT hdc (λj hj=>absurd hj aC) (by simpa using hlex.2) ht rfl
   refine wp_region_any hm ?_
   have h3:=arS (P:=P) horc hd' (Q:=Q) (Qs:=λu=>u=t) (k0:=k) (λt tmps' w' k' ow' done' g1 g2 g3=>by subst g2;exact hQ rfl tmps' w' k' ow' g1 g3.tick) _ _ s _ tmps k ow (Know.le_refl k) h2 h1
   simpa using h3
  rw[ar htn] at h
  split at h
  .rename_i hsp
   unfold amR at h
   split at h
   .rename_i hst
    have hfeed:anS ops=true:=by
     rcases hfd with h'|h'
     .rw[hst] at h';cases h'
     .exact h'
    have hdc:Dc ops (Array.replicate ops.size false):=λk o hk hl=>by
     have hks:k<ops.size:=(Array.getElem?_eq_some_iff.1 hk).1
     simp[hks] at hl
    obtain⟨rfl,h1⟩:=ayO (P:=P) (T:=TT.of P) (E:=E) (Q:=λt=>t=s') hfeed hS hst ops.toList 0 (Array.replicate ops.size false) s s' q aT aT hdc (by simpa using hlex.2) h rfl
    refine wp_region_any hm ?_
    have h3:=am0 (m:=1) (P:=P) horc hd' (Q:=Q) (Qs:=λt=>t=s') (k0:=k) (λt tmps' w' k' ow' done' g1 g2 g3=>by subst g2;exact hQ rfl tmps' w' k' ow' g1 g3.tick) _ _ s _ tmps k ow (Know.le_refl k) h2 h1
    simpa using h3
   .rename_i hst
    have hst:aaU ops.toList=false:=by simpa using hst
    have hmk:aib E.obj ops.toList=true:=by
     unfold spB at hsp
     rw[hst,aD] at hsp
     exact hsp
    split at h
    rotate_left
    .cases h
    rename_i o r hl
    split at h
    rotate_left
    .cases h
    rename_i s1 hm1
    obtain rfl:=amT _ _ _ _ _ h
    rw[hl] at hmk
    simp only[aib] at hmk
    have hsz:ops.size=r.length+1:=by rw[← ep,hl];rfl
    have h0:ops[0]?=some o:=by
     have:ops.toList[0]?=some o:=by rw[hl];rfl
     simpa using this
    have hlex2:=hlex.2
    rw[hsz] at hlex2
    unfold Region.lexFrom at hlex2
    simp only[aj] at hlex2
    obtain⟨⟨hr,hfr⟩,hB'⟩:=hlex2
    refine wp_region_any hm ?_
    have h1:=aqh (P:=P) (T:=TT.of P) (E:=E) (Q:=λt=>t=s') (amk hS hst) r 1 ((Array.replicate (r.length+1) false).setIfInBounds 0 true) s1 s' (λj=>by
     have:ops.toList[1+j]?=r[j]?:=by rw[hl,ey,eL]
     rw[← this];simp) (by simpa using hB') h rfl
    rw[hsz] at h2 ⊢
    exact aLm (P:=P) horc (amk hS hst) hd' (Q:=Q) (Qs:=λt=>t=s') (k0:=k) (λt tmps' w' k' ow' done' g1 g2 g3=>by subst g2;exact hQ rfl tmps' w' k' ow' g1 g3.tick) h0 hmk r.length _ s s1 _ tmps k ow (Know.le_refl k) h2 (Region.free_spec h0 hfr) (by simpa using hr) hm1 h1
  .rename_i hsp
   have hst:aaU ops.toList=false:=by
    unfold spB at hsp
    cases h':aaU ops.toList with
    | false=>rfl
    | true=>rw[h',bh] at hsp;exact absurd rfl hsp
   obtain rfl:=amT _ _ _ _ _ h
   refine wp_region_any hm ?_
   have h1:=aqh (P:=P) (T:=TT.of P) (E:=E) (Q:=λt=>t=s') (amk hS hst) ops.toList 0 (Array.replicate ops.size false) s s' aT (by simpa using hlex.2) h rfl
   have h3:=ajI (P:=P) horc hd' (Q:=Q) (Qs:=λt=>t=s') (k0:=k) (λt tmps' w' k' ow' done' g1 g2 g3=>by subst g2;exact hQ rfl tmps' w' k' ow' g1 g3.tick) _ _ s _ tmps k ow (Know.le_refl k) h2 h1
   simpa using h3
end

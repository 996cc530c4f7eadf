/-
  An abstract machine for Go code over plain data: two operations that do not wait for each other may change places. Conditions: none.
-/
import Derived.Test.YtjajlmjfddohfaaGreatDoorPa3
set_option linter.defProp false
set_option linter.unusedSectionVars false
set_option maxRecDepth 100000
set_option maxHeartbeats 32000000
namespace Go.Pe
open Go.RowKit
theorem abs (s:S) (d:Option Nat) (z:X) (x:Operand) (h:∀ j,d=some j→x≠.tmp j):(s.put d z).ev x=s.ev x:=by
 cases d with
 | none=>rfl
 | some d =>
  cases x with
  | tmp t =>
   have:t≠d:=fun e=>h d rfl (by rw[e])
   simp[S.put,S.ev,upd,this]
  | _=>rfl
theorem aea {f g:Operand→X}:∀ (ps:List (Nat×Operand)),(∀ p∈ps,f p.2=g p.2)→fe f ps=fe g ps
 | [],_=>rfl
 | (i,x)::r,h=>by
  simp only[fe]
  rw[h (i,x) (by simp),aea r (fun p hp=>h p (by simp[hp]))]
theorem ae7 {f g:Operand→X}:∀ (l:List Operand),(∀ x∈l,f x=g x)→fN f l=fN g l
 | [],_=>rfl
 | x::r,h=>by
  simp only[fN]
  rw[h x (by simp),ae7 r (fun p hp=>h p (by simp[hp]))]
theorem anF (P:Program) (T:TT) (E:En) {s s':S} (ix:Nat) (o:Oper) (hc:s'.clk=s.clk) (hob:s'.objs=s.objs) (h:∀ x∈o.op.operands.toList,s'.ev x=s.ev x) :
  val P T E s' ix o=val P T E s ix o:=by
 unfold val
 split <;> rename_i ho <;> (try rw[ho] at h)
 .rw[h _ (by simp[Op.operands])]
 .rw[h _ (by simp[Op.operands])]
 .rw[h _ (by simp[Op.operands]),h _ (by simp[Op.operands]),h _ (by simp[Op.operands])]
 .rw[h _ (by simp[Op.operands]),h _ (by simp[Op.operands])]
 .rw[h _ (by simp[Op.operands])]
 .rw[h _ (by simp[Op.operands]),hob]
 .rw[h _ (by simp[Op.operands])]
 .rw[h _ (by simp[Op.operands])]
 .rw[h _ (by simp[Op.operands]),h _ (by simp[Op.operands])]
 .rw[h _ (by simp[Op.operands]),h _ (by simp[Op.operands])]
 .rename_i t x lo hi
  rw[h x (by simp[Op.operands])]
  have h1:lo.map s'.ev=lo.map s.ev:=by
   cases lo with
   | none=>rfl
   | some y=>simp[h y (by simp[Op.operands])]
  have h2:hi.map s'.ev=hi.map s.ev:=by
   cases hi with
   | none=>rfl
   | some y=>simp[h y (by simp[Op.operands])]
  rw[h1,h2]
 .rename_i t ps
  rw[aea (f:=s'.ev) (g:=s.ev) ps.toList (fun p hp=>h p.2 (by simp only[Op.operands];exact List.mem_map.2 ⟨p,hp,rfl⟩))]
 .rename_i t n ps
  rw[aea (f:=s'.ev) (g:=s.ev) ps.toList (fun p hp=>h p.2 (by simp only[Op.operands];exact List.mem_map.2 ⟨p,hp,rfl⟩)),hc]
 .rw[h _ (by simp[Op.operands])]
 .rw[h _ (by simp[Op.operands])]
 .rename_i f first caps
  rw[ae7 (f:=s'.ev) (g:=s.ev) caps.toList (fun x hx=>h x (by simp only[Op.operands,Array.toList_append,List.mem_append];exact .inr hx))]
 .rw[h _ (by simp[Op.operands])]
 .rw[h _ (by simp[Op.operands]),h _ (by simp[Op.operands]),hob]
 .rw[h _ (by simp[Op.operands])]
 .rename_i cal args tys
  have hargs:∀ x∈args.toList,s'.ev x=s.ev x:=fun x hx=>h x (by simp only[Op.operands,Call.operands,Array.toList_append,List.mem_append];exact .inr hx)
  unfold abN
  split
  .rename_i hl _;rw[hargs _ (by rw[hl];simp)]
  .rename_i hl _;rw[hargs _ (by rw[hl];simp),hargs _ (by rw[hl];simp),hc]
  .rename_i hl;rw[hargs _ (by rw[hl];simp),hargs _ (by rw[hl];simp)]
  .rename_i hl;rw[hargs _ (by rw[hl];simp),hargs _ (by rw[hl];simp)]
  .rename_i f
   rw[ae7 (f:=s'.ev) (g:=s.ev) args.toList hargs,h f (by simp[Op.operands,Call.operands]),hc]
  .rfl
 .rw[hc]
 .rename_i t d x
  have h1:s'.fr d=s.fr d:=h (.tmp d) (by simp[Op.operands])
  rw[h1,h x (by simp[Op.operands])]
 .rfl
def Y (P:Program) (T:TT) (E:En) (ops:Array Oper) (s:S) (ix:Nat) (o:Oper) (x:X) (e:Option Tk):Prop :=
 (cD ops s o=some true∧val P T E s ix o=some (x,e)∧gJ s.clk o.after.toList e=true)∨(cD ops s o=some false∧x=.of .undef∧e=none)
section
variable {P:Program} {T:TT} {E:En} {ops:Array Oper} {s:S} {ix:Nat} {o:Oper}
theorem ahl:iq P T E true s ix o=dK P T E s ix o:=rfl
theorem alQ {ops:Array Oper} {s:S} {o:Oper} (h:cD ops s o=some false):cG o=o.dst:=by
 unfold cG
 split
 .rename_i hg
  unfold cD at h
  rw[hg] at h
  cases h
 .rfl
theorem ade {q:Option X} {s':S} (h:bv P T E true ops s ix o=some (q,s')):q=none∧∃ x e,Y P T E ops s ix o x e∧s'=(s.drop e).put (cG o) x:=by
 unfold bv at h
 split at h
 .rename_i hg
  rw[ahl] at h
  unfold dK at h
  split at h
  .rename_i x e hv
   split at h
   .rename_i hok
    simp only[Option.some.injEq,Prod.mk.injEq] at h
    exact⟨h.1.symm,x,e,.inl ⟨hg,hv,hok⟩,h.2.symm⟩
   .cases h
  .cases h
 .rename_i hg
  simp only[Option.some.injEq,Prod.mk.injEq] at h
  exact⟨h.1.symm,_,none,.inr ⟨hg,rfl,rfl⟩,by rw[alQ hg];exact h.2.symm⟩
 .cases h
theorem ahk {x:X} {e:Option Tk} (h:Y P T E ops s ix o x e):bv P T E true ops s ix o=some (none,(s.drop e).put (cG o) x):=by
 unfold bv
 rcases h with ⟨hg,hv,hok⟩|⟨hg,rfl,rfl⟩
 .rw[hg,ahl]
  unfold dK
  simp only[hv,hok,if_true]
 .rw[hg,alQ hg]
  rfl
theorem alE (t:Tk):cD ops (s.drop (some t)) o=cD ops s o:=by
 unfold cD
 split
 .rfl
 .split
  .rename_i d _
   simp only[S.drop]
   cases s.fr d with
   | own t' e z cs n=>rcases eL t t' e z cs n with h|h <;> rw[h]
   | _=>rfl
  .rfl
theorem aEl {d:Option Nat} {z:X} (h:∀ j,d=some j→j∉o.looksAt ops):cD ops (s.put d z) o=cD ops s o:=by
 unfold cD
 split
 .rfl
 .rename_i j want hg
  split
  .rename_i c hc
   have hne:∀ q,d=some q→c≠q:=fun q hq e=>h q hq (by
    unfold Oper.looksAt
    rw[hg]
    simp[hc,e])
   cases d with
   | none=>rfl
   | some q =>
    have:=hne q rfl
    simp[S.put,upd,this]
  .rfl
theorem aAy {x:X} {e:Option Tk} {d:Option Nat} {z:X} (h:∀ j,d=some j→j∉o.looksAt ops):Y P T E ops (s.put d z) ix o x e↔Y P T E ops s ix o x e:=by
 unfold Y
 have hv:val P T E (s.put d z) ix o=val P T E s ix o:=by
  refine anF P T E ix o (by cases d <;> rfl) (by cases d <;> rfl) fun y hy=>abs s d z y fun j hj e=>h j hj ?_
  unfold Oper.looksAt
  rw[List.mem_append]
  refine .inl (List.mem_filterMap.2 ⟨y,hy,?_⟩)
  rw[e]
 rw[aEl h,hv,show (s.put d z).clk=s.clk by cases d <;> rfl]
theorem aUq {x:X} {e:Option Tk} {t:Tk} (ht:∀ i,t≠.nm s.clk ix i) (hne:e≠some t) (h:Y P T E ops s ix o x e):Y P T E ops (s.drop (some t)) ix o (x.drop t) e:=by
 unfold Y at *
 rw[alE,ap4 P T E t s ix ht o]
 rcases h with ⟨hg,hv,hok⟩|⟨hg,rfl,rfl⟩
 .exact .inl ⟨hg,by rw[hv];simp[dB,hne],hok⟩
 .exact .inr ⟨hg,rfl,rfl⟩
theorem aHx {x:X} {e:Option Tk} {t:Tk} (ht:∀ i,t≠.nm s.clk ix i) (h:Y P T E ops (s.drop (some t)) ix o x e):∃ x',Y P T E ops s ix o x' e∧x=x'.drop t∧e≠some t:=by
 unfold Y at *
 rw[alE,ap4 P T E t s ix ht o] at h
 rcases h with ⟨hg,hv,hok⟩|⟨hg,rfl,rfl⟩
 .cases hval:val P T E s ix o with
  | none=>rw[hval] at hv;simp[dB] at hv
  | some p =>
   obtain⟨x',u⟩:=p
   rw[hval] at hv
   simp only[dB] at hv
   split at hv
   .cases hv
   .rename_i hne
    simp only[Option.some.injEq,Prod.mk.injEq] at hv
    obtain⟨rfl,rfl⟩:=hv
    exact⟨x',.inl ⟨hg,rfl,hok⟩,rfl,hne⟩
 .exact⟨.of .undef,.inr ⟨hg,rfl,rfl⟩,rfl,by simp⟩
theorem aUo {x:X} {c j i:Nat} (h:Y P T E ops s ix o x (some (.nm c j i))):c<s.clk∨(c=s.clk∧∃ e∈o.after,Region.binds .any e=true∧e.on=j):=by
 rcases h with ⟨_,_,hok⟩|⟨_,_,h⟩
 .simp only[gJ,Bool.or_eq_true,decide_eq_true_eq,Bool.and_eq_true,List.any_eq_true,beq_iff_eq] at hok
  rcases hok with h|⟨h1,e,he,h2,h3⟩
  .exact .inl h
  .exact .inr ⟨h1,e,by simpa using he,h2,h3⟩
 .cases h
end
theorem ad9 (s:S) (d:Option Nat) (x:X) (t:Tk):(s.put d x).drop (some t)=(s.drop (some t)).put d (x.drop t):=by
 cases d with
 | none=>rfl
 | some d =>
  simp only[S.put,S.drop]
  congr 1
  funext j
  simp only[upd]
  split <;> rfl
theorem acB (s:S) {d c:Option Nat} (x y:X) (h:∀ j,d=some j→c≠some j):(s.put d x).put c y=(s.put c y).put d x:=by
 cases d with
 | none=>rfl
 | some d =>
  cases c with
  | none=>rfl
  | some c =>
   have hne:c≠d:=fun e=>h d rfl (by rw[e])
   simp only[S.put]
   congr 1
   funext j
   simp only[upd]
   by_cases h1:j=d
   .subst h1
    rw[if_neg (Ne.symm hne)]
    simp
   .simp[h1]
theorem atm (t u:Tk) (o:Ob):(o.drop t).drop u=(o.drop u).drop t:=by
 cases o with
 | var ty xs=>simp only[Ob.drop,gM,List.map_map];congr 1;apply List.map_congr_left;intro x _;exact drop_drop t u x
 | map es=>rfl
theorem ayF (s:S) (e u:Option Tk):(s.drop e).drop u=(s.drop u).drop e:=by
 cases e with
 | none=>rfl
 | some e =>
  cases u with
  | none=>rfl
  | some u =>
   simp only[S.drop]
   congr 1
   .funext j;exact drop_drop e u _
   .simp only[List.map_map];apply List.map_congr_left;intro o _;exact atm e u o
def ajq (ops:Array Oper) (oi oj:Oper):Prop:=(∀ d,cG oi=some d→d∉oj.looksAt ops)∧(∀ d,cG oi=some d→cG oj≠some d)∧(∀ d,cG oj=some d→d∉oi.looksAt ops)
theorem ajq.symm {ops:Array Oper} {oi oj:Oper} (h:ajq ops oi oj):ajq ops oj oi:=⟨h.2.2,fun d hd e=>h.2.1 d e hd,h.1⟩
theorem ahm {ops:Array Oper} {i j:Nat} {oi oj:Oper} (hi:ops[i]?=some oi) (hj:ops[j]?=some oj) (hne:i≠j) (hij:∀ e∈oi.after,Region.binds .any e=true→e.on≠j) (h:acS ops i=true):∀ d,cG oi=some d→d∉oj.looksAt ops∧cG oj≠some d:=by
 intro d hd
 unfold acS at h
 simp only[hi,hd] at h
 rw[Bool.and_eq_true] at h
 have hjs:j<ops.size:=(Array.getElem?_eq_some_iff.1 hj).1
 have:=List.all_eq_true.1 h.2 j (List.mem_range.2 hjs)
 rw[hj] at this
 simp only[Bool.or_eq_true,Bool.and_eq_true,beq_iff_eq,Bool.not_eq_true',bne_iff_ne,ne_eq,Array.any_eq_true'] at this
 rcases this with e|⟨h1,h2⟩
 .exact absurd e.symm hne
 .refine⟨fun hm=>?_,fun e=>?_⟩
  .have:(oj.looksAt ops).contains d=true:=by simpa using hm
   rw[this] at h1
   cases h1
  .rcases h2 with h2|⟨_,e',he,hb,hon⟩
   .exact h2 e
   .exact hij e' he hb hon
theorem agP {ops:Array Oper} {i j:Nat} {oi oj:Oper} (hi:ops[i]?=some oi) (hj:ops[j]?=some oj) (hne:i≠j) (hij:∀ e∈oi.after,Region.binds .any e=true→e.on≠j) (hji:∀ e∈oj.after,Region.binds .any e=true→e.on≠i)
  (hap:oi.apart ops oj=true) (si:bZ oi.op=true→acS ops i=true) (sj:bZ oj.op=true→acS ops j=true):ajq ops oi oj:=by
 obtain⟨a1,a2,a3⟩:=Oper.apart_spec hap
 cases hsi:bZ oi.op with
 | true =>
  have q1:=ahm hi hj hne hij (si hsi)
  cases hsj:bZ oj.op with
  | true =>
   have q2:=ahm hj hi (Ne.symm hne) hji (sj hsj)
   exact⟨fun d hd=>(q1 d hd).1,fun d hd=>(q1 d hd).2,fun d hd=>(q2 d hd).1⟩
  | false=>exact⟨fun d hd=>(q1 d hd).1,fun d hd=>(q1 d hd).2,fun d hd=>a3 d (by rw[← hd,abW hsj])⟩
 | false =>
  cases hsj:bZ oj.op with
  | true =>
   have q2:=ahm hj hi (Ne.symm hne) hji (sj hsj)
   exact⟨fun d hd=>a1 d (by rw[← hd,abW hsi]),fun d hd e=>(q2 d e).2 hd,fun d hd=>(q2 d hd).1⟩
  | false=>exact⟨fun d hd=>a1 d (by rw[← hd,abW hsi]),fun d hd=>by rw[abW hsj];exact a2 d (by rw[← hd,abW hsi]),fun d hd=>a3 d (by rw[← hd,abW hsj])⟩
theorem aHc {P:Program} {T:TT} {E:En} {ops:Array Oper} {s s1 s2:S} {i j:Nat} {oi oj:Oper} (hap:ajq ops oi oj)
  (hij:∀ e∈oi.after,Region.binds .any e=true→e.on≠j) (hji:∀ e∈oj.after,Region.binds .any e=true→e.on≠i)
  (h1:bv P T E true ops s i oi=some (none,s1)) (h2:bv P T E true ops s1 j oj=some (none,s2)):∃ s',bv P T E true ops s j oj=some (none,s')∧bv P T E true ops s' i oi=some (none,s2):=by
 obtain⟨a1,a2,a3⟩:=hap
 obtain⟨_,xi,ei,yi,rfl⟩:=ade h1
 obtain⟨_,xj,ej,yj,rfl⟩:=ade h2
 have yj1:Y P T E ops (s.drop ei) j oj xj ej:=(aAy (fun d hd=>a1 d hd)).1 yj
 obtain⟨xj',yj2,hxj,hne⟩ : ∃ x',Y P T E ops s j oj x' ej∧xj=ai9 ei x'∧(ei=none∨ej≠ei):=by
  cases ei with
  | none=>exact⟨xj,yj1,rfl,.inl rfl⟩
  | some t =>
   have ht:∀ q,t≠.nm s.clk j q:=fun q e=>by
    subst e
    rcases aUo yi with h|⟨_,e,he,hb,h⟩
    .omega
    .exact hij e he hb h
   obtain⟨x',g1,g2,g3⟩:=aHx ht yj1
   exact⟨x',g1,g2,.inr g3⟩
 refine⟨(s.drop ej).put (cG oj) xj',ahk yj2,?_⟩
 have yi2:Y P T E ops (s.drop ej) i oi (ai9 ej xi) ei:=by
  cases ej with
  | none=>exact yi
  | some t =>
   have ht:∀ q,t≠.nm s.clk i q:=fun q e=>by
    subst e
    rcases aUo yj2 with h|⟨_,e,he,hb,h⟩
    .omega
    .exact hji e he hb h
   refine aUq ht ?_ yi
   rcases hne with h|h
   .rw[h];simp
   .exact Ne.symm h
 have yi3:Y P T E ops ((s.drop ej).put (cG oj) xj') i oi (ai9 ej xi) ei:=(aAy (fun d hd=>a3 d hd)).2 yi2
 rw[ahk yi3]
 congr 1
 have hd:∀ d,(cG oj)=some d→(cG oi)≠some d:=fun d hd e=>a2 d e hd
 have e1:((s.drop ej).put (cG oj) xj').drop ei=((s.drop ej).drop ei).put (cG oj) xj:=by
  rw[hxj]
  cases ei with
  | none=>rfl
  | some t=>exact ad9 _ _ _ _
 have e2:((s.drop ei).put (cG oi) xi).drop ej=((s.drop ei).drop ej).put (cG oi) (ai9 ej xi):=by
  cases ej with
  | none=>rfl
  | some t=>exact ad9 _ _ _ _
 rw[e1,e2,acB _ _ _ (fun d h=>hd d h),ayF]
def anl (P:Program) (T:TT) (E:En) (ops:Array Oper) (Q:S→Prop):Nat→Array Bool→S→Prop
 | 0,listed,s=>Region.ready .any ops listed=[]∧Q s
 | fuel+1,listed,s=>(Region.ready .any ops listed=[]→Q s) ∧
  ∀ i∈Region.ready .any ops listed,∃ o s',ops[i]?=some o∧bv P T E true ops s i o=some (none,s')∧anl P T E ops Q fuel (listed.setIfInBounds i true) s'
section
variable {P:Program} {T:TT} {E:En} {ops:Array Oper} {Q:S→Prop}
theorem im {i:Nat} {listed:Array Bool} {o:Oper} (hi:i∈Region.ready .any ops listed) (ho:ops[i]?=some o) {j:Nat} (hj:listed.getD j true=false):∀ e∈o.after,Region.binds .any e=true→e.on≠j:=by
 obtain⟨_,oi,hoi,hall⟩:=mem_ready.1 hi
 obtain rfl:oi=o:=Option.some.inj (hoi.symm.trans ho)
 intro e he hb heq
 have h1:=hall e he hb
 rw[heq] at h1
 rcases Nat.lt_or_ge j listed.size with h'|h'
 .simp[h'] at hj h1;rw[hj] at h1;cases h1
 .simp[Array.getElem?_eq_none h'] at h1
theorem aAv (hS:∀ (i:Nat) (o:Oper),ops[i]?=some o→bZ o.op=true→acS ops i=true) {i:Nat} {oi:Oper} (hi:ops[i]?=some oi):∀ (fuel:Nat) (listed:Array Bool) (s s1:S),
  (∀ (j:Nat) (oj:Oper),ops[j]?=some oj→j≠i→listed.getD j true=false→(∀ e∈oj.after,Region.binds .any e=true→e.on≠i)→oi.apart ops oj=true) →
  i∈Region.ready .any ops listed→bv P T E true ops s i oi=some (none,s1)→anl P T E ops Q fuel (listed.setIfInBounds i true) s1→anl P T E ops Q (fuel+1) listed s:=by
 intro fuel
 induction fuel with
 | zero =>
  intro listed s s1 _ hr hs H
  refine⟨fun h=>(by rw[h] at hr;cases hr),fun j hj=>?_⟩
  by_cases hji:j=i
  .subst hji;exact⟨oi,s1,hi,hs,H⟩
  .have:=ready_mono hj hji
   rw[H.1] at this
   cases this
 | succ fuel ih =>
  intro listed s s1 hfree hr hs H
  refine⟨fun h=>(by rw[h] at hr;cases hr),fun j hj=>?_⟩
  by_cases hji:j=i
  .subst hji;exact⟨oi,s1,hi,hs,H⟩
  .obtain⟨oj,s2,hoj,hs2,H2⟩:=H.2 j (ready_mono hj hji)
   have hjun:=(mem_ready.1 hj).1
   have hiun:=(mem_ready.1 hr).1
   have hji':=im hj hoj hiun
   have hij':=im hr hi hjun
   obtain⟨s',g1,g2⟩:=aHc (agP hi hoj (Ne.symm hji) hij' hji' (hfree j oj hoj hji hjun hji') (hS i oi hi) (hS j oj hoj)) hij' hji' hs hs2
   refine⟨oj,s',hoj,g1,ih (listed.setIfInBounds j true) s' s2 (fun k ok hk hki hun hno=>?_) (ready_mono hr (Ne.symm hji)) g2 (by rw[Array.setIfInBounds_comm _ _ hji];exact H2)⟩
   refine hfree k ok hk hki ?_ hno
   by_cases hjk:j=k
   .subst hjk;exact hjun
   .rw[getD_set_ne true hjk] at hun;exact hun
theorem akp (hS:∀ (i:Nat) (o:Oper),ops[i]?=some o→bZ o.op=true→acS ops i=true):∀ (l:List Oper) (n:Nat) (listed:Array Bool) (s s':S),(∀ j,l[j]?=ops[n+j]?)→Region.lexFrom .any ops l.length n listed=true →
  hH P T E true ops n l s=some (none,s')→Q s'→anl P T E ops Q l.length listed s
 | [],n,listed,s,s',_,hB,h,hQ=>by
  simp only[hH,Option.some.injEq,Prod.mk.injEq,true_and] at h
  subst h
  exact⟨by simpa [Region.lexFrom] using hB,hQ⟩
 | o::l,n,listed,s,s',hl,hB,h,hQ=>by
  have h0:ops[n]?=some o:=by simpa using (hl 0).symm
  simp only[List.length_cons,Region.lexFrom,Bool.and_eq_true] at hB
  obtain⟨⟨hr,hf⟩,hB'⟩:=hB
  simp only[hH] at h
  split at h
  .rename_i s1 h1
   exact aAv hS h0 l.length listed s s1 (Region.free_spec h0 hf) (by simpa using hr) h1
    (akp hS l (n+1) _ s1 s' (fun j=>by have:=hl (j+1);simpa [Nat.add_assoc,Nat.add_comm 1 j] using this) hB' h hQ)
  .cases h
  .cases h
end
section
variable {P:Program} {M0:Base} {w0:World} {N:Nat}
theorem adL {E:En} (horc:EnSound P M0.G E) {ops:Array Oper} (hdst:∀ (j:Nat) (o:Oper),ops[j]?=some o→abF N o=true) {Q:Exit→Act→World→Prop} {Qs:S→Prop} {k0:Know}
  (hQ:∀ s' tmps' w' k' ow' done',k0.le k'→Qs s'→Sim M0 k' ow' done' w0 w' N s' tmps'→Q .normal ⟨tmps',[]⟩ w'):∀ (fuel:Nat) (listed:Array Bool) (s:S) (w:World) (tmps:Array Value) (k:Know) (ow:Own),
  k0.le k→Sim M0 k ow (fun j=>listed.getD j true=true) w0 w N s tmps→anl P (TT.of P) E ops Qs fuel listed s→wpAny P .any ops Q fuel listed ⟨tmps,[]⟩ w
 | 0,listed,s,w,tmps,k,ow,hk,hs,h=>⟨h.1,hQ s tmps w k ow _ hk h.2 hs⟩
 | fuel+1,listed,s,w,tmps,k,ow,hk,hs,h=>by
  refine⟨fun h0=>hQ s tmps w k ow _ hk (h.1 h0) hs,fun i hi=>?_⟩
  obtain⟨o,s',ho,hst,H⟩:=h.2 i hi
  have hun:=(mem_ready.1 hi).1
  refine jR hs horc (by rw[hun];simp) ho (hdst i o ho) hst (fun _ tmps' w' k' ow' g1 g2=>?_) (fun x hx=>by cases hx)
  refine adL horc hdst hQ fuel _ s' w' tmps' k' ow' (Know.le_trans hk g1) (g2.more fun j hj=>?_) H
  rcases hj with hj|rfl
  .by_cases hij:i=j
   .subst hij;rw[hun] at hj;cases hj
   .rw[getD_set_ne true hij];exact hj
  .rcases Nat.lt_or_ge j listed.size with g|g
   .simp[g]
   .simp[g]
theorem agJ {P:Program} {T:TT} {E:En} {ops:Array Oper}:∀ (l:List Oper) (n:Nat) (s:S) (q:Option X) (s':S),hH P T E true ops n l s=some (q,s')→q=none
 | [],n,s,q,s',h=>by
  simp only[hH,Option.some.injEq,Prod.mk.injEq] at h
  exact h.1.symm
 | o::l,n,s,q,s',h=>by
  simp only[hH] at h
  split at h
  .exact agJ l _ _ _ _ h
  .rename_i h1
   exact absurd (ade h1).1 (by simp)
  .cases h
end
def apR (L:Nat):X→Prop
 | .ptr r _=>r<L
 | .mp r=>r<L
 | _=>True
theorem aFB {P:Program} {T:TT} {E:En} {s:S} {ix:Nat} {o:Oper} {ob:Ob} {y:X×Option Tk} (hwf:∀ y:Operand,apR s.objs.length (s.ev y)) (h:val P T E {s with objs:=s.objs++[ob]} ix o=some y):val P T E s ix o=some y:=by
 cases hop:o.op with
 | load t a =>
  simp only[val,hop] at h ⊢
  have ha:=hwf a
  have e:({s with objs:=s.objs++[ob]}:S).ev a=s.ev a:=rfl
  rw[e] at h
  cases hx:s.ev a with
  | ptr r off =>
   rw[hx] at h ha
   simp only[j6] at h ⊢
   rw[List.getElem?_append_left (show r<s.objs.length from ha)] at h
   exact h
  | of c=>rw[hx] at h;cases c <;> exact h
  | _=>rw[hx] at h;exact h
 | lookup t x i b =>
  simp only[val,hop] at h ⊢
  have ha:=hwf x
  have e:({s with objs:=s.objs++[ob]}:S).ev x=s.ev x:=rfl
  have e2:({s with objs:=s.objs++[ob]}:S).ev i=s.ev i:=rfl
  rw[e,e2] at h
  have hm:aci (s.objs++[ob]) (s.ev x)=aci s.objs (s.ev x):=by
   cases hx:s.ev x with
   | mp r =>
    rw[hx] at ha
    simp only[aci]
    rw[List.getElem?_append_left (show r<s.objs.length from ha)]
   | of c =>
    cases c with
    | lit v =>
     cases v with
     | map p=>cases p <;> rfl
     | _=>rfl
    | _=>rfl
   | _=>rfl
  unfold aaq at h ⊢
  rw[hm] at h
  exact h
 | makeFunc f a b =>
  simp only[val,hop] at h ⊢
  cases f <;> exact h
 | slice t x lo hi mx =>
  simp only[val,hop] at h ⊢
  cases mx <;> exact h
 | store t a x =>
  simp only[val,hop] at h ⊢
  cases a <;> exact h
 | _ =>
  simp only[val,hop] at h ⊢
  exact h
theorem aUp {P:Program} {T:TT} {E:En} {ops:Array Oper} {s:S} {ix:Nat} {o:Oper} {ob:Ob} {x:X} {e:Option Tk} (hwf:∀ y:Operand,apR s.objs.length (s.ev y)) (h:Y P T E ops {s with objs:=s.objs++[ob]} ix o x e):Y P T E ops s ix o x e:=by
 rcases h with ⟨h1,h2,h3⟩|⟨h1,h2,h3⟩
 .exact .inl ⟨h1,aFB hwf h2,h3⟩
 .exact .inr ⟨h1,h2,h3⟩
theorem aL2 {P:Program} {T:TT} {E:En} {ops:Array Oper} {s s1 s2:S} {j:Nat} {o0 oj:Oper} (hap:ajq ops o0 oj) (hE:cG o0=o0.dst) (hwf:∀ y:Operand,apR s.objs.length (s.ev y))
  (h1:mkS P E s o0=some s1) (h2:bv P T E true ops s1 j oj=some (none,s2)):∃ s',bv P T E true ops s j oj=some (none,s')∧mkS P E s' o0=some s2:=by
 obtain⟨a1,a2,a3⟩:=hap
 rw[hE] at a1 a2
 unfold mkS at h1
 simp only[Option.map_eq_some_iff] at h1
 obtain⟨es,he,rfl⟩:=h1
 obtain⟨_,xj,ej,yj,rfl⟩:=ade h2
 have yj1:=aUp hwf ((aAy (fun d hd=>a1 d hd)).1 yj)
 refine⟨(s.drop ej).put (cG oj) xj,ahk yj1,?_⟩
 unfold mkS
 rw[he]
 simp only[Option.map_some,Option.some.injEq]
 have hd:∀ d,(cG oj)=some d→o0.dst≠some d:=fun d hd e=>a2 d e hd
 have e1:(({s with objs:=s.objs++[Ob.map es]}:S).put o0.dst (.mp s.objs.length)).drop ej=({s.drop ej with objs:=(s.drop ej).objs++[Ob.map es]}:S).put o0.dst (.mp s.objs.length):=by
  cases ej with
  | none=>rfl
  | some t =>
   rw[ad9]
   simp only[S.drop,List.map_append,List.map_cons,List.map_nil,Ob.drop,X.drop]
 have e2:((s.drop ej).put (cG oj) xj).objs.length=s.objs.length:=by
  cases ej <;> cases (cG oj) <;> simp[S.put,S.drop]
 have e3:({(s.drop ej).put (cG oj) xj with objs:=((s.drop ej).put (cG oj) xj).objs++[Ob.map es]}:S)=({s.drop ej with objs:=(s.drop ej).objs++[Ob.map es]}:S).put (cG oj) xj:=by
  cases (cG oj) <;> rfl
 rw[e1,e2,e3,acB _ _ _ (fun d h=>hd d h)]
theorem aCS:gk [] []=some:=by
 funext t
 cases t <;> simp[gk]
theorem auA {P:Program} {T:TT} {E:En} {ops:Array Oper} {s s1:S} {ix:Nat} {o:Oper} (hmk:(abn E.obj o.op&&o.guard.isNone)=true) (h:mkS P E s o=some s1):bv P T E false ops s ix o=some (none,s1):=by
 simp only[Bool.and_eq_true,Option.isNone_iff_eq_none] at hmk
 obtain⟨hmk,hg⟩:=hmk
 unfold mkS at h
 simp only[Option.map_eq_some_iff] at h
 obtain⟨es,he,rfl⟩:=h
 unfold bv cD
 rw[hg]
 simp only
 unfold abn at hmk
 split at hmk
 rotate_left
 .cases hmk
 rename_i g args tys hop
 simp only[Bool.and_eq_true] at hmk
 obtain⟨hargs,hobj⟩:=hmk
 have ha:args.toList=[]:=by simpa using hargs
 simp only[mkA,hop] at he
 split at he
 rotate_left
 .cases he
 rename_i hc
 split at he
 rotate_left
 .cases he
 rename_i es' ho
 simp only[Option.some.injEq] at he
 subst he
 unfold iq
 simp only[Bool.false_eq_true,if_false,hop,ha]
 have ht:ac6 s (.value (.func g)) []=some (g,[]):=rfl
 rw[ht]
 simp only[hobj,if_true]
 unfold ac1
 rw[if_pos hc]
 have hr:fM s.objs 999 (X.refsL []) []=[]:=rfl
 have hts:(if E.tk g=true then nub (X.toksL []) [] else [])=[]:=by split <;> rfl
 simp only[hr,hts,eU,X.trs,ho]
 unfold ajm
 simp only[List.length_nil,Nat.zero_le,if_true,aCS,fV,List.drop_zero,List.map_cons,List.map_nil,Ob.tr,X.trs,X.tr,aaJ,dq,List.getElem?_nil,Nat.sub_zero,Nat.add_zero]
 congr 2
 have e1:(fun j=>(s.fr j).tr some some)=s.fr:=by funext j;exact X.tr_id _
 have e2:s.objs.map (Ob.tr some some)=s.objs:=by
  conv=>rhs;rw[← List.map_id s.objs]
  exact List.map_congr_left fun o _=>Ob.tr_id o
 rw[e1,e2]
section
variable {P:Program} {M0:Base} {w0:World} {N:Nat}
theorem aLW {k:Know} {ow:Own} {done:Nat→Prop} {w:World} {s:S} {tmps:Array Value} (hs:Sim M0 k ow done w0 w N s tmps) (y:Operand):apR s.objs.length (s.ev y):=by
 have h:=hs.ev y
 cases hx:s.ev y with
 | ptr r off =>
  rw[hx] at h
  simp only[aF] at h
  obtain⟨b,hb,_⟩:=h
  exact hs.dom r b hb
 | mp r =>
  rw[hx] at h
  simp only[aF] at h
  obtain⟨b,hb,_⟩:=h
  exact hs.dom r b hb
 | _=>trivial
theorem aZo {obj:Nat→Bool} {o:Op} (h:abn obj o=true):bZ o=false:=by
 cases o with
 | store t a x=>cases h
 | _=>rfl
theorem aGo {E:En} (horc:EnSound P M0.G E) {ops:Array Oper} (hS:∀ (i:Nat) (o:Oper),ops[i]?=some o→bZ o.op=true→acS ops i=true) (hdst:∀ (j:Nat) (o:Oper),ops[j]?=some o→abF N o=true) {Q:Exit→Act→World→Prop} {Qs:S→Prop} {k0:Know}
  (hQ:∀ s' tmps' w' k' ow' done',k0.le k'→Qs s'→Sim M0 k' ow' done' w0 w' N s' tmps'→Q .normal ⟨tmps',[]⟩ w') {o0:Oper} (h0:ops[0]?=some o0) (hmk:(abn E.obj o0.op&&o0.guard.isNone)=true) :
  ∀ (fuel:Nat) (listed:Array Bool) (s s1:S) (w:World) (tmps:Array Value) (k:Know) (ow:Own),k0.le k→Sim M0 k ow (fun j=>listed.getD j true=true) w0 w N s tmps →
   (∀ (j:Nat) (oj:Oper),ops[j]?=some oj→j≠0→listed.getD j true=false→(∀ e∈oj.after,Region.binds .any e=true→e.on≠0)→o0.apart ops oj=true) →
   0∈Region.ready .any ops listed→mkS P E s o0=some s1→anl P (TT.of P) E ops Qs fuel (listed.setIfInBounds 0 true) s1→wpAny P .any ops Q (fuel+1) listed ⟨tmps,[]⟩ w:=by
 have hmore:∀ (listed:Array Bool) (i:Nat),listed.getD i true=false→∀ j,(listed.setIfInBounds i true).getD j true=true→(listed.getD j true=true∨j=i):=fun listed i hun j hj=>by
  by_cases hij:i=j
  .exact .inr hij.symm
  .rw[getD_set_ne true hij] at hj;exact .inl hj
 have hback:∀ (listed:Array Bool) (i:Nat),listed.getD i true=false→∀ j,(listed.getD j true=true∨j=i)→(listed.setIfInBounds i true).getD j true=true:=fun listed i hun j hj=>by
  rcases hj with hj|rfl
  .by_cases hij:i=j
   .subst hij;rw[hun] at hj;cases hj
   .rw[getD_set_ne true hij];exact hj
  .rcases Nat.lt_or_ge j listed.size with g|g
   .simp[g]
   .simp[g]
 intro fuel
 induction fuel with
 | zero =>
  intro listed s s1 w tmps k ow hk hs _ hr hm H
  refine⟨fun h=>(by rw[h] at hr;cases hr),fun j hj=>?_⟩
  have hun:=(mem_ready.1 hj).1
  by_cases hj0:j=0
  .subst hj0
   refine jR (dr:=false) hs horc (by rw[hun];simp) h0 (hdst 0 o0 h0) (auA hmk hm) (fun _ tmps' w' k' ow' g1 g2=>?_) (fun x hx=>by cases hx)
   exact adL horc hdst hQ 0 _ s1 w' tmps' k' ow' (Know.le_trans hk g1) (g2.more (hback listed 0 hun)) H
  .have:=ready_mono hj hj0
   rw[H.1] at this
   cases this
 | succ fuel ih =>
  intro listed s s1 w tmps k ow hk hs hfree hr hm H
  refine⟨fun h=>(by rw[h] at hr;cases hr),fun j hj=>?_⟩
  have hun:=(mem_ready.1 hj).1
  by_cases hj0:j=0
  .subst hj0
   refine jR (dr:=false) hs horc (by rw[hun];simp) h0 (hdst 0 o0 h0) (auA hmk hm) (fun _ tmps' w' k' ow' g1 g2=>?_) (fun x hx=>by cases hx)
   exact adL horc hdst hQ (fuel+1) _ s1 w' tmps' k' ow' (Know.le_trans hk g1) (g2.more (hback listed 0 hun)) H
  .obtain⟨oj,s2,hoj,hs2,H2⟩:=H.2 j (ready_mono hj hj0)
   have h0un:=(mem_ready.1 hr).1
   have hji':=im hj hoj h0un
   have hno:bZ o0.op=false:=by rw[Bool.and_eq_true] at hmk;exact aZo hmk.1
   obtain⟨s',g1,g2⟩:=aL2 (agP h0 hoj (Ne.symm hj0) (im hr h0 hun) hji' (hfree j oj hoj hj0 hun hji') (fun h=>by rw[hno] at h;cases h) (hS j oj hoj)) (abW hno) (aLW hs) hm hs2
   refine jR (dr:=true) hs horc (by rw[hun];simp) hoj (hdst j oj hoj) g1 (fun _ tmps' w' k' ow' q1 q2=>?_) (fun x hx=>by cases hx)
   refine ih (listed.setIfInBounds j true) s' s2 w' tmps' k' ow' (Know.le_trans hk q1) (q2.more (hback listed j hun)) (fun k ok hok hk0 hkun hno=>?_) (ready_mono hr (Ne.symm hj0)) g2 (by rw[Array.setIfInBounds_comm _ _ hj0];exact H2)
   refine hfree k ok hok hk0 ?_ hno
   by_cases hjk:j=k
   .subst hjk;exact hun
   .rw[getD_set_ne true hjk] at hkun;exact hkun
end
def Dm (m:Nat) (ops:Array Oper) (i:Nat):Bool:=decide (i+m<ops.size)
def ank (m:Nat) (P:Program) (T:TT) (E:En) (ops:Array Oper) (Q:S→Prop):Nat→Array Bool→S→Prop
 | 0,listed,s=>Region.ready .any ops listed=[]∧Q s
 | fuel+1,listed,s=>(Region.ready .any ops listed=[]→Q s) ∧
  ∀ i∈Region.ready .any ops listed,∃ o s',ops[i]?=some o∧bv P T E (Dm m ops i) ops s i o=some (none,s')∧ank m P T E ops Q fuel (listed.setIfInBounds i true) s'
abbrev aHq:=ank 1
def Dc (ops:Array Oper) (listed:Array Bool):Prop:=∀ (k:Nat) (o:Oper),ops[k]?=some o→listed.getD k true=true→∀ e∈o.after,Region.binds .any e=true→listed.getD e.on false=true
theorem alH {listed:Array Bool} {i:Nat} (h:listed.getD i false=true):listed.getD i true=true:=by
 rcases Nat.lt_or_ge i listed.size with g|g
 .simp[g] at h ⊢;exact h
 .simp[g] at h
theorem anM {listed:Array Bool} {i j:Nat} (h:listed.getD i false=true):(listed.setIfInBounds j true).getD i false=true:=by
 by_cases hij:j=i
 .subst hij
  rcases Nat.lt_or_ge j listed.size with g|g
  .simp[g]
  .simp[g] at h
 .rw[getD_set_ne false hij];exact h
theorem Dc.set {ops:Array Oper} {listed:Array Bool} (h:Dc ops listed) {j:Nat} (hj:j∈Region.ready .any ops listed):Dc ops (listed.setIfInBounds j true):=fun k o hk hl e he hb=>by
 by_cases hjk:j=k
 .subst hjk
  obtain⟨_,oj,hoj,hall⟩:=mem_ready.1 hj
  obtain rfl:oj=o:=Option.some.inj (hoj.symm.trans hk)
  exact anM (hall e he hb)
 .rw[getD_set_ne true hjk] at hl
  exact anM (h k o hk hl e he hb)
theorem aTb {ops:Array Oper} (hf:ah2 ops=true) {listed:Array Bool} (hd:Dc ops listed):∀ (m i:Nat),ops.size-i≤m→i+1<ops.size→afw ops i=false→listed.getD i true=false→ops.size-1∉Region.ready .any ops listed
 | 0,i,hm,hi,_,_,_=>by omega
 | m+1,i,hm,hi,hli,hun,hr=>by
  have hfi:=List.all_eq_true.1 hf i (List.mem_range.2 (by omega))
  rw[hli,Bool.false_or] at hfi
  simp only[List.any_eq_true,List.mem_range,Bool.and_eq_true,decide_eq_true_eq] at hfi
  obtain⟨k,hk,hik,hx⟩:=hfi
  split at hx
  rotate_left
  .cases hx
  rename_i o ho
  simp only[Array.any_eq_true',Bool.and_eq_true,beq_iff_eq,Bool.not_eq_true'] at hx
  obtain⟨hlo,e,he,hb,rfl⟩:=hx
  by_cases hkn:k=ops.size-1
  .subst hkn
   obtain⟨_,oj,hoj,hall⟩:=mem_ready.1 hr
   obtain rfl:oj=o:=Option.some.inj (hoj.symm.trans ho)
   have:=alH (hall e he hb)
   rw[hun] at this
   cases this
  .have hkun:listed.getD k true=false:=by
    cases hl:listed.getD k true with
    | false=>rfl
    | true =>
     have:=alH (hd k o ho hl e he hb)
     rw[hun] at this
     cases this
   exact aTb hf hd m k (by omega) (by omega) (by unfold afw;rw[ho];split;rename_i e _;obtain rfl:=Option.some.inj e;rw[hlo];rfl;rfl) hkun hr
theorem aLo (ρ:Tk→Option Tk) (s:S) (d:Option Nat) (x:X):(s.put d x).tr ρ=(s.tr ρ).put d (x.tr some ρ):=by
 cases d with
 | none=>rfl
 | some d =>
  simp only[S.put,S.tr]
  congr 1
  funext j
  simp only[upd]
  split <;> rfl
theorem auk (σ:Nat→Option Nat) (ρ:Tk→Option Tk):∀ (xs:List X) (i:Nat),(X.trs σ ρ xs)[i]?=(xs[i]?).map (X.tr σ ρ)
 | [],i=>by simp[X.trs]
 | x::r,0=>by simp[X.trs]
 | x::r,i+1=>by simpa [X.trs] using auk σ ρ r i
def exX (i:Nat):X→Out
 | .tup xs=>bB (xs[i]?)
 | .of (.tup cs)=>bB ((cs[i]?).map .of)
 | _=>none
structure GoodF (F:X→X):Prop where
 ex:∀ i x y t,exX i x=some (y,t)→t=none∧exX i (F x)=some (F y,none)
 val:∀ v,F (iV v)=iV v
 fn:∀ f,F (.of (.fn f []))=.of (.fn f [])
 any:F (.of .any)=.of .any
 of:∀ c,F (.of c)=.of c
theorem am0:GoodF id where
 ex:=fun i x y t h=>by
  unfold exX at h ⊢
  split at h
  .simp only[bB,Option.map_eq_some_iff,Prod.mk.injEq] at h
   obtain⟨a,ha,rfl,rfl⟩:=h
   exact⟨rfl,by simp[ha,bB]⟩
  .simp only[bB,Option.map_eq_some_iff,Prod.mk.injEq] at h
   obtain⟨a,⟨c,hc,rfl⟩,rfl,rfl⟩:=h
   exact⟨rfl,by simp[hc,bB]⟩
  .cases h
 val:=fun _=>rfl
 fn:=fun _=>rfl
 any:=rfl
 of:=fun _=>rfl
theorem aw9 (ρ:Tk→Option Tk):GoodF (X.tr some ρ) where
 ex:=fun i x y t h=>by
  unfold exX at h
  split at h
  .simp only[bB,Option.map_eq_some_iff,Prod.mk.injEq] at h
   obtain⟨a,ha,rfl,rfl⟩:=h
   exact⟨rfl,by simp only[exX,X.tr,auk,ha,Option.map_some,bB]⟩
  .simp only[bB,Option.map_eq_some_iff,Prod.mk.injEq] at h
   obtain⟨a,⟨c,hc,rfl⟩,rfl,rfl⟩:=h
   exact⟨rfl,by simp only[exX,X.tr,hc,Option.map_some,bB]⟩
  .cases h
 val:=fun v=>by unfold iV;split <;> rfl
 fn:=fun _=>rfl
 any:=rfl
 of:=fun _=>rfl
theorem an9 (u:Tk):GoodF (X.drop u) where
 ex:=fun i x y t h=>by
  unfold exX at h
  split at h
  .simp only[bB,Option.map_eq_some_iff,Prod.mk.injEq] at h
   obtain⟨a,ha,rfl,rfl⟩:=h
   exact⟨rfl,by simp[exX,X.drop,gM,ha,bB]⟩
  .simp only[bB,Option.map_eq_some_iff,Prod.mk.injEq] at h
   obtain⟨a,⟨c,hc,rfl⟩,rfl,rfl⟩:=h
   exact⟨rfl,by simp[exX,X.drop,hc,bB]⟩
  .cases h
 val:=ags u
 fn:=fun _=>rfl
 any:=rfl
 of:=fun _=>rfl
theorem GoodF.ev {F:X→X} (h:GoodF F) {s s1:S} (hf:∀ j,s1.fr j=F (s.fr j)) (x:Operand):s1.ev x=F (s.ev x):=by
 cases x with
 | tmp t=>exact hf t
 | const v=>exact (h.val v).symm
 | func f=>exact (h.fn f).symm
 | global g=>exact h.any.symm
def apP (s:S) (d:Option Nat) (y:X) (dj:Option Nat) (s2:S) (F:X→X) (s1:S):Prop :=
 GoodF F∧s1.clk=s.clk∧(∀ x:Operand,(∀ q,dj=some q→x≠.tmp q)→s1.ev x=F (s.ev x))∧s2=s1.put d (F y)
theorem ayC {s:S} {d d':Option Nat} {n r off:Nat} {xs:List X} {y:X} {s2:S} (hd:∀ j,d=some j→d'≠some j) (h:ab2 (s.put d y) d' n r off xs=some s2) :
  ∃ F s1,ab2 s d' n r off xs=some s1∧apP s d y d' s2 F s1:=by
 have ho:(s.put d y).objs=s.objs:=by cases d <;> rfl
 unfold ab2 at h ⊢
 rw[ho] at h
 cases hr:s.objs[r]? with
 | none=>rw[hr] at h;cases h
 | some ob =>
  rw[hr] at h
  cases ob with
  | map es=>cases h
  | var ty ys =>
   simp only at h ⊢
   split at h
   rotate_left
   .cases h
   rename_i hc
   rw[if_pos hc]
   simp only[Option.some.injEq] at h
   subst h
   unfold ake
   have e1:∀ z:X,({s.put d y with objs:=s.objs.set r (Ob.var ty (ys.take off++xs++ys.drop (off+xs.length)))}:S)=({s with objs:=s.objs.set r (Ob.var ty (ys.take off++xs++ys.drop (off+xs.length)))}:S).put d y:=fun _=>by cases d <;> rfl
   rw[e1 y]
   by_cases hn:(iA xs&&iA ((ys.drop off).take xs.length))=true
   .rw[if_pos hn]
    refine⟨id,_,rfl,am0,by cases d' <;> rfl,fun x hx=>?_,?_⟩
    .rw[abs _ _ _ _ hx]
     cases x <;> rfl
    .rw[if_pos hn]
     exact acB _ _ _ hd
   .rw[if_neg hn]
    refine⟨X.tr some (kH r off xs.length (cO r off xs)),_,rfl,aw9 _,by cases d' <;> rfl,fun x hx=>?_,?_⟩
    .rw[abs _ _ _ _ hx]
     exact (aw9 _).ev (fun j=>rfl) x
    .rw[if_neg hn,aLo]
     exact acB _ _ _ hd
theorem aBx {P:Program} {T:TT} {E:En} {s s2:S} {d:Option Nat} {y:X} {ix:Nat} {o:Oper} (hst:bZ o.op=true) (hop:∀ q,d=some q→∀ x∈o.op.operands.toList,x≠.tmp q) (hd1:∀ q,d=some q→o.dst≠some q) (hd2:∀ q,d=some q→cG o≠some q)
  (h:iq P T E false (s.put d y) ix o=some (none,s2)):∃ F s1 dj,iq P T E false s ix o=some (none,s1)∧(dj=o.dst∨dj=cG o)∧apP s d y dj s2 F s1:=by
 obtain⟨di,op,tyi,pi,afi,gi⟩:=o
 unfold bZ at hst
 split at hst
 rotate_left
 .cases hst
 rename_i t a v heq
 simp only at heq
 subst heq
 have ea:(s.put d y).ev a=s.ev a:=abs _ _ _ _ (fun q hq=>hop q hq a (by simp[Op.operands]))
 have ev':(s.put d y).ev v=s.ev v:=abs _ _ _ _ (fun q hq=>hop q hq v (by simp[Op.operands]))
 have hc:(s.put d y).clk=s.clk:=by cases d <;> rfl
 have key:dK P T E (s.put d y) ix ⟨di,.store t a v,tyi,pi,afi,gi⟩=some (none,s2)→∃ F s1 dj,dK P T E s ix ⟨di,.store t a v,tyi,pi,afi,gi⟩=some (none,s1)∧(dj=di∨dj=cG ⟨di,.store t a v,tyi,pi,afi,gi⟩)∧apP s d y dj s2 F s1:=by
  intro h
  unfold dK at h ⊢
  have hv:val P T E (s.put d y) ix ⟨di,.store t a v,tyi,pi,afi,gi⟩=val P T E s ix ⟨di,.store t a v,tyi,pi,afi,gi⟩ :=
   anF P T E ix _ hc (by cases d <;> rfl) fun x hx=>abs _ _ _ _ (fun q hq=>hop q hq x hx)
  rw[hv,hc] at h
  split at h
  rotate_left
  .cases h
  rename_i z tk hz
  split at h
  rotate_left
  .cases h
  rename_i hok
  simp only[Option.some.injEq,Prod.mk.injEq,true_and] at h
  subst h
  simp only[hok,if_true]
  cases tk with
  | none =>
   refine⟨id,_,_,rfl,.inr rfl,am0,by cases cG (⟨di,.store t a v,tyi,pi,afi,gi⟩ : Oper) <;> rfl,fun x hx=>?_,?_⟩
   .rw[abs _ _ _ _ hx];rfl
   .exact acB _ _ _ hd2
  | some tk =>
   refine⟨X.drop tk,_,_,rfl,.inr rfl,an9 tk,by cases cG (⟨di,.store t a v,tyi,pi,afi,gi⟩ : Oper) <;> rfl,fun x hx=>?_,?_⟩
   .rw[abs _ _ _ _ hx]
    exact cf tk s x
   .rw[ad9]
    exact acB _ _ _ hd2
 unfold iq at h ⊢
 simp only[Bool.false_eq_true,if_false,ea,ev',hc] at h ⊢
 have old:(match T t,s.ev a,bQ (s.ev v) with
   | some d',.ptr r off,some xs=>(ab2 (s.put d y) di d'.size r off xs).map fun s=>(none,s)
   | _,_,_=>none)=some ((none:Option X),s2)→∃ F s1 dj,(match T t,s.ev a,bQ (s.ev v) with
   | some d',.ptr r off,some xs=>(ab2 s di d'.size r off xs).map fun s=>(none,s)
   | _,_,_=>none)=some ((none:Option X),s1)∧(dj=di∨dj=cG ⟨di,.store t a v,tyi,pi,afi,gi⟩)∧apP s d y dj s2 F s1:=by
  intro h0
  split at h0
  rotate_left
  .cases h0
  rename_i d' r off xs e1 e2 e3
  simp only[Option.map_eq_some_iff,Prod.mk.injEq,true_and] at h0
  obtain⟨s2',h0,e0⟩:=h0
  subst e0
  obtain⟨F,s1,g1,g2⟩:=ayC hd1 h0
  exact⟨F,s1,di,by simp only[g1,Option.map_some],.inl rfl,g2⟩
 split at h
 .rename_i tk ty z hnw
  split at h
  rotate_left
  .rename_i hmt
   rw[if_neg hmt]
   exact key h
  rename_i hmt
  rw[if_pos hmt]
  split at h
  rotate_left
  .cases h
  rename_i d' xs j e1 e2 e3
  split at h
  rotate_left
  .cases h
  rename_i hcc
  simp only[Option.some.injEq,Prod.mk.injEq,true_and] at h
  subst h
  rw[if_pos hcc]
  refine⟨X.drop tk,_,some j,rfl,.inr (by rw[← e3]),an9 tk,rfl,fun x hx=>?_,?_⟩
  .unfold ai0
   rw[abs _ _ _ _ hx]
   exact cf tk s x
  .unfold ai0
   rw[ad9]
   have e4:∀ (A:List Ob) (z:X),({(s.drop (some tk)).put d z with objs:=A}:S)=({s.drop (some tk) with objs:=A}:S).put d z:=fun A z=>by cases d <;> rfl
   have e5:((s.drop (some tk)).put d (y.drop tk)).objs=(s.drop (some tk)).objs:=by cases d <;> rfl
   rw[e5,e4]
   exact acB _ _ _ (fun q hq e=>hd2 q hq (by rw[e3,← e]))
 .exact old h
theorem az7 {P:Program} {T:TT} {E:En} {ops:Array Oper} {s s1 s2:S} {i j:Nat} {oi oj:Oper} (hap:oi.apart ops oj=true) (hap2:∀ d,oi.dst=some d→cG oj≠some d) (hap3:∀ d,cG oj=some d→d∉oi.looksAt ops) (hl:alt oi=true) (hst:bZ oj.op=true) (hg:oj.guard=none)
  (h1:bv P T E true ops s i oi=some (none,s1)) (h2:bv P T E false ops s1 j oj=some (none,s2)):∃ s',bv P T E false ops s j oj=some (none,s')∧bv P T E true ops s' i oi=some (none,s2):=by
 obtain⟨a1,a2,a3⟩:=Oper.apart_spec hap
 obtain⟨di,opi,tyi,pi,afi,gi⟩:=oi
 unfold alt at hl
 simp only at hl
 split at hl
 rotate_left
 .cases hl
 rename_i x k
 have hv:∀ s:S,bv P T E true ops s i ⟨di,.extract x k,tyi,pi,afi,none⟩=match exX k (s.ev x) with
   | some (y,t)=>if gJ s.clk afi.toList t=true then some (none,(s.drop t).put di y) else none
   | none=>none:=fun s=>by
  show dK P T E s i _=_
  unfold dK val
  simp only[exX]
  cases s.ev x with
  | of c=>cases c <;> rfl
  | _=>rfl
 rw[hv] at h1
 split at h1
 rotate_left
 .cases h1
 rename_i y tk he
 obtain⟨rfl,_⟩:=am0.ex _ _ _ _ he
 rw[if_pos (show gJ s.clk afi.toList none=true from rfl)] at h1
 simp only[S.drop,Option.some.injEq,Prod.mk.injEq,true_and] at h1
 subst h1
 have hgo:∀ s:S,bv P T E false ops s j oj=iq P T E false s j oj:=fun s=>by
  unfold bv cD
  rw[hg]
 rw[hgo] at h2 ⊢
 obtain⟨F,s',dj,g1,g2,g3,g4,g5,g6⟩:=aBx hst (fun q hq z hz e=>a1 q hq (by
  unfold Oper.looksAt
  rw[List.mem_append]
  exact .inl (List.mem_filterMap.2 ⟨z,hz,by rw[e]⟩))) a2 hap2 h2
 refine⟨s',g1,?_⟩
 have hx:∀ q,dj=some q→x≠.tmp q:=fun q hq e=>by
  have hm:q∈(⟨di,.extract x k,tyi,pi,afi,none⟩ : Oper).looksAt ops:=by
   unfold Oper.looksAt
   rw[List.mem_append]
   exact .inl (List.mem_filterMap.2 ⟨x,by simp[Op.operands],by rw[e]⟩)
  rcases g2 with rfl|rfl
  .exact a3 q hq hm
  .exact hap3 q hq hm
 rw[hv,g5 x hx]
 obtain⟨_,q2⟩:=g3.ex _ _ _ _ he
 simp only[q2]
 rw[if_pos (show gJ s'.clk afi.toList none=true from rfl),g6]
 rfl
theorem aum {ops:Array Oper} (hS:ad3 ops=true) {i:Nat} {o:Oper} (hi:ops[i]?=some o) (hin:i+1<ops.size) (hst:bZ o.op=true):acS ops i=true:=by
 have:=List.all_eq_true.1 hS i (List.mem_range.2 (by omega))
 simp only[hi,hst,Bool.not_true,Bool.false_or,Bool.or_eq_true,Bool.and_eq_true,beq_iff_eq] at this
 rcases this with h|h
 .omega
 .exact h
theorem ajU {ops:Array Oper} (hS:ad3 ops=true) (hst:gd ops.toList=false) (i:Nat) (o:Oper) (hi:ops[i]?=some o) (h:bZ o.op=true):acS ops i=true:=by
 have his:i<ops.size:=(Array.getElem?_eq_some_iff.1 hi).1
 have:=List.all_eq_true.1 hS i (List.mem_range.2 his)
 simp only[hi,h,hst] at this
 simpa using this
theorem anK:∀ (l:List Oper) (o:Oper),gd l=true→l[l.length-1]?=some o→bZ o.op=true∧o.guard=none
 | [],o,h,_=>by cases h
 | [a],o,h,e=>by
  simp only[List.length_cons,List.length_nil,Nat.zero_add,Nat.sub_self,List.getElem?_cons_zero,Option.some.injEq] at e
  subst e
  simpa [gd] using h
 | a::b::l,o,h,e=>anK (b::l) o h (by simpa using e)
section
variable {P:Program} {T:TT} {E:En} {ops:Array Oper} {Q:S→Prop}
theorem aAu (hf:ah2 ops=true) (hS:ad3 ops=true) (hst:gd ops.toList=true) {i:Nat} {oi:Oper} (hi:ops[i]?=some oi) (hin:i+1<ops.size):∀ (fuel:Nat) (listed:Array Bool) (s s1:S),Dc ops listed →
  (∀ (j:Nat) (oj:Oper),ops[j]?=some oj→j≠i→listed.getD j true=false→(∀ e∈oj.after,Region.binds .any e=true→e.on≠i)→oi.apart ops oj=true) →
  i∈Region.ready .any ops listed→bv P T E true ops s i oi=some (none,s1)→aHq P T E ops Q fuel (listed.setIfInBounds i true) s1→aHq P T E ops Q (fuel+1) listed s:=by
 have hD:Dm 1 ops i=true:=decide_eq_true hin
 intro fuel
 induction fuel with
 | zero =>
  intro listed s s1 _ _ hr hs H
  refine⟨fun h=>(by rw[h] at hr;cases hr),fun j hj=>?_⟩
  by_cases hji:j=i
  .subst hji;exact⟨oi,s1,hi,by rw[hD];exact hs,H⟩
  .have:=ready_mono hj hji
   rw[H.1] at this
   cases this
 | succ fuel ih =>
  intro listed s s1 hdc hfree hr hs H
  refine⟨fun h=>(by rw[h] at hr;cases hr),fun j hj=>?_⟩
  by_cases hji:j=i
  .subst hji;exact⟨oi,s1,hi,by rw[hD];exact hs,H⟩
  .obtain⟨oj,s2,hoj,hs2,H2⟩:=H.2 j (ready_mono hj hji)
   have hjun:=(mem_ready.1 hj).1
   have hiun:=(mem_ready.1 hr).1
   have hjs:j<ops.size:=(Array.getElem?_eq_some_iff.1 hoj).1
   have hji':=im hj hoj hiun
   have hij':=im hr hi hjun
   obtain⟨s',g1,g2⟩ : ∃ s',bv P T E (Dm 1 ops j) ops s j oj=some (none,s')∧bv P T E true ops s' i oi=some (none,s2):=by
    rcases Nat.lt_or_ge (j+1) ops.size with g|g
    .have hDj:Dm 1 ops j=true:=decide_eq_true g
     rw[hDj] at hs2 ⊢
     exact aHc (agP hi hoj (Ne.symm hji) hij' hji' (hfree j oj hoj hji hjun hji') (aum hS hi hin) (aum hS hoj g)) hij' hji' hs hs2
    .have hDj:Dm 1 ops j=false:=decide_eq_false (by omega)
     rw[hDj] at hs2 ⊢
     obtain rfl:j=ops.size-1:=by omega
     cases hlo:afw ops i with
     | false=>exact absurd hj (aTb hf hdc _ i (Nat.le_refl _) hin hlo hiun)
     | true =>
      unfold afw at hlo
      rw[hi,hoj] at hlo
      simp only[Bool.and_eq_true] at hlo
      obtain⟨hlo,hlo2⟩:=hlo
      obtain⟨q1,q2⟩:=anK ops.toList oj hst (by simpa using hoj)
      have h3:∀ d,cG oj=some d→d∉oi.looksAt ops∧oi.dst≠some d:=fun d hd=>by
       rw[hd] at hlo2
       simp only[Bool.and_eq_true,Bool.not_eq_true',bne_iff_ne,ne_eq] at hlo2
       refine⟨fun hm=>?_,hlo2.2⟩
       have:(oi.looksAt ops).contains d=true:=by simpa using hm
       rw[this] at hlo2
       cases hlo2.1
      exact az7 (hfree _ oj hoj hji hjun hji') (fun d hd e=>(h3 d e).2 hd) (fun d hd=>(h3 d hd).1) hlo q1 q2 hs hs2
   refine⟨oj,s',hoj,g1,ih (listed.setIfInBounds j true) s' s2 (hdc.set hj) (fun k ok hk hki hun hno=>?_) (ready_mono hr (Ne.symm hji)) g2 (by rw[Array.setIfInBounds_comm _ _ hji];exact H2)⟩
   refine hfree k ok hk hki ?_ hno
   by_cases hjk:j=k
   .subst hjk;exact hjun
   .rw[getD_set_ne true hjk] at hun;exact hun
theorem asn (hf:ah2 ops=true) (hS:ad3 ops=true) (hst:gd ops.toList=true):∀ (l:List Oper) (n:Nat) (listed:Array Bool) (s s':S) (q:Option X),n+l.length=ops.size→(∀ j,l[j]?=ops[n+j]?)→Dc ops listed→Region.lexFrom .any ops l.length n listed=true →
  gm P T E ops n l s=some (q,s')→Q s'→q=none∧aHq P T E ops Q l.length listed s
 | [],n,listed,s,s',q,_,_,_,_,h,_=>by simp[gm] at h
 | [o],n,listed,s,s',q,hn,hl,hdc,hB,h,hQ=>by
  have h0:ops[n]?=some o:=by simpa using (hl 0).symm
  simp only[List.length_cons,List.length_nil,Region.lexFrom,Bool.and_eq_true] at hB
  obtain⟨⟨hr,hfr⟩,hB'⟩:=hB
  have hr':n∈Region.ready .any ops listed:=by simpa using hr
  have he:Region.ready .any ops (listed.setIfInBounds n true)=[]:=by simpa using hB'
  have hD:Dm 1 ops n=false:=decide_eq_false (by simp at hn;omega)
  simp only[gm] at h
  split at h
  .rename_i s2 h1
   simp only[Option.some.injEq,Prod.mk.injEq] at h
   obtain⟨rfl,rfl⟩:=h
   refine⟨rfl,fun h=>(by rw[h] at hr';cases hr'),fun j hj=>?_⟩
   by_cases hji:j=n
   .subst hji;exact⟨o,s2,h0,by rw[hD];exact h1,he,hQ⟩
   .have:=ready_mono hj hji
    rw[he] at this
    cases this
  .cases h
 | o::o'::l,n,listed,s,s',q,hn,hl,hdc,hB,h,hQ=>by
  have h0:ops[n]?=some o:=by simpa using (hl 0).symm
  simp only[List.length_cons] at hB hn
  unfold Region.lexFrom at hB
  simp only[Bool.and_eq_true] at hB
  obtain⟨⟨hr,hfr⟩,hB'⟩:=hB
  have hr':n∈Region.ready .any ops listed:=by simpa using hr
  simp only[gm] at h
  split at h
  .rename_i s1 h1
   obtain⟨e1,e2⟩:=asn hf hS hst (o'::l) (n+1) _ s1 s' q (by simp only[List.length_cons];omega) (fun j=>by have:=hl (j+1);simpa [Nat.add_assoc,Nat.add_comm 1 j] using this) (hdc.set hr') hB' h hQ
   exact⟨e1,aAu hf hS hst h0 (by omega) _ listed s s1 hdc (Region.free_spec h0 hfr) hr' h1 e2⟩
  .cases h
end
def ldX (T:TT) (t:Nat):X→Out
 | .of (.ref cs)=>bB ((aY T t cs).map .of)
 | _=>none
theorem aEH {P:Program} {T:TT} {E:En} {ops:Array Oper} {s s1 s2:S} {i j:Nat} {oi oj:Oper} (hap:oi.apart ops oj=true) (hap2:∀ d,oi.dst=some d→cG oj≠some d) (hap3:∀ d,cG oj=some d→d∉oi.looksAt ops) (hl:opK oi.op=4) (hgi:oi.guard=none) (hfz:ja s oi=true) (hst:bZ oj.op=true) (hg:oj.guard=none)
  (h1:bv P T E true ops s i oi=some (none,s1)) (h2:bv P T E false ops s1 j oj=some (none,s2)):∃ s',bv P T E false ops s j oj=some (none,s')∧bv P T E true ops s' i oi=some (none,s2)∧ja s' oi=true:=by
 obtain⟨a1,a2,a3⟩:=Oper.apart_spec hap
 obtain⟨di,opi,tyi,pi,afi,gi⟩:=oi
 simp only at hgi
 subst hgi
 unfold opK at hl
 simp only at hl
 split at hl <;> first|cases hl|skip
 rename_i t x
 have hfz:∃ cs,s.ev x=.of (.ref cs):=by
  simp only[ja,opK,am1] at hfz
  cases e:s.ev x with
  | of c=>cases c with
   | ref cs=>exact⟨cs,rfl⟩
   | _=>rw[e] at hfz;cases hfz
  | _=>rw[e] at hfz;cases hfz
 obtain⟨cs,hcs⟩:=hfz
 have hv:∀ s:S,s.ev x=.of (.ref cs)→bv P T E true ops s i ⟨di,.load t x,tyi,pi,afi,none⟩=match ldX T t (.of (.ref cs)) with
   | some (y,t)=>if gJ s.clk afi.toList t=true then some (none,(s.drop t).put di y) else none
   | none=>none:=fun s e=>by
  show dK P T E s i _=_
  unfold dK val
  simp only[j6,e,ldX]
  rfl
 rw[hv s hcs] at h1
 split at h1
 rotate_left
 .cases h1
 rename_i y tk he
 obtain⟨c,rfl,rfl⟩ : ∃ c,y=.of c∧tk=none:=by
  simp only[ldX,bB,Option.map_eq_some_iff,Prod.mk.injEq] at he
  obtain⟨a,⟨c,_,rfl⟩,rfl,rfl⟩:=he
  exact⟨c,rfl,rfl⟩
 rw[if_pos (show gJ s.clk afi.toList none=true from rfl)] at h1
 simp only[S.drop,Option.some.injEq,Prod.mk.injEq,true_and] at h1
 subst h1
 have hgo:∀ s:S,bv P T E false ops s j oj=iq P T E false s j oj:=fun s=>by
  unfold bv cD
  rw[hg]
 rw[hgo] at h2 ⊢
 obtain⟨F,s',dj,g1,g2,g3,g4,g5,g6⟩:=aBx hst (fun q hq z hz e=>a1 q hq (by
  unfold Oper.looksAt
  rw[List.mem_append]
  exact .inl (List.mem_filterMap.2 ⟨z,hz,by rw[e]⟩))) a2 hap2 h2
 have hx:∀ q,dj=some q→x≠.tmp q:=fun q hq e=>by
  have hm:q∈(⟨di,.load t x,tyi,pi,afi,none⟩ : Oper).looksAt ops:=by
   unfold Oper.looksAt
   rw[List.mem_append]
   exact .inl (List.mem_filterMap.2 ⟨x,by simp[Op.operands],by rw[e]⟩)
  rcases g2 with rfl|rfl
  .exact a3 q hq hm
  .exact hap3 q hq hm
 have hcs':s'.ev x=.of (.ref cs):=by rw[g5 x hx,hcs,g3.of]
 refine⟨s',g1,?_,?_⟩
 .rw[hv s' hcs',he]
  simp only
  rw[if_pos (show gJ s'.clk afi.toList none=true from rfl),g6,g3.of]
  rfl
 .simp only[ja,opK,am1,hcs']
  rfl
theorem atD {P:Program} {T:TT} {E:En} {ops:Array Oper} {s s':S} {j:Nat} {oi oj:Oper} (hap:∀ d,cG oj=some d→d∉oi.looksAt ops) (hfz:ja s oi=true) (h:bv P T E true ops s j oj=some (none,s')):ja s' oi=true:=by
 obtain⟨_,x,e,_,rfl⟩:=ade h
 obtain⟨di,opi,tyi,pi,afi,gi⟩:=oi
 unfold ja at *
 simp only at *
 cases h4:(opK opi == 4) with
 | false=>rfl
 | true =>
  rw[h4] at hfz
  have hl:opK opi=4:=by simpa using h4
  unfold opK at hl
  split at hl <;> first|cases hl|skip
  rename_i t a
  simp only[Bool.not_true,Bool.false_or,am1] at hfz ⊢
  have e1:((s.drop e).put (cG oj) x).ev a=(s.drop e).ev a:=abs _ _ _ _ fun q hq hx=>hap q hq (by
   unfold Oper.looksAt
   rw[List.mem_append]
   exact .inl (List.mem_filterMap.2 ⟨a,by simp[Op.operands],by rw[hx]⟩))
  rw[e1]
  cases ha:s.ev a with
  | of c =>
   rw[ha] at hfz
   have e2:(s.drop e).ev a=.of c:=by
    cases e with
    | none=>exact ha
    | some t=>rw[cf,ha];rfl
   rw[e2]
   exact hfz
  | _=>rw[ha] at hfz;cases hfz
theorem af9 {ops:Array Oper} {k j:Nat} (h:afj ops k j=true) {listed:Array Bool} (hun:listed.getD j true=false):k∉Region.ready .any ops listed:=fun hr=>by
 unfold afj at h
 split at h
 rotate_left
 .cases h
 rename_i o ho
 simp only[Array.any_eq_true',Bool.and_eq_true,beq_iff_eq] at h
 obtain⟨e,he,hb,rfl⟩:=h
 exact im hr ho hun e he hb rfl
theorem aLm (l:List Oper) (h:tlB l=true):2≤l.length∧∀ o,l[l.length-2]?=some o→bZ o.op=true∧o.guard=none:=by
 have key:∀ (l:List Oper) (d:Nat),aeG l=some d→2≤l.length∧∀ o,l[l.length-2]?=some o→bZ o.op=true∧o.guard=none:=by
  intro l
  induction l with
  | nil=>intro d h;cases h
  | cons a l ih =>
   intro d h
   cases l with
   | nil=>cases h
   | cons b l =>
    cases l with
    | nil =>
     simp only[aeG] at h
     split at h
     .rename_i hc
      simp only[Bool.and_eq_true] at hc
      refine⟨by simp,fun o ho=>?_⟩
      simp only[List.length_cons,List.length_nil,Nat.zero_add,Nat.reduceAdd,Nat.sub_self,List.getElem?_cons_zero,Option.some.injEq] at ho
      subst ho
      exact⟨hc.1.1,by simpa using hc.1.2⟩
     .cases h
    | cons c l =>
     obtain⟨h1,h2⟩:=ih d h
     refine⟨by simp,fun o ho=>h2 o ?_⟩
     have e:(a::b::c::l).length-2=((b::c::l).length-2)+1:=by
      simp only[List.length_cons]
      omega
     rw[e,List.getElem?_cons_succ] at ho
     exact ho
 unfold tlB tlM at h
 split at h
 .rename_i d hd
  exact key l d hd
 .cases h
section
variable {P:Program} {T:TT} {E:En} {ops:Array Oper} {Q:S→Prop}
theorem ajS (ht:ad2 ops=true) {i:Nat} (hin:i+2<ops.size):(∀ o,ops[i]?=some o→bZ o.op=false)∧(afj ops (ops.size-2) i=true∨aro ops i (ops.size-2)=true):=by
 unfold ad2 at ht
 rw[Bool.and_eq_true] at ht
 have h1:=List.all_eq_true.1 ht.1 i (List.mem_range.2 (by omega))
 rw[Bool.and_eq_true,Bool.or_eq_true] at h1
 refine⟨fun o ho=>?_,h1.2⟩
 have:=h1.1
 rw[ho] at this
 simpa using this
theorem anH (ht:ad2 ops=true) {j:Nat} (hin:j+1<ops.size):afj ops (ops.size-1) j=true:=by
 unfold ad2 at ht
 rw[Bool.and_eq_true] at ht
 exact List.all_eq_true.1 ht.2 j (List.mem_range.2 (by omega))
theorem aAt (ht:ad2 ops=true) (hst:2≤ops.toList.length∧∀ o,ops.toList[ops.toList.length-2]?=some o→bZ o.op=true∧o.guard=none) {i:Nat} {oi:Oper} (hi:ops[i]?=some oi) (hin:i+2<ops.size):∀ (fuel:Nat) (listed:Array Bool) (s s1:S),Dc ops listed →
  (∀ (j:Nat) (oj:Oper),ops[j]?=some oj→j≠i→listed.getD j true=false→(∀ e∈oj.after,Region.binds .any e=true→e.on≠i)→oi.apart ops oj=true) →
  i∈Region.ready .any ops listed→ja s oi=true→bv P T E true ops s i oi=some (none,s1)→ank 2 P T E ops Q fuel (listed.setIfInBounds i true) s1→ank 2 P T E ops Q (fuel+1) listed s:=by
 have hD:Dm 2 ops i=true:=decide_eq_true hin
 intro fuel
 induction fuel with
 | zero =>
  intro listed s s1 _ _ hr hfz hs H
  refine⟨fun h=>(by rw[h] at hr;cases hr),fun j hj=>?_⟩
  by_cases hji:j=i
  .subst hji;exact⟨oi,s1,hi,by rw[hD];exact hs,H⟩
  .have:=ready_mono hj hji
   rw[H.1] at this
   cases this
 | succ fuel ih =>
  intro listed s s1 hdc hfree hr hfz hs H
  refine⟨fun h=>(by rw[h] at hr;cases hr),fun j hj=>?_⟩
  by_cases hji:j=i
  .subst hji;exact⟨oi,s1,hi,by rw[hD];exact hs,H⟩
  .obtain⟨oj,s2,hoj,hs2,H2⟩:=H.2 j (ready_mono hj hji)
   have hjun:=(mem_ready.1 hj).1
   have hiun:=(mem_ready.1 hr).1
   have hjs:j<ops.size:=(Array.getElem?_eq_some_iff.1 hoj).1
   have hji':=im hj hoj hiun
   have hij':=im hr hi hjun
   have hiS:=(ajS ht hin).1 oi hi
   obtain⟨s',g1,g2,g3⟩ : ∃ s',bv P T E (Dm 2 ops j) ops s j oj=some (none,s')∧bv P T E true ops s' i oi=some (none,s2)∧ja s' oi=true:=by
    rcases Nat.lt_or_ge (j+2) ops.size with g|g
    .have hDj:Dm 2 ops j=true:=decide_eq_true g
     rw[hDj] at hs2 ⊢
     have hjS:=(ajS ht g).1 oj hoj
     have hap:=agP hi hoj (Ne.symm hji) hij' hji' (hfree j oj hoj hji hjun hji') (fun h=>by rw[hiS] at h;cases h) (fun h=>by rw[hjS] at h;cases h)
     obtain⟨s',g1,g2⟩:=aHc hap hij' hji' hs hs2
     exact⟨s',g1,g2,atD hap.2.2 hfz g1⟩
    .rcases Nat.lt_or_ge (j+1) ops.size with g'|g'
     .have hDj:Dm 2 ops j=false:=decide_eq_false (by omega)
      rw[hDj] at hs2 ⊢
      obtain rfl:j=ops.size-2:=by omega
      rcases (ajS ht hin).2 with hw|hlo
      .exact absurd hj (af9 hw hiun)
      .unfold aro at hlo
       rw[hi,hoj] at hlo
       simp only[Bool.and_eq_true,beq_iff_eq] at hlo
       obtain⟨⟨hlo,hgi⟩,hlo2⟩:=hlo
       obtain⟨q1,q2⟩:=hst.2 oj (by simpa using hoj)
       have h3:∀ d,cG oj=some d→d∉oi.looksAt ops∧oi.dst≠some d:=fun d hd=>by
        rw[hd] at hlo2
        simp only[Bool.and_eq_true,Bool.not_eq_true',bne_iff_ne,ne_eq] at hlo2
        refine⟨fun hm=>?_,hlo2.2⟩
        have:(oi.looksAt ops).contains d=true:=by simpa using hm
        rw[this] at hlo2
        cases hlo2.1
       exact aEH (hfree _ oj hoj hji hjun hji') (fun d hd e=>(h3 d e).2 hd) (fun d hd=>(h3 d hd).1) hlo (by simpa using hgi) hfz q1 q2 hs hs2
     .obtain rfl:j=ops.size-1:=by omega
      exact absurd hj (af9 (anH ht (by omega)) hiun)
   refine⟨oj,s',hoj,g1,ih (listed.setIfInBounds j true) s' s2 (hdc.set hj) (fun k ok hk hki hun hno=>?_) (ready_mono hr (Ne.symm hji)) g3 g2 (by rw[Array.setIfInBounds_comm _ _ hji];exact H2)⟩
   refine hfree k ok hk hki ?_ hno
   by_cases hjk:j=k
   .subst hjk;exact hjun
   .rw[getD_set_ne true hjk] at hun;exact hun
theorem asm (ht:ad2 ops=true) (hst:2≤ops.toList.length∧∀ o,ops.toList[ops.toList.length-2]?=some o→bZ o.op=true∧o.guard=none):∀ (l:List Oper) (n:Nat) (listed:Array Bool) (s s':S) (q:Option X),n+l.length=ops.size→(∀ j,l[j]?=ops[n+j]?)→Dc ops listed→Region.lexFrom .any ops l.length n listed=true →
  jW P T E ops n l s=some (q,s')→Q s'→q=none∧ank 2 P T E ops Q l.length listed s
 | [],n,listed,s,s',q,_,_,_,_,h,_=>by simp[jW] at h
 | [o],n,listed,s,s',q,hn,hl,hdc,hB,h,hQ=>by simp[jW] at h
 | [o,o'],n,listed,s,s',q,hn,hl,hdc,hB,h,hQ=>by
  have h0:ops[n]?=some o:=by simpa using (hl 0).symm
  have h0':ops[n+1]?=some o':=by simpa using (hl 1).symm
  simp only[List.length_cons,List.length_nil] at hn
  simp only[List.length_cons,List.length_nil,Region.lexFrom,Bool.and_eq_true] at hB
  obtain⟨⟨hr,hfr⟩,⟨hr2,hfr2⟩,hB'⟩:=hB
  have hr':n∈Region.ready .any ops listed:=by simpa using hr
  have hr2':n+1∈Region.ready .any ops (listed.setIfInBounds n true):=by simpa using hr2
  have he:Region.ready .any ops ((listed.setIfInBounds n true).setIfInBounds (n+1) true)=[]:=by simpa using hB'
  have hD:Dm 2 ops n=false:=decide_eq_false (by omega)
  have hD':Dm 2 ops (n+1)=false:=decide_eq_false (by omega)
  have hun:=(mem_ready.1 hr').1
  simp only[jW] at h
  split at h
  rotate_left
  .cases h
  rename_i s1 h1
  split at h
  rotate_left
  .cases h
  rename_i s2 h2
  simp only[Option.some.injEq,Prod.mk.injEq] at h
  obtain⟨rfl,rfl⟩:=h
  have hn1:n+1=ops.size-1:=by omega
  refine⟨rfl,fun h=>(by rw[h] at hr';cases hr'),fun j hj=>?_⟩
  have hjn:j=n:=by
   by_cases hji:j=n
   .exact hji
   .exfalso
    have g1:=ready_mono hj hji
    by_cases hj1:j=n+1
    .subst hj1
     rw[hn1] at hj
     exact af9 (anH ht (by omega)) hun hj
    .have:=ready_mono g1 hj1
     rw[he] at this
     cases this
  subst hjn
  refine⟨o,s1,h0,by rw[hD];exact h1,fun h=>(by rw[h] at hr2';cases hr2'),fun k hk=>?_⟩
  have hkn:k=j+1:=by
   by_cases hki:k=j+1
   .exact hki
   .have:=ready_mono hk hki
    rw[he] at this
    cases this
  subst hkn
  exact⟨o',s2,h0',by rw[hD'];exact h2,he,hQ⟩
 | o::o'::o''::l,n,listed,s,s',q,hn,hl,hdc,hB,h,hQ=>by
  have h0:ops[n]?=some o:=by simpa using (hl 0).symm
  simp only[List.length_cons] at hB hn
  unfold Region.lexFrom at hB
  simp only[Bool.and_eq_true] at hB
  obtain⟨⟨hr,hfr⟩,hB'⟩:=hB
  have hr':n∈Region.ready .any ops listed:=by simpa using hr
  simp only[jW] at h
  split at h
  rotate_left
  .cases h
  rename_i hfz
  split at h
  .rename_i s1 h1
   obtain⟨e1,e2⟩:=asm ht hst (o'::o''::l) (n+1) _ s1 s' q (by simp only[List.length_cons];omega) (fun j=>by have:=hl (j+1);simpa [Nat.add_assoc,Nat.add_comm 1 j] using this) (hdc.set hr') hB' h hQ
   exact⟨e1,aAt ht hst h0 (by omega) _ listed s s1 hdc (Region.free_spec h0 hfr) hr' hfz h1 e2⟩
  .cases h
end
section
variable {P:Program} {M0:Base} {w0:World} {N:Nat}
theorem agQ {m:Nat} {E:En} (horc:EnSound P M0.G E) {ops:Array Oper} (hdst:∀ (j:Nat) (o:Oper),ops[j]?=some o→abF N o=true) {Q:Exit→Act→World→Prop} {Qs:S→Prop} {k0:Know}
  (hQ:∀ s' tmps' w' k' ow' done',k0.le k'→Qs s'→Sim M0 k' ow' done' w0 w' N s' tmps'→Q .normal ⟨tmps',[]⟩ w'):∀ (fuel:Nat) (listed:Array Bool) (s:S) (w:World) (tmps:Array Value) (k:Know) (ow:Own),
  k0.le k→Sim M0 k ow (fun j=>listed.getD j true=true) w0 w N s tmps→ank m P (TT.of P) E ops Qs fuel listed s→wpAny P .any ops Q fuel listed ⟨tmps,[]⟩ w
 | 0,listed,s,w,tmps,k,ow,hk,hs,h=>⟨h.1,hQ s tmps w k ow _ hk h.2 hs⟩
 | fuel+1,listed,s,w,tmps,k,ow,hk,hs,h=>by
  refine⟨fun h0=>hQ s tmps w k ow _ hk (h.1 h0) hs,fun i hi=>?_⟩
  obtain⟨o,s',ho,hst,H⟩:=h.2 i hi
  have hun:=(mem_ready.1 hi).1
  refine jR hs horc (by rw[hun];simp) ho (hdst i o ho) hst (fun _ tmps' w' k' ow' g1 g2=>?_) (fun x hx=>by cases hx)
  refine agQ horc hdst hQ fuel _ s' w' tmps' k' ow' (Know.le_trans hk g1) (g2.more fun j hj=>?_) H
  rcases hj with hj|rfl
  .by_cases hij:i=j
   .subst hij;rw[hun] at hj;cases hj
   .rw[getD_set_ne true hij];exact hj
  .rcases Nat.lt_or_ge j listed.size with g|g
   .simp[g]
   .simp[g]
end
section
variable {P:Program} {M0:Base} {w0:World} {N:Nat}
theorem ahr (hm:P.follows .mixedOrders=true) {E:En} (horc:EnSound P M0.G E) {id:Nat} {ops:Array Oper} {draw:Bool} (hok:ayS N ops draw=true) {s:S} {q:Option X} {s':S} {w:World} {tmps:Array Value} {k:Know} {ow:Own}
  (hs:Sim M0 k ow (fun _=>False) w0 w N s tmps) (h:evR P (TT.of P) E draw ops s=some (q,s')) {Q:Exit→Act→World→Prop}
  (hQ:q=none→∀ tmps' w' k' ow',k.le k'→Sim M0 k' ow' (fun _=>False) w0 w' N {s' with clk:=s'.clk+1} tmps'→Q .normal ⟨tmps',[]⟩ w')
  (hP:∀ x,q=some x→∀ v tmps' w' k' ow',k.le k'→Sim M0 k' ow' (fun _=>False) w0 w' N {s' with clk:=s'.clk+1} tmps'→aF k' ow' x v→Q (.panic [{v:=v,recovered:=false}]) ⟨tmps',[]⟩ w'):(Code.region id ops draw).wp P Q ⟨tmps,[]⟩ w:=by
 unfold ayS at hok
 simp only[Bool.and_eq_true,Bool.or_eq_true,Bool.not_eq_true'] at hok
 obtain⟨hd,hok⟩:=hok
 have hdst:∀ o∈ops.toList,abF N o=true:=fun o ho=>by
  rw[Array.all_eq_true_iff_forall_mem] at hd
  exact hd o (by simpa using ho)
 cases draw with
 | false =>
  have h:hH P (TT.of P) E false ops 0 ops.toList s=some (q,s'):=by simpa [evR] using h
  refine wp_region ?_
  rw[List.range_eq_range',← Array.length_toList]
  exact ajH horc ops.toList 0 s w tmps k ow _ (by simp) hdst (fun j hj=>hj.elim) hs h (fun he tmps' w' k' ow' done' g1 g2=>hQ he tmps' w' k' ow' g1 g2.tick) (fun x he v tmps' w' k' ow' done' g1 g2 g3=>hP x he v tmps' w' k' ow' g1 g2.tick g3)
 | true =>
  simp only[Bool.true_eq_false,false_or] at hok
  obtain⟨hlex,hok⟩:=hok
  unfold Region.lexB at hlex
  simp only[Bool.and_eq_true] at hlex
  have hb:Below w.heap.size w {w with drawn:=w.drawn+1}:=⟨rfl,rfl,rfl,Nat.le_refl _,fun _ _=>rfl⟩
  have h2:=(hs.grow hb).more (done':=fun j=>(Array.replicate ops.size false).getD j true=true) (fun _ h=>h.elim)
  have hd':∀ (j:Nat) (o:Oper),ops[j]?=some o→abF N o=true:=fun j o ho=>hdst o (by simpa using Array.mem_of_getElem? ho)
  unfold evR at h
  simp only[Bool.true_and] at h
  by_cases htl:tlB ops.toList=true
  .rw[if_pos htl] at h hok
   have hdc:Dc ops (Array.replicate ops.size false):=fun k o hk hl=>by
    have hks:k<ops.size:=(Array.getElem?_eq_some_iff.1 hk).1
    simp[hks] at hl
   obtain⟨rfl,h1⟩:=asm (P:=P) (T:=TT.of P) (E:=E) (Q:=fun t=>t=s') hok (aLm _ htl) ops.toList 0 (Array.replicate ops.size false) s s' q (by simp) (by simp) hdc (by simpa using hlex.2) h rfl
   refine wp_region_any hm ?_
   have h3:=agQ (m:=2) (P:=P) horc hd' (Q:=Q) (Qs:=fun t=>t=s') (k0:=k) (fun t tmps' w' k' ow' done' g1 g2 g3=>by subst g2;exact hQ rfl tmps' w' k' ow' g1 g3.tick) _ _ s _ tmps k ow (Know.le_refl k) h2 h1
   simpa using h3
  rw[if_neg htl] at h
  simp only[htl,Bool.false_eq_true,if_false,Bool.and_eq_true,Bool.or_eq_true,Bool.not_eq_true'] at hok
  obtain⟨hS,hfd⟩:=hok
  split at h
  .rename_i hsp
   unfold agI at h
   split at h
   .rename_i hst
    have hfeed:ah2 ops=true:=by
     rcases hfd with h'|h'
     .rw[hst] at h';cases h'
     .exact h'
    have hdc:Dc ops (Array.replicate ops.size false):=fun k o hk hl=>by
     have hks:k<ops.size:=(Array.getElem?_eq_some_iff.1 hk).1
     simp[hks] at hl
    obtain⟨rfl,h1⟩:=asn (P:=P) (T:=TT.of P) (E:=E) (Q:=fun t=>t=s') hfeed hS hst ops.toList 0 (Array.replicate ops.size false) s s' q (by simp) (by simp) hdc (by simpa using hlex.2) h rfl
    refine wp_region_any hm ?_
    have h3:=agQ (m:=1) (P:=P) horc hd' (Q:=Q) (Qs:=fun t=>t=s') (k0:=k) (fun t tmps' w' k' ow' done' g1 g2 g3=>by subst g2;exact hQ rfl tmps' w' k' ow' g1 g3.tick) _ _ s _ tmps k ow (Know.le_refl k) h2 h1
    simpa using h3
   .rename_i hst
    have hst:gd ops.toList=false:=by simpa using hst
    have hmk:acE E.obj ops.toList=true:=by
     unfold spB at hsp
     rw[hst,Bool.or_false] at hsp
     exact hsp
    split at h
    rotate_left
    .cases h
    rename_i o r hl
    split at h
    rotate_left
    .cases h
    rename_i s1 hm1
    obtain rfl:=agJ _ _ _ _ _ h
    rw[hl] at hmk
    simp only[acE] at hmk
    have hsz:ops.size=r.length+1:=by rw[← Array.length_toList,hl];rfl
    have h0:ops[0]?=some o:=by
     have:ops.toList[0]?=some o:=by rw[hl];rfl
     simpa using this
    have hlex2:=hlex.2
    rw[hsz] at hlex2
    unfold Region.lexFrom at hlex2
    simp only[Bool.and_eq_true] at hlex2
    obtain⟨⟨hr,hfr⟩,hB'⟩:=hlex2
    refine wp_region_any hm ?_
    have h1:=akp (P:=P) (T:=TT.of P) (E:=E) (Q:=fun t=>t=s') (ajU hS hst) r 1 ((Array.replicate (r.length+1) false).setIfInBounds 0 true) s1 s' (fun j=>by
     have:ops.toList[1+j]?=r[j]?:=by rw[hl,Nat.add_comm,List.getElem?_cons_succ]
     rw[← this];simp) (by simpa using hB') h rfl
    rw[hsz] at h2 ⊢
    exact aGo (P:=P) horc (ajU hS hst) hd' (Q:=Q) (Qs:=fun t=>t=s') (k0:=k) (fun t tmps' w' k' ow' done' g1 g2 g3=>by subst g2;exact hQ rfl tmps' w' k' ow' g1 g3.tick) h0 hmk r.length _ s s1 _ tmps k ow (Know.le_refl k) h2 (Region.free_spec h0 hfr) (by simpa using hr) hm1 h1
  .rename_i hsp
   have hst:gd ops.toList=false:=by
    unfold spB at hsp
    cases h':gd ops.toList with
    | false=>rfl
    | true=>rw[h',Bool.or_true] at hsp;exact absurd rfl hsp
   obtain rfl:=agJ _ _ _ _ _ h
   refine wp_region_any hm ?_
   have h1:=akp (P:=P) (T:=TT.of P) (E:=E) (Q:=fun t=>t=s') (ajU hS hst) ops.toList 0 (Array.replicate ops.size false) s s' (by simp) (by simpa using hlex.2) h rfl
   have h3:=adL (P:=P) horc hd' (Q:=Q) (Qs:=fun t=>t=s') (k0:=k) (fun t tmps' w' k' ow' done' g1 g2 g3=>by subst g2;exact hQ rfl tmps' w' k' ow' g1 g3.tick) _ _ s _ tmps k ow (Know.le_refl k) h2 h1
   simpa using h3
end
end Go.Pe

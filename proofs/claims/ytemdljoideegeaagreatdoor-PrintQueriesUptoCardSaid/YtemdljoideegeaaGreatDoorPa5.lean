/-
  An abstract machine for Go code over plain data: two operations that do not wait for each other may change places. Conditions: none.
-/
import Derived.Test.YtemdljoideegeaaGreatDoorPa4
set_option linter.defProp false
set_option linter.unusedSectionVars false
set_option maxRecDepth 100000
set_option maxHeartbeats 64000000
namespace Go.Pe
open Go.RowKit
def afA (s:S) (d:Option Nat) (z:X) (x:Operand) (h:∀ j,d=some j→x≠.tmp j):(s.put d z).ev x=s.ev x:=by
 cases d with
 | none=>rfl
 | some d =>
  cases x with
  | tmp t =>
   have:t≠d:=fun e=>h d rfl (by rw[e])
   simp[S.put,S.ev,upd,this]
  | _=>rfl
theorem aiB {f g:Operand→X}:∀ (ps:List (Nat×Operand)),(∀ p∈ps,f p.2=g p.2)→js f ps=js g ps
 | [],_=>rfl
 | (i,x)::r,h=>by
  simp only[js]
  rw[h (i,x) (by simp),aiB r (fun p hp=>h p (by simp[hp]))]
theorem ajq {f g:Operand→X}:∀ (l:List Operand),(∀ x∈l,f x=g x)→aay f l=aay g l
 | [],_=>rfl
 | x::r,h=>by
  simp only[aay]
  rw[h x (by simp),ajq r (fun p hp=>h p (by simp[hp]))]
def arm (P:Program) (T:TT) (E:En) {s s':S} (ix:Nat) (o:Oper) (hc:s'.clk=s.clk) (hob:s'.objs=s.objs) (h:∀ x∈o.op.operands.toList,s'.ev x=s.ev x) :
  val P T E s' ix o=val P T E s ix o:=by
 unfold val
 split <;> rename_i ho <;> (try rw[ho] at h)
 .rw[h _ (by simp[Op.operands])]
 .rw[h _ (by simp[Op.operands])]
 .rw[h _ (by simp[Op.operands]),h _ (by simp[Op.operands]),h _ (by simp[Op.operands])]
 .rw[h _ (by simp[Op.operands]),h _ (by simp[Op.operands])]
 .rw[h _ (by simp[Op.operands])]
 .rw[h _ (by simp[Op.operands]),hob]
 .rw[h _ (by simp[Op.operands])]
 .rw[h _ (by simp[Op.operands])]
 .rw[h _ (by simp[Op.operands]),h _ (by simp[Op.operands])]
 .rw[h _ (by simp[Op.operands]),h _ (by simp[Op.operands])]
 .rename_i t x lo hi
  rw[h x (by simp[Op.operands])]
  have h1:lo.map s'.ev=lo.map s.ev:=by
   cases lo with
   | none=>rfl
   | some y=>simp[h y (by simp[Op.operands])]
  have h2:hi.map s'.ev=hi.map s.ev:=by
   cases hi with
   | none=>rfl
   | some y=>simp[h y (by simp[Op.operands])]
  rw[h1,h2]
 .rename_i t ps
  rw[aiB (f:=s'.ev) (g:=s.ev) ps.toList (fun p hp=>h p.2 (by simp only[Op.operands];exact List.mem_map.2 ⟨p,hp,rfl⟩))]
 .rename_i t n ps
  rw[aiB (f:=s'.ev) (g:=s.ev) ps.toList (fun p hp=>h p.2 (by simp only[Op.operands];exact List.mem_map.2 ⟨p,hp,rfl⟩)),hc]
 .rw[h _ (by simp[Op.operands])]
 .rw[h _ (by simp[Op.operands])]
 .rename_i f first caps
  rw[ajq (f:=s'.ev) (g:=s.ev) caps.toList (fun x hx=>h x (by simp only[Op.operands,iR,dF];exact .inr hx)),gw (l:=caps.toList) (f:=s'.ev) (g:=s.ev) (fun x hx=>h x (by simp only[Op.operands,iR,dF];exact .inr hx)),gw (l:=first.toList) (f:=s'.ev) (g:=s.ev) (fun x hx=>h x (by simp only[Op.operands,iR,dF];exact .inl (by simp[hx])))]
 .rw[h _ (by simp[Op.operands])]
 .rw[h _ (by simp[Op.operands]),h _ (by simp[Op.operands]),hob]
 .rw[h _ (by simp[Op.operands])]
 .rename_i cal args tys
  have hargs:∀ x∈args.toList,s'.ev x=s.ev x:=fun x hx=>h x (by simp only[Op.operands,Call.operands,iR,dF];exact .inr hx)
  unfold af3
  split
  .rename_i hl _;rw[hargs _ (by rw[hl];simp)]
  .rename_i hl _;rw[hargs _ (by rw[hl];simp),hargs _ (by rw[hl];simp),hc]
  .rename_i hl;rw[hargs _ (by rw[hl];simp),hargs _ (by rw[hl];simp)]
  .rename_i hl;rw[hargs _ (by rw[hl];simp),hargs _ (by rw[hl];simp)]
  .rename_i f
   rw[ajq (f:=s'.ev) (g:=s.ev) args.toList hargs,h f (by simp[Op.operands,Call.operands]),hc]
  .rfl
 .rw[hc]
 .rename_i t d x
  have h1:s'.fr d=s.fr d:=h (.tmp d) (by simp[Op.operands])
  rw[h1,h x (by simp[Op.operands])]
 .rfl
def Y (P:Program) (T:TT) (E:En) (ops:Array Oper) (s:S) (ix:Nat) (o:Oper) (x:X) (e:Option Tk):Prop :=
 (fI ops s o=some true∧val P T E s ix o=some (x,e)∧abf s.clk o.after.toList e=true)∨(fI ops s o=some false∧x=.of .undef∧e=none)
section
variable {P:Program} {T:TT} {E:En} {ops:Array Oper} {s:S} {ix:Nat} {o:Oper}
theorem alQ:abW P T E true s ix o=hJ P T E s ix o:=rfl
theorem apP {ops:Array Oper} {s:S} {o:Oper} (h:fI ops s o=some false):fE o=o.dst:=by
 unfold fE
 split
 .rename_i hg
  unfold fI at h
  rw[hg] at h
  cases h
 .rfl
theorem aeR {q:Option X} {s':S} (h:dh P T E true ops s ix o=some (q,s')):q=none∧∃ x e,Y P T E ops s ix o x e∧s'=(s.drop e).put (fE o) x:=by
 unfold dh at h
 split at h
 .rename_i hg
  rw[alQ] at h
  unfold hJ at h
  split at h
  .rename_i x e hv
   split at h
   .rename_i hok
    simp only[dX] at h
    exact⟨h.1.symm,x,e,.inl ⟨hg,hv,hok⟩,h.2.symm⟩
   .cases h
  .cases h
 .rename_i hg
  simp only[dX] at h
  exact⟨h.1.symm,_,none,.inr ⟨hg,rfl,rfl⟩,by rw[apP hg];exact h.2.symm⟩
 .cases h
theorem ahs {x:X} {e:Option Tk} (h:Y P T E ops s ix o x e):dh P T E true ops s ix o=some (none,(s.drop e).put (fE o) x):=by
 unfold dh
 rcases h with ⟨hg,hv,hok⟩|⟨hg,rfl,rfl⟩
 .rw[hg,alQ]
  unfold hJ
  simp only[hv,hok,aA]
 .rw[hg,apP hg]
  rfl
theorem apI (t:Tk):fI ops (s.drop (some t)) o=fI ops s o:=by
 unfold fI
 split
 .rfl
 .split
  .rename_i d _
   simp only[S.drop]
   cases s.fr d with
   | own t' e z cs n=>rcases iw t t' e z cs n with h|h <;> rw[h]
   | _=>rfl
  .rfl
theorem aIB {d:Option Nat} {z:X} (h:∀ j,d=some j→j∉o.looksAt ops):fI ops (s.put d z) o=fI ops s o:=by
 unfold fI
 split
 .rfl
 .rename_i j want hg
  split
  .rename_i c hc
   have hne:∀ q,d=some q→c≠q:=fun q hq e=>h q hq (by
    unfold Oper.looksAt
    rw[hg]
    simp[hc,e])
   cases d with
   | none=>rfl
   | some q =>
    have:=hne q rfl
    simp[S.put,upd,this]
  .rfl
theorem ap8 {x:X} {e:Option Tk} {d:Option Nat} {z:X} (h:∀ j,d=some j→j∉o.looksAt ops):Y P T E ops (s.put d z) ix o x e↔Y P T E ops s ix o x e:=by
 unfold Y
 have hv:val P T E (s.put d z) ix o=val P T E s ix o:=by
  refine arm P T E ix o (by cases d <;> rfl) (by cases d <;> rfl) fun y hy=>afA s d z y fun j hj e=>h j hj ?_
  unfold Oper.looksAt
  rw[dF]
  refine .inl (List.mem_filterMap.2 ⟨y,hy,?_⟩)
  rw[e]
 rw[aIB h,hv,show (s.put d z).clk=s.clk by cases d <;> rfl]
theorem aZ7 {x:X} {e:Option Tk} {t:Tk} (ht:∀ i,t≠.nm s.clk ix i) (hne:e≠some t) (h:Y P T E ops s ix o x e):Y P T E ops (s.drop (some t)) ix o (x.drop t) e:=by
 unfold Y at *
 rw[apI,atE P T E t s ix ht o]
 rcases h with ⟨hg,hv,hok⟩|⟨hg,rfl,rfl⟩
 .exact .inl ⟨hg,by rw[hv];simp[gW,hne],hok⟩
 .exact .inr ⟨hg,rfl,rfl⟩
theorem aMk {x:X} {e:Option Tk} {t:Tk} (ht:∀ i,t≠.nm s.clk ix i) (h:Y P T E ops (s.drop (some t)) ix o x e):∃ x',Y P T E ops s ix o x' e∧x=x'.drop t∧e≠some t:=by
 unfold Y at *
 rw[apI,atE P T E t s ix ht o] at h
 rcases h with ⟨hg,hv,hok⟩|⟨hg,rfl,rfl⟩
 .cases hval:val P T E s ix o with
  | none=>rw[hval] at hv;simp[gW] at hv
  | some p =>
   obtain⟨x',u⟩:=p
   rw[hval] at hv
   simp only[gW] at hv
   split at hv
   .cases hv
   .rename_i hne
    simp only[dX] at hv
    obtain⟨rfl,rfl⟩:=hv
    exact⟨x',.inl ⟨hg,rfl,hok⟩,rfl,hne⟩
 .exact⟨.of .undef,.inr ⟨hg,rfl,rfl⟩,rfl,by simp⟩
theorem aZ3 {x:X} {c j i:Nat} (h:Y P T E ops s ix o x (some (.nm c j i))):c<s.clk∨(c=s.clk∧∃ e∈o.after,Region.binds .any e=true∧e.on=j):=by
 rcases h with ⟨_,_,hok⟩|⟨_,_,h⟩
 .simp only[abf,cA,ar,ab,List.any_eq_true,fQ] at hok
  rcases hok with h|⟨h1,e,he,h2,h3⟩
  .exact .inl h
  .exact .inr ⟨h1,e,by simpa using he,h2,h3⟩
 .cases h
end
def agV (s:S) (d:Option Nat) (x:X) (t:Tk):(s.put d x).drop (some t)=(s.drop (some t)).put d (x.drop t):=by
 cases d with
 | none=>rfl
 | some d =>
  simp only[S.put,S.drop]
  congr 1
  funext j
  simp only[upd]
  split <;> rfl
def af8 (s:S) {d c:Option Nat} (x y:X) (h:∀ j,d=some j→c≠some j):(s.put d x).put c y=(s.put c y).put d x:=by
 cases d with
 | none=>rfl
 | some d =>
  cases c with
  | none=>rfl
  | some c =>
   have hne:c≠d:=fun e=>h d rfl (by rw[e])
   simp only[S.put]
   congr 1
   funext j
   simp only[upd]
   by_cases h1:j=d
   .subst h1
    rw[aj (d5 hne)]
    simp
   .simp[h1]
def axd (t u:Tk) (o:Ob):(o.drop t).drop u=(o.drop u).drop t:=by
 cases o with
 | var ty xs=>simp only[Ob.drop,aat,ii];congr 1;apply gw;intro x _;exact drop_drop t u x
 | map es=>rfl
def aCw (s:S) (e u:Option Tk):(s.drop e).drop u=(s.drop u).drop e:=by
 cases e with
 | none=>rfl
 | some e =>
  cases u with
  | none=>rfl
  | some u =>
   simp only[S.drop]
   congr 1
   .funext j;exact drop_drop e u _
   .simp only[ii];apply gw;intro o _;exact axd e u o
def aji (ops:Array Oper) (oi oj:Oper):Prop:=(∀ d,fE oi=some d→d∉oj.looksAt ops)∧(∀ d,fE oi=some d→fE oj≠some d)∧(∀ d,fE oj=some d→d∉oi.looksAt ops)
theorem aji.symm {ops:Array Oper} {oi oj:Oper} (h:aji ops oi oj):aji ops oj oi:=⟨h.2.2,fun d hd e=>h.2.1 d e hd,h.1⟩
def alS {ops:Array Oper} {i j:Nat} {oi oj:Oper} (hi:ops[i]?=some oi) (hj:ops[j]?=some oj) (hne:i≠j) (hij:∀ e∈oi.after,Region.binds .any e=true→e.on≠j) (h:afH ops i=true):∀ d,fE oi=some d→d∉oj.looksAt ops∧fE oj≠some d:=by
 intro d hd
 unfold afH at h
 simp only[hi,hd] at h
 rw[ab] at h
 have hjs:j<ops.size:=(Array.getElem?_eq_some_iff.1 hj).1
 have:=bR.1 h.2 j (List.mem_range.2 hjs)
 rw[hj] at this
 simp only[cA,ab,fQ,cm,ae3,ct,aaI] at this
 rcases this with e|⟨h1,h2⟩
 .exact absurd e.symm hne
 .refine⟨fun hm=>?_,fun e=>?_⟩
  .have:(oj.looksAt ops).contains d=true:=by simpa using hm
   rw[this] at h1
   cases h1
  .rcases h2 with h2|⟨_,e',he,hb,hon⟩
   .exact h2 e
   .exact hij e' he hb hon
def aiP {ops:Array Oper} {i j:Nat} {oi oj:Oper} (hi:ops[i]?=some oi) (hj:ops[j]?=some oj) (hne:i≠j) (hij:∀ e∈oi.after,Region.binds .any e=true→e.on≠j) (hji:∀ e∈oj.after,Region.binds .any e=true→e.on≠i)
  (hap:oi.apart ops oj=true) (si:eU oi.op=true→afH ops i=true) (sj:eU oj.op=true→afH ops j=true):aji ops oi oj:=by
 obtain⟨a1,a2,a3⟩:=Oper.apart_spec hap
 cases hsi:eU oi.op with
 | true =>
  have q1:=alS hi hj hne hij (si hsi)
  cases hsj:eU oj.op with
  | true =>
   have q2:=alS hj hi (d5 hne) hji (sj hsj)
   exact⟨fun d hd=>(q1 d hd).1,fun d hd=>(q1 d hd).2,fun d hd=>(q2 d hd).1⟩
  | false=>exact⟨fun d hd=>(q1 d hd).1,fun d hd=>(q1 d hd).2,fun d hd=>a3 d (by rw[← hd,afd hsj])⟩
 | false =>
  cases hsj:eU oj.op with
  | true =>
   have q2:=alS hj hi (d5 hne) hji (sj hsj)
   exact⟨fun d hd=>a1 d (by rw[← hd,afd hsi]),fun d hd e=>(q2 d e).2 hd,fun d hd=>(q2 d hd).1⟩
  | false=>exact⟨fun d hd=>a1 d (by rw[← hd,afd hsi]),fun d hd=>by rw[afd hsj];exact a2 d (by rw[← hd,afd hsi]),fun d hd=>a3 d (by rw[← hd,afd hsj])⟩
def aEh {P:Program} {T:TT} {E:En} {ops:Array Oper} {s s1 s2:S} {i j:Nat} {oi oj:Oper} (hap:aji ops oi oj)
  (hij:∀ e∈oi.after,Region.binds .any e=true→e.on≠j) (hji:∀ e∈oj.after,Region.binds .any e=true→e.on≠i)
  (h1:dh P T E true ops s i oi=some (none,s1)) (h2:dh P T E true ops s1 j oj=some (none,s2)):∃ s',dh P T E true ops s j oj=some (none,s')∧dh P T E true ops s' i oi=some (none,s2):=by
 obtain⟨a1,a2,a3⟩:=hap
 obtain⟨_,xi,ei,yi,rfl⟩:=aeR h1
 obtain⟨_,xj,ej,yj,rfl⟩:=aeR h2
 have yj1:Y P T E ops (s.drop ei) j oj xj ej:=(ap8 (fun d hd=>a1 d hd)).1 yj
 obtain⟨xj',yj2,hxj,hne⟩ : ∃ x',Y P T E ops s j oj x' ej∧xj=ang ei x'∧(ei=none∨ej≠ei):=by
  cases ei with
  | none=>exact⟨xj,yj1,rfl,.inl rfl⟩
  | some t =>
   have ht:∀ q,t≠.nm s.clk j q:=fun q e=>by
    subst e
    rcases aZ3 yi with h|⟨_,e,he,hb,h⟩
    .omega
    .exact hij e he hb h
   obtain⟨x',g1,g2,g3⟩:=aMk ht yj1
   exact⟨x',g1,g2,.inr g3⟩
 refine⟨(s.drop ej).put (fE oj) xj',ahs yj2,?_⟩
 have yi2:Y P T E ops (s.drop ej) i oi (ang ej xi) ei:=by
  cases ej with
  | none=>exact yi
  | some t =>
   have ht:∀ q,t≠.nm s.clk i q:=fun q e=>by
    subst e
    rcases aZ3 yj2 with h|⟨_,e,he,hb,h⟩
    .omega
    .exact hji e he hb h
   refine aZ7 ht ?_ yi
   rcases hne with h|h
   .rw[h];simp
   .exact d5 h
 have yi3:Y P T E ops ((s.drop ej).put (fE oj) xj') i oi (ang ej xi) ei:=(ap8 (fun d hd=>a3 d hd)).2 yi2
 rw[ahs yi3]
 congr 1
 have hd:∀ d,(fE oj)=some d→(fE oi)≠some d:=fun d hd e=>a2 d e hd
 have e1:((s.drop ej).put (fE oj) xj').drop ei=((s.drop ej).drop ei).put (fE oj) xj:=by
  rw[hxj]
  cases ei with
  | none=>rfl
  | some t=>exact agV _ _ _ _
 have e2:((s.drop ei).put (fE oi) xi).drop ej=((s.drop ei).drop ej).put (fE oi) (ang ej xi):=by
  cases ej with
  | none=>rfl
  | some t=>exact agV _ _ _ _
 rw[e1,e2,af8 _ _ _ (fun d h=>hd d h),aCw]
def aq8 (P:Program) (T:TT) (E:En) (ops:Array Oper) (Q:S→Prop):Nat→Array Bool→S→Prop
 | 0,listed,s=>Region.ready .any ops listed=[]∧Q s
 | fuel+1,listed,s=>(Region.ready .any ops listed=[]→Q s) ∧
  ∀ i∈Region.ready .any ops listed,∃ o s',ops[i]?=some o∧dh P T E true ops s i o=some (none,s')∧aq8 P T E ops Q fuel (listed.setIfInBounds i true) s'
section
variable {P:Program} {T:TT} {E:En} {ops:Array Oper} {Q:S→Prop}
theorem aaE {i:Nat} {listed:Array Bool} {o:Oper} (hi:i∈Region.ready .any ops listed) (ho:ops[i]?=some o) {j:Nat} (hj:listed.getD j true=false):∀ e∈o.after,Region.binds .any e=true→e.on≠j:=by
 obtain⟨_,oi,hoi,hall⟩:=mem_ready.1 hi
 obtain rfl:oi=o:=bn (hoi.symm.trans ho)
 intro e he hb heq
 have h1:=hall e he hb
 rw[heq] at h1
 rcases ap j listed.size with h'|h'
 .simp[h'] at hj h1;rw[hj] at h1;cases h1
 .simp[Array.getElem?_eq_none h'] at h1
theorem aEE (hS:∀ (i:Nat) (o:Oper),ops[i]?=some o→eU o.op=true→afH ops i=true) {i:Nat} {oi:Oper} (hi:ops[i]?=some oi):∀ (fuel:Nat) (listed:Array Bool) (s s1:S),
  (∀ (j:Nat) (oj:Oper),ops[j]?=some oj→j≠i→listed.getD j true=false→(∀ e∈oj.after,Region.binds .any e=true→e.on≠i)→oi.apart ops oj=true) →
  i∈Region.ready .any ops listed→dh P T E true ops s i oi=some (none,s1)→aq8 P T E ops Q fuel (listed.setIfInBounds i true) s1→aq8 P T E ops Q (fuel+1) listed s:=by
 intro fuel
 induction fuel with
 | zero =>
  intro listed s s1 _ hr hs H
  refine⟨fun h=>(by rw[h] at hr;cases hr),fun j hj=>?_⟩
  by_cases hji:j=i
  .subst hji;exact⟨oi,s1,hi,hs,H⟩
  .have:=ready_mono hj hji
   rw[H.1] at this
   cases this
 | succ fuel ih =>
  intro listed s s1 hfree hr hs H
  refine⟨fun h=>(by rw[h] at hr;cases hr),fun j hj=>?_⟩
  by_cases hji:j=i
  .subst hji;exact⟨oi,s1,hi,hs,H⟩
  .obtain⟨oj,s2,hoj,hs2,H2⟩:=H.2 j (ready_mono hj hji)
   have hjun:=(mem_ready.1 hj).1
   have hiun:=(mem_ready.1 hr).1
   have hji':=aaE hj hoj hiun
   have hij':=aaE hr hi hjun
   obtain⟨s',g1,g2⟩:=aEh (aiP hi hoj (d5 hji) hij' hji' (hfree j oj hoj hji hjun hji') (hS i oi hi) (hS j oj hoj)) hij' hji' hs hs2
   refine⟨oj,s',hoj,g1,ih (listed.setIfInBounds j true) s' s2 (fun k ok hk hki hun hno=>?_) (ready_mono hr (d5 hji)) g2 (by rw[iG _ _ hji];exact H2)⟩
   refine hfree k ok hk hki ?_ hno
   by_cases hjk:j=k
   .subst hjk;exact hjun
   .rw[getD_set_ne true hjk] at hun;exact hun
theorem aow (hS:∀ (i:Nat) (o:Oper),ops[i]?=some o→eU o.op=true→afH ops i=true):∀ (l:List Oper) (n:Nat) (listed:Array Bool) (s s':S),(∀ j,l[j]?=ops[n+j]?)→Region.lexFrom .any ops l.length n listed=true →
  abD P T E true ops n l s=some (none,s')→Q s'→aq8 P T E ops Q l.length listed s
 | [],n,listed,s,s',_,hB,h,hQ=>by
  simp only[abD,dX,cX] at h
  subst h
  exact⟨by simpa [Region.lexFrom] using hB,hQ⟩
 | o::l,n,listed,s,s',hl,hB,h,hQ=>by
  have h0:ops[n]?=some o:=by simpa using (hl 0).symm
  simp only[aB,Region.lexFrom,ab] at hB
  obtain⟨⟨hr,hf⟩,hB'⟩:=hB
  simp only[abD] at h
  split at h
  .rename_i s1 h1
   exact aEE hS h0 l.length listed s s1 (Region.free_spec h0 hf) (by simpa using hr) h1
    (aow hS l (n+1) _ s1 s' (fun j=>by have:=hl (j+1);simpa [eZ,ig 1 j] using this) hB' h hQ)
  .cases h
  .cases h
end
section
variable {P:Program} {M0:Base} {w0:World} {N:Nat}
theorem aid {E:En} (horc:EnSound P M0.G E) {ops:Array Oper} (hdst:∀ (j:Nat) (o:Oper),ops[j]?=some o→afc N o=true) {Q:Exit→Act→World→Prop} {Qs:S→Prop} {k0:Know}
  (hQ:∀ s' tmps' w' k' ow' done',k0.le k'→Qs s'→Sim M0 k' ow' done' w0 w' N s' tmps'→Q .normal ⟨tmps',[]⟩ w'):∀ (fuel:Nat) (listed:Array Bool) (s:S) (w:World) (tmps:Array Value) (k:Know) (ow:Own),
  k0.le k→Sim M0 k ow (fun j=>listed.getD j true=true) w0 w N s tmps→aq8 P (TT.of P) E ops Qs fuel listed s→wpAny P .any ops Q fuel listed ⟨tmps,[]⟩ w
 | 0,listed,s,w,tmps,k,ow,hk,hs,h=>⟨h.1,hQ s tmps w k ow _ hk h.2 hs⟩
 | fuel+1,listed,s,w,tmps,k,ow,hk,hs,h=>by
  refine⟨fun h0=>hQ s tmps w k ow _ hk (h.1 h0) hs,fun i hi=>?_⟩
  obtain⟨o,s',ho,hst,H⟩:=h.2 i hi
  have hun:=(mem_ready.1 hi).1
  refine act hs horc (by rw[hun];simp) ho (hdst i o ho) hst (fun _ tmps' w' k' ow' g1 g2=>?_) (fun x hx=>by cases hx)
  refine aid horc hdst hQ fuel _ s' w' tmps' k' ow' (Know.le_trans hk g1) (g2.more fun j hj=>?_) H
  rcases hj with hj|rfl
  .by_cases hij:i=j
   .subst hij;rw[hun] at hj;cases hj
   .rw[getD_set_ne true hij];exact hj
  .rcases ap j listed.size with g|g
   .simp[g]
   .simp[g]
theorem alc {P:Program} {T:TT} {E:En} {ops:Array Oper}:∀ (l:List Oper) (n:Nat) (s:S) (q:Option X) (s':S),abD P T E true ops n l s=some (q,s')→q=none
 | [],n,s,q,s',h=>by
  simp only[abD,dX] at h
  exact h.1.symm
 | o::l,n,s,q,s',h=>by
  simp only[abD] at h
  split at h
  .exact alc l _ _ _ _ h
  .rename_i h1
   exact absurd (aeR h1).1 (by simp)
  .cases h
end
def atx (L:Nat):X→Prop
 | .ptr r _=>r<L
 | .mp r=>r<L
 | _=>True
def aJX {P:Program} {T:TT} {E:En} {s:S} {ix:Nat} {o:Oper} {ob:Ob} {y:X×Option Tk} (hwf:∀ y:Operand,atx s.objs.length (s.ev y)) (h:val P T E {s with objs:=s.objs++[ob]} ix o=some y):val P T E s ix o=some y:=by
 cases hop:o.op with
 | load t a =>
  simp only[val,hop] at h ⊢
  have ha:=hwf a
  have e:({s with objs:=s.objs++[ob]}:S).ev a=s.ev a:=rfl
  rw[e] at h
  cases hx:s.ev a with
  | ptr r off =>
   rw[hx] at h ha
   simp only[acO] at h ⊢
   rw[dA (show r<s.objs.length from ha)] at h
   exact h
  | of c=>rw[hx] at h;cases c <;> exact h
  | _=>rw[hx] at h;exact h
 | lookup t x i b =>
  simp only[val,hop] at h ⊢
  have ha:=hwf x
  have e:({s with objs:=s.objs++[ob]}:S).ev x=s.ev x:=rfl
  have e2:({s with objs:=s.objs++[ob]}:S).ev i=s.ev i:=rfl
  rw[e,e2] at h
  have hm:acN (s.objs++[ob]) (s.ev x)=acN s.objs (s.ev x):=by
   cases hx:s.ev x with
   | mp r =>
    rw[hx] at ha
    simp only[acN]
    rw[dA (show r<s.objs.length from ha)]
   | of c =>
    cases c with
    | lit v =>
     cases v with
     | map p=>cases p <;> rfl
     | _=>rfl
    | _=>rfl
   | _=>rfl
  unfold jk at h ⊢
  rw[hm] at h
  exact h
 | makeFunc f a b =>
  simp only[val,hop] at h ⊢
  cases f <;> exact h
 | slice t x lo hi mx =>
  simp only[val,hop] at h ⊢
  cases mx <;> exact h
 | store t a x =>
  simp only[val,hop] at h ⊢
  cases a <;> exact h
 | _ =>
  simp only[val,hop] at h ⊢
  exact h
def aZ6 {P:Program} {T:TT} {E:En} {ops:Array Oper} {s:S} {ix:Nat} {o:Oper} {ob:Ob} {x:X} {e:Option Tk} (hwf:∀ y:Operand,atx s.objs.length (s.ev y)) (h:Y P T E ops {s with objs:=s.objs++[ob]} ix o x e):Y P T E ops s ix o x e:=by
 rcases h with ⟨h1,h2,h3⟩|⟨h1,h2,h3⟩
 .exact .inl ⟨h1,aJX hwf h2,h3⟩
 .exact .inr ⟨h1,h2,h3⟩
def aRl {P:Program} {T:TT} {E:En} {ops:Array Oper} {s s1 s2:S} {j:Nat} {o0 oj:Oper} (hap:aji ops o0 oj) (hE:fE o0=o0.dst) (hwf:∀ y:Operand,atx s.objs.length (s.ev y))
  (h1:mkS P E s o0=some s1) (h2:dh P T E true ops s1 j oj=some (none,s2)):∃ s',dh P T E true ops s j oj=some (none,s')∧mkS P E s' o0=some s2:=by
 obtain⟨a1,a2,a3⟩:=hap
 rw[hE] at a1 a2
 unfold mkS at h1
 simp only[aP] at h1
 obtain⟨es,he,rfl⟩:=h1
 obtain⟨_,xj,ej,yj,rfl⟩:=aeR h2
 have yj1:=aZ6 hwf ((ap8 (fun d hd=>a1 d hd)).1 yj)
 refine⟨(s.drop ej).put (fE oj) xj,ahs yj1,?_⟩
 unfold mkS
 rw[he]
 simp only[bH,ae]
 have hd:∀ d,(fE oj)=some d→o0.dst≠some d:=fun d hd e=>a2 d e hd
 have e1:(({s with objs:=s.objs++[Ob.map es]}:S).put o0.dst (.mp s.objs.length)).drop ej=({s.drop ej with objs:=(s.drop ej).objs++[Ob.map es]}:S).put o0.dst (.mp s.objs.length):=by
  cases ej with
  | none=>rfl
  | some t =>
   rw[agV]
   simp only[S.drop,fV,aV,bC,Ob.drop,X.drop]
 have e2:((s.drop ej).put (fE oj) xj).objs.length=s.objs.length:=by
  cases ej <;> cases (fE oj) <;> simp[S.put,S.drop]
 have e3:({(s.drop ej).put (fE oj) xj with objs:=((s.drop ej).put (fE oj) xj).objs++[Ob.map es]}:S)=({s.drop ej with objs:=(s.drop ej).objs++[Ob.map es]}:S).put (fE oj) xj:=by
  cases (fE oj) <;> rfl
 rw[e1,e2,e3,af8 _ _ _ (fun d h=>hd d h)]
def aHk:aar [] []=some:=by
 funext t
 cases t <;> simp[aar]
def aqH {P:Program} {T:TT} {E:En} {ops:Array Oper} {s s1:S} {ix:Nat} {o:Oper} (hmk:(ik E.obj o.op&&o.guard.isNone)=true) (h:mkS P E s o=some s1):dh P T E false ops s ix o=some (none,s1):=by
 simp only[ab,Option.isNone_iff_eq_none] at hmk
 obtain⟨hmk,hg⟩:=hmk
 unfold mkS at h
 simp only[aP] at h
 obtain⟨es,he,rfl⟩:=h
 unfold dh fI
 rw[hg]
 simp only
 unfold ik at hmk
 split at hmk
 rotate_left
 .cases hmk
 rename_i g args tys hop
 simp only[ab] at hmk
 obtain⟨hargs,hobj⟩:=hmk
 have ha:args.toList=[]:=by simpa using hargs
 simp only[mkA,hop] at he
 split at he
 rotate_left
 .cases he
 rename_i hc
 split at he
 rotate_left
 .cases he
 rename_i es' ho
 simp only[ae] at he
 subst he
 unfold abW
 simp only[aW,aQ,hop,ha]
 have ht:ahr s (.value (.func g)) []=some (g,[]):=rfl
 rw[ht]
 simp only[hobj,aA]
 unfold ahm
 rw[aE hc]
 have hr:aah s.objs 999 (X.refsL []) []=[]:=rfl
 have hts:(if E.tk g=true then nub (X.toksL []) [] else [])=[]:=by split <;> rfl
 simp only[hr,hts,jj,X.trs,ho]
 unfold ant
 simp only[ce,fj,aA,aHk,jB,ac6,aV,bC,Ob.tr,X.trs,X.tr,aek,fS,List.getElem?_nil,adR,aaT]
 congr 2
 have e1:(fun j=>(s.fr j).tr some some)=s.fr:=by funext j;exact X.tr_id _
 have e2:s.objs.map (Ob.tr some some)=s.objs:=by
  conv=>rhs;rw[← List.map_id s.objs]
  exact gw fun o _=>Ob.tr_id o
 rw[e1,e2]
section
variable {P:Program} {M0:Base} {w0:World} {N:Nat}
theorem aQ9 {k:Know} {ow:Own} {done:Nat→Prop} {w:World} {s:S} {tmps:Array Value} (hs:Sim M0 k ow done w0 w N s tmps) (y:Operand):atx s.objs.length (s.ev y):=by
 have h:=hs.ev y
 cases hx:s.ev y with
 | ptr r off =>
  rw[hx] at h
  simp only[bj] at h
  obtain⟨b,hb,_⟩:=h
  exact hs.dom r b hb
 | mp r =>
  rw[hx] at h
  simp only[bj] at h
  obtain⟨b,hb,_⟩:=h
  exact hs.dom r b hb
 | _=>trivial
theorem aNu {obj:Nat→Bool} {o:Op} (h:ik obj o=true):eU o=false:=by
 cases o with
 | store t a x=>cases h
 | _=>rfl
theorem aLc {E:En} (horc:EnSound P M0.G E) {ops:Array Oper} (hS:∀ (i:Nat) (o:Oper),ops[i]?=some o→eU o.op=true→afH ops i=true) (hdst:∀ (j:Nat) (o:Oper),ops[j]?=some o→afc N o=true) {Q:Exit→Act→World→Prop} {Qs:S→Prop} {k0:Know}
  (hQ:∀ s' tmps' w' k' ow' done',k0.le k'→Qs s'→Sim M0 k' ow' done' w0 w' N s' tmps'→Q .normal ⟨tmps',[]⟩ w') {o0:Oper} (h0:ops[0]?=some o0) (hmk:(ik E.obj o0.op&&o0.guard.isNone)=true) :
  ∀ (fuel:Nat) (listed:Array Bool) (s s1:S) (w:World) (tmps:Array Value) (k:Know) (ow:Own),k0.le k→Sim M0 k ow (fun j=>listed.getD j true=true) w0 w N s tmps →
   (∀ (j:Nat) (oj:Oper),ops[j]?=some oj→j≠0→listed.getD j true=false→(∀ e∈oj.after,Region.binds .any e=true→e.on≠0)→o0.apart ops oj=true) →
   0∈Region.ready .any ops listed→mkS P E s o0=some s1→aq8 P (TT.of P) E ops Qs fuel (listed.setIfInBounds 0 true) s1→wpAny P .any ops Q (fuel+1) listed ⟨tmps,[]⟩ w:=by
 have hmore:∀ (listed:Array Bool) (i:Nat),listed.getD i true=false→∀ j,(listed.setIfInBounds i true).getD j true=true→(listed.getD j true=true∨j=i):=fun listed i hun j hj=>by
  by_cases hij:i=j
  .exact .inr hij.symm
  .rw[getD_set_ne true hij] at hj;exact .inl hj
 have hback:∀ (listed:Array Bool) (i:Nat),listed.getD i true=false→∀ j,(listed.getD j true=true∨j=i)→(listed.setIfInBounds i true).getD j true=true:=fun listed i hun j hj=>by
  rcases hj with hj|rfl
  .by_cases hij:i=j
   .subst hij;rw[hun] at hj;cases hj
   .rw[getD_set_ne true hij];exact hj
  .rcases ap j listed.size with g|g
   .simp[g]
   .simp[g]
 intro fuel
 induction fuel with
 | zero =>
  intro listed s s1 w tmps k ow hk hs _ hr hm H
  refine⟨fun h=>(by rw[h] at hr;cases hr),fun j hj=>?_⟩
  have hun:=(mem_ready.1 hj).1
  by_cases hj0:j=0
  .subst hj0
   refine act (dr:=false) hs horc (by rw[hun];simp) h0 (hdst 0 o0 h0) (aqH hmk hm) (fun _ tmps' w' k' ow' g1 g2=>?_) (fun x hx=>by cases hx)
   exact aid horc hdst hQ 0 _ s1 w' tmps' k' ow' (Know.le_trans hk g1) (g2.more (hback listed 0 hun)) H
  .have:=ready_mono hj hj0
   rw[H.1] at this
   cases this
 | succ fuel ih =>
  intro listed s s1 w tmps k ow hk hs hfree hr hm H
  refine⟨fun h=>(by rw[h] at hr;cases hr),fun j hj=>?_⟩
  have hun:=(mem_ready.1 hj).1
  by_cases hj0:j=0
  .subst hj0
   refine act (dr:=false) hs horc (by rw[hun];simp) h0 (hdst 0 o0 h0) (aqH hmk hm) (fun _ tmps' w' k' ow' g1 g2=>?_) (fun x hx=>by cases hx)
   exact aid horc hdst hQ (fuel+1) _ s1 w' tmps' k' ow' (Know.le_trans hk g1) (g2.more (hback listed 0 hun)) H
  .obtain⟨oj,s2,hoj,hs2,H2⟩:=H.2 j (ready_mono hj hj0)
   have h0un:=(mem_ready.1 hr).1
   have hji':=aaE hj hoj h0un
   have hno:eU o0.op=false:=by rw[ab] at hmk;exact aNu hmk.1
   obtain⟨s',g1,g2⟩:=aRl (aiP h0 hoj (d5 hj0) (aaE hr h0 hun) hji' (hfree j oj hoj hj0 hun hji') (fun h=>by rw[hno] at h;cases h) (hS j oj hoj)) (afd hno) (aQ9 hs) hm hs2
   refine act (dr:=true) hs horc (by rw[hun];simp) hoj (hdst j oj hoj) g1 (fun _ tmps' w' k' ow' q1 q2=>?_) (fun x hx=>by cases hx)
   refine ih (listed.setIfInBounds j true) s' s2 w' tmps' k' ow' (Know.le_trans hk q1) (q2.more (hback listed j hun)) (fun k ok hok hk0 hkun hno=>?_) (ready_mono hr (d5 hj0)) g2 (by rw[iG _ _ hj0];exact H2)
   refine hfree k ok hok hk0 ?_ hno
   by_cases hjk:j=k
   .subst hjk;exact hun
   .rw[getD_set_ne true hjk] at hkun;exact hkun
end
def Dm (m:Nat) (ops:Array Oper) (i:Nat):Bool:=decide (i+m<ops.size)
def aq7 (m:Nat) (P:Program) (T:TT) (E:En) (ops:Array Oper) (Q:S→Prop):Nat→Array Bool→S→Prop
 | 0,listed,s=>Region.ready .any ops listed=[]∧Q s
 | fuel+1,listed,s=>(Region.ready .any ops listed=[]→Q s) ∧
  ∀ i∈Region.ready .any ops listed,∃ o s',ops[i]?=some o∧dh P T E (Dm m ops i) ops s i o=some (none,s')∧aq7 m P T E ops Q fuel (listed.setIfInBounds i true) s'
abbrev aMc:=aq7 1
def Dc (ops:Array Oper) (listed:Array Bool):Prop:=∀ (k:Nat) (o:Oper),ops[k]?=some o→listed.getD k true=true→∀ e∈o.after,Region.binds .any e=true→listed.getD e.on false=true
def agH {listed:Array Bool} {i:Nat} (h:listed.getD i false=true):listed.getD i true=true:=by
 rcases ap i listed.size with g|g
 .simp[g] at h ⊢;exact h
 .simp[g] at h
def art {listed:Array Bool} {i j:Nat} (h:listed.getD i false=true):(listed.setIfInBounds j true).getD i false=true:=by
 by_cases hij:j=i
 .subst hij
  rcases ap j listed.size with g|g
  .simp[g]
  .simp[g] at h
 .rw[getD_set_ne false hij];exact h
theorem Dc.set {ops:Array Oper} {listed:Array Bool} (h:Dc ops listed) {j:Nat} (hj:j∈Region.ready .any ops listed):Dc ops (listed.setIfInBounds j true):=fun k o hk hl e he hb=>by
 by_cases hjk:j=k
 .subst hjk
  obtain⟨_,oj,hoj,hall⟩:=mem_ready.1 hj
  obtain rfl:oj=o:=bn (hoj.symm.trans hk)
  exact art (hall e he hb)
 .rw[getD_set_ne true hjk] at hl
  exact art (h k o hk hl e he hb)
theorem aYO {ops:Array Oper} (hf:amh ops=true) {listed:Array Bool} (hd:Dc ops listed):∀ (m i:Nat),ops.size-i≤m→i+1<ops.size→ajU ops i=false→listed.getD i true=false→ops.size-1∉Region.ready .any ops listed
 | 0,i,hm,hi,_,_,_=>by omega
 | m+1,i,hm,hi,hli,hun,hr=>by
  have hfi:=bR.1 hf i (List.mem_range.2 (by omega))
  rw[hli,dl] at hfi
  simp only[List.any_eq_true,List.mem_range,ab,ar] at hfi
  obtain⟨k,hk,hik,hx⟩:=hfi
  split at hx
  rotate_left
  .cases hx
  rename_i o ho
  simp only[aaI,ab,fQ,cm] at hx
  obtain⟨hlo,e,he,hb,rfl⟩:=hx
  by_cases hkn:k=ops.size-1
  .subst hkn
   obtain⟨_,oj,hoj,hall⟩:=mem_ready.1 hr
   obtain rfl:oj=o:=bn (hoj.symm.trans ho)
   have:=agH (hall e he hb)
   rw[hun] at this
   cases this
  .have hkun:listed.getD k true=false:=by
    cases hl:listed.getD k true with
    | false=>rfl
    | true =>
     have:=agH (hd k o ho hl e he hb)
     rw[hun] at this
     cases this
   exact aYO hf hd m k (by omega) (by omega) (by unfold ajU;rw[ho];split;rename_i e _;obtain rfl:=bn e;rw[hlo];rfl;rfl) hkun hr
def aQk (ρ:Tk→Option Tk) (s:S) (d:Option Nat) (x:X):(s.put d x).tr ρ=(s.tr ρ).put d (x.tr some ρ):=by
 cases d with
 | none=>rfl
 | some d =>
  simp only[S.put,S.tr]
  congr 1
  funext j
  simp only[upd]
  split <;> rfl
theorem ax5 (σ:Nat→Option Nat) (ρ:Tk→Option Tk):∀ (xs:List X) (i:Nat),(X.trs σ ρ xs)[i]?=(xs[i]?).map (X.tr σ ρ)
 | [],i=>by simp[X.trs]
 | x::r,0=>by simp[X.trs]
 | x::r,i+1=>by simpa [X.trs] using ax5 σ ρ r i
def exX (i:Nat):X→Out
 | .tup xs=>dE (xs[i]?)
 | .of (.tup cs)=>dE ((cs[i]?).map .of)
 | _=>none
structure GoodF (F:X→X):Prop where
 ex:∀ i x y t,exX i x=some (y,t)→t=none∧exX i (F x)=some (F y,none)
 val:∀ v,F (abR v)=abR v
 fn:∀ f,F (.of (.fn f []))=.of (.fn f [])
 any:F (.of .any)=.of .any
 of:∀ c,F (.of c)=.of c
def aqR:GoodF id where
 ex:=fun i x y t h=>by
  unfold exX at h ⊢
  split at h
  .simp only[dE,aP,bf] at h
   obtain⟨a,ha,rfl,rfl⟩:=h
   exact⟨rfl,by simp[ha,dE]⟩
  .simp only[dE,aP,bf] at h
   obtain⟨a,⟨c,hc,rfl⟩,rfl,rfl⟩:=h
   exact⟨rfl,by simp[hc,dE]⟩
  .cases h
 val:=fun _=>rfl
 fn:=fun _=>rfl
 any:=rfl
 of:=fun _=>rfl
def aAJ (ρ:Tk→Option Tk):GoodF (X.tr some ρ) where
 ex:=fun i x y t h=>by
  unfold exX at h
  split at h
  .simp only[dE,aP,bf] at h
   obtain⟨a,ha,rfl,rfl⟩:=h
   exact⟨rfl,by simp only[exX,X.tr,ax5,ha,bH,dE]⟩
  .simp only[dE,aP,bf] at h
   obtain⟨a,⟨c,hc,rfl⟩,rfl,rfl⟩:=h
   exact⟨rfl,by simp only[exX,X.tr,hc,bH,dE]⟩
  .cases h
 val:=fun v=>by unfold abR;split <;> rfl
 fn:=fun _=>rfl
 any:=rfl
 of:=fun _=>rfl
def arP (u:Tk):GoodF (X.drop u) where
 ex:=fun i x y t h=>by
  unfold exX at h
  split at h
  .simp only[dE,aP,bf] at h
   obtain⟨a,ha,rfl,rfl⟩:=h
   exact⟨rfl,by simp[exX,X.drop,aat,ha,dE]⟩
  .simp only[dE,aP,bf] at h
   obtain⟨a,⟨c,hc,rfl⟩,rfl,rfl⟩:=h
   exact⟨rfl,by simp[exX,X.drop,hc,dE]⟩
  .cases h
 val:=akR u
 fn:=fun _=>rfl
 any:=rfl
 of:=fun _=>rfl
theorem GoodF.ev {F:X→X} (h:GoodF F) {s s1:S} (hf:∀ j,s1.fr j=F (s.fr j)) (x:Operand):s1.ev x=F (s.ev x):=by
 cases x with
 | tmp t=>exact hf t
 | const v=>exact (h.val v).symm
 | func f=>exact (h.fn f).symm
 | global g=>exact h.any.symm
def atw (s:S) (d:Option Nat) (y:X) (dj:Option Nat) (s2:S) (F:X→X) (s1:S):Prop :=
 GoodF F∧s1.clk=s.clk∧(∀ x:Operand,(∀ q,dj=some q→x≠.tmp q)→s1.ev x=F (s.ev x))∧s2=s1.put d (F y)
def aCq {s:S} {d d':Option Nat} {n r off:Nat} {xs:List X} {y:X} {s2:S} (hd:∀ j,d=some j→d'≠some j) (h:agm (s.put d y) d' n r off xs=some s2) :
  ∃ F s1,agm s d' n r off xs=some s1∧atw s d y d' s2 F s1:=by
 have ho:(s.put d y).objs=s.objs:=by cases d <;> rfl
 unfold agm at h ⊢
 rw[ho] at h
 cases hr:s.objs[r]? with
 | none=>rw[hr] at h;cases h
 | some ob =>
  rw[hr] at h
  cases ob with
  | map es=>cases h
  | var ty ys =>
   simp only at h ⊢
   split at h
   rotate_left
   .cases h
   rename_i hc
   rw[aE hc]
   simp only[ae] at h
   subst h
   unfold aoe
   have e1:∀ z:X,({s.put d y with objs:=s.objs.set r (Ob.var ty (ys.take off++xs++ys.drop (off+xs.length)))}:S)=({s with objs:=s.objs.set r (Ob.var ty (ys.take off++xs++ys.drop (off+xs.length)))}:S).put d y:=fun _=>by cases d <;> rfl
   rw[e1 y]
   by_cases hn:(abA xs&&abA ((ys.drop off).take xs.length))=true
   .rw[aE hn]
    refine⟨id,_,rfl,aqR,by cases d' <;> rfl,fun x hx=>?_,?_⟩
    .rw[afA _ _ _ _ hx]
     cases x <;> rfl
    .rw[aE hn]
     exact af8 _ _ _ hd
   .rw[aj hn]
    refine⟨X.tr some (adE r off xs.length (gf r off xs)),_,rfl,aAJ _,by cases d' <;> rfl,fun x hx=>?_,?_⟩
    .rw[afA _ _ _ _ hx]
     exact (aAJ _).ev (fun j=>rfl) x
    .rw[aj hn,aQk]
     exact af8 _ _ _ hd
def aFD {P:Program} {T:TT} {E:En} {s s2:S} {d:Option Nat} {y:X} {ix:Nat} {o:Oper} (hst:eU o.op=true) (hop:∀ q,d=some q→∀ x∈o.op.operands.toList,x≠.tmp q) (hd1:∀ q,d=some q→o.dst≠some q) (hd2:∀ q,d=some q→fE o≠some q)
  (h:abW P T E false (s.put d y) ix o=some (none,s2)):∃ F s1 dj,abW P T E false s ix o=some (none,s1)∧(dj=o.dst∨dj=fE o)∧atw s d y dj s2 F s1:=by
 obtain⟨di,op,tyi,pi,afi,gi⟩:=o
 unfold eU at hst
 split at hst
 rotate_left
 .cases hst
 rename_i t a v heq
 simp only at heq
 subst heq
 have ea:(s.put d y).ev a=s.ev a:=afA _ _ _ _ (fun q hq=>hop q hq a (by simp[Op.operands]))
 have ev':(s.put d y).ev v=s.ev v:=afA _ _ _ _ (fun q hq=>hop q hq v (by simp[Op.operands]))
 have hc:(s.put d y).clk=s.clk:=by cases d <;> rfl
 have key:hJ P T E (s.put d y) ix ⟨di,.store t a v,tyi,pi,afi,gi⟩=some (none,s2)→∃ F s1 dj,hJ P T E s ix ⟨di,.store t a v,tyi,pi,afi,gi⟩=some (none,s1)∧(dj=di∨dj=fE ⟨di,.store t a v,tyi,pi,afi,gi⟩)∧atw s d y dj s2 F s1:=by
  intro h
  unfold hJ at h ⊢
  have hv:val P T E (s.put d y) ix ⟨di,.store t a v,tyi,pi,afi,gi⟩=val P T E s ix ⟨di,.store t a v,tyi,pi,afi,gi⟩ :=
   arm P T E ix _ hc (by cases d <;> rfl) fun x hx=>afA _ _ _ _ (fun q hq=>hop q hq x hx)
  rw[hv,hc] at h
  split at h
  rotate_left
  .cases h
  rename_i z tk hz
  split at h
  rotate_left
  .cases h
  rename_i hok
  simp only[dX,cX] at h
  subst h
  simp only[hok,aA]
  cases tk with
  | none =>
   refine⟨id,_,_,rfl,.inr rfl,aqR,by cases fE (⟨di,.store t a v,tyi,pi,afi,gi⟩ : Oper) <;> rfl,fun x hx=>?_,?_⟩
   .rw[afA _ _ _ _ hx];rfl
   .exact af8 _ _ _ hd2
  | some tk =>
   refine⟨X.drop tk,_,_,rfl,.inr rfl,arP tk,by cases fE (⟨di,.store t a v,tyi,pi,afi,gi⟩ : Oper) <;> rfl,fun x hx=>?_,?_⟩
   .rw[afA _ _ _ _ hx]
    exact fe tk s x
   .rw[agV]
    exact af8 _ _ _ hd2
 unfold abW at h ⊢
 simp only[aW,aQ,ea,ev',hc] at h ⊢
 have old:(match T t,s.ev a,eu (s.ev v) with
   | some d',.ptr r off,some xs=>(agm (s.put d y) di d'.size r off xs).map fun s=>(none,s)
   | _,_,_=>none)=some ((none:Option X),s2)→∃ F s1 dj,(match T t,s.ev a,eu (s.ev v) with
   | some d',.ptr r off,some xs=>(agm s di d'.size r off xs).map fun s=>(none,s)
   | _,_,_=>none)=some ((none:Option X),s1)∧(dj=di∨dj=fE ⟨di,.store t a v,tyi,pi,afi,gi⟩)∧atw s d y dj s2 F s1:=by
  intro h0
  split at h0
  rotate_left
  .cases h0
  rename_i d' r off xs e1 e2 e3
  simp only[aP,bf,cX] at h0
  obtain⟨s2',h0,e0⟩:=h0
  subst e0
  obtain⟨F,s1,g1,g2⟩:=aCq hd1 h0
  exact⟨F,s1,di,by simp only[g1,bH],.inl rfl,g2⟩
 split at h
 .rename_i tk ty z hnw
  split at h
  rotate_left
  .rename_i hmt
   rw[aj hmt]
   exact key h
  rename_i hmt
  rw[aE hmt]
  split at h
  rotate_left
  .cases h
  rename_i d' xs j e1 e2 e3
  split at h
  rotate_left
  .cases h
  rename_i hcc
  simp only[dX,cX] at h
  subst h
  rw[aE hcc]
  refine⟨X.drop tk,_,some j,rfl,.inr (by rw[← e3]),arP tk,rfl,fun x hx=>?_,?_⟩
  .unfold am8
   rw[afA _ _ _ _ hx]
   exact fe tk s x
  .unfold am8
   rw[agV]
   have e4:∀ (A:List Ob) (z:X),({(s.drop (some tk)).put d z with objs:=A}:S)=({s.drop (some tk) with objs:=A}:S).put d z:=fun A z=>by cases d <;> rfl
   have e5:((s.drop (some tk)).put d (y.drop tk)).objs=(s.drop (some tk)).objs:=by cases d <;> rfl
   rw[e5,e4]
   exact af8 _ _ _ (fun q hq e=>hd2 q hq (by rw[e3,← e]))
 .exact old h
def aEg {P:Program} {T:TT} {E:En} {ops:Array Oper} {s s1 s2:S} {i j:Nat} {oi oj:Oper} (hap:oi.apart ops oj=true) (hap2:∀ d,oi.dst=some d→fE oj≠some d) (hap3:∀ d,fE oj=some d→d∉oi.looksAt ops) (hl:apu oi=true) (hst:eU oj.op=true) (hg:oj.guard=none)
  (h1:dh P T E true ops s i oi=some (none,s1)) (h2:dh P T E false ops s1 j oj=some (none,s2)):∃ s',dh P T E false ops s j oj=some (none,s')∧dh P T E true ops s' i oi=some (none,s2):=by
 obtain⟨a1,a2,a3⟩:=Oper.apart_spec hap
 obtain⟨di,opi,tyi,pi,afi,gi⟩:=oi
 unfold apu at hl
 simp only at hl
 split at hl
 rotate_left
 .cases hl
 rename_i x k
 have hv:∀ s:S,dh P T E true ops s i ⟨di,.extract x k,tyi,pi,afi,none⟩=match exX k (s.ev x) with
   | some (y,t)=>if abf s.clk afi.toList t=true then some (none,(s.drop t).put di y) else none
   | none=>none:=fun s=>by
  show hJ P T E s i _=_
  unfold hJ val
  simp only[exX]
  cases s.ev x with
  | of c=>cases c <;> rfl
  | _=>rfl
 rw[hv] at h1
 split at h1
 rotate_left
 .cases h1
 rename_i y tk he
 obtain⟨rfl,_⟩:=aqR.ex _ _ _ _ he
 rw[aE (show abf s.clk afi.toList none=true from rfl)] at h1
 simp only[S.drop,dX,cX] at h1
 subst h1
 have hgo:∀ s:S,dh P T E false ops s j oj=abW P T E false s j oj:=fun s=>by
  unfold dh fI
  rw[hg]
 rw[hgo] at h2 ⊢
 obtain⟨F,s',dj,g1,g2,g3,g4,g5,g6⟩:=aFD hst (fun q hq z hz e=>a1 q hq (by
  unfold Oper.looksAt
  rw[dF]
  exact .inl (List.mem_filterMap.2 ⟨z,hz,by rw[e]⟩))) a2 hap2 h2
 refine⟨s',g1,?_⟩
 have hx:∀ q,dj=some q→x≠.tmp q:=fun q hq e=>by
  have hm:q∈(⟨di,.extract x k,tyi,pi,afi,none⟩ : Oper).looksAt ops:=by
   unfold Oper.looksAt
   rw[dF]
   exact .inl (List.mem_filterMap.2 ⟨x,by simp[Op.operands],by rw[e]⟩)
  rcases g2 with rfl|rfl
  .exact a3 q hq hm
  .exact hap3 q hq hm
 rw[hv,g5 x hx]
 obtain⟨_,q2⟩:=g3.ex _ _ _ _ he
 simp only[q2]
 rw[aE (show abf s'.clk afi.toList none=true from rfl),g6]
 rfl
def ax8 {ops:Array Oper} (hS:aix ops=true) {i:Nat} {o:Oper} (hi:ops[i]?=some o) (hin:i+1<ops.size) (hst:eU o.op=true):afH ops i=true:=by
 have:=bR.1 hS i (List.mem_range.2 (by omega))
 simp only[hi,hst,fx,dl,cA,ab,fQ] at this
 rcases this with h|h
 .omega
 .exact h
def akF {ops:Array Oper} (hS:aix ops=true) (hst:jr ops.toList=false) (i:Nat) (o:Oper) (hi:ops[i]?=some o) (h:eU o.op=true):afH ops i=true:=by
 have his:i<ops.size:=(Array.getElem?_eq_some_iff.1 hi).1
 have:=bR.1 hS i (List.mem_range.2 his)
 simp only[hi,h,hst] at this
 simpa using this
theorem arr:∀ (l:List Oper) (o:Oper),jr l=true→l[l.length-1]?=some o→eU o.op=true∧o.guard=none
 | [],o,h,_=>by cases h
 | [a],o,h,e=>by
  simp only[dN,bd,afZ,dJ,ae] at e
  subst e
  simpa [jr] using h
 | a::b::l,o,h,e=>arr (b::l) o h (by simpa using e)
section
variable {P:Program} {T:TT} {E:En} {ops:Array Oper} {Q:S→Prop}
theorem aED (hf:amh ops=true) (hS:aix ops=true) (hst:jr ops.toList=true) {i:Nat} {oi:Oper} (hi:ops[i]?=some oi) (hin:i+1<ops.size):∀ (fuel:Nat) (listed:Array Bool) (s s1:S),Dc ops listed →
  (∀ (j:Nat) (oj:Oper),ops[j]?=some oj→j≠i→listed.getD j true=false→(∀ e∈oj.after,Region.binds .any e=true→e.on≠i)→oi.apart ops oj=true) →
  i∈Region.ready .any ops listed→dh P T E true ops s i oi=some (none,s1)→aMc P T E ops Q fuel (listed.setIfInBounds i true) s1→aMc P T E ops Q (fuel+1) listed s:=by
 have hD:Dm 1 ops i=true:=cy hin
 intro fuel
 induction fuel with
 | zero =>
  intro listed s s1 _ _ hr hs H
  refine⟨fun h=>(by rw[h] at hr;cases hr),fun j hj=>?_⟩
  by_cases hji:j=i
  .subst hji;exact⟨oi,s1,hi,by rw[hD];exact hs,H⟩
  .have:=ready_mono hj hji
   rw[H.1] at this
   cases this
 | succ fuel ih =>
  intro listed s s1 hdc hfree hr hs H
  refine⟨fun h=>(by rw[h] at hr;cases hr),fun j hj=>?_⟩
  by_cases hji:j=i
  .subst hji;exact⟨oi,s1,hi,by rw[hD];exact hs,H⟩
  .obtain⟨oj,s2,hoj,hs2,H2⟩:=H.2 j (ready_mono hj hji)
   have hjun:=(mem_ready.1 hj).1
   have hiun:=(mem_ready.1 hr).1
   have hjs:j<ops.size:=(Array.getElem?_eq_some_iff.1 hoj).1
   have hji':=aaE hj hoj hiun
   have hij':=aaE hr hi hjun
   obtain⟨s',g1,g2⟩ : ∃ s',dh P T E (Dm 1 ops j) ops s j oj=some (none,s')∧dh P T E true ops s' i oi=some (none,s2):=by
    rcases ap (j+1) ops.size with g|g
    .have hDj:Dm 1 ops j=true:=cy g
     rw[hDj] at hs2 ⊢
     exact aEh (aiP hi hoj (d5 hji) hij' hji' (hfree j oj hoj hji hjun hji') (ax8 hS hi hin) (ax8 hS hoj g)) hij' hji' hs hs2
    .have hDj:Dm 1 ops j=false:=bP (by omega)
     rw[hDj] at hs2 ⊢
     obtain rfl:j=ops.size-1:=by omega
     cases hlo:ajU ops i with
     | false=>exact absurd hj (aYO hf hdc _ i (aM _) hin hlo hiun)
     | true =>
      unfold ajU at hlo
      rw[hi,hoj] at hlo
      simp only[ab] at hlo
      obtain⟨hlo,hlo2⟩:=hlo
      obtain⟨q1,q2⟩:=arr ops.toList oj hst (by simpa using hoj)
      have h3:∀ d,fE oj=some d→d∉oi.looksAt ops∧oi.dst≠some d:=fun d hd=>by
       rw[hd] at hlo2
       simp only[ab,cm,ae3,ct] at hlo2
       refine⟨fun hm=>?_,hlo2.2⟩
       have:(oi.looksAt ops).contains d=true:=by simpa using hm
       rw[this] at hlo2
       cases hlo2.1
      exact aEg (hfree _ oj hoj hji hjun hji') (fun d hd e=>(h3 d e).2 hd) (fun d hd=>(h3 d hd).1) hlo q1 q2 hs hs2
   refine⟨oj,s',hoj,g1,ih (listed.setIfInBounds j true) s' s2 (hdc.set hj) (fun k ok hk hki hun hno=>?_) (ready_mono hr (d5 hji)) g2 (by rw[iG _ _ hji];exact H2)⟩
   refine hfree k ok hk hki ?_ hno
   by_cases hjk:j=k
   .subst hjk;exact hjun
   .rw[getD_set_ne true hjk] at hun;exact hun
theorem awl (hf:amh ops=true) (hS:aix ops=true) (hst:jr ops.toList=true):∀ (l:List Oper) (n:Nat) (listed:Array Bool) (s s':S) (q:Option X),n+l.length=ops.size→(∀ j,l[j]?=ops[n+j]?)→Dc ops listed→Region.lexFrom .any ops l.length n listed=true →
  abG P T E ops n l s=some (q,s')→Q s'→q=none∧aMc P T E ops Q l.length listed s
 | [],n,listed,s,s',q,_,_,_,_,h,_=>by simp[abG] at h
 | [o],n,listed,s,s',q,hn,hl,hdc,hB,h,hQ=>by
  have h0:ops[n]?=some o:=by simpa using (hl 0).symm
  simp only[dN,Region.lexFrom,ab] at hB
  obtain⟨⟨hr,hfr⟩,hB'⟩:=hB
  have hr':n∈Region.ready .any ops listed:=by simpa using hr
  have he:Region.ready .any ops (listed.setIfInBounds n true)=[]:=by simpa using hB'
  have hD:Dm 1 ops n=false:=bP (by simp at hn;omega)
  simp only[abG] at h
  split at h
  .rename_i s2 h1
   simp only[dX] at h
   obtain⟨rfl,rfl⟩:=h
   refine⟨rfl,fun h=>(by rw[h] at hr';cases hr'),fun j hj=>?_⟩
   by_cases hji:j=n
   .subst hji;exact⟨o,s2,h0,by rw[hD];exact h1,he,hQ⟩
   .have:=ready_mono hj hji
    rw[he] at this
    cases this
  .cases h
 | o::o'::l,n,listed,s,s',q,hn,hl,hdc,hB,h,hQ=>by
  have h0:ops[n]?=some o:=by simpa using (hl 0).symm
  simp only[aB] at hB hn
  unfold Region.lexFrom at hB
  simp only[ab] at hB
  obtain⟨⟨hr,hfr⟩,hB'⟩:=hB
  have hr':n∈Region.ready .any ops listed:=by simpa using hr
  simp only[abG] at h
  split at h
  .rename_i s1 h1
   obtain⟨e1,e2⟩:=awl hf hS hst (o'::l) (n+1) _ s1 s' q (by simp only[aB];omega) (fun j=>by have:=hl (j+1);simpa [eZ,ig 1 j] using this) (hdc.set hr') hB' h hQ
   exact⟨e1,aED hf hS hst h0 (by omega) _ listed s s1 hdc (Region.free_spec h0 hfr) hr' h1 e2⟩
  .cases h
end
def ldX (T:TT) (t:Nat):X→Out
 | .of (.ref cs)=>dE ((cC T t cs).map .of)
 | _=>none
def aIY {P:Program} {T:TT} {E:En} {ops:Array Oper} {s s1 s2:S} {i j:Nat} {oi oj:Oper} (hap:oi.apart ops oj=true) (hap2:∀ d,oi.dst=some d→fE oj≠some d) (hap3:∀ d,fE oj=some d→d∉oi.looksAt ops) (hl:opK oi.op=4) (hgi:oi.guard=none) (hfz:aef s oi=true) (hst:eU oj.op=true) (hg:oj.guard=none)
  (h1:dh P T E true ops s i oi=some (none,s1)) (h2:dh P T E false ops s1 j oj=some (none,s2)):∃ s',dh P T E false ops s j oj=some (none,s')∧dh P T E true ops s' i oi=some (none,s2)∧aef s' oi=true:=by
 obtain⟨a1,a2,a3⟩:=Oper.apart_spec hap
 obtain⟨di,opi,tyi,pi,afi,gi⟩:=oi
 simp only at hgi
 subst hgi
 unfold opK at hl
 simp only at hl
 split at hl <;> first|cases hl|skip
 rename_i t x
 have hfz:∃ cs,s.ev x=.of (.ref cs):=by
  simp only[aef,opK,aDK] at hfz
  cases e:s.ev x with
  | of c=>cases c with
   | ref cs=>exact⟨cs,rfl⟩
   | _=>rw[e] at hfz;cases hfz
  | _=>rw[e] at hfz;cases hfz
 obtain⟨cs,hcs⟩:=hfz
 have hv:∀ s:S,s.ev x=.of (.ref cs)→dh P T E true ops s i ⟨di,.load t x,tyi,pi,afi,none⟩=match ldX T t (.of (.ref cs)) with
   | some (y,t)=>if abf s.clk afi.toList t=true then some (none,(s.drop t).put di y) else none
   | none=>none:=fun s e=>by
  show hJ P T E s i _=_
  unfold hJ val
  simp only[acO,e,ldX]
  rfl
 rw[hv s hcs] at h1
 split at h1
 rotate_left
 .cases h1
 rename_i y tk he
 obtain⟨c,rfl,rfl⟩ : ∃ c,y=.of c∧tk=none:=by
  simp only[ldX,dE,aP,bf] at he
  obtain⟨a,⟨c,_,rfl⟩,rfl,rfl⟩:=he
  exact⟨c,rfl,rfl⟩
 rw[aE (show abf s.clk afi.toList none=true from rfl)] at h1
 simp only[S.drop,dX,cX] at h1
 subst h1
 have hgo:∀ s:S,dh P T E false ops s j oj=abW P T E false s j oj:=fun s=>by
  unfold dh fI
  rw[hg]
 rw[hgo] at h2 ⊢
 obtain⟨F,s',dj,g1,g2,g3,g4,g5,g6⟩:=aFD hst (fun q hq z hz e=>a1 q hq (by
  unfold Oper.looksAt
  rw[dF]
  exact .inl (List.mem_filterMap.2 ⟨z,hz,by rw[e]⟩))) a2 hap2 h2
 have hx:∀ q,dj=some q→x≠.tmp q:=fun q hq e=>by
  have hm:q∈(⟨di,.load t x,tyi,pi,afi,none⟩ : Oper).looksAt ops:=by
   unfold Oper.looksAt
   rw[dF]
   exact .inl (List.mem_filterMap.2 ⟨x,by simp[Op.operands],by rw[e]⟩)
  rcases g2 with rfl|rfl
  .exact a3 q hq hm
  .exact hap3 q hq hm
 have hcs':s'.ev x=.of (.ref cs):=by rw[g5 x hx,hcs,g3.of]
 refine⟨s',g1,?_,?_⟩
 .rw[hv s' hcs',he]
  simp only
  rw[aE (show abf s'.clk afi.toList none=true from rfl),g6,g3.of]
  rfl
 .simp only[aef,opK,aDK,hcs']
  rfl
def axs {P:Program} {T:TT} {E:En} {ops:Array Oper} {s s':S} {j:Nat} {oi oj:Oper} (hap:∀ d,fE oj=some d→d∉oi.looksAt ops) (hfz:aef s oi=true) (h:dh P T E true ops s j oj=some (none,s')):aef s' oi=true:=by
 obtain⟨_,x,e,_,rfl⟩:=aeR h
 obtain⟨di,opi,tyi,pi,afi,gi⟩:=oi
 unfold aef at *
 simp only at *
 cases h4:(opK opi == 4) with
 | false=>rfl
 | true =>
  rw[h4] at hfz
  have hl:opK opi=4:=by simpa using h4
  unfold opK at hl
  split at hl <;> first|cases hl|skip
  rename_i t a
  simp only[fx,dl,aDK] at hfz ⊢
  have e1:((s.drop e).put (fE oj) x).ev a=(s.drop e).ev a:=afA _ _ _ _ fun q hq hx=>hap q hq (by
   unfold Oper.looksAt
   rw[dF]
   exact .inl (List.mem_filterMap.2 ⟨a,by simp[Op.operands],by rw[hx]⟩))
  rw[e1]
  cases ha:s.ev a with
  | of c =>
   rw[ha] at hfz
   have e2:(s.drop e).ev a=.of c:=by
    cases e with
    | none=>exact ha
    | some t=>rw[fe,ha];rfl
   rw[e2]
   exact hfz
  | _=>rw[ha] at hfz;cases hfz
def akA {ops:Array Oper} {k j:Nat} (h:ajE ops k j=true) {listed:Array Bool} (hun:listed.getD j true=false):k∉Region.ready .any ops listed:=fun hr=>by
 unfold ajE at h
 split at h
 rotate_left
 .cases h
 rename_i o ho
 simp only[aaI,ab,fQ] at h
 obtain⟨e,he,hb,rfl⟩:=h
 exact aaE hr ho hun e he hb rfl
def aQi (l:List Oper) (h:tlB l=true):2≤l.length∧∀ o,l[l.length-2]?=some o→eU o.op=true∧o.guard=none:=by
 have key:∀ (l:List Oper) (d:Nat),aiW l=some d→2≤l.length∧∀ o,l[l.length-2]?=some o→eU o.op=true∧o.guard=none:=by
  intro l
  induction l with
  | nil=>intro d h;cases h
  | cons a l ih =>
   intro d h
   cases l with
   | nil=>cases h
   | cons b l =>
    cases l with
    | nil =>
     simp only[aiW] at h
     split at h
     .rename_i hc
      simp only[ab] at hc
      refine⟨by simp,fun o ho=>?_⟩
      simp only[dN,bd,Nat.reduceAdd,afZ,dJ,ae] at ho
      subst ho
      exact⟨hc.1.1,by simpa using hc.1.2⟩
     .cases h
    | cons c l =>
     obtain⟨h1,h2⟩:=ih d h
     refine⟨by simp,fun o ho=>h2 o ?_⟩
     have e:(a::b::c::l).length-2=((b::c::l).length-2)+1:=by
      simp only[aB]
      omega
     rw[e,dK] at ho
     exact ho
 unfold tlB tlM at h
 split at h
 .rename_i d hd
  exact key l d hd
 .cases h
section
variable {P:Program} {T:TT} {E:En} {ops:Array Oper} {Q:S→Prop}
theorem anU (ht:aiw ops=true) {i:Nat} (hin:i+2<ops.size):(∀ o,ops[i]?=some o→eU o.op=false)∧(ajE ops (ops.size-2) i=true∨au6 ops i (ops.size-2)=true):=by
 unfold aiw at ht
 rw[ab] at ht
 have h1:=bR.1 ht.1 i (List.mem_range.2 (by omega))
 rw[ab,cA] at h1
 refine⟨fun o ho=>?_,h1.2⟩
 have:=h1.1
 rw[ho] at this
 simpa using this
theorem aro (ht:aiw ops=true) {j:Nat} (hin:j+1<ops.size):ajE ops (ops.size-1) j=true:=by
 unfold aiw at ht
 rw[ab] at ht
 exact bR.1 ht.2 j (List.mem_range.2 (by omega))
theorem aEB (ht:aiw ops=true) (hst:2≤ops.toList.length∧∀ o,ops.toList[ops.toList.length-2]?=some o→eU o.op=true∧o.guard=none) {i:Nat} {oi:Oper} (hi:ops[i]?=some oi) (hin:i+2<ops.size):∀ (fuel:Nat) (listed:Array Bool) (s s1:S),Dc ops listed →
  (∀ (j:Nat) (oj:Oper),ops[j]?=some oj→j≠i→listed.getD j true=false→(∀ e∈oj.after,Region.binds .any e=true→e.on≠i)→oi.apart ops oj=true) →
  i∈Region.ready .any ops listed→aef s oi=true→dh P T E true ops s i oi=some (none,s1)→aq7 2 P T E ops Q fuel (listed.setIfInBounds i true) s1→aq7 2 P T E ops Q (fuel+1) listed s:=by
 have hD:Dm 2 ops i=true:=cy hin
 intro fuel
 induction fuel with
 | zero =>
  intro listed s s1 _ _ hr hfz hs H
  refine⟨fun h=>(by rw[h] at hr;cases hr),fun j hj=>?_⟩
  by_cases hji:j=i
  .subst hji;exact⟨oi,s1,hi,by rw[hD];exact hs,H⟩
  .have:=ready_mono hj hji
   rw[H.1] at this
   cases this
 | succ fuel ih =>
  intro listed s s1 hdc hfree hr hfz hs H
  refine⟨fun h=>(by rw[h] at hr;cases hr),fun j hj=>?_⟩
  by_cases hji:j=i
  .subst hji;exact⟨oi,s1,hi,by rw[hD];exact hs,H⟩
  .obtain⟨oj,s2,hoj,hs2,H2⟩:=H.2 j (ready_mono hj hji)
   have hjun:=(mem_ready.1 hj).1
   have hiun:=(mem_ready.1 hr).1
   have hjs:j<ops.size:=(Array.getElem?_eq_some_iff.1 hoj).1
   have hji':=aaE hj hoj hiun
   have hij':=aaE hr hi hjun
   have hiS:=(anU ht hin).1 oi hi
   obtain⟨s',g1,g2,g3⟩ : ∃ s',dh P T E (Dm 2 ops j) ops s j oj=some (none,s')∧dh P T E true ops s' i oi=some (none,s2)∧aef s' oi=true:=by
    rcases ap (j+2) ops.size with g|g
    .have hDj:Dm 2 ops j=true:=cy g
     rw[hDj] at hs2 ⊢
     have hjS:=(anU ht g).1 oj hoj
     have hap:=aiP hi hoj (d5 hji) hij' hji' (hfree j oj hoj hji hjun hji') (fun h=>by rw[hiS] at h;cases h) (fun h=>by rw[hjS] at h;cases h)
     obtain⟨s',g1,g2⟩:=aEh hap hij' hji' hs hs2
     exact⟨s',g1,g2,axs hap.2.2 hfz g1⟩
    .rcases ap (j+1) ops.size with g'|g'
     .have hDj:Dm 2 ops j=false:=bP (by omega)
      rw[hDj] at hs2 ⊢
      obtain rfl:j=ops.size-2:=by omega
      rcases (anU ht hin).2 with hw|hlo
      .exact absurd hj (akA hw hiun)
      .unfold au6 at hlo
       rw[hi,hoj] at hlo
       simp only[ab,fQ] at hlo
       obtain⟨⟨hlo,hgi⟩,hlo2⟩:=hlo
       obtain⟨q1,q2⟩:=hst.2 oj (by simpa using hoj)
       have h3:∀ d,fE oj=some d→d∉oi.looksAt ops∧oi.dst≠some d:=fun d hd=>by
        rw[hd] at hlo2
        simp only[ab,cm,ae3,ct] at hlo2
        refine⟨fun hm=>?_,hlo2.2⟩
        have:(oi.looksAt ops).contains d=true:=by simpa using hm
        rw[this] at hlo2
        cases hlo2.1
       exact aIY (hfree _ oj hoj hji hjun hji') (fun d hd e=>(h3 d e).2 hd) (fun d hd=>(h3 d hd).1) hlo (by simpa using hgi) hfz q1 q2 hs hs2
     .obtain rfl:j=ops.size-1:=by omega
      exact absurd hj (akA (aro ht (by omega)) hiun)
   refine⟨oj,s',hoj,g1,ih (listed.setIfInBounds j true) s' s2 (hdc.set hj) (fun k ok hk hki hun hno=>?_) (ready_mono hr (d5 hji)) g3 g2 (by rw[iG _ _ hji];exact H2)⟩
   refine hfree k ok hk hki ?_ hno
   by_cases hjk:j=k
   .subst hjk;exact hjun
   .rw[getD_set_ne true hjk] at hun;exact hun
theorem awi (ht:aiw ops=true) (hst:2≤ops.toList.length∧∀ o,ops.toList[ops.toList.length-2]?=some o→eU o.op=true∧o.guard=none):∀ (l:List Oper) (n:Nat) (listed:Array Bool) (s s':S) (q:Option X),n+l.length=ops.size→(∀ j,l[j]?=ops[n+j]?)→Dc ops listed→Region.lexFrom .any ops l.length n listed=true →
  agI P T E ops n l s=some (q,s')→Q s'→q=none∧aq7 2 P T E ops Q l.length listed s
 | [],n,listed,s,s',q,_,_,_,_,h,_=>by simp[agI] at h
 | [o],n,listed,s,s',q,hn,hl,hdc,hB,h,hQ=>by simp[agI] at h
 | [o,o'],n,listed,s,s',q,hn,hl,hdc,hB,h,hQ=>by
  have h0:ops[n]?=some o:=by simpa using (hl 0).symm
  have h0':ops[n+1]?=some o':=by simpa using (hl 1).symm
  simp only[dN] at hn
  simp only[dN,Region.lexFrom,ab] at hB
  obtain⟨⟨hr,hfr⟩,⟨hr2,hfr2⟩,hB'⟩:=hB
  have hr':n∈Region.ready .any ops listed:=by simpa using hr
  have hr2':n+1∈Region.ready .any ops (listed.setIfInBounds n true):=by simpa using hr2
  have he:Region.ready .any ops ((listed.setIfInBounds n true).setIfInBounds (n+1) true)=[]:=by simpa using hB'
  have hD:Dm 2 ops n=false:=bP (by omega)
  have hD':Dm 2 ops (n+1)=false:=bP (by omega)
  have hun:=(mem_ready.1 hr').1
  simp only[agI] at h
  split at h
  rotate_left
  .cases h
  rename_i s1 h1
  split at h
  rotate_left
  .cases h
  rename_i s2 h2
  simp only[dX] at h
  obtain⟨rfl,rfl⟩:=h
  have hn1:n+1=ops.size-1:=by omega
  refine⟨rfl,fun h=>(by rw[h] at hr';cases hr'),fun j hj=>?_⟩
  have hjn:j=n:=by
   by_cases hji:j=n
   .exact hji
   .exfalso
    have g1:=ready_mono hj hji
    by_cases hj1:j=n+1
    .subst hj1
     rw[hn1] at hj
     exact akA (aro ht (by omega)) hun hj
    .have:=ready_mono g1 hj1
     rw[he] at this
     cases this
  subst hjn
  refine⟨o,s1,h0,by rw[hD];exact h1,fun h=>(by rw[h] at hr2';cases hr2'),fun k hk=>?_⟩
  have hkn:k=j+1:=by
   by_cases hki:k=j+1
   .exact hki
   .have:=ready_mono hk hki
    rw[he] at this
    cases this
  subst hkn
  exact⟨o',s2,h0',by rw[hD'];exact h2,he,hQ⟩
 | o::o'::o''::l,n,listed,s,s',q,hn,hl,hdc,hB,h,hQ=>by
  have h0:ops[n]?=some o:=by simpa using (hl 0).symm
  simp only[aB] at hB hn
  unfold Region.lexFrom at hB
  simp only[ab] at hB
  obtain⟨⟨hr,hfr⟩,hB'⟩:=hB
  have hr':n∈Region.ready .any ops listed:=by simpa using hr
  simp only[agI] at h
  split at h
  rotate_left
  .cases h
  rename_i hfz
  split at h
  .rename_i s1 h1
   obtain⟨e1,e2⟩:=awi ht hst (o'::o''::l) (n+1) _ s1 s' q (by simp only[aB];omega) (fun j=>by have:=hl (j+1);simpa [eZ,ig 1 j] using this) (hdc.set hr') hB' h hQ
   exact⟨e1,aEB ht hst h0 (by omega) _ listed s s1 hdc (Region.free_spec h0 hfr) hr' hfz h1 e2⟩
  .cases h
end
section
variable {P:Program} {M0:Base} {w0:World} {N:Nat}
theorem alq {m:Nat} {E:En} (horc:EnSound P M0.G E) {ops:Array Oper} (hdst:∀ (j:Nat) (o:Oper),ops[j]?=some o→afc N o=true) {Q:Exit→Act→World→Prop} {Qs:S→Prop} {k0:Know}
  (hQ:∀ s' tmps' w' k' ow' done',k0.le k'→Qs s'→Sim M0 k' ow' done' w0 w' N s' tmps'→Q .normal ⟨tmps',[]⟩ w'):∀ (fuel:Nat) (listed:Array Bool) (s:S) (w:World) (tmps:Array Value) (k:Know) (ow:Own),
  k0.le k→Sim M0 k ow (fun j=>listed.getD j true=true) w0 w N s tmps→aq7 m P (TT.of P) E ops Qs fuel listed s→wpAny P .any ops Q fuel listed ⟨tmps,[]⟩ w
 | 0,listed,s,w,tmps,k,ow,hk,hs,h=>⟨h.1,hQ s tmps w k ow _ hk h.2 hs⟩
 | fuel+1,listed,s,w,tmps,k,ow,hk,hs,h=>by
  refine⟨fun h0=>hQ s tmps w k ow _ hk (h.1 h0) hs,fun i hi=>?_⟩
  obtain⟨o,s',ho,hst,H⟩:=h.2 i hi
  have hun:=(mem_ready.1 hi).1
  refine act hs horc (by rw[hun];simp) ho (hdst i o ho) hst (fun _ tmps' w' k' ow' g1 g2=>?_) (fun x hx=>by cases hx)
  refine alq horc hdst hQ fuel _ s' w' tmps' k' ow' (Know.le_trans hk g1) (g2.more fun j hj=>?_) H
  rcases hj with hj|rfl
  .by_cases hij:i=j
   .subst hij;rw[hun] at hj;cases hj
   .rw[getD_set_ne true hij];exact hj
  .rcases ap j listed.size with g|g
   .simp[g]
   .simp[g]
end
def ajt {obj:Nat→Bool} {o:Op} (h:acF obj o=true):acF (fun _=>true) o=true:=by
 unfold acF at h ⊢
 split at h
 .rfl
 .cases h
def aWE {obj:Nat→Bool} {o:Op} (h:opK o=2):acF obj o=false:=by
 cases o <;> first|rfl|cases h
theorem alJ {obj:Nat→Bool}:∀ l:List Oper,abQ obj l≠0→abQ (fun _=>true) l=abQ obj l
 | [],h=>absurd rfl h
 | [o],h=>by
  unfold abQ at h ⊢
  by_cases hc:(acF obj o.op&&o.guard.isNone)=true
  .rw[aE hc]
   rw[ab] at hc
   rw[aE (by rw[ajt hc.1,hc.2];rfl)]
  .rw[aj hc] at h;exact absurd rfl h
 | [o,o'],h=>by
  unfold abQ at h ⊢
  by_cases hc:(acF obj o'.op&&o'.guard.isNone)=true
  .rw[aE hc]
   rw[ab] at hc
   rw[aE (by rw[ajt hc.1,hc.2];rfl)]
  .rw[aj hc] at h ⊢
   by_cases h2:(acF obj o.op&&o.guard.isNone&&(opK o'.op == 2&&o'.guard.isNone))=true
   .rw[aE h2]
    simp only[ab,fQ] at h2
    rw[aj (by rw[aWE h2.2.1];simp),aE (by simp[ajt h2.1.1,h2.1.2,h2.2.1,h2.2.2])]
   .rw[aj h2] at h;exact absurd rfl h
 | _::o::o'::l,h=>alJ (o::o'::l) h
theorem atM (obj:Nat→Bool):∀ l:List Oper,abQ obj l≠0→jr l=false
 | [],h=>rfl
 | [o],h=>by
  unfold abQ at h
  split at h
  .rename_i hc
   rw[ab] at hc
   unfold jr
   have:eU o.op=false:=by
    have h1:=hc.1
    unfold acF at h1
    split at h1
    .rename_i e;rw[e];rfl
    .cases h1
   rw[this];rfl
  .exact absurd rfl h
 | [o,o'],h=>by
  unfold abQ at h
  show jr [o']=false
  unfold jr
  have key:eU o'.op=false:=by
   split at h
   .rename_i hc
    rw[ab] at hc
    have h1:=hc.1
    unfold acF at h1
    split at h1
    .rename_i e;rw[e];rfl
    .cases h1
   .split at h
    .rename_i hc
     simp only[ab,fQ] at hc
     have h1:=hc.2.1
     generalize o'.op=q at h1
     cases q <;> first|rfl|cases h1
    .exact absurd rfl h
  rw[key];rfl
 | _::o::o'::l,h=>atM obj (o::o'::l) h
theorem arl {ops:Array Oper} {i:Nat} {listed:Array Bool} (hd:Dc ops listed):∀ (f j:Nat),wB ops i f j=true→listed.getD j false=true→listed.getD i true=true
 | 0,j,h,_=>by cases h
 | f+1,j,h,hl=>by
  unfold wB at h
  split at h
  rotate_left
  .cases h
  rename_i o ho
  simp only[aaI,ab,cA,fQ] at h
  obtain⟨e,he,hb,hc⟩:=h
  have hle:=hd j o ho (agH hl) e he hb
  rcases hc with rfl|hc
  .exact agH hle
  .exact arl hd f e.on hc hle
def atD {ops:Array Oper} {i:Nat} {listed:Array Bool} (hd:Dc ops listed) (hun:listed.getD i true=false) {f j:Nat} (h:wB ops i f j=true):j∉Region.ready .any ops listed:=fun hr=>by
 cases f with
 | zero=>cases h
 | succ f =>
  unfold wB at h
  split at h
  rotate_left
  .cases h
  rename_i o ho
  simp only[aaI,ab,cA,fQ] at h
  obtain⟨e,he,hb,hc⟩:=h
  obtain⟨_,oj,hoj,hall⟩:=mem_ready.1 hr
  obtain rfl:oj=o:=bn (hoj.symm.trans ho)
  have hle:=hall e he hb
  rcases hc with rfl|hc
  .rw[agH hle] at hun;cases hun
  .rw[arl hd f e.on hc hle] at hun;cases hun
def aIL {ops:Array Oper} {n:Nat} (hF:aDU ops n=true) {i t:Nat} (hit:i<t) (ht:t<ops.size) (hn:ops.size≤t+n):wB ops i ops.size t=true:=by
 have:=bR.1 hF t (List.mem_range.2 ht)
 simp only[cA,ar] at this
 rcases this with h|h
 .omega
 .exact bR.1 h i (List.mem_range.2 hit)
def aRn {ops:Array Oper} (hL:apw ops=true) {m j:Nat} {om oj:Oper} (hm:ops[m]?=some om) (hj:ops[j]?=some oj) (h0:aDy om.op=true) (h1:aoh oj.op=true):wB ops m ops.size j=true:=by
 have:=bR.1 hL m (List.mem_range.2 (Array.getElem?_eq_some_iff.1 hm).1)
 simp only[opP,hm,h0,fx,dl] at this
 have:=bR.1 this j (List.mem_range.2 (Array.getElem?_eq_some_iff.1 hj).1)
 simpa only [hj,h1,fx,dl] using this
def a32 {obj:Nat→Bool} {o:Op} (h:ik obj o=true):aDy o=true:=by
 unfold ik at h
 split at h
 .rw[ab] at h;exact h.1
 .cases h
def aeH {q:Option (Option X×S)} {s:S} (h:okS q=some s):q=some (none,s):=by
 unfold okS at h
 split at h
 .cases h;rfl
 .cases h
def aJW {P:Program} {T:TT} {E:En} {s:S} {ix:Nat} {o:Oper} {es:List (Value×C)} {y:X×Option Tk} (hno:aoh o.op=false) (h:val P T E {s with objs:=s.objs++[Ob.map es]} ix o=some y):val P T E s ix o=some y:=by
 cases hop:o.op with
 | load t a =>
  simp only[val,hop] at h ⊢
  have e:({s with objs:=s.objs++[Ob.map es]}:S).ev a=s.ev a:=rfl
  rw[e] at h
  cases ha:s.ev a with
  | ptr r off =>
   rw[ha] at h
   simp only[acO] at h ⊢
   rcases adF r s.objs.length with hr|hr|hr
   .rw[dA hr] at h;exact h
   .subst hr;rw[gm (aM _),afZ] at h;cases h
   .rw[dB (by simp;omega)] at h;cases h
  | of c=>rw[ha] at h;cases c <;> exact h
  | _=>rw[ha] at h;exact h
 | lookup t x i ok=>rw[hop] at hno;cases hno
 | makeFunc f a b =>
  simp only[val,hop] at h ⊢
  cases f <;> exact h
 | slice t x lo hi mx =>
  simp only[val,hop] at h ⊢
  cases mx <;> exact h
 | store t a x =>
  simp only[val,hop] at h ⊢
  cases a <;> exact h
 | _ =>
  simp only[val,hop] at h ⊢
  exact h
def aJU {P:Program} {T:TT} {E:En} {s:S} {ix:Nat} {o:Oper} {ob:Ob} {y:X×Option Tk} (h:val P T E s ix o=some y):val P T E {s with objs:=s.objs++[ob]} ix o=some y:=by
 cases hop:o.op with
 | load t a =>
  simp only[val,hop] at h ⊢
  have e:({s with objs:=s.objs++[ob]}:S).ev a=s.ev a:=rfl
  rw[e]
  cases ha:s.ev a with
  | ptr r off =>
   rw[ha] at h
   simp only[acO] at h ⊢
   rcases ap r s.objs.length with hr|hr
   .rw[dA hr];exact h
   .rw[dB hr] at h;cases h
  | of c=>rw[ha] at h;cases c <;> exact h
  | _=>rw[ha] at h;exact h
 | lookup t x i ok =>
  simp only[val,hop] at h ⊢
  have e:({s with objs:=s.objs++[ob]}:S).ev x=s.ev x:=rfl
  have e2:({s with objs:=s.objs++[ob]}:S).ev i=s.ev i:=rfl
  rw[e,e2]
  unfold jk at h ⊢
  cases hx:s.ev x with
  | mp r =>
   rw[hx] at h
   simp only[acN] at h ⊢
   rcases ap r s.objs.length with hr|hr
   .rw[dA hr];exact h
   .rw[dB hr] at h
    split at h
    .rename_i e;cases e
    .cases h
  | of c =>
   rw[hx] at h
   cases c with
   | lit v =>
    cases v with
    | map p=>cases p <;> exact h
    | _=>exact h
   | _=>exact h
  | _=>rw[hx] at h;exact h
 | makeFunc f a b =>
  simp only[val,hop] at h ⊢
  cases f <;> exact h
 | slice t x lo hi mx =>
  simp only[val,hop] at h ⊢
  cases mx <;> exact h
 | store t a x =>
  simp only[val,hop] at h ⊢
  cases a <;> exact h
 | _ =>
  simp only[val,hop] at h ⊢
  exact h
def aZ5 {P:Program} {T:TT} {E:En} {ops:Array Oper} {s:S} {ix:Nat} {o:Oper} {es:List (Value×C)} {x:X} {e:Option Tk} (hno:aoh o.op=false) (h:Y P T E ops {s with objs:=s.objs++[Ob.map es]} ix o x e):Y P T E ops s ix o x e:=by
 rcases h with ⟨h1,h2,h3⟩|⟨h1,h2,h3⟩
 .exact .inl ⟨h1,aJW hno h2,h3⟩
 .exact .inr ⟨h1,h2,h3⟩
def aZ4 {P:Program} {T:TT} {E:En} {ops:Array Oper} {s:S} {ix:Nat} {o:Oper} {ob:Ob} {x:X} {e:Option Tk} (h:Y P T E ops s ix o x e):Y P T E ops {s with objs:=s.objs++[ob]} ix o x e:=by
 rcases h with ⟨h1,h2,h3⟩|⟨h1,h2,h3⟩
 .exact .inl ⟨h1,aJU h2,h3⟩
 .exact .inr ⟨h1,h2,h3⟩
def auW {s:S} {d d':Option Nat} {ej:Option Tk} {xj:X} {es:List (Value×C)} (hd:∀ j,d'=some j→d≠some j) :
  ((({s with objs:=s.objs++[Ob.map es]}:S).put d (.mp s.objs.length)).drop ej).put d' xj={(s.drop ej).put d' xj with objs:=((s.drop ej).put d' xj).objs++[Ob.map es]}.put d (.mp ((s.drop ej).put d' xj).objs.length):=by
 have e1:(({s with objs:=s.objs++[Ob.map es]}:S).put d (.mp s.objs.length)).drop ej=({s.drop ej with objs:=(s.drop ej).objs++[Ob.map es]}:S).put d (.mp s.objs.length):=by
  cases ej with
  | none=>rfl
  | some t =>
   rw[agV]
   simp only[S.drop,fV,aV,bC,Ob.drop,X.drop]
 have e2:((s.drop ej).put d' xj).objs.length=s.objs.length:=by
  cases ej <;> cases d' <;> simp[S.put,S.drop]
 have e3:({(s.drop ej).put d' xj with objs:=((s.drop ej).put d' xj).objs++[Ob.map es]}:S)=({s.drop ej with objs:=(s.drop ej).objs++[Ob.map es]}:S).put d' xj:=by
  cases d' <;> rfl
 rw[e1,e2,e3,af8 _ _ _ (fun d h=>hd d h)]
def aLd {P:Program} {T:TT} {E:En} {ops:Array Oper} {s s1 s2:S} {j:Nat} {o0 oj:Oper} (hap:aji ops o0 oj) (hE:fE o0=o0.dst) (hno:aoh oj.op=false)
  (h1:mkS P E s o0=some s1) (h2:dh P T E true ops s1 j oj=some (none,s2)):∃ s',dh P T E true ops s j oj=some (none,s')∧mkS P E s' o0=some s2:=by
 obtain⟨a1,a2,a3⟩:=hap
 rw[hE] at a1 a2
 unfold mkS at h1
 simp only[aP] at h1
 obtain⟨es,he,rfl⟩:=h1
 obtain⟨_,xj,ej,yj,rfl⟩:=aeR h2
 have yj1:=aZ5 hno ((ap8 (fun d hd=>a1 d hd)).1 yj)
 refine⟨(s.drop ej).put (fE oj) xj,ahs yj1,?_⟩
 unfold mkS
 rw[he]
 simp only[bH,ae]
 exact (auW fun d hd e=>a2 d e hd).symm
def aG0 {P:Program} {T:TT} {E:En} {ops:Array Oper} {s s1 s2:S} {i:Nat} {oi o0:Oper} (hap:aji ops oi o0) (hE:fE o0=o0.dst)
  (h1:dh P T E true ops s i oi=some (none,s1)) (h2:mkS P E s1 o0=some s2):∃ s',mkS P E s o0=some s'∧dh P T E true ops s' i oi=some (none,s2):=by
 obtain⟨a1,a2,a3⟩:=hap
 rw[hE] at a2 a3
 obtain⟨_,xi,ei,yi,rfl⟩:=aeR h1
 unfold mkS at h2
 simp only[aP] at h2
 obtain⟨es,he,rfl⟩:=h2
 refine⟨({s with objs:=s.objs++[Ob.map es]}:S).put o0.dst (.mp s.objs.length),by unfold mkS;rw[he];rfl,?_⟩
 rw[ahs ((ap8 (fun d hd=>a3 d hd)).2 (aZ4 yi)),auW fun d hd e=>a2 d hd e]
def awk (P:Program) (T:TT) (E:En) (ops:Array Oper) (n:Nat) (Q:S→Prop):Nat→Array Bool→S→Prop
 | 0,listed,s=>Region.ready .any ops listed=[]∧Q s
 | fuel+1,listed,s=>(Region.ready .any ops listed=[]→Q s) ∧
  ∀ i∈Region.ready .any ops listed,∃ o s',ops[i]?=some o∧stX P T E ops (decide (ops.size≤i+n)) s i o=some s'∧awk P T E ops n Q fuel (listed.setIfInBounds i true) s'
section
variable {P:Program} {T:TT} {E:En} {ops:Array Oper} {Q:S→Prop} {n:Nat}
theorem aEC (hF:aDU ops n=true) (hL:apw ops=true) (hS:∀ (i:Nat) (o:Oper),ops[i]?=some o→eU o.op=true→afH ops i=true) {i:Nat} {oi:Oper} (hi:ops[i]?=some oi):∀ (fuel:Nat) (listed:Array Bool) (s s1:S),Dc ops listed →
  (∀ (j:Nat) (oj:Oper),ops[j]?=some oj→j≠i→listed.getD j true=false→(∀ e∈oj.after,Region.binds .any e=true→e.on≠i)→oi.apart ops oj=true) →
  (i+n<ops.size→kM E.obj oi=true→∀ (j:Nat) (oj:Oper),ops[j]?=some oj→j≠i→listed.getD j true=false→j+n<ops.size→kM E.obj oj=false) →
  (ops.size≤i+n→∀ k,k<i→listed.getD k true=true) →
  i∈Region.ready .any ops listed→stX P T E ops (decide (ops.size≤i+n)) s i oi=some s1→awk P T E ops n Q fuel (listed.setIfInBounds i true) s1→awk P T E ops n Q (fuel+1) listed s:=by
 intro fuel
 induction fuel with
 | zero =>
  intro listed s s1 _ _ _ _ hr hs H
  refine⟨fun h=>(by rw[h] at hr;cases hr),fun j hj=>?_⟩
  by_cases hji:j=i
  .subst hji;exact⟨oi,s1,hi,hs,H⟩
  .have:=ready_mono hj hji
   rw[H.1] at this
   cases this
 | succ fuel ih =>
  intro listed s s1 hdc hfree hone hpre hr hs H
  refine⟨fun h=>(by rw[h] at hr;cases hr),fun j hj=>?_⟩
  by_cases hji:j=i
  .subst hji;exact⟨oi,s1,hi,hs,H⟩
  .obtain⟨oj,s2,hoj,hs2,H2⟩:=H.2 j (ready_mono hj hji)
   have hjun:=(mem_ready.1 hj).1
   have hiun:=(mem_ready.1 hr).1
   have hjs:j<ops.size:=(Array.getElem?_eq_some_iff.1 hoj).1
   have hji':=aaE hj hoj hiun
   have hij':=aaE hr hi hjun
   have hti:i+n<ops.size:=by
    rcases ap (i+n) ops.size with g|g
    .exact g
    .exfalso
     rcases adF j i with h|h|h
     .rw[hpre g j h] at hjun;cases hjun
     .exact hji h
     .exact atD hdc hiun (aIL hF h hjs (by omega)) hj
   have htj:j+n<ops.size:=by
    rcases ap (j+n) ops.size with g|g
    .exact g
    .exact absurd hj (atD hdc hiun (aIL hF (by omega) hjs g))
   have hdi:decide (ops.size≤i+n)=false:=bP (by omega)
   have hdj:decide (ops.size≤j+n)=false:=bP (by omega)
   have hap:=aiP hi hoj (d5 hji) hij' hji' (hfree j oj hoj hji hjun hji') (hS i oi hi) (hS j oj hoj)
   obtain⟨s',g1,g2⟩ : ∃ s',stX P T E ops (decide (ops.size≤j+n)) s j oj=some s'∧stX P T E ops (decide (ops.size≤i+n)) s' i oi=some s2:=by
    rw[hdj] at hs2 ⊢
    rw[hdi] at hs ⊢
    simp only[stX,aW,aQ] at hs hs2 ⊢
    have mkd:∀ o:Oper,kM E.obj o=true→fE o=o.dst:=fun o h=>by
     unfold kM at h
     rw[ab] at h
     exact afd (aNu h.1)
    cases ki:kM E.obj oi with
    | true =>
     have kj:=hone hti ki j oj hoj hji hjun htj
     rw[ki] at hs
     rw[kj] at hs2 ⊢
     simp only[aA,aW,aQ] at hs hs2 ⊢
     have hno:aoh oj.op=false:=by
      cases hl:aoh oj.op with
      | false=>rfl
      | true =>
       have h0:aDy oi.op=true:=by unfold kM at ki;rw[ab] at ki;exact a32 ki.1
       exact absurd hj (atD hdc hiun (aRn hL hi hoj h0 hl))
     obtain⟨s',g1,g2⟩:=aLd hap (mkd oi ki) hno hs (aeH hs2)
     exact⟨s',by rw[g1];rfl,g2⟩
    | false =>
     rw[ki] at hs
     simp only[aW,aQ] at hs ⊢
     cases kj:kM E.obj oj with
     | true =>
      rw[kj] at hs2
      simp only[aA] at hs2 ⊢
      obtain⟨s',g1,g2⟩:=aG0 hap (mkd oj kj) (aeH hs) hs2
      exact⟨s',g1,by rw[g2];rfl⟩
     | false =>
      rw[kj] at hs2
      simp only[aW,aQ] at hs2 ⊢
      obtain⟨s',g1,g2⟩:=aEh hap hij' hji' (aeH hs) (aeH hs2)
      exact⟨s',by rw[g1];rfl,by rw[g2];rfl⟩
   have hun':∀ k,(listed.setIfInBounds j true).getD k true=false→listed.getD k true=false:=fun k hk=>by
    by_cases hjk:j=k
    .subst hjk;exact hjun
    .rw[getD_set_ne true hjk] at hk;exact hk
   refine⟨oj,s',hoj,g1,ih (listed.setIfInBounds j true) s' s2 (hdc.set hj) (fun k ok hk hki hun hno=>hfree k ok hk hki (hun' k hun) hno) (fun h1 h2 k ok hk hki hun h3=>hone h1 h2 k ok hk hki (hun' k hun) h3) (fun h1=>absurd h1 (by omega)) (ready_mono hr (d5 hji)) g2 (by rw[iG _ _ hji];exact H2)⟩
theorem avD:∀ (l:List Oper) (k:Nat) (s s':S),evD P T E ops n k true l s=some s'→∀ (j:Nat) (o:Oper),l[j]?=some o→j+n<l.length→kM E.obj o=false
 | [],k,s,s',h,j,o,hj,_=>by simp at hj
 | a::l,k,s,s',h,j,o,hj,hn=>by
  unfold evD at h
  split at h
  .cases h
  rename_i hc
  split at h
  rotate_left
  .cases h
  rename_i s1 h1
  rw[dw] at h
  cases j with
  | zero =>
   simp only[dJ,ae] at hj
   subst hj
   simp only[aB] at hn
   cases hk:kM E.obj a with
   | false=>rfl
   | true=>exact absurd (by simp[hk];omega) hc
  | succ j=>exact avD l (k+1) s1 s' h j o (by simpa using hj) (by simp only[aB] at hn;omega)
theorem awj (hF:aDU ops n=true) (hL:apw ops=true) (hS:∀ (i:Nat) (o:Oper),ops[i]?=some o→eU o.op=true→afH ops i=true):∀ (l:List Oper) (k:Nat) (b:Bool) (listed:Array Bool) (s s':S),k+l.length=ops.size→(∀ j,l[j]?=ops[k+j]?)→Dc ops listed→(∀ j,j<k→listed.getD j true=true)→Region.lexFrom .any ops l.length k listed=true →
  evD P T E ops n k b l s=some s'→Q s'→awk P T E ops n Q l.length listed s
 | [],k,b,listed,s,s',_,_,_,_,hB,h,hQ=>by
  simp only[evD,ae] at h
  subst h
  exact⟨by simpa [Region.lexFrom] using hB,hQ⟩
 | o::l,k,b,listed,s,s',hk,hl,hdc,hpre,hB,h,hQ=>by
  have h0:ops[k]?=some o:=by simpa using (hl 0).symm
  simp only[aB,Region.lexFrom,ab] at hB
  obtain⟨⟨hr,hf⟩,hB'⟩:=hB
  simp only[aB] at hk
  have hr':k∈Region.ready .any ops listed:=by simpa using hr
  have hdec:decide (l.length<n)=decide (ops.size≤k+n):=fO.2 (by omega)
  unfold evD at h
  split at h
  .cases h
  rename_i hb
  split at h
  rotate_left
  .cases h
  rename_i s1 h1
  have hset:∀ j,j<k+1→(listed.setIfInBounds k true).getD j true=true:=fun j hj=>by
   by_cases hjk:k=j
   .subst hjk
    rcases ap k listed.size with g|g
    .simp[g]
    .simp[g]
   .rw[getD_set_ne true hjk];exact hpre j (by omega)
  rw[hdec] at h1
  refine aEC hF hL hS h0 l.length listed s s1 hdc (Region.free_spec h0 hf) (fun g1 g2 j oj hoj hji hun hjn=>?_) (fun _=>hpre) hr' h1
   (awj hF hL hS l (k+1) _ _ s1 s' (by omega) (fun j=>by have:=hl (j+1);simpa [eZ,ig 1 j] using this) (hdc.set hr') hset hB' h hQ)
  have hjk:k<j:=by
   rcases adF j k with h|h|h
   .rw[hpre j h] at hun;cases hun
   .exact absurd h hji
   .exact h
  have e:decide (l.length<n)=false:=bP (by omega)
  rw[e,g2,eh,aX,fg] at h
  refine avD l (k+1) s1 s' h (j-(k+1)) oj ?_ (by omega)
  have:=hl (j-k)
  rw[show j-k=(j-(k+1))+1 by omega,dK] at this
  rw[this,← hoj]
  congr 1
  omega
end
section
variable {P:Program} {M0:Base} {w0:World} {N:Nat}
theorem ap6 {n:Nat} {E:En} (horc:EnSound P M0.G E) {ops:Array Oper} (hdst:∀ (j:Nat) (o:Oper),ops[j]?=some o→afc N o=true) {Q:Exit→Act→World→Prop} {Qs:S→Prop} {k0:Know}
  (hQ:∀ s' tmps' w' k' ow' done',k0.le k'→Qs s'→Sim M0 k' ow' done' w0 w' N s' tmps'→Q .normal ⟨tmps',[]⟩ w'):∀ (fuel:Nat) (listed:Array Bool) (s:S) (w:World) (tmps:Array Value) (k:Know) (ow:Own),
  k0.le k→Sim M0 k ow (fun j=>listed.getD j true=true) w0 w N s tmps→awk P (TT.of P) E ops n Qs fuel listed s→wpAny P .any ops Q fuel listed ⟨tmps,[]⟩ w
 | 0,listed,s,w,tmps,k,ow,hk,hs,h=>⟨h.1,hQ s tmps w k ow _ hk h.2 hs⟩
 | fuel+1,listed,s,w,tmps,k,ow,hk,hs,h=>by
  refine⟨fun h0=>hQ s tmps w k ow _ hk (h.1 h0) hs,fun i hi=>?_⟩
  obtain⟨o,s',ho,hst,H⟩:=h.2 i hi
  have hun:=(mem_ready.1 hi).1
  obtain⟨dr,hst⟩ : ∃ dr,dh P (TT.of P) E dr ops s i o=some (none,s'):=by
   unfold stX at hst
   split at hst
   .exact⟨false,aeH hst⟩
   .split at hst
    .rename_i hk;exact⟨false,aqH (by unfold kM at hk;exact hk) hst⟩
    .exact⟨true,aeH hst⟩
  refine act (dr:=dr) hs horc (by rw[hun];simp) ho (hdst i o ho) hst (fun _ tmps' w' k' ow' g1 g2=>?_) (fun x hx=>by cases hx)
  refine ap6 horc hdst hQ fuel _ s' w' tmps' k' ow' (Know.le_trans hk g1) (g2.more fun j hj=>?_) H
  rcases hj with hj|rfl
  .by_cases hij:i=j
   .subst hij;rw[hun] at hj;cases hj
   .rw[getD_set_ne true hij];exact hj
  .rcases ap j listed.size with g|g
   .simp[g]
   .simp[g]
end
section
variable {P:Program} {M0:Base} {w0:World} {N:Nat}
theorem alX (hm:P.follows .mixedOrders=true) {E:En} (horc:EnSound P M0.G E) {id:Nat} {ops:Array Oper} {draw:Bool} (hok:aCN N ops draw=true) {s:S} {q:Option X} {s':S} {w:World} {tmps:Array Value} {k:Know} {ow:Own}
  (hs:Sim M0 k ow (fun _=>False) w0 w N s tmps) (h:evR P (TT.of P) E draw ops s=some (q,s')) {Q:Exit→Act→World→Prop}
  (hQ:q=none→∀ tmps' w' k' ow',k.le k'→Sim M0 k' ow' (fun _=>False) w0 w' N {s' with clk:=s'.clk+1} tmps'→Q .normal ⟨tmps',[]⟩ w')
  (hP:∀ x,q=some x→∀ v tmps' w' k' ow',k.le k'→Sim M0 k' ow' (fun _=>False) w0 w' N {s' with clk:=s'.clk+1} tmps'→bj k' ow' x v→Q (.panic [{v:=v,recovered:=false}]) ⟨tmps',[]⟩ w'):(Code.region id ops draw).wp P Q ⟨tmps,[]⟩ w:=by
 unfold aCN at hok
 simp only[ab,cA,cm] at hok
 obtain⟨hd,hok⟩:=hok
 have hdst:∀ o∈ops.toList,afc N o=true:=fun o ho=>by
  rw[Array.all_eq_true_iff_forall_mem] at hd
  exact hd o (by simpa using ho)
 cases draw with
 | false =>
  have h:abD P (TT.of P) E false ops 0 ops.toList s=some (q,s'):=by simpa [evR] using h
  refine wp_region ?_
  rw[List.range_eq_range',← fy]
  exact anO horc ops.toList 0 s w tmps k ow _ (by simp) hdst (fun j hj=>hj.elim) hs h (fun he tmps' w' k' ow' done' g1 g2=>hQ he tmps' w' k' ow' g1 g2.tick) (fun x he v tmps' w' k' ow' done' g1 g2 g3=>hP x he v tmps' w' k' ow' g1 g2.tick g3)
 | true =>
  simp only[abT,fz] at hok
  obtain⟨⟨hlex,hfed,hlk⟩,hok⟩:=hok
  unfold Region.lexB at hlex
  simp only[ab] at hlex
  have hb:Below w.heap.size w {w with drawn:=w.drawn+1}:=⟨rfl,rfl,rfl,aM _,fun _ _=>rfl⟩
  have h2:=(hs.grow hb).more (done':=fun j=>(Array.replicate ops.size false).getD j true=true) (fun _ h=>h.elim)
  have hd':∀ (j:Nat) (o:Oper),ops[j]?=some o→afc N o=true:=fun j o ho=>hdst o (by simpa using acq ho)
  unfold evR at h
  simp only[aX] at h
  by_cases htl:tlB ops.toList=true
  .rw[aE htl] at h hok
   have hdc:Dc ops (Array.replicate ops.size false):=fun k o hk hl=>by
    have hks:k<ops.size:=(Array.getElem?_eq_some_iff.1 hk).1
    simp[hks] at hl
   obtain⟨rfl,h1⟩:=awi (P:=P) (T:=TT.of P) (E:=E) (Q:=fun t=>t=s') hok (aQi _ htl) ops.toList 0 (Array.replicate ops.size false) s s' q (by simp) (by simp) hdc (by simpa using hlex.2) h rfl
   refine wp_region_any hm ?_
   have h3:=alq (m:=2) (P:=P) horc hd' (Q:=Q) (Qs:=fun t=>t=s') (k0:=k) (fun t tmps' w' k' ow' done' g1 g2 g3=>by subst g2;exact hQ rfl tmps' w' k' ow' g1 g3.tick) _ _ s _ tmps k ow (Know.le_refl k) h2 h1
   simpa using h3
  rw[aj htl] at h
  simp only[htl,aW,aQ,ab,cA,cm] at hok
  obtain⟨hS,hfd⟩:=hok
  by_cases htn:(!(abQ E.obj ops.toList == 0))=true
  .rw[aE htn] at h
   have hne:abQ E.obj ops.toList≠0:=by simpa using htn
   rw[alJ _ hne] at hfed
   simp only[aP,bf] at h
   obtain⟨t,ht,rfl,rfl⟩:=h
   have hst:=atM _ _ hne
   have hdc:Dc ops (Array.replicate ops.size false):=fun k o hk hl=>by
    have hks:k<ops.size:=(Array.getElem?_eq_some_iff.1 hk).1
    simp[hks] at hl
   have h1:=awj (P:=P) (T:=TT.of P) (E:=E) (Q:=fun u=>u=t) hfed hlk (akF hS hst) ops.toList 0 false (Array.replicate ops.size false) s t (by simp) (by simp) hdc (fun j hj=>absurd hj (by omega)) (by simpa using hlex.2) ht rfl
   refine wp_region_any hm ?_
   have h3:=ap6 (P:=P) horc hd' (Q:=Q) (Qs:=fun u=>u=t) (k0:=k) (fun t tmps' w' k' ow' done' g1 g2 g3=>by subst g2;exact hQ rfl tmps' w' k' ow' g1 g3.tick) _ _ s _ tmps k ow (Know.le_refl k) h2 h1
   simpa using h3
  rw[aj htn] at h
  split at h
  .rename_i hsp
   unfold alb at h
   split at h
   .rename_i hst
    have hfeed:amh ops=true:=by
     rcases hfd with h'|h'
     .rw[hst] at h';cases h'
     .exact h'
    have hdc:Dc ops (Array.replicate ops.size false):=fun k o hk hl=>by
     have hks:k<ops.size:=(Array.getElem?_eq_some_iff.1 hk).1
     simp[hks] at hl
    obtain⟨rfl,h1⟩:=awl (P:=P) (T:=TT.of P) (E:=E) (Q:=fun t=>t=s') hfeed hS hst ops.toList 0 (Array.replicate ops.size false) s s' q (by simp) (by simp) hdc (by simpa using hlex.2) h rfl
    refine wp_region_any hm ?_
    have h3:=alq (m:=1) (P:=P) horc hd' (Q:=Q) (Qs:=fun t=>t=s') (k0:=k) (fun t tmps' w' k' ow' done' g1 g2 g3=>by subst g2;exact hQ rfl tmps' w' k' ow' g1 g3.tick) _ _ s _ tmps k ow (Know.le_refl k) h2 h1
    simpa using h3
   .rename_i hst
    have hst:jr ops.toList=false:=by simpa using hst
    have hmk:agZ E.obj ops.toList=true:=by
     unfold spB at hsp
     rw[hst,e7] at hsp
     exact hsp
    split at h
    rotate_left
    .cases h
    rename_i o r hl
    split at h
    rotate_left
    .cases h
    rename_i s1 hm1
    obtain rfl:=alc _ _ _ _ _ h
    rw[hl] at hmk
    simp only[agZ] at hmk
    have hsz:ops.size=r.length+1:=by rw[← fy,hl];rfl
    have h0:ops[0]?=some o:=by
     have:ops.toList[0]?=some o:=by rw[hl];rfl
     simpa using this
    have hlex2:=hlex.2
    rw[hsz] at hlex2
    unfold Region.lexFrom at hlex2
    simp only[ab] at hlex2
    obtain⟨⟨hr,hfr⟩,hB'⟩:=hlex2
    refine wp_region_any hm ?_
    have h1:=aow (P:=P) (T:=TT.of P) (E:=E) (Q:=fun t=>t=s') (akF hS hst) r 1 ((Array.replicate (r.length+1) false).setIfInBounds 0 true) s1 s' (fun j=>by
     have:ops.toList[1+j]?=r[j]?:=by rw[hl,ig,dK]
     rw[← this];simp) (by simpa using hB') h rfl
    rw[hsz] at h2 ⊢
    exact aLc (P:=P) horc (akF hS hst) hd' (Q:=Q) (Qs:=fun t=>t=s') (k0:=k) (fun t tmps' w' k' ow' done' g1 g2 g3=>by subst g2;exact hQ rfl tmps' w' k' ow' g1 g3.tick) h0 hmk r.length _ s s1 _ tmps k ow (Know.le_refl k) h2 (Region.free_spec h0 hfr) (by simpa using hr) hm1 h1
  .rename_i hsp
   have hst:jr ops.toList=false:=by
    unfold spB at hsp
    cases h':jr ops.toList with
    | false=>rfl
    | true=>rw[h',fg] at hsp;exact absurd rfl hsp
   obtain rfl:=alc _ _ _ _ _ h
   refine wp_region_any hm ?_
   have h1:=aow (P:=P) (T:=TT.of P) (E:=E) (Q:=fun t=>t=s') (akF hS hst) ops.toList 0 (Array.replicate ops.size false) s s' (by simp) (by simpa using hlex.2) h rfl
   have h3:=aid (P:=P) horc hd' (Q:=Q) (Qs:=fun t=>t=s') (k0:=k) (fun t tmps' w' k' ow' done' g1 g2 g3=>by subst g2;exact hQ rfl tmps' w' k' ow' g1 g3.tick) _ _ s _ tmps k ow (Know.le_refl k) h2 h1
   simpa using h3
end
end Go.Pe

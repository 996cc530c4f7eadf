/-
  An abstract machine for Go code over plain data: a region that draws its order: the order of the text serves. Conditions: none.
-/
import Derived.Test.YtjajlmjfddohfaaGreatDoorPa2
set_option linter.defProp false
set_option linter.unusedSectionVars false
set_option maxRecDepth 100000
set_option maxHeartbeats 32000000
namespace Go.Pe
open Go.RowKit
section
variable {P:Program} {M0:Base} {k:Know} {ow:Own} {done:Nat→Prop} {w0 w:World} {N:Nat} {s:S} {tmps:Array Value}
theorem Sim.newOb (h:Sim M0 k ow done w0 w N s tmps) {ob:Ob} (o:Obj) (hob:∀ k' w',k.le k'→w'.heap[w.heap.size]?=some o→j9 k' ow w' w.heap.size ob) :
  ∃ k',k.le k'∧k'.μ s.objs.length=some w.heap.size∧Sim M0 k' ow done w0 (w.alloc o) N {s with objs:=s.objs++[ob]} tmps:=by
 let k':Know:={m:=k.m,μ:=fun r=>if r=s.objs.length then some w.heap.size else k.μ r}
 have hle:k.le k':=⟨fun _ _ _ h=>h,fun r b hr=>by
  have:=h.dom r b hr
  show (if r=s.objs.length then some w.heap.size else k.μ r)=some b
  rw[if_neg (by omega)];exact hr⟩
 have hb:Below w.heap.size w (w.alloc o):=(Below.refl _ _).alloc (Nat.le_refl _) _
 have hg:=h.grow hb
 refine⟨k',hle,by simp[k'],?_⟩
 exact {
  good:=hg.good
  size:=hg.size
  below:=hg.below
  fr:=fun j=>aF.mono hle (fun _ _ h=>h) _ _ (hg.fr j)
  mem:=hg.mem
  obj:=fun r ob' hr=>by
   by_cases hlast:r=s.objs.length
   .subst hlast
    simp at hr
    subst hr
    refine⟨w.heap.size,by simp[k'],.inl h.below.size,by simp,fun o'=>?_,hob _ _ hle (heap_alloc_new w _)⟩
    show k.m w.heap.size o'=none
    cases hm:k.m w.heap.size o' with
    | none=>rfl
    | some u=>have:=ahM h.mem hm;omega
   .have hr':s.objs[r]?=some ob':=by
     rcases Nat.lt_or_ge r s.objs.length with g|g
     .rwa [List.getElem?_append_left g] at hr
     .rw[List.getElem?_append_right g] at hr
      have:r-s.objs.length≠0:=by omega
      obtain⟨q,hq⟩:=Nat.exists_eq_succ_of_ne_zero this
      rw[hq] at hr
      simp at hr
    obtain⟨b,g1,g2,g3,g4,g5⟩:=hg.obj r ob' hr'
    exact⟨b,hle.2 _ _ g1,g2,g3,g4,g5.mono hle (fun _ _ h=>h)⟩
  dom:=fun r b hr=>by
   simp only[k'] at hr
   simp only[List.length_append,List.length_singleton]
   split at hr
   .omega
   .have:=h.dom r b hr;omega
  inj:=fun r r' b hr hr'=>by
   simp only[k'] at hr hr'
   split at hr
   .split at hr'
    .omega
    .have:=(h.lt hr').2.1
     have:=Option.some.inj hr
     omega
   .split at hr'
    .have:=(h.lt hr).2.1
     have:=Option.some.inj hr'
     omega
    .exact h.inj r r' b hr hr'
  tok:=fun t v e z n ht=>by
   obtain⟨g1,g2⟩:=hg.tok t v e z n ht
   refine⟨g1,fun g hgo=>⟨(g2 g hgo).1,(g2 g hgo).2.1,fun r hr=>?_⟩⟩
   simp only[k'] at hr
   split at hr
   .have:=(h.tlt ht hgo).2
    have:=Option.some.inj hr
    omega
   .exact (g2 g hgo).2.2 r hr
  tokne:=hg.tokne
  fresh:=hg.fresh
  cells:=fun r off p ht=>by
   have:=h.cells r off p ht
   simp only[List.length_append,List.length_singleton]
   omega
  m0:=hg.m0}
theorem Sim.newVar (h:Sim M0 k ow done w0 w N s tmps) {xs:List X} {vs:List Value} (ty:TypeId) (hx:aP k ow xs vs) (h1:∀ u∈vs,u.oneCell'=true) :
  ∃ k',k.le k'∧k'.μ s.objs.length=some w.heap.size∧Sim M0 k' ow done w0 (w.alloc (.cells vs.toArray ty)) N {s with objs:=s.objs++[Ob.var ty xs]} tmps :=
 h.newOb _ fun _ _ hle hh=>⟨vs,hh,h1,aP.mono hle (fun _ _ h=>h) _ _ hx⟩
theorem Sim.made (hs:Sim M0 k ow done w0 w N s tmps) {tk:Tk} {b t z d:Nat} {vs:List Value} {xs:List X} {cur:Array Value} (hk:ow tk=some (.slice (some ⟨b,0,none⟩) 0 1,t,z,0)) (hv:tmps.getD d undef=.pointer (some ⟨b,0,none⟩))
  (hr:aP k ow xs vs) (h1:∀ u∈vs,u.oneCell'=true) (hh:w.heap[b]?=some (.cells cur t (0,0))) :
  ∃ k',k.le k'∧Sim M0 k' (ow.del tk) done w0 (w.setRow b vs.toArray) N (ai0 (s.drop (some tk)) d t (X.drops tk xs)) tmps:=by
 have h:=hs.del tk
 have htok:=(hs.tok _ _ _ _ _ hk).2 b rfl
 obtain⟨q1,q2,q3⟩:=htok
 have hbl:b<w.heap.size:=(Array.getElem?_eq_some_iff.1 hh).1
 let k':Know:={m:=k.m,μ:=fun r=>if r=s.objs.length then some b else k.μ r}
 have hle:k.le k':=⟨fun _ _ _ h=>h,fun r b' hr=>by
  have:=hs.dom r b' hr
  show (if r=s.objs.length then some b else k.μ r)=some b'
  rw[if_neg (by omega)];exact hr⟩
 have hmb:∀ o,k.m b o=none:=fun o=>q2 o (by omega)
 have hlen:(s.drop (some tk)).objs.length=s.objs.length:=by simp[S.drop]
 have hoth:∀ c,c≠b→(w.setRow b vs.toArray).heap[c]?=w.heap[c]?:=fun c hc=>setRow_other w b c _ hc
 have hsz:(w.setRow b vs.toArray).heap.size=w.heap.size:=by simp[World.setRow]
 have hS:Sim M0 k' (ow.del tk) done w0 (w.setRow b vs.toArray) N {s.drop (some tk) with objs:=(s.drop (some tk)).objs++[Ob.var t (X.drops tk xs)]} tmps:={
  good:=h.good
  size:=h.size
  below:=⟨h.below.os,h.below.tape,h.below.output,by rw[hsz];exact h.below.size,fun b' hb' hm=>by
   rw[hoth b' (fun e=>by subst e;rcases q1 with q|q;omega;exact hm q)]
   exact h.below.block b' hb' hm⟩
  fr:=fun j=>aF.mono hle (fun _ _ h=>h) _ _ (h.fr j)
  mem:=fun b' o v hm=>by
   have hne:b'≠b:=fun e=>by subst e;rw[show k'.m b' o=k.m b' o from rfl,hmb] at hm;cases hm
   obtain⟨g1,g2⟩:=h.mem b' o v hm
   exact⟨(World.cell?_of_block (a:=⟨b',o,none⟩) (hoth b' hne)).trans g1,g2⟩
  obj:=fun r ob' hr'=>by
   by_cases hlast:r=s.objs.length
   .subst hlast
    rw[List.getElem?_append_right (by rw[hlen];exact Nat.le_refl _),hlen] at hr'
    simp at hr'
    subst hr'
    exact⟨b,by simp[k'],q1,by rw[hsz];exact hbl,hmb,vs,setRow_heap w b cur _ t (0,0) hh,h1,aP.mono hle (fun _ _ h=>h) _ _ (aP.drop tk _ _ hr)⟩
   .have hr2:(s.drop (some tk)).objs[r]?=some ob':=by
     rcases Nat.lt_or_ge r (s.drop (some tk)).objs.length with g|g
     .rwa [List.getElem?_append_left g] at hr'
     .rw[List.getElem?_append_right g] at hr'
      have:r-(s.drop (some tk)).objs.length≠0:=by omega
      obtain⟨q,hq⟩:=Nat.exists_eq_succ_of_ne_zero this
      rw[hq] at hr'
      simp at hr'
    obtain⟨b',g1,g2,g3,g4,g5⟩:=h.obj r ob' hr2
    have hne:b'≠b:=fun e=>by subst e;exact q3 r g1
    exact⟨b',hle.2 _ _ g1,g2,by rw[hsz];exact g3,g4,(g5.keep (hoth b' hne)).mono hle (fun _ _ h=>h)⟩
  dom:=fun r b' hr'=>by
   simp only[k'] at hr'
   simp only[List.length_append,List.length_singleton,hlen]
   split at hr'
   .omega
   .have:=hs.dom r b' hr';omega
  inj:=fun r r' b' hr1 hr2=>by
   simp only[k'] at hr1 hr2
   split at hr1
   .split at hr2
    .omega
    .have:=Option.some.inj hr1
     subst this
     exact absurd hr2 (q3 r')
   .split at hr2
    .have:=Option.some.inj hr2
     subst this
     exact absurd hr1 (q3 r)
    .exact hs.inj r r' b' hr1 hr2
  tok:=fun t' v e' z' n' ht=>by
   obtain⟨⟨ys,g1⟩,g2⟩:=h.tok t' v e' z' n' ht
   have hne:∀ g,v.ownBlock=some g→g≠b:=fun g hg e=>by
    subst e
    simp only[Own.del] at ht
    split at ht
    .cases ht
    .rename_i hne
     exact hs.tokne tk t' _ _ _ _ _ _ _ _ hk ht (Ne.symm hne) g rfl hg
   refine⟨⟨ys,aaI (fun g hg _=>hoth g (hne g hg)) g1⟩,fun g hgo=>⟨(g2 g hgo).1,(g2 g hgo).2.1,fun r hr=>?_⟩⟩
   simp only[k'] at hr
   split at hr
   .exact hne g hgo (Option.some.inj hr).symm
   .exact (g2 g hgo).2.2 r hr
  tokne:=h.tokne
  fresh:=h.fresh
  cells:=fun r off p ht=>by
   have:=h.cells r off p ht
   simp only[List.length_append,List.length_singleton]
   omega
  m0:=h.m0}
 refine⟨k',hle,?_⟩
 unfold ai0
 refine hS.refr ?_
 rw[hv]
 simp only[aF]
 exact⟨b,by simp[k',hlen],rfl⟩
theorem Sim.setOb (h:Sim M0 k ow done w0 w N s tmps) {r b:Nat} {ob:Ob} {w':World} (hb:k.μ r=some b) (hr:r<s.objs.length) (hbel:w'.os=w.os∧w'.tape=w.tape∧w'.output=w.output) (hsz:w'.heap.size=w.heap.size)
  (hoth:∀ c,c≠b→w'.heap[c]?=w.heap[c]?) (hob:j9 k ow w' b ob):Sim M0 k ow done w0 w' N {s with objs:=s.objs.set r ob} tmps:=by
 obtain⟨b',g1,g2,g3,g4,_⟩:=h.obj r _ (List.getElem?_eq_getElem hr)
 obtain rfl:b=b':=Option.some.inj (hb.symm.trans g1)
 exact {
  good:=h.good
  size:=h.size
  below:=⟨hbel.1.trans h.below.os,hbel.2.1.trans h.below.tape,hbel.2.2.trans h.below.output,by rw[hsz];exact h.below.size,fun c hc hm=>(hoth c (fun e=>by
   subst e
   rcases g2 with g2|g2
   .omega
   .exact hm g2)).trans (h.below.block c hc hm)⟩
  fr:=h.fr
  mem:=fun c o v hm=>by
   obtain⟨q1,q2⟩:=h.mem c o v hm
   have hne:c≠b:=by rintro rfl;rw[g4 o] at hm;cases hm
   exact⟨(World.cell?_of_block (a:=⟨c,o,none⟩) (hoth c hne)).trans q1,q2⟩
  obj:=fun r' ob' hr'=>by
   by_cases hrr:r'=r
   .subst hrr
    rw[List.getElem?_set_self hr] at hr'
    simp only[Option.some.injEq] at hr'
    subst hr'
    exact⟨b,hb,g2,by rw[hsz];exact g3,g4,hob⟩
   .rw[List.getElem?_set_ne (Ne.symm hrr)] at hr'
    obtain⟨c,q1,q2,q3,q4,q5⟩:=h.obj r' ob' hr'
    have hne:c≠b:=fun e=>hrr (h.inj r' r c q1 (by rw[e];exact hb))
    exact⟨c,q1,q2,by rw[hsz];exact q3,q4,q5.keep (hoth c hne)⟩
  dom:=fun r' c hr'=>by simpa using h.dom r' c hr'
  inj:=h.inj
  tok:=fun t v e z n ht=>by
   obtain⟨⟨xs,q1⟩,q2⟩:=h.tok t v e z n ht
   exact⟨⟨xs,aaI (fun g hg _=>hoth g (fun e=>(q2 g hg).2.2 r (by rw[e];exact hb))) q1⟩,q2⟩
  tokne:=h.tokne
  fresh:=h.fresh
  cells:=fun r' off p ht=>by simpa using h.cells r' off p ht
  m0:=h.m0}
theorem Sim.setVar (h:Sim M0 k ow done w0 w N s tmps) {r b:Nat} {ys:List X} {vs:List Value} (hb:k.μ r=some b) {old:Array Value} {ty:TypeId} (hh:w.heap[b]?=some (.cells old ty (0,0)))
  (hr:r<s.objs.length) (hx:aP k ow ys vs) (h1:∀ u∈vs,u.oneCell'=true) :
  Sim M0 k ow done w0 (w.setRow b vs.toArray) N {s with objs:=s.objs.set r (Ob.var ty ys)} tmps:=by
 obtain⟨b',g1,g2,_⟩:=h.obj r _ (List.getElem?_eq_getElem hr)
 obtain rfl:b=b':=Option.some.inj (hb.symm.trans g1)
 have hsz:(w.setRow b vs.toArray).heap.size=w.heap.size:=by simp[World.setRow]
 have hoth:∀ c,c≠b→(w.setRow b vs.toArray).heap[c]?=w.heap[c]?:=fun c hc=>setRow_other w b c _ hc
 exact h.setOb hb hr ⟨rfl,rfl,rfl⟩ hsz hoth ⟨vs,setRow_heap w b old _ ty _ hh,h1,hx⟩
theorem Sim.setMap (h:Sim M0 k ow done w0 w N s tmps) {r b cl cl':Nat} {es:List (Value×C)} {ms ms':Array MapEntry} (hb:k.μ r=some b) (hh:w.heap[b]?=some (.map ms cl)) (hr:r<s.objs.length)
  (hk:ms'.toList.map (·.key)=es.map (·.1)) (hv:bn k.m (es.map (·.2)) (ms'.toList.map (·.val))) :
  Sim M0 k ow done w0 {w with heap:=w.heap.setIfInBounds b (.map ms' cl')} N {s with objs:=s.objs.set r (Ob.map es)} tmps:=by
 obtain⟨b',g1,g2,_⟩:=h.obj r _ (List.getElem?_eq_getElem hr)
 obtain rfl:b=b':=Option.some.inj (hb.symm.trans g1)
 have hlt:b<w.heap.size:=(Array.getElem?_eq_some_iff.1 hh).1
 have hoth:∀ c,c≠b→(w.heap.setIfInBounds b (.map ms' cl'))[c]?=w.heap[c]?:=fun c hc=>Array.getElem?_setIfInBounds_ne (Ne.symm hc)
 exact h.setOb hb hr ⟨rfl,rfl,rfl⟩ (by simp) hoth ⟨ms',cl',by simp[hlt],hk,hv⟩
structure EnSound (P:Program) (G:GP) (E:En):Prop where
 orc:∀ f xs obs an,E.orc f xs obs=some an→jl P G f xs obs an
theorem axc (hs:Sim M0 k ow done w0 w N s tmps):∀ l:List Operand,aP k ow (l.map s.ev) (l.map fun x=>(⟨tmps,[]⟩ : Act).eval x)
 | []=>by simp[aP]
 | x::l=>by simp only[List.map_cons,aP];exact⟨_,_,rfl,hs.ev x,axc hs l⟩
open Classical in
noncomputable def Own.img (ρ:Tk→Option Tk) (ow:Own):Own:=fun t'=>if h:∃ t p,ow t=some p∧ρ t=some t' then some h.choose_spec.choose else none
theorem Own.img_re {ρ:Tk→Option Tk} {ow:Own} (hi:∀ t u t' ,(ow t).isSome→(ow u).isSome→ρ t=some t'→ρ u=some t'→t=u):ow.re ρ (ow.img ρ):=by
 refine⟨fun t p t' ht hr=>?_,fun t' p h=>?_⟩
 .have hex:∃ t p,ow t=some p∧ρ t=some t':=⟨t,p,ht,hr⟩
  unfold Own.img
  rw[dif_pos hex]
  have h2:=hex.choose_spec.choose_spec
  have:hex.choose=t:=hi _ _ t' (by rw[h2.1];rfl) (by rw[ht];rfl) h2.2 hr
  exact ((congrArg ow this).symm.trans h2.1).symm.trans ht
 .unfold Own.img at h
  split at h
  .rename_i hex
   simp only[Option.some.injEq] at h
   subst h
   exact⟨_,hex.choose_spec.choose_spec.1,hex.choose_spec.choose_spec.2⟩
  .cases h
theorem aaP (r:Nat):∀ (off:Nat) (xs:List X) (t c:Tk),jL (cO r off xs) t=some c→∃ o,c=.cell r o∧off≤o∧o<off+xs.length
 | off,[],t,c,h=>by simp[cO,jL] at h
 | off,x::xs,t,c,h=>by
  have ih:=aaP r (off+1) xs t c
  have rest:jL (cO r (off+1) xs) t=some c→∃ o,c=.cell r o∧off≤o∧o<off+(x::xs).length:=fun h=>by
   obtain⟨o,h1,h2,h3⟩:=ih h
   exact⟨o,h1,by omega,by simp only[List.length_cons];omega⟩
  cases x with
  | own t0 e z cs n =>
   simp only[cO,jL] at h
   split at h
   .simp only[Option.some.injEq] at h
    exact⟨off,h.symm,Nat.le_refl _,by simp⟩
   .exact rest h
  | _=>simp only[cO] at h;exact rest h
theorem ajJ (r:Nat):∀ (off:Nat) (xs:List X) (t u c:Tk),jL (cO r off xs) t=some c→jL (cO r off xs) u=some c→t=u
 | off,[],t,u,c,h,_=>by simp[cO,jL] at h
 | off,x::xs,t,u,c,h,h'=>by
  have ih:=ajJ r (off+1) xs t u c
  cases x with
  | own t0 e z cs n =>
   simp only[cO,jL] at h h'
   split at h
   .rename_i e1
    simp only[Option.some.injEq] at h
    split at h'
    .rename_i e2;exact e1.symm.trans e2
    .obtain⟨o,h1,h2,_⟩:=aaP r (off+1) xs u c h'
     rw[← h] at h1
     cases h1
     omega
   .split at h'
    .simp only[Option.some.injEq] at h'
     obtain⟨o,h1,h2,_⟩:=aaP r (off+1) xs t c h
     rw[← h'] at h1
     cases h1
     omega
    .exact ih h h'
  | _=>simp only[cO] at h h';exact ih h h'
theorem azc {r off n:Nat} {xs:List X} (hn:xs.length=n) {t u t':Tk} (h:kH r off n (cO r off xs) t=some t') (h':kH r off n (cO r off xs) u=some t'):t=u:=by
 have key:∀ t u:Tk,jL (cO r off xs) t=some t'→jL (cO r off xs) u=none→(match u with
   | .cell r' o'=>if r'=r∧off≤o'∧o'<off+n then none else some u
   | .nm ..=>some u)=some t'→False:=by
  intro t u h1 _ h2
  obtain⟨o,rfl,h3,h4⟩:=aaP r off xs t t' h1
  cases u with
  | nm c ix i=>cases h2
  | cell r' o' =>
   simp only at h2
   split at h2
   .cases h2
   .rename_i hno
    simp only[Option.some.injEq,Tk.cell.injEq] at h2
    exact hno ⟨h2.1,by omega,by omega⟩
 have key2:∀ u:Tk,(match u with
   | .cell r' o'=>if r'=r∧off≤o'∧o'<off+n then none else some u
   | .nm ..=>some u)=some t'→u=t':=by
  intro u h2
  cases u with
  | nm c ix i=>exact Option.some.inj h2
  | cell r' o' =>
   simp only at h2
   split at h2
   .cases h2
   .exact Option.some.inj h2
 unfold kH at h h'
 split at h
 .rename_i c h1
  simp only[Option.some.injEq] at h
  subst h
  split at h'
  .rename_i c' h1'
   simp only[Option.some.injEq] at h'
   subst h'
   exact ajJ r off xs t u _ h1 h1'
  .rename_i h1'
   exact (key t u h1 h1' h').elim
 .rename_i h1
  split at h'
  .rename_i c' h1'
   simp only[Option.some.injEq] at h'
   subst h'
   exact (key u t h1' h1 h).elim
  .exact (key2 t h).trans (key2 u h').symm
theorem Sim.lay (h:Sim M0 k ow done w0 w N s tmps) {r off:Nat} {xs ys:List X} (hr:r<s.objs.length):∃ ow',Sim M0 k ow' done w0 w N (ake r off xs ys s) tmps:=by
 unfold ake
 split
 .exact⟨ow,h⟩
 .have hre:ow.re (kH r off xs.length (cO r off xs)) (ow.img (kH r off xs.length (cO r off xs))):=Own.img_re fun t u t' _ _ h1 h2=>azc rfl h1 h2
  have hcase:∀ t t',kH r off xs.length (cO r off xs) t=some t'→(∃ o,t'=.cell r o)∨t'=t:=by
   intro t t' h1
   unfold kH at h1
   split at h1
   .rename_i c h2
    simp only[Option.some.injEq] at h1
    subst h1
    obtain⟨o,h3,_⟩:=aaP r off xs t _ h2
    exact .inl ⟨o,h3⟩
   .cases t with
    | nm c ix i=>exact .inr (Option.some.inj h1).symm
    | cell r' o' =>
     simp only at h1
     split at h1
     .cases h1
     .exact .inr (Option.some.inj h1).symm
  refine⟨_,h.tr hre (fun t' p ht=>?_) (fun r' o' p ht=>?_)⟩
  .obtain⟨t,g1,g2⟩:=hre.2 _ _ ht
   rcases hcase t t' g2 with ⟨o,rfl⟩|rfl
   .trivial
   .exact h.fresh _ _ g1
  .obtain⟨t,g1,g2⟩:=hre.2 _ _ ht
   rcases hcase t _ g2 with ⟨o,e⟩|e
   .cases e;exact hr
   .subst e;exact h.cells _ _ _ g1
theorem bn.set {m:Mem}:∀ {cs:List C} {vs:List Value} (i:Nat) {c:C} {v:Value},bn m cs vs→Rep m c v→bn m (cs.set i c) (vs.set i v)
 | [],vs,i,c,v,h,_=>by simp only[bn] at h;subst h;simp[bn]
 | d::cs,vs,0,c,v,h,hc=>by
  simp only[bn] at h
  obtain⟨u,r,rfl,_,h2⟩:=h
  simp only[List.set_cons_zero,bn]
  exact⟨v,r,rfl,hc,h2⟩
 | d::cs,vs,i+1,c,v,h,hc=>by
  simp only[bn] at h
  obtain⟨u,r,rfl,h1,h2⟩:=h
  simp only[List.set_cons_succ,bn]
  exact⟨u,r.set i v,rfl,h1,bn.set i h2 hc⟩
theorem bn.erase {m:Mem}:∀ {cs:List C} {vs:List Value} (i:Nat),bn m cs vs→bn m (cs.eraseIdx i) (vs.eraseIdx i)
 | [],vs,i,h=>by simp only[bn] at h;subst h;simp[bn]
 | d::cs,vs,0,h=>by
  simp only[bn] at h
  obtain⟨u,r,rfl,_,h2⟩:=h
  simpa using h2
 | d::cs,vs,i+1,h=>by
  simp only[bn] at h
  obtain⟨u,r,rfl,h1,h2⟩:=h
  simp only[List.eraseIdx_cons_succ,bn]
  exact⟨u,r.eraseIdx i,rfl,h1,bn.erase i h2⟩
theorem adq {α β:Type} (f:α→β):∀ (l:List α) (i:Nat),(l.eraseIdx i).map f=(l.map f).eraseIdx i
 | [],_=>by simp
 | a::l,0=>by simp
 | a::l,i+1=>by simp[adq f l i]
theorem arH (kind:TypeDesc) (k:Value):∀ (es:List (Value×C)) (i j:Nat),aaf kind k es i=some (some j)→i≤j∧∃ p,es[j-i]?=some p∧Instr.sameNow kind k p.1=some true
 | [],i,j,h=>by simp[aaf] at h
 | e::es,i,j,h=>by
  simp only[aaf] at h
  split at h
  .rename_i hsn
   simp only[Option.some.injEq] at h
   subst h
   exact⟨Nat.le_refl _,e,by simp,hsn⟩
  .obtain⟨h1,p,h2,h3⟩:=arH kind k es (i+1) j h
   refine⟨by omega,p,?_,h3⟩
   obtain⟨q,rfl⟩ : ∃ q,j=i+1+q:=⟨j-(i+1),by omega⟩
   have e1:i+1+q-i=q+1:=by omega
   have e2:i+1+q-(i+1)=q:=by omega
   rw[e1]
   rw[e2] at h2
   simpa using h2
  .cases h
theorem aoJ {kind:TypeDesc} {a b:Value} (h:Instr.sameNow kind a b=some true):b=a∧(Instr.keyThatStays b a).run P w=.ok a w:=by
 unfold Instr.sameNow at h
 split at h
 .rename_i kk a k' b
  split at h
  .rename_i hk
   simp only[Option.some.injEq,beq_iff_eq] at h
   subst hk;subst h
   exact⟨rfl,by simp[Instr.keyThatStays,Instr.sameBits]⟩
  .cases h
 .rename_i a b
  simp only[Option.some.injEq] at h
  have:a=b:=(MapKept.bytes_beq a b).1 h
  subst this
  exact⟨rfl,by simp[Instr.keyThatStays,Instr.sameBits,h]⟩
 .rename_i a b
  simp only[Option.some.injEq,beq_iff_eq] at h
  subst h
  exact⟨rfl,by simp[Instr.keyThatStays,Instr.sameBits]⟩
 .cases h
theorem aeR (hs:Sim M0 k ow done w0 w N s tmps) {t et r:Nat} {kind:TypeDesc} {kv vm vk vx:Value} {c:C} {es es':List (Value×C)} (hty:abC (TT.of P) t=some (kind,et)) (hm:aF k ow (.mp r) vm) (hk:vk=kv) (hc:Rep k.m c vx)
  (hr:s.objs[r]?=some (.map es)) (hput:agn kind kv c es=some es'):∃ w',(Instr.mapUpdate t vm vk vx).run P w=.ok () w'∧Sim M0 k ow done w0 w' N {s with objs:=s.objs.set r (Ob.map es')} tmps:=by
 subst hk
 obtain⟨d,kt,d',hT,hu,hT',hu',hkk⟩:=ahN hty
 have r1:=(TT.of_ok hT).run_und w
 have r2:=(TT.of_ok hT').run_und w
 rw[hu] at r1
 rw[hu'] at r2
 simp only[aF] at hm
 obtain⟨b,hb,rfl⟩:=hm
 obtain⟨b',g1,_,g3,_,ms,cl,hh,hk1,hk2⟩:=hs.obj r _ hr
 obtain rfl:b=b':=Option.some.inj (hb.symm.trans g1)
 have hrl:r<s.objs.length:=hs.dom r b hb
 unfold agn at hput
 split at hput
 .rename_i i hfind
  simp only[Option.some.injEq] at hput
  subst hput
  obtain⟨f1,_⟩:=aag kind vk ms.toList es 0 _ hk1 hfind
  obtain⟨_,e',he,hnow⟩:=f1 i rfl
  obtain⟨_,p,hp,hsn⟩:=arH kind vk es 0 i hfind
  simp only[Nat.sub_zero] at he hp
  have hke:e'.key=p.1:=by
   have:=congrArg (fun l=>l[i]?) hk1
   simp only[List.getElem?_map,he,hp,Option.map_some,Option.some.injEq] at this
   exact this
  obtain⟨hpk,hst⟩:=aoJ (P:=P) (w:=w) hsn
  have he2:ms[i]?=some e':=by simpa using he
  refine⟨_,?_,hs.setMap (ms':=ms.modify i fun e=>{e with key:=vk,val:=vx}) (cl':=cl) hb hh hrl ?_ ?_⟩
  .simp only[Instr.mapUpdate,Sem.run_bind,r1,Result.andThen_ok,MapKept.run_getObj_map hh,kB r2 hkk]
   rw[abe r2 hnow]
   simp only[Result.andThen_ok,he2,Option.map_some,Option.getD_some,Sem.run_bind]
   rw[hke,hst]
   simp only[Result.andThen_ok]
   exact MapKept.run_setObj_map _ hh
  .rw[Array.toList_modify]
   apply List.ext_getElem?
   intro j
   have:=congrArg (fun l=>l[j]?) hk1
   simp only[List.getElem?_map] at this
   simp only[List.getElem?_map,List.getElem?_modify,List.getElem?_set]
   by_cases hij:i=j
   .subst hij
    have hlt:i<es.length:=(List.getElem?_eq_some_iff.1 hp).1
    simp[he2,hlt]
   .simp[hij]
    simpa using this
  .rw[Array.toList_modify]
   have e1:(es.set i (vk,c)).map (·.2)=(es.map (·.2)).set i c:=by rw[List.map_set]
   have e2:(ms.toList.modify i fun e=>{e with key:=vk,val:=vx}).map (·.val)=(ms.toList.map (·.val)).set i vx:=by
    apply List.ext_getElem?
    intro j
    simp only[List.getElem?_map,List.getElem?_modify,List.getElem?_set]
    by_cases hij:i=j
    .subst hij
     have hlt:i<ms.toList.length:=(List.getElem?_eq_some_iff.1 he).1
     have hlt':i<ms.size:=by simpa using hlt
     simp[he2,hlt']
    .simp[hij]
   rw[e1,e2]
   exact hk2.set i hc
 .rename_i hfind
  simp only[Option.some.injEq] at hput
  subst hput
  obtain⟨_,f2⟩:=aag kind vk ms.toList es 0 _ hk1 hfind
  refine⟨_,?_,hs.setMap (ms':=ms.push {key:=vk,val:=vx,born:=cl}) (cl':=cl+1) hb hh hrl ?_ ?_⟩
  .simp only[Instr.mapUpdate,Sem.run_bind,r1,Result.andThen_ok,MapKept.run_getObj_map hh,kB r2 hkk]
   rw[abe r2 (f2 rfl)]
   simp only[Result.andThen_ok]
   exact MapKept.run_setObj_map _ hh
  .simp only[Array.toList_push,List.map_append,hk1]
   rfl
  .simp only[Array.toList_push,List.map_append]
   exact hk2.append (by simp[bn,hc])
 .cases hput
theorem arR (hs:Sim M0 k ow done w0 w N s tmps) {t t2 et r ty:Nat} {kind:TypeDesc} {kv vm vk:Value} {es es':List (Value×C)} (hty:abC (TT.of P) t=some (kind,et)) (hm:aF k ow (.mp r) vm) (hk:vk=kv)
  (hr:s.objs[r]?=some (.map es)) (hput:aHa kind kv es=some es'):∃ w',(Builtin.delete_ #[t,t2] ty #[vm,vk]).run P w=.ok (.tuple #[]) w'∧Sim M0 k ow done w0 w' N {s with objs:=s.objs.set r (Ob.map es')} tmps:=by
 subst hk
 obtain⟨d,kt,d',hT,hu,hT',hu',hkk⟩:=ahN hty
 have r1:=(TT.of_ok hT).run_und w
 have r2:=(TT.of_ok hT').run_und w
 rw[hu] at r1
 rw[hu'] at r2
 simp only[aF] at hm
 obtain⟨b,hb,rfl⟩:=hm
 obtain⟨b',g1,_,g3,_,ms,cl,hh,hk1,hk2⟩:=hs.obj r _ hr
 obtain rfl:b=b':=Option.some.inj (hb.symm.trans g1)
 have hrl:r<s.objs.length:=hs.dom r b hb
 unfold aHa at hput
 split at hput
 .rename_i i hfind
  simp only[Option.some.injEq] at hput
  subst hput
  obtain⟨f1,_⟩:=aag kind vk ms.toList es 0 _ hk1 hfind
  obtain⟨_,e',he,hnow⟩:=f1 i rfl
  simp only[Nat.sub_zero] at he
  have hlt:i<ms.size:=by simpa using (List.getElem?_eq_some_iff.1 he).1
  refine⟨_,?_,hs.setMap (ms':=ms.eraseIdxIfInBounds i) (cl':=cl) hb hh hrl ?_ ?_⟩
  .simp only[Builtin.delete_,List.getElem?_toArray,List.getElem?_cons_zero,List.getElem?_cons_succ,Sem.run_bind,r1,Result.andThen_ok,MapKept.run_getObj_map hh,kB r2 hkk]
   rw[abe r2 hnow]
   simp only[Result.andThen_ok]
   rw[Sem.run_bind,MapKept.run_setObj_map _ hh]
   rfl
  .simp only[Array.eraseIdxIfInBounds,hlt,dif_pos,Array.toList_eraseIdx,adq,hk1]
  .simp only[Array.eraseIdxIfInBounds,hlt,dif_pos,Array.toList_eraseIdx,adq]
   exact hk2.erase i
 .rename_i hfind
  simp only[Option.some.injEq] at hput
  subst hput
  obtain⟨_,f2⟩:=aag kind vk ms.toList es 0 _ hk1 hfind
  refine⟨_,?_,hs.setMap (ms':=ms) (cl':=cl) hb hh hrl hk1 hk2⟩
  .simp only[Builtin.delete_,List.getElem?_toArray,List.getElem?_cons_zero,List.getElem?_cons_succ,Sem.run_bind,r1,Result.andThen_ok,MapKept.run_getObj_map hh,kB r2 hkk]
   rw[abe r2 (f2 rfl)]
   simp only[Result.andThen_ok]
   rw[Sem.run_bind,MapKept.run_setObj_map _ hh]
   rfl
 .cases hput
theorem atP (hs:Sim M0 k ow done w0 w N s tmps) {E:En} (horc:EnSound P M0.G E) {ix:Nat} (hd:¬ done ix) {d:Option Nat} (hdst:∀ j,d=some j→j<N) {f:Nat} {us:List X} {vs:List Value} {e:Option X} {s':S}
  (hus:aP k ow us vs) (h:ac1 P E s ix d f us=some (e,s')):ab P f=true∧Calls P f vs.toArray w fun en w'=>∃ k' ow',k.le k' ∧
   ((e=none∧∃ v,en=.returned v∧Sim M0 k' ow' (fun j=>done j∨j=ix) w0 w' N s' (Act.put ⟨tmps,[]⟩ d v).tmps) ∨
    (∃ x v,e=some x∧en=.panicked [{v:=v,recovered:=false}]∧aF k' ow' x v∧Sim M0 k' ow' (fun j=>done j∨j=ix) w0 w' N s' tmps)):=by
 unfold ac1 at h
 split at h
 rotate_left
 .cases h
 rename_i hc
 refine⟨hc,?_⟩
 simp only at h
 split at h
 rotate_left
 .cases h
 rename_i obs hobs
 split at h
 rotate_left
 .cases h
 rename_i an hor
 have hnd1:=acU s.objs 999 (X.refsL us) [] List.nodup_nil
 have hnd2:(if E.tk f=true then nub (X.toksL us) [] else []).Nodup:=by
  split
  .exact aeP _ _ List.nodup_nil
  .exact List.nodup_nil
 refine (aok hs hnd1 hnd2 hobs (horc.orc _ _ _ _ hor) hc (aP.tr aqz _ _ hus) hd).mono fun en w' ⟨us',kn,own,h1,h2,h3,h4,h5⟩=>?_
 refine⟨kn,own,h2,?_⟩
 unfold ajm at h
 simp only at h
 rw[if_pos h3] at h
 obtain⟨pan,rs,obs'⟩:=an
 cases pan with
 | true =>
  simp only[adk] at h1
  obtain⟨u,rfl,rfl⟩:=h1
  match rs,h,h5 with
  | [x],h,h5 =>
   simp only[Option.some.injEq,Prod.mk.injEq] at h
   obtain⟨rfl,rfl⟩:=h
   simp only[X.trs,aP] at h5
   obtain⟨v,r,hv,hx,rfl⟩:=h5
   cases hv
   exact .inr ⟨_,_,rfl,rfl,hx,h4⟩
  | [],h,_=>cases h
  | _::_::_,h,_=>cases h
 | false =>
  simp only[adk] at h1
  subst h1
  simp only[Option.some.injEq,Prod.mk.injEq] at h
  obtain⟨rfl,rfl⟩:=h
  exact .inl ⟨rfl,_,rfl,h4.put d hdst (aqT h5)⟩
theorem arJ (hs:Sim M0 k ow done w0 w N s tmps) (l:List Operand) {caps:List X} {cvs:List Value} (hc:aP k ow caps cvs):aP k ow (l.map s.ev++caps) ((l.map fun x=>(⟨tmps,[]⟩ : Act).eval x)++cvs):=(axc hs l).append hc
theorem arN {o:Oper} (h:abF N o=true) (j:Nat) (hj:o.dst=some j):j<N:=by
 unfold abF at h
 rw[Bool.and_eq_true,hj] at h
 simpa using h.1
theorem abW {o:Oper} (h:bZ o.op=false):cG o=o.dst:=by
 unfold cG
 split
 .rename_i e _;rw[e] at h;cases h
 .rfl
theorem aBy (hs:Sim M0 k ow done w0 w N s tmps) {E:En} {ix:Nat} (hd:¬ done ix) {o:Oper} {e:Option X} {s':S} (hst:bZ o.op=true)
  (h:dK P (TT.of P) E s ix o=some (e,s')) {K:Act→World→Prop} {Q:Exit→Act→World→Prop}
  (hK:e=none→∀ tmps' w' k' ow',k.le k'→Sim M0 k' ow' (fun j=>done j∨j=ix) w0 w' N s' tmps'→K ⟨tmps',[]⟩ w'):o.wp P ⟨tmps,[]⟩ w K Q:=by
 unfold bZ at hst
 split at hst
 rotate_left
 .cases hst
 rename_i t a x ho
 unfold dK at h
 split at h
 rotate_left
 .cases h
 rename_i y tk hv
 split at h
 rotate_left
 .cases h
 simp only[Option.some.injEq,Prod.mk.injEq] at h
 obtain⟨rfl,rfl⟩:=h
 cases a with
 | const v=>unfold val at hv;rw[ho] at hv;cases hv
 | func f=>unfold val at hv;rw[ho] at hv;cases hv
 | global g=>unfold val at hv;rw[ho] at hv;cases hv
 | tmp d =>
  unfold val at hv
  rw[ho] at hv
  simp only at hv
  split at hv
  rotate_left
  .cases hv
  rename_i td tk' ty z cs hT hf hx hg hdn
  split at hv
  rotate_left
  .cases hv
  rename_i hc
  obtain⟨rfl,hz,hl⟩:=hc
  simp only[Option.some.injEq,Prod.mk.injEq] at hv
  obtain⟨rfl,rfl⟩:=hv
  have hE:cG o=some d:=by unfold cG;rw[ho,hg]
  obtain⟨w',k',ow',hrun,g1,g2⟩:=aQI (P:=P) hs hd ho hT hz hf hx hl
  unfold Oper.wp
  rw[hrun]
  simp only[Oper.upon]
  rw[hdn]
  exact hK rfl tmps w' k' ow' g1 (by rw[hE];exact g2)
theorem abd (hs:Sim M0 k ow done w0 w N s tmps) {E:En} (horc:EnSound P M0.G E) {ix:Nat} (hd:¬ done ix) {o:Oper} {e:Option X} {s':S} (hdst:abF N o=true)
  (h:dK P (TT.of P) E s ix o=some (e,s')) {K:Act→World→Prop} {Q:Exit→Act→World→Prop}
  (hK:e=none→∀ tmps' w' k' ow',k.le k'→Sim M0 k' ow' (fun j=>done j∨j=ix) w0 w' N s' tmps'→K ⟨tmps',[]⟩ w'):o.wp P ⟨tmps,[]⟩ w K Q:=by
 have hdst':=arN hdst
 have hput:∀ u,(⟨tmps,[]⟩ : Act).put o.dst u=⟨((⟨tmps,[]⟩ : Act).put o.dst u).tmps,[]⟩:=fun u=>by
  cases o.dst <;> rfl
 cases hst:bZ o.op with
 | true=>exact aBy hs hd hst h hK
 | false =>
 unfold dK at h
 split at h
 .rename_i x t hv
  split at h
  .simp only[Option.some.injEq,Prod.mk.injEq] at h
   obtain⟨rfl,rfl⟩:=h
   refine aBf hs horc.orc hd hst hv fun u w' k' ow' g1 g2 g3=>?_
   rw[hput]
   rw[abW hst] at hK
   exact hK rfl _ _ k' ow' g1 (g2.put o.dst hdst' g3)
  .cases h
 .cases h
theorem ayE (hs:Sim M0 k ow done w0 w N s tmps) {E:En} (horc:EnSound P M0.G E) {dr:Bool} {ix:Nat} (hd:¬ done ix) {o:Oper} {e:Option X} {s':S} (hdst:abF N o=true)
  (h:iq P (TT.of P) E dr s ix o=some (e,s')) {K:Act→World→Prop} {Q:Exit→Act→World→Prop}
  (hK:e=none→∀ tmps' w' k' ow',k.le k'→Sim M0 k' ow' (fun j=>done j∨j=ix) w0 w' N s' tmps'→K ⟨tmps',[]⟩ w')
  (hP:∀ x,e=some x→∀ v w' k' ow',k.le k'→Sim M0 k' ow' (fun j=>done j∨j=ix) w0 w' N s' tmps→aF k' ow' x v→Q (.panic [{v:=v,recovered:=false}]) ⟨tmps,[]⟩ w'):o.wp P ⟨tmps,[]⟩ w K Q:=by
 have hdst':=arN hdst
 have hput:∀ u,(⟨tmps,[]⟩ : Act).put o.dst u=⟨((⟨tmps,[]⟩ : Act).put o.dst u).tmps,[]⟩:=fun u=>by
  cases o.dst <;> rfl
 have hs1:=hs.more (done':=fun j=>done j∨j=ix) (fun _ h=>.inl h)
 unfold iq at h
 split at h
 .exact abd hs horc hd hdst h hK
 split at h
 .-- alloc
  rename_i t ho
  split at h
  rotate_left
  .exact abd hs horc hd hdst h hK
  split at h
  .rename_i d hT
   simp only[Option.some.injEq,Prod.mk.injEq] at h
   obtain⟨rfl,rfl⟩:=h
   have ok:=TT.of_ok hT
   obtain⟨z,hz,hz2⟩:=ok.run_zero w
   obtain⟨k',g1,g2,g3⟩:=hs1.newVar (xs:=dG d) (vs:=d.zero) t (ac4 d.zero) ok.one
   obtain⟨ow',g4⟩:=g3.lay (r:=s.objs.length) (off:=0) (xs:=dG d) (ys:=[]) (by simp)
   refine jP (u:=.pointer (some ⟨w.heap.size,0,none⟩)) (w':=w.alloc (.cells d.zero.toArray t)) ?_ ?_
   .simp[execOp,ho,Instr.alloc,hz,newVar,newRow,← hz2]
   .rw[hput]
    exact hK rfl _ _ k' ow' g1 (g4.put o.dst hdst' (by simp only[aF];exact⟨_,g2,rfl⟩))
  .cases h
 .-- box
  rename_i t x ho
  split at h
  rotate_left
  .-- for good
   split at h
   rotate_left
   .cases h
   rename_i d cs hT hx
   split at h
   rotate_left
   .cases h
   rename_i hc
   obtain⟨hl,hz⟩:=hc
   simp only[Option.some.injEq,Prod.mk.injEq] at h
   obtain⟨rfl,rfl⟩:=h
   unfold cX at hx
   simp only[Option.bind_eq_some_iff] at hx
   obtain⟨xs,hx,hrd⟩:=hx
   obtain⟨hr,h1⟩:=ab5 hx (hs.ev x)
   have hcl:=agl _ _ _ hrd hr
   have hlen:=hcl.length
   have hown:(w.alloc (.cells ((⟨tmps,[]⟩ : Act).eval x).cells.toList.toArray t)).ownsRow 0 t d.size (.slice (some ⟨w.heap.size,0,none⟩) 1 1) 1 ((⟨tmps,[]⟩ : Act).eval x).cells.toList :=
    ⟨by omega,.inr ⟨w.heap.size,1,_,rfl,Nat.zero_le _,heap_alloc_new w _,Nat.le_refl _,by simp[maxLen],by simp only[List.size_toArray];omega,by rw[List.toList_toArray];exact List.take_of_length_le (by omega)⟩⟩
   obtain⟨k',g1,g2,g3⟩:=hs1.row (row:=none) (cs:=cs) (c:=s.clk) (ix:=ix) (i:=0) (fun g hg=>by cases hg) (World.grownBy_alloc w _ none) hown (.inr ⟨rfl,rfl⟩) hcl h1 (hs.new hd) (.inr ⟨rfl,.inr rfl⟩)
   refine jP (u:=.pointer (some ⟨w.heap.size,0,none⟩)) (w':=w.alloc (.cells ((⟨tmps,[]⟩ : Act).eval x).cells.toList.toArray t)) ?_ ?_
   .simp[execOp,ho,Instr.box,newVar,newRow]
   .rw[hput]
    refine hK rfl _ _ k' _ g1 (g2.put o.dst hdst' ?_)
    simp only[aF,Rep] at g3
    obtain⟨_,_,a,cap,vs,h5,_,h6,h7⟩:=g3
    simp only[Value.slice.injEq] at h5
    obtain⟨rfl,_,rfl⟩:=h5
    simp only[aF,Rep]
    by_cases hne:vs=[]
    .subst hne
     exact⟨w.heap.size,0,[],rfl,h6,fun i u hu=>by simp at hu⟩
    .obtain⟨b',o',h8,h9⟩:=h7 hne
     simp only[Option.some.injEq,Addr.mk.injEq] at h8
     obtain⟨rfl,rfl,_⟩:=h8
     exact⟨_,_,vs,rfl,h6,h9⟩
  split at h
  .rename_i d xs hT hx
   split at h
   .simp only[Option.some.injEq,Prod.mk.injEq] at h
    obtain⟨rfl,rfl⟩:=h
    obtain⟨hl,h1⟩:=ab5 hx (hs.ev x)
    obtain⟨k',g1,g2,g3⟩:=hs1.newVar t hl h1
    obtain⟨ow',g4⟩:=g3.lay (r:=s.objs.length) (off:=0) (xs:=xs) (ys:=[]) (by simp)
    refine jP (u:=.pointer (some ⟨w.heap.size,0,none⟩)) (w':=w.alloc (.cells ((⟨tmps,[]⟩ : Act).eval x).cells.toList.toArray t)) ?_ ?_
    .simp[execOp,ho,Instr.box,newVar,newRow]
    .rw[hput]
     exact hK rfl _ _ k' ow' g1 (g4.put o.dst hdst' (by simp only[aF];exact⟨_,g2,rfl⟩))
   .cases h
  .cases h
 .-- store
  rename_i t a x ho
  split at h
  .-- a variable's new block
   rename_i tk ty z hnw
   split at h
   rotate_left
   .exact abd hs horc hd hdst h hK
   split at h
   rotate_left
   .cases h
   rename_i d xs j hT hx hE
   split at h
   rotate_left
   .cases h
   rename_i hc
   obtain⟨rfl,hz,hl,_,hdn⟩:=hc
   simp only[Option.some.injEq,Prod.mk.injEq] at h
   obtain⟨rfl,rfl⟩:=h
   cases a with
   | const v =>
    exfalso
    simp only[S.ev] at hnw
    unfold iV at hnw
    split at hnw <;> cases hnw
   | func f=>cases hnw
   | global g=>cases hnw
   | tmp d' =>
    obtain rfl:d'=j:=by
     unfold cG at hE
     rw[ho] at hE
     cases hg:o.guard with
     | none=>rw[hg] at hE;exact Option.some.inj hE
     | some g=>rw[hg,hdn] at hE;cases hE
    obtain⟨b,hv,hk,hr,h1,⟨cur,hh,hcz⟩,hrun⟩:=aq9 (P:=P) hs hd ho hT hz hnw hx hl
    obtain⟨k',g1,g2⟩:=hs1.made hk hv hr h1 hh
    unfold Oper.wp
    rw[hrun]
    simp only[Oper.upon]
    rw[hdn]
    exact hK rfl tmps _ k' _ g1 g2
  split at h
  .rename_i d r off xs hT ha hx
   simp only[Option.map_eq_some_iff,Prod.mk.injEq] at h
   obtain⟨s2,h,rfl,rfl⟩:=h
   unfold ab2 at h
   split at h
   .rename_i ty ys hr
    split at h
    .rename_i hc
     simp only[Option.some.injEq] at h
     subst h
     obtain⟨hl,h1⟩:=ab5 hx (hs.ev x)
     have hav:=hs.ev a
     rw[ha] at hav
     simp only[aF] at hav
     obtain⟨b,hb,hav⟩:=hav
     obtain⟨b',g1,g2,g3,g4,vs,hh,hone,hvs⟩:=hs.obj r _ hr
     obtain rfl:b=b':=Option.some.inj (hb.symm.trans g1)
     have hrl:r<s.objs.length:=hs.dom r b hb
     have ok:=TT.of_ok hT
     have hlen:=hl.length
     have hvl:=hvs.length
     have hfit:off+0+((⟨tmps,[]⟩ : Act).eval x).cells.toList.length≤vs.toArray.size:=by
      simp only[List.size_toArray]
      omega
     have hrun:=run_storeCells_at P b off ty ((⟨tmps,[]⟩ : Act).eval x).cells.toList 0 vs.toArray w hh hfit h1
     have hsz:((⟨tmps,[]⟩ : Act).eval x).cells.size=d.size:=by
      have:((⟨tmps,[]⟩ : Act).eval x).cells.toList.length=d.size:=by omega
      simpa using this
     have hset:=hs1.setVar (ys:=ys.take off++xs++ys.drop (off+xs.length)) (vs:=vs.take off++((⟨tmps,[]⟩ : Act).eval x).cells.toList++vs.drop (off+xs.length)) hb hh hrl
      (((hvs.takeN off).append hl).append (hvs.dropN _))
      (fun u hu=>by
       simp only[List.mem_append] at hu
       rcases hu with (hu|hu)|hu
       .exact hone u (List.mem_of_mem_take hu)
       .exact h1 u hu
       .exact hone u (List.mem_of_mem_drop hu))
     have hrun2:(execOp (⟨tmps,[]⟩ : Act).eval o).run P w=.ok .skip (w.setRow b (vs.take off++((⟨tmps,[]⟩ : Act).eval x).cells.toList++vs.drop (off+xs.length)).toArray):=by
      simp only[Nat.add_zero,hlen] at hrun
      simp[execOp,ho,Instr.storeAt,hav,Instr.sureAddr,storeVar,ok.run_size,hsz,hrun]
     unfold Oper.wp
     rw[hrun2]
     simp only[Oper.upon]
     rw[hput]
     obtain⟨ow',g4⟩:=hset.lay (r:=r) (off:=off) (xs:=xs) (ys:=(ys.drop off).take xs.length) (by simpa using hrl)
     exact hK rfl _ _ k ow' (Know.le_refl k) (g4.put o.dst hdst' (by simp[aF,Rep]))
    .cases h
   .cases h
  .cases h
 .-- makeMap
  rename_i t ho
  simp only[Option.some.injEq,Prod.mk.injEq] at h
  obtain⟨rfl,rfl⟩:=h
  obtain⟨k',g1,g2,g3⟩:=hs1.newOb (ob:=Ob.map []) (.map #[] 0) (fun k' w' _ hh=>⟨#[],0,hh,rfl,by simp[bn]⟩)
  refine jP (u:=.map (some w.heap.size)) (w':=w.alloc (.map #[] 0)) ?_ ?_
  .simp[execOp,ho,Instr.makeMap]
  .rw[hput]
   exact hK rfl _ _ k' ow g1 (g3.put o.dst hdst' (by simp only[aF];exact⟨_,g2,rfl⟩))
 .-- mapUpdate
  rename_i t m kx x ho
  split at h
  .rename_i kind et r kv c hty hm hlit hrd
   split at h
   .rename_i es hr
    split at h
    .rename_i es' hp
     simp only[Option.some.injEq,Prod.mk.injEq] at h
     obtain⟨rfl,rfl⟩:=h
     have hmv:=hs.ev m
     rw[hm] at hmv
     obtain⟨w',g1,g2⟩:=aeR (P:=P) hs1 hty hmv (abU hlit (hs.ev kx)) (aaW _ _ _ hrd (hs.ev x)) hr hp
     have hrun2:(execOp (⟨tmps,[]⟩ : Act).eval o).run P w=.ok .skip w':=by simp[execOp,ho,g1]
     unfold Oper.wp
     rw[hrun2]
     simp only[Oper.upon]
     rw[hput]
     exact hK rfl _ _ k ow (Know.le_refl k) (g2.put o.dst hdst' (by simp[aF,Rep]))
    .cases h
   .cases h
  .cases h
 .-- insert
  rename_i t m kx x ho
  split at h
  .rename_i kind et r kv c hty hm hlit hrd
   split at h
   .rename_i es hr
    split at h
    .rename_i es' hp
     simp only[Option.some.injEq,Prod.mk.injEq] at h
     obtain⟨rfl,rfl⟩:=h
     have hmv:=hs.ev m
     rw[hm] at hmv
     obtain⟨w',g1,g2⟩:=aeR (P:=P) hs1 hty hmv (abU hlit (hs.ev kx)) (aaW _ _ _ hrd (hs.ev x)) hr hp
     have hrun2:(execOp (⟨tmps,[]⟩ : Act).eval o).run P w=.ok .skip w':=by simp[execOp,ho,g1]
     unfold Oper.wp
     rw[hrun2]
     simp only[Oper.upon]
     rw[hput]
     exact hK rfl _ _ k ow (Know.le_refl k) (g2.put o.dst hdst' (by simp[aF,Rep]))
    .cases h
   .cases h
  .cases h
 .-- delete
  rename_i args tys ho
  split at h
  .rename_i m kx t t2 hargs htys
   split at h
   .rename_i kind et r kv hty hm hlit
    split at h
    .rename_i es hr
     split at h
     .rename_i es' hp
      simp only[Option.some.injEq,Prod.mk.injEq] at h
      obtain⟨rfl,rfl⟩:=h
      have hmv:=hs.ev m
      rw[hm] at hmv
      obtain⟨w',g1,g2⟩:=arR (P:=P) (t2:=t2) (ty:=o.type) hs1 hty hmv (abU hlit (hs.ev kx)) hr hp
      have ha:args=#[m,kx]:=by rw[← Array.toArray_toList (xs:=args),hargs]
      have ht:tys=#[t,t2]:=by rw[← Array.toArray_toList (xs:=tys),htys]
      subst ha;subst ht
      refine jP (u:=.tuple #[]) (w':=w') (by simp[execOp,ho,resolve,invoke,builtin,g1]) ?_
      rw[hput]
      exact hK rfl _ _ k ow (Know.le_refl k) (g2.put o.dst hdst' (by simp[aF,aP]))
     .cases h
    .cases h
   .cases h
  .cases h
 .-- panic
  rename_i x ho
  split at h
  .rename_i t c hc
   simp only[Option.some.injEq,Prod.mk.injEq] at h
   obtain⟨rfl,rfl⟩:=h
   have hrep:=aaW _ _ _ hc (hs.ev x)
   have hrep':=hrep
   simp only[Rep] at hrep
   obtain⟨u,hu,_⟩:=hrep
   have hrun:(execOp (⟨tmps,[]⟩ : Act).eval o).run P w=.halt (.panic ((⟨tmps,[]⟩ : Act).eval x)) w:=by
    rw[hu]
    simp[execOp,ho,hu,Instr.panic,goPanic]
   unfold Oper.wp
   rw[hrun]
   simp only[Oper.upon]
   exact hP _ rfl _ w k ow (Know.le_refl k) hs1 (by simpa only [aF] using hrep')
  .cases h
 .-- a call
  rename_i f args tys ho
  split at h
  .rename_i g us htg
   split at h
   .obtain⟨cvs,hfv,hus⟩ : ∃ cvs:List Value,(⟨tmps,[]⟩ : Act).eval f=.func (.func g) #[] cvs.toArray∧aP k ow us ((args.toList.map fun x=>(⟨tmps,[]⟩ : Act).eval x)++cvs):=by
     have hfx:=hs.ev f
     unfold ac6 at htg
     simp only at htg
     split at htg
     .rename_i g' caps hf
      simp only[Option.some.injEq,Prod.mk.injEq] at htg
      obtain⟨rfl,rfl⟩:=htg
      rw[hf] at hfx
      simp only[aF,Rep] at hfx
      obtain⟨vs,h1,h2⟩:=hfx
      exact⟨vs,h1,arJ hs _ (aP.of h2)⟩
     .rename_i g' caps hf
      simp only[Option.some.injEq,Prod.mk.injEq] at htg
      obtain⟨rfl,rfl⟩:=htg
      rw[hf] at hfx
      simp only[aF] at hfx
      obtain⟨vs,h1,h2⟩:=hfx
      exact⟨vs,h1,arJ hs _ h2⟩
     .cases htg
    obtain⟨hc,hcall⟩:=atP hs horc hd hdst' hus h
    have hrun:(execOp (⟨tmps,[]⟩ : Act).eval o).run P w=.ok (.enter g ((args.toList.map fun x=>(⟨tmps,[]⟩ : Act).eval x)++cvs).toArray) w:=by
     unfold ab at hc
     split at hc
     .rename_i fn hfn
      simp only[Bool.and_eq_true,Bool.not_eq_true',Option.isSome_iff_exists] at hc
      obtain⟨⟨b,hb⟩,hn⟩:=hc
      have hn':¬ fn.name= "runtime.NumGoroutine":=by simpa using hn
      have hargs:((args.toList.map fun x=>(⟨tmps,[]⟩ : Act).eval x)++cvs).toArray=Array.map (fun x=>(⟨tmps,[]⟩ : Act).eval x) args++cvs.toArray:=by
       apply Array.ext'
       simp
      rw[hargs]
      simp[execOp,ho,resolve,hfv,Deferred.ofValue,invoke,callFunc,hfn,hn',hb]
     .cases hc
    unfold Oper.wp
    rw[hrun]
    simp only[Oper.upon]
    refine hcall.mono fun en w' ⟨k',ow',g1,hcase⟩=>?_
    rcases hcase with ⟨he,v,rfl,g2⟩|⟨x,v,he,rfl,g2,g3⟩
    .show K ((⟨tmps,[]⟩ : Act).put o.dst v) w'
     rw[hput]
     exact hK he _ _ k' ow' g1 g2
    .exact hP x he v w' k' ow' g1 g3 g2
   .exact abd hs horc hd hdst h hK
  .cases h
 .exact abd hs horc hd hdst h hK
theorem ajG (hs:Sim M0 k ow done w0 w N s tmps) {ops:Array Oper} {o:Oper} {b:Bool} (h:cD ops s o=some b):Region.wanted o (yielded ops tmps)=b:=by
 unfold cD at h
 unfold Region.wanted
 split at h
 .rename_i hg
  simp only[Option.some.injEq] at h
  simp[hg,h]
 .rename_i j want hg
  simp only[hg]
  split at h
  .rename_i d hd
   have hx:=hs.fr d
   unfold yielded
   rw[hd]
   simp only[Option.bind_some]
   split at h
   .rename_i b' hb
    rw[hb] at hx
    simp only[aF,Rep] at hx
    simp only[Option.some.injEq] at h
    have:tmps[d]?=some (.bool b'):=by
     rw[Array.getD_eq_getD_getElem?] at hx
     cases hc:tmps[d]? with
     | none=>rw[hc] at hx;simp[undef] at hx
     | some u=>rw[hc] at hx;simp at hx;rw[hx.1]
    rw[this]
    simp only[]
    rw[← h]
    cases b' <;> cases want <;> rfl
   .rename_i hb
    rw[hb] at hx
    simp only[aF,Rep] at hx
    simp only[Option.some.injEq] at h
    rw[Array.getD_eq_getD_getElem?] at hx
    cases hc:tmps[d]? with
    | none=>simp[← h]
    | some u =>
     rw[hc] at hx
     simp at hx
     subst hx
     simp[undef,← h]
   .cases h
  .rename_i hd
   simp only[Option.some.injEq] at h
   unfold yielded
   rw[hd]
   simp[← h]
theorem jR (hs:Sim M0 k ow done w0 w N s tmps) {E:En} (horc:EnSound P M0.G E) {dr:Bool} {ops:Array Oper} {ix:Nat} (hd:¬ done ix) {o:Oper} (hi:ops[ix]?=some o) {e:Option X} {s':S} (hdst:abF N o=true)
  (h:bv P (TT.of P) E dr ops s ix o=some (e,s')) {K:Act→World→Prop} {Q:Exit→Act→World→Prop}
  (hK:e=none→∀ tmps' w' k' ow',k.le k'→Sim M0 k' ow' (fun j=>done j∨j=ix) w0 w' N s' tmps'→K ⟨tmps',[]⟩ w')
  (hP:∀ x,e=some x→∀ v w' k' ow',k.le k'→Sim M0 k' ow' (fun j=>done j∨j=ix) w0 w' N s' tmps→aF k' ow' x v→Q (.panic [{v:=v,recovered:=false}]) ⟨tmps,[]⟩ w'):wpOp P ops Q ix K ⟨tmps,[]⟩ w:=by
 unfold bv at h
 unfold wpOp
 simp only[hi]
 split at h
 .rename_i hg
  rw[ajG hs hg,if_pos rfl]
  exact .inl (ayE hs horc hd hdst h hK hP)
 .rename_i hg
  rw[ajG hs hg,if_neg (by simp)]
  simp only[Option.some.injEq,Prod.mk.injEq] at h
  obtain⟨rfl,rfl⟩:=h
  have hdst':=arN hdst
  have:=(hs.more (done':=fun j=>done j∨j=ix) (fun _ h=>.inl h)).put o.dst hdst' (x:=.of .undef) (v:=undef) (by simp[aF,Rep])
  have hput:(⟨tmps,[]⟩ : Act).put o.dst undef=⟨((⟨tmps,[]⟩ : Act).put o.dst undef).tmps,[]⟩:=by cases o.dst <;> rfl
  rw[hput]
  exact hK rfl _ _ k ow (Know.le_refl k) this
 .cases h
theorem ajH {E:En} (horc:EnSound P M0.G E) {dr:Bool} {ops:Array Oper} {Q:Exit→Act→World→Prop} {e:Option X} {s':S}:∀ (l:List Oper) (n:Nat) (s:S) (w:World) (tmps:Array Value) (k:Know) (ow:Own) (done:Nat→Prop),
  (∀ j,l[j]?=ops[n+j]?)→(∀ o∈l,abF N o=true)→(∀ j,done j→j<n)→Sim M0 k ow done w0 w N s tmps→hH P (TT.of P) E dr ops n l s=some (e,s') →
  (e=none→∀ tmps' w' k' ow' done',k.le k'→Sim M0 k' ow' done' w0 w' N s' tmps'→Q .normal ⟨tmps',[]⟩ w') →
  (∀ x,e=some x→∀ v tmps' w' k' ow' done',k.le k'→Sim M0 k' ow' done' w0 w' N s' tmps'→aF k' ow' x v→Q (.panic [{v:=v,recovered:=false}]) ⟨tmps',[]⟩ w')→wpOps P ops Q (List.range' n l.length) ⟨tmps,[]⟩ w
 | [],n,s,w,tmps,k,ow,done,_,_,_,hs,h,hQ,_=>by
  simp only[hH,Option.some.injEq,Prod.mk.injEq] at h
  obtain⟨rfl,rfl⟩:=h
  exact hQ rfl tmps w k ow done (Know.le_refl k) hs
 | o::l,n,s,w,tmps,k,ow,done,hl,hdst,hdone,hs,h,hQ,hP=>by
  have h0:ops[n]?=some o:=by simpa using (hl 0).symm
  simp only[hH] at h
  simp only[List.length_cons,List.range'_succ]
  rw[wpOps_cons]
  split at h
  .rename_i s1 h1
   refine jR hs horc (fun hd=>by have:=hdone n hd;omega) h0 (hdst o (by simp)) h1 (fun _ tmps' w' k' ow' g1 g2=>?_) (fun x hx=>by cases hx)
   exact ajH horc l (n+1) s1 w' tmps' k' ow' _ (fun j=>by have:=hl (j+1);simpa [Nat.add_assoc,Nat.add_comm 1 j] using this) (fun o ho=>hdst o (by simp[ho]))
    (fun j hj=>by rcases hj with hj|hj;have:=hdone j hj;omega;omega) g2 h
    (fun he tmps' w' k'' ow' done' g3 g4=>hQ he tmps' w' k'' ow' done' (Know.le_trans g1 g3) g4)
    (fun x he v tmps' w' k'' ow' done' g3 g4=>hP x he v tmps' w' k'' ow' done' (Know.le_trans g1 g3) g4)
  .rename_i x s1 h1
   simp only[Option.some.injEq,Prod.mk.injEq] at h
   obtain⟨rfl,rfl⟩:=h
   exact jR hs horc (fun hd=>by have:=hdone n hd;omega) h0 (hdst o (by simp)) h1 (fun he=>by cases he) (fun x hx v w' k' ow' g1 g2=>hP x hx v tmps w' k' ow' _ g1 g2)
  .cases h
end
theorem gM (t:Tk):∀ xs:List X,X.drops t xs=xs.map (X.drop t)
 | []=>rfl
 | x::r=>by simp[X.drops,gM t r]
theorem afo (t:Tk):∀ x:X,(x.drop t).rd=x.rd :=
 X.rec (motive_1:=fun x=>(x.drop t).rd=x.rd) (motive_2:=fun xs=>X.rds (X.drops t xs)=X.rds xs)
  (fun _=>rfl) rfl (fun t' e z cs n=>by simp only[X.drop];split <;> simp[X.rd]) (fun _ _=>rfl) (fun _=>rfl) (fun _ _ _=>rfl)
  (fun xs ih=>by simp[X.drop,X.rd,ih]) (fun _ _=>rfl) (fun _ _ _=>rfl) rfl (fun x xs ih1 ih2=>by simp[X.drops,X.rds,ih1,ih2])
theorem ajZ (t:Tk):∀ xs:List X,X.rds (xs.map (X.drop t))=X.rds xs
 | []=>rfl
 | x::r=>by simp[X.rds,afo,ajZ t r]
theorem drop_drop (t u:Tk):∀ x:X,(x.drop t).drop u=(x.drop u).drop t :=
 X.rec (motive_1:=fun x=>(x.drop t).drop u=(x.drop u).drop t) (motive_2:=fun xs=>X.drops u (X.drops t xs)=X.drops t (X.drops u xs))
  (fun _=>rfl) rfl
  (fun t' e z cs n=>by
   by_cases h1:t'=t
   .by_cases h2:t'=u
    .subst h1;subst h2;simp[X.drop]
    .subst h1;simp[X.drop,h2]
   .by_cases h2:t'=u
    .subst h2;simp[X.drop,h1]
    .simp[X.drop,h1,h2])
  (fun _ _=>rfl) (fun _=>rfl) (fun f xs ih=>by simp[X.drop,ih])
  (fun xs ih=>by simp[X.drop,ih]) (fun xs ih=>by simp[X.drop,ih])
  (fun o ty z=>by
   cases o with
   | none=>rfl
   | some t' =>
    by_cases h1:t'=t
    .by_cases h2:t'=u
     .subst h1;subst h2;simp[X.drop,aa3]
     .subst h1;simp[X.drop,aa3,h2]
    .by_cases h2:t'=u
     .subst h2;simp[X.drop,aa3,h1]
     .simp[X.drop,aa3,h1,h2])
  rfl (fun x xs ih1 ih2=>by simp[X.drops,ih1,ih2])
theorem eL (t t':Tk) (e z:Nat) (cs:List C) (n:Nat):(X.own t' e z cs n).drop t=.of (.sl cs n)∨(X.own t' e z cs n).drop t=.own t' e z cs n:=by
 simp only[X.drop]
 split
 .exact .inl rfl
 .exact .inr rfl
theorem amR (t:Tk) (o:Option C):(o.map X.of).map (X.drop t)=o.map X.of:=by cases o <;> rfl
theorem jU (t:Tk) (x:X):jF (x.drop t)=jF x:=by
 cases x with
 | own t' e z cs n=>rcases eL t t' e z cs n with h|h <;> rw[h] <;> rfl
 | _=>rfl
theorem arm (t:Tk) (x:X):jv (x.drop t)=jv x:=by
 cases x with
 | own t' e z cs n=>rcases eL t t' e z cs n with h|h <;> rw[h] <;> rfl
 | _=>rfl
theorem ae0 (t:Tk) (x:X):jn (x.drop t)=jn x:=by
 cases x with
 | own t' e z cs n=>rcases eL t t' e z cs n with h|h <;> rw[h] <;> rfl
 | _=>rfl
theorem ajI (t:Tk) (x:X):bQ (x.drop t)=(bQ x).map (List.map (X.drop t)):=by
 cases x with
 | own t' e z cs n=>simp only[X.drop];split <;> simp[bQ,X.drop, *]
 | of c=>cases c <;> simp[X.drop,bQ]
 | _=>simp[X.drop,bQ,gM]
theorem ags (t:Tk) (v:Value):(iV v).drop t=iV v:=by
 unfold iV
 split <;> rfl
theorem acV (T:TT) (t:Tk) (ty:Nat) (xs:List X):cw T ty (xs.map (X.drop t))=(cw T ty xs).map (X.drop t):=by
 unfold cw
 split
 .rfl
 .rename_i d _
  simp only[List.length_map]
  split
  .split
   .simp[X.drop,gM,List.map_take]
   .cases xs <;> simp
  .rfl
theorem cf (t:Tk) (s:S) (x:Operand):(s.drop (some t)).ev x=(s.ev x).drop t:=by
 cases x <;> simp[S.ev,S.drop,X.drop,ags]
theorem agm (t:Tk) (s:S):∀ l,fN (s.drop (some t)).ev l=fN s.ev l
 | []=>rfl
 | x::r=>by simp[fN,cf,afo,agm t s r]
theorem afa (t:Tk) (s:S):∀ l,fe (s.drop (some t)).ev l=(fe s.ev l).map (List.map fun p=>(p.1,p.2.map (X.drop t)))
 | []=>rfl
 | (i,x)::r=>by
  simp only[fe,cf,ajI,afa t s r]
  cases bQ (s.ev x) <;> cases fe s.ev r <;> simp
theorem adG (place:Nat→Option (Nat×Nat)) (t:Tk):∀ (qs:List (Nat×List X)) (cells:List X),eC place (cells.map (X.drop t)) (qs.map fun p=>(p.1,p.2.map (X.drop t)))=(eC place cells qs).map (List.map (X.drop t))
 | [],cells=>rfl
 | (i,xs)::r,cells=>by
  simp only[List.map_cons,eC]
  cases place i with
  | none=>rfl
  | some p =>
   obtain⟨off,size⟩:=p
   simp only[List.length_map]
   split
   .rw[← adG place t r]
    simp[List.map_take,List.map_drop]
   .rfl
def dB (t:Tk):Out→Out
 | none=>none
 | some (x,u)=>if u=some t then none else some (x.drop t,u)
theorem dM (t:Tk):dB t none=none:=rfl
theorem eY (t:Tk) (x:X):dB t (out x)=out (x.drop t):=by simp[dB,out]
theorem gh (t:Tk) (x:Option X):dB t (bB x)=bB (x.map (X.drop t)):=by cases x <;> simp[dB,bB]
theorem ic (t:Tk) (c:Prop) [Decidable c] (a b:Out):dB t (if c then a else b)=if c then dB t a else dB t b:=by split <;> rfl
theorem ads (t:Tk) (d:TD):(dG d).map (X.drop t)=dG d:=by
 simp[dG,ags]
theorem anW (t:Tk) (s:S) (r:Nat):(s.drop (some t)).objs[r]?=(s.objs[r]?).map (Ob.drop t):=by simp[S.drop]
theorem azi (T:TT) (t:Tk) (s:S) (ty:Nat) (x:X):j6 T (s.drop (some t)).objs ty (x.drop t)=dB t (j6 T s.objs ty x):=by
 cases x with
 | ptr r off =>
  simp only[X.drop,j6,anW]
  cases s.objs[r]? with
  | none=>rfl
  | some ob =>
   cases ob with
   | var ty xs=>simp only[Option.map_some,Ob.drop,gM,← List.map_drop,acV,gh]
   | map es=>rfl
 | of c =>
  cases c <;> simp only[X.drop,j6,dM,gh,amR]
 | own t' e z cs n=>rcases eL t t' e z cs n with h|h <;> rw[h] <;> rfl
 | _=>rfl
theorem alM (T:TT) (t:Tk) (ty f:Nat) (x:X):gL T ty f (x.drop t)=dB t (gL T ty f x):=by
 unfold gL
 cases aek T ty f with
 | none=>rfl
 | some p =>
  obtain⟨o,z⟩:=p
  simp only[ic,dM]
  split
  .cases x with
   | of c=>cases c <;> simp[X.drop,dB,out]
   | own t' e z cs n=>rcases eL t t' e z cs n with h|h <;> rw[h] <;> rfl
   | _=>simp[X.drop,dB,out]
  .rfl
theorem atG (T:TT) (t:Tk) (ty f:Nat) (x:X):aaN T ty f (x.drop t)=dB t (aaN T ty f x):=by
 unfold aaN
 split
 .split
  .cases x with
   | of c =>
    cases c <;> simp only[X.drop,dM,gh,amR]
   | own t' e z cs n=>rcases eL t t' e z cs n with h|h <;> rw[h] <;> rfl
   | agg xs=>simp only[X.drop,gM,← List.map_drop,acV,gh]
   | _=>rfl
  .rfl
 .rfl
theorem alC (T:TT) (t:Tk) (ty:Nat) (x i:X):bF T ty (x.drop t) (i.drop t)=dB t (bF T ty x i):=by
 unfold bF
 rw[jU]
 split
 .rfl
 .split
  .rw[ae0]
   split
   .simp only[ic,dM,eY,X.drop]
   .rfl
  .split
   .simp only[ic,dM]
    split
    .cases x with
     | of c=>cases c <;> simp[X.drop,dB,out]
     | own t' e z cs n=>rcases eL t t' e z cs n with h|h <;> rw[h] <;> rfl
     | _=>simp[X.drop,dB,out]
    .rfl
   .rfl
  .rfl
theorem atz (T:TT) (t:Tk) (ty:Nat) (x i:X):aak T ty (x.drop t) (i.drop t)=dB t (aak T ty x i):=by
 unfold aak
 rw[jU]
 split
 .rfl
 .cases x with
  | of c =>
   cases c with
   | lit v =>
    cases v with
    | string st =>
     simp only[X.drop]
     split
     .simp[dB,out,X.drop]
     .rfl
    | _=>rfl
   | agg cs =>
    simp only[X.drop]
    split
    .split
     .rename_i n e _ _ _ _ _ _ _ d _
      simp only[ic,dM,gh,amR]
     .rfl
    .rfl
   | _=>rfl
  | own t' e z cs n=>rcases eL t t' e z cs n with h|h <;> rw[h] <;> rfl
  | agg xs =>
   simp only[X.drop,gM]
   split
   .split
    .simp only[ic,dM,gh,← List.map_drop,acV]
    .rfl
   .rfl
  | _=>rfl
theorem aol (t:Tk) (d:Int) (x:Option X):kM d (x.map (X.drop t))=kM d x:=by
 cases x <;> simp[kM,jU]
theorem asY (T:TT) (t:Tk) (ty:Nat) (x:X) (lo hi:Option X):fE T ty (x.drop t) (lo.map (X.drop t)) (hi.map (X.drop t))=dB t (fE T ty x lo hi):=by
 have slice:∀ y:X,(∀ s,y≠.of (.lit (.string s)))→fE T ty y lo hi=match elemOf T ty,jn y with
  | some (_,d),some (cs,n) =>
   match kM 0 lo,kM (n:Int) hi with
   | some l,some h=>if 0≤l∧l≤h∧h≤(n:Int)∧cs.length=n*d.size then out (.of (.sl ((cs.drop (l.toNat*d.size)).take ((h.toNat-l.toNat)*d.size)) (h.toNat-l.toNat))) else none
   | _,_=>none
  | _,_=>none:=by
  intro y hy
  unfold fE
  split
  .rename_i st;exact (hy st rfl).elim
  .rfl
 have slice':∀ y:X,(∀ s,y≠.of (.lit (.string s)))→fE T ty y (lo.map (X.drop t)) (hi.map (X.drop t))=match elemOf T ty,jn y with
  | some (_,d),some (cs,n) =>
   match kM 0 lo,kM (n:Int) hi with
   | some l,some h=>if 0≤l∧l≤h∧h≤(n:Int)∧cs.length=n*d.size then out (.of (.sl ((cs.drop (l.toNat*d.size)).take ((h.toNat-l.toNat)*d.size)) (h.toNat-l.toNat))) else none
   | _,_=>none
  | _,_=>none:=by
  intro y hy
  unfold fE
  split
  .rename_i st;exact (hy st rfl).elim
  .simp only[aol]
   rfl
 have fin:(match elemOf T ty,jn x with
  | some (_,d),some (cs,n) =>
   match kM 0 lo,kM (n:Int) hi with
   | some l,some h=>if 0≤l∧l≤h∧h≤(n:Int)∧cs.length=n*d.size then out (.of (.sl ((cs.drop (l.toNat*d.size)).take ((h.toNat-l.toNat)*d.size)) (h.toNat-l.toNat))) else none
   | _,_=>none
  | _,_=>none)=dB t (match elemOf T ty,jn x with
  | some (_,d),some (cs,n) =>
   match kM 0 lo,kM (n:Int) hi with
   | some l,some h=>if 0≤l∧l≤h∧h≤(n:Int)∧cs.length=n*d.size then out (.of (.sl ((cs.drop (l.toNat*d.size)).take ((h.toNat-l.toNat)*d.size)) (h.toNat-l.toNat))) else none
   | _,_=>none
  | _,_=>none):=by
  split
  .split
   .simp only[ic,dM,eY,X.drop]
   .rfl
  .rfl
 by_cases hstr:∃ st,x=.of (.lit (.string st))
 .obtain⟨st,rfl⟩:=hstr
  simp only[X.drop,fE,aol]
  split
  .split
   .simp only[ic,dM,eY,X.drop]
   .rfl
  .rfl
 .have h1:∀ s,x≠.of (.lit (.string s)):=fun s e=>hstr ⟨s,e⟩
  have h2:∀ s,x.drop t≠.of (.lit (.string s)):=fun s e=>by
   cases x with
   | own t' e' z cs n=>simp only[X.drop] at e;split at e <;> cases e
   | of c=>exact h1 s e
   | _=>simp[X.drop] at e
  rw[slice' _ h2,slice _ h1,ae0]
  exact fin
theorem aCN (t:Tk) (u:Option TypeDesc) (x:X):fh u (x.drop t)=dB t (fh u x):=by
 cases x with
 | of c =>
  cases c with
  | lit v=>cases v <;> simp only[X.drop,fh,jn,dM,ic,eY]
  | _=>simp only[X.drop,fh,jn,dM,ic,eY]
 | own t' e z cs n=>simp only[X.drop];split <;> simp only[fh,jn,ic,dM,eY,X.drop]
 | _=>simp only[X.drop,fh,jn,dM,ic,eY]
theorem alY (T:TT) (t:Tk) (d:Option TD) (x:X):agM T d (x.drop t)=dB t (agM T d x):=by
 unfold agM
 rw[ae0]
 split
 .split
  .rename_i cs _ _ _
   cases abO cs <;> simp[bB,dB,X.drop]
  .rfl
 .rfl
def alX (T:TT) (a b:Nat) (y:X):Out:=match (T b).map (·.und) with
 | some TypeDesc.string=>agM T (T a) y
 | _=>none
theorem az1 (T:TT) (t:Tk) (a b:Nat) (x:X):alX T a b (x.drop t)=dB t (alX T a b x):=by
 unfold alX
 split
 .exact alY T t (T a) x
 .rfl
theorem fI (T:TT) (a b:Nat) (y:X) (hy:∀ c,y≠.of (.lit c)):aaO T a b y=alX T a b y:=by
 unfold aaO alX
 generalize (T b).map (·.und)=u
 generalize T a=d
 split
 .exact absurd rfl (hy _)
 .exact absurd rfl (hy _)
 .rfl
 .split
  .simp_all
  .rfl
theorem aoW (T:TT) (t:Tk) (a b:Nat) (x:X):aaO T a b (x.drop t)=dB t (aaO T a b x):=by
 have hN:=az1 T t a b x
 cases x with
 | of c =>
  have hB:=alY T t (T a) (.of c)
  simp only[X.drop] at hB ⊢
  unfold aaO
  split
  .simp[dB,out,X.drop]
  .simp[dB,out,X.drop]
  .exact hB
  .rfl
 | own t' e z cs n =>
  have e1:=fI T a b (.own t' e z cs n) (fun c h=>by cases h)
  have e2:=fI T a b ((X.own t' e z cs n).drop t) (fun c h=>by rcases eL t t' e z cs n with h'|h' <;> rw[h'] at h <;> cases h)
  rw[e1,e2]
  exact hN
 | nil=>rw[fI T a b _ (fun c h=>by cases h),fI T a b _ (fun c h=>by cases h)];exact hN
 | ptr r o=>rw[fI T a b _ (fun c h=>by cases h),fI T a b _ (fun c h=>by cases h)];exact hN
 | mp r=>rw[fI T a b _ (fun c h=>by cases h),fI T a b _ (fun c h=>by cases h)];exact hN
 | clo f l=>rw[fI T a b _ (fun c h=>by cases h),fI T a b _ (fun c h=>by cases h)];exact hN
 | agg l=>rw[fI T a b _ (fun c h=>by cases h),fI T a b _ (fun c h=>by cases h)];exact hN
 | tup l=>rw[fI T a b _ (fun c h=>by cases h),fI T a b _ (fun c h=>by cases h)];exact hN
 | nw o ty z=>rw[fI T a b _ (fun c h=>by cases h),fI T a b _ (fun c h=>by cases h)];exact hN
theorem agz (t:Tk) (x:X):dN (x.drop t)=dN x:=by
 cases x with
 | own t' e z cs n=>rcases eL t t' e z cs n with h|h <;> rw[h] <;> rfl
 | _=>rfl
theorem azg (t:Tk) (s:S) (x:X):aci (s.drop (some t)).objs (x.drop t)=aci s.objs x:=by
 cases x with
 | own t' e z cs n=>rcases eL t t' e z cs n with h|h <;> rw[h] <;> rfl
 | mp r =>
  simp only[X.drop,aci,anW]
  cases s.objs[r]? with
  | none=>rfl
  | some ob=>cases ob <;> rfl
 | of c =>
  cases c with
  | lit v=>cases v with
   | map m=>cases m <;> rfl
   | _=>rfl
  | _=>rfl
 | _=>rfl
theorem ax8 (T:TT) (t:Tk) (et:Nat):(aex T et).map (X.drop t)=aex T et:=by
 unfold aex
 split
 .rw[← acV,ads]
 .rfl
theorem arj (T:TT) (t:Tk) (s:S) (ty:Nat) (x kx:X) (ok:Bool):aaq T (s.drop (some t)).objs ty (x.drop t) (kx.drop t) ok=dB t (aaq T s.objs ty x kx ok):=by
 unfold aaq
 rw[agz,azg]
 split
 .rename_i kind et kv es _ _ _
  split
  .rename_i i _
   rw[gh]
   cases es[i]? with
   | none=>rfl
   | some p=>cases ok <;> rfl
  .rw[gh]
   congr 1
   have h:=ax8 T t et
   cases hz:aex T et with
   | none=>rfl
   | some z =>
    rw[hz] at h
    simp only[Option.map_some,Option.some.injEq] at h
    cases ok with
    | true=>simp[X.drop,X.drops,h]
    | false=>simp[h]
  .rfl
 .rfl
theorem at1 (T:TT) (t:Tk) (st xt e:Nat) (x:X):adc T st xt e (x.drop t)=adc T st xt e x:=by
 unfold adc
 rw[ae0]
 split
 .rfl
 .cases x with
  | own t' e z cs n=>rcases eL t t' e z cs n with h|h <;> rw[h]
  | _=>rfl
theorem asl (T:TT) (t tk:Tk) (ht:t≠tk) (st xt:Nat) (x y:X):dh T tk st xt (x.drop t) (y.drop t)=dB t (dh T tk st xt x y):=by
 unfold dh
 split
 .rw[at1]
  split
  .split
   .cases x with
    | own t' e z cs n =>
     simp only[X.drop]
     by_cases he:t'=t
     .subst he
      simp only[if_true]
      split
      .simp[dB]
      .rfl
     .simp only[he,if_false,ic,dM]
      split
      .simp[dB,he,X.drop,Ne.symm ht]
      .rfl
    | nil =>
     simp only[X.drop,ic,dM]
     split
     .simp[dB,X.drop,Ne.symm ht]
     .rfl
    | _=>simp[X.drop,dB]
   .rfl
  .rfl
 .rfl
theorem atp (t:Tk) (clk ix:Nat) (ht:∀ i,t≠.nm clk ix i):∀ x:X,(x.tr (fun _=>none) (iJ clk ix)).drop t=x.tr (fun _=>none) (iJ clk ix) :=
 X.rec (motive_1:=fun x=>(x.tr (fun _=>none) (iJ clk ix)).drop t=x.tr (fun _=>none) (iJ clk ix)) (motive_2:=fun xs=>X.drops t (X.trs (fun _=>none) (iJ clk ix) xs)=X.trs (fun _=>none) (iJ clk ix) xs)
  (fun _=>rfl) rfl
  (fun t' e z cs n=>by
   simp only[X.tr]
   split
   .rename_i t2 h2
    have:t2≠t:=by
     unfold iJ at h2
     split at h2
     .cases h2;exact Ne.symm (ht _)
     .cases h2
    simp[X.drop,this]
   .rfl)
  (fun _ _=>rfl) (fun _=>rfl) (fun f xs ih=>by simp only[X.tr,X.drop,ih]) (fun xs ih=>by simp only[X.tr,X.drop,ih]) (fun xs ih=>by simp only[X.tr,X.drop,ih])
  (fun o ty z=>by
   cases o with
   | none=>rfl
   | some t' =>
    simp only[X.tr,Option.bind_some,X.drop]
    cases h2:iJ clk ix t' with
    | none=>rfl
    | some t2 =>
     have:t2≠t:=by
      unfold iJ at h2
      split at h2
      .cases h2;exact Ne.symm (ht _)
      .cases h2
     simp[aa3,this])
  rfl
  (fun x xs h1 h2=>by simp only[X.trs,X.drops,h1,h2])
theorem aza (t:Tk) (clk ix:Nat) (ht:∀ i,t≠.nm clk ix i) (xs:List X):(acf clk ix xs).map (X.drop t)=acf clk ix xs:=by
 unfold acf
 induction xs with
 | nil=>rfl
 | cons x xs ih=>simp only[X.trs,List.map_cons,atp t clk ix ht,ih]
theorem aBP (t:Tk) (xs:List X):(aaJ xs).drop t=aaJ (xs.map (X.drop t)):=by
 match xs with
 | []=>simp[aaJ,X.drop,gM]
 | [x]=>simp[aaJ]
 | x::y::r=>simp[aaJ,X.drop,gM]
theorem aAd (P:Program) (E:En) (t:Tk) (clk ix f:Nat) (ht:∀ i,t≠.nm clk ix i) (cs:List C):aaF P E clk ix f cs=dB t (aaF P E clk ix f cs):=by
 unfold aaF
 split
 .split
  .rw[eY,aBP,aza t _ _ ht]
  .rfl
 .rfl
theorem aCD (t:Tk) (x y:X):arf (x.drop t) (y.drop t)=dB t (arf x y):=by
 unfold arf
 rw[jU,jU]
 split
 .rw[eY];rfl
 .rfl
theorem aCF (t:Tk) (x y:X):aj8 (x.drop t) (y.drop t)=dB t (aj8 x y):=by
 unfold aj8
 rw[jU,jU]
 split
 .rw[eY];rfl
 .rfl
theorem az0 (T:TT) (t:Tk) (a b:Nat) (x:X):adJ T a b (x.drop t)=dB t (adJ T a b x):=by
 have hN:=aoW T t a b x
 unfold adJ
 cases hu:(T b).map (·.und) with
 | none=>exact hN
 | some u =>
  cases u with
  | slice e =>
   cases x with
   | of c =>
    cases c with
    | lit v =>
     cases v with
     | string s =>
      simp only[X.drop,apM]
      split <;> simp[dB,out,X.drop]
     | _=>exact hN
    | _=>exact hN
   | own t' e' z cs n =>
    rcases eL t t' e' z cs n with h|h <;> rw[h] at hN ⊢ <;> exact hN
   | _=>exact hN
  | _=>exact hN
theorem ap6 (P:Program) (T:TT) (E:En) (t:Tk) (s:S) (ix:Nat) (ht:∀ i,t≠.nm s.clk ix i) (cal:Callee) (args:List Operand) (tys:List Nat) :
  abN P T E (s.drop (some t)) ix cal args tys=dB t (abN P T E s ix cal args tys):=by
 unfold abN
 split
 .rw[cf,aCN]
 .rw[cf,cf];exact asl T t _ (ht 0) _ _ _ _
 .rw[cf,cf,aCD]
 .rw[cf,cf,aCF]
 .rename_i f
  rw[agm,cf]
  cases hf:s.ev f with
  | of c =>
   cases c <;> simp only[X.drop,dM]
   split
   .exact aAd P E t s.clk ix _ ht _
   .rfl
  | own t' e z cs n=>rcases eL t t' e z cs n with h|h <;> rw[h] <;> rfl
  | _=>rfl
 .rfl
theorem ap4 (P:Program) (T:TT) (E:En) (t:Tk) (s:S) (ix:Nat) (ht:∀ i,t≠.nm s.clk ix i) (o:Oper):val P T E (s.drop (some t)) ix o=dB t (val P T E s ix o):=by
 unfold val
 split
 .rw[cf,eY]
 .rw[cf,eY]
 .rw[cf,arm,cf,cf]
  split
  .rename_i b _
   cases b <;> simp[eY]
  .rfl
 .rename_i op ty x y yt _
  rw[cf,cf]
  unfold dX
  rw[agz,agz,afo,afo]
  split
  .rename_i u v _ _
   cases gp ((T ty).map (·.und)) op u v <;> rfl
  .unfold adb
   split
   .rename_i cs ds _ _
    split
    .cases aah P T ty cs ds <;> rfl
    .cases aah P T ty cs ds <;> rfl
    .rfl
   .rfl
 .rename_i op ty x _
  rw[cf]
  cases s.ev x with
  | of c =>
   cases c <;> simp only[X.drop,dM,gh]
   rename_i u
   cases akD op u <;> rfl
  | own t' e z cs n=>rcases eL t t' e z cs n with h|h <;> rw[h] <;> rfl
  | _=>rfl
 .rw[cf];exact azi T t s _ _
 .rw[cf,alM]
 .rw[cf,atG]
 .rw[cf,cf,alC]
 .rw[cf,cf,atz]
 .rename_i ty x lo hi _
  rw[cf,← asY]
  congr 1
  .cases lo <;> simp[cf]
  .cases hi <;> simp[cf]
 .rename_i ty ps _
  rw[afa]
  cases T ty with
  | none=>rfl
  | some d =>
   cases fe s.ev ps.toList with
   | none=>rfl
   | some qs =>
    simp only[Option.map_some]
    split
    .have h1:=adG (fun i=>d.fields[i]?) t qs (dG d)
     rw[ads] at h1
     rw[h1,gh]
     cases eC (fun i=>d.fields[i]?) (dG d) qs <;> simp[X.drop,gM]
    .split
     .rename_i de _
      have h1:=adG (fun i=>some (i*de.size,de.size)) t qs (dG d)
      rw[ads] at h1
      rw[h1,gh]
      cases eC (fun i=>some (i*de.size,de.size)) (dG d) qs <;> simp[X.drop,gM]
     .rfl
    .rfl
 .rename_i ty n ps _
  rw[afa]
  cases elemOf T ty with
  | none=>rfl
  | some ed =>
   obtain⟨e,d⟩:=ed
   cases fe s.ev ps.toList with
   | none=>rfl
   | some qs =>
    simp only[Option.map_some]
    split
    .have h0:((List.replicate n (dG d)).flatten).map (X.drop t)=(List.replicate n (dG d)).flatten:=by
      rw[List.map_flatten,List.map_replicate,ads]
     have h1:=adG (fun i=>some (i*d.size,d.size)) t qs ((List.replicate n (dG d)).flatten)
     rw[h0] at h1
     rw[h1]
     cases eC (fun i=>some (i*d.size,d.size)) ((List.replicate n (dG d)).flatten) qs with
     | none=>rfl
     | some xs =>
      simp only[Option.map_some,ajZ]
      cases X.rds xs with
      | none=>rfl
      | some cs =>
       simp only[eY,X.drop]
       rw[if_neg (fun e=>ht 0 e.symm)]
       rfl
    .rfl
 .rename_i x i _
  rw[cf]
  cases s.ev x with
  | of c =>
   cases c <;> simp only[X.drop,dM,gh]
   rename_i cs
   cases cs[i]? <;> rfl
  | own t' e z cs n=>rcases eL t t' e z cs n with h|h <;> rw[h] <;> rfl
  | tup xs=>simp[X.drop,gM,gh]
  | _=>rfl
 .rename_i x _
  rw[cf]
  cases s.ev x with
  | of c=>cases c <;> simp only[X.drop,dM,eY]
  | own t' e z cs n=>rcases eL t t' e z cs n with h|h <;> rw[h] <;> rfl
  | _=>simp[X.drop,dB,out]
 .rw[agm]
  split
  .split
   .simp[eY,X.drop]
   .rfl
  .rfl
 .rw[cf,az0]
 .rw[cf,cf];exact arj T t s _ _ _ _
 .rw[cf,afo]
  split
  .simp[eY,X.drop]
  .rfl
 .exact ap6 P T E t s ix ht _ _ _
 .split
  .split
   .rw[eY]
    simp only[S.drop,X.drop,aa3]
    rw[if_neg (fun e=>ht 0 e.symm)]
   .rfl
  .rfl
 .rename_i ty d x _
  have h1:cX ((s.drop (some t)).ev x)=cX (s.ev x):=by
   unfold cX
   rw[cf,ajI]
   cases bQ (s.ev x) with
   | none=>rfl
   | some l=>simp only[Option.map_some,Option.bind_some,ajZ]
  rw[h1]
  have h2:(s.drop (some t)).fr d=(s.fr d).drop t:=rfl
  rw[h2]
  cases hT:T ty with
  | none=>rfl
  | some td =>
   cases hf:s.fr d with
   | nw ok ty' z =>
    cases ok with
    | none=>rfl
    | some tk =>
    by_cases hk:tk=t
    .subst hk
     simp only[X.drop,aa3,if_true]
     cases cX (s.ev x) with
     | none=>rfl
     | some cs =>
      cases o.guard with
      | some g=>rfl
      | none =>
       cases o.dst with
       | some d'=>rfl
       | none =>
        simp only
        split
        .simp[dB]
        .rfl
    .simp only[X.drop,aa3,hk,if_false]
     cases cX (s.ev x) with
     | none=>rfl
     | some cs =>
      cases o.guard with
      | some g=>rfl
      | none =>
       cases o.dst with
       | some d'=>rfl
       | none =>
        simp only
        split
        .simp[dB,hk,X.drop]
        .rfl
   | own t' e z cs n=>rcases eL t t' e z cs n with h|h <;> rw[h] <;> rfl
   | _=>rfl
 .rfl
end Go.Pe

/- A part. Conditions: none. -/
import Derived.Test.YtghkmcffifpkeaaGreatPa3
set_option linter.all false
set_option maxRecDepth 100000
set_option maxHeartbeats 64000000
namespace Go.Pe
open RowKit
section
variable {P:Program} {M0:Base} {k:Know} {ow:Own} {done:Nat->Prop} {w0 w:World} {N:Nat} {s:S} {tmps:Array Value} {ds:List Deferred}
theorem Sim.newOb(h:Sim M0 k ow done w0 w N s tmps){ob:Ob}(o:Obj)(hob:∀ k' w',k.le k'->w'.heap[w.heap.size]?=some o->adH k' ow w' w.heap.size ob) :
  ∃ k',k.le k'/\k'.μ s.objs.length=some w.heap.size/\Sim M0 k' ow done w0 (w.alloc o) N {s with objs:=s.objs++[ob]} tmps:=by
 let k':Know:={m:=k.m,μ:=λr=>if r=s.objs.length then some w.heap.size else k.μ r}
 have hle:k.le k':=⟨λ_ _ _ h=>h,λr b hr=>by
  have:=h.dom r b hr
  show (if r=s.objs.length then some w.heap.size else k.μ r)=some b
  rw[aA aC];exact hr⟩
 have hb:Below w.heap.size w (w.alloc o):=(Below.refl _ _).alloc (am _) _
 have hg:=h.grow hb
 refine⟨k',hle,by simp[k'],?_⟩
 exact {
  good:=hg.good
  size:=hg.size
  below:=hg.below
  fr:=λj=>aL.mono hle (λ_ _ h=>h) _ _ (hg.fr j)
  mem:=hg.mem
  obj:=λr ob' hr=>by
   by_cases hlast:r=s.objs.length
   .subst hlast
    simp at hr
    subst hr
    refine⟨w.heap.size,by simp[k'],.inl h.below.size,by simp,λ_ o'=>?_,hob _ _ hle (heap_alloc_new w _)⟩
    show k.m w.heap.size o'=none
    cases hm:k.m w.heap.size o' with
    | none=>rfl
    | some u=>have:=agq h.mem hm;omega
   .have hr':s.objs[r]?=some ob':=by
     rcases av r s.objs.length with g|g
     .rwa [bq g] at hr
     .rw[fd g] at hr
      have:r-s.objs.length≠0:=by omega
      obtain⟨q,hq⟩:=abn this
      rw[hq] at hr
      simp at hr
    obtain⟨b,g1,g2,g3,g4,g5⟩:=hg.obj r ob' hr'
    exact⟨b,hle.2 _ _ g1,g2,g3,g4,g5.mono hle (λ_ _ h=>h)⟩
  dom:=λr b hr=>by
   simp only[k'] at hr
   simp only[bp,ft]
   split at hr
   .omega
   .have:=h.dom r b hr;omega
  inj:=λr r' b hr hr' hl hl'=>by
   simp only[k'] at hr hr'
   split at hr
   .split at hr'
    .omega
    .have:=(h.lt hr').2.1
     have:=aG hr
     omega
   .split at hr'
    .have:=(h.lt hr).2.1
     have:=aG hr'
     omega
    .exact h.inj r r' b hr hr' (aet hl (h.dom r b hr)) (aet hl' (h.dom r' b hr'))
  tok:=λt v e z n ht=>by
   obtain⟨g1,g2⟩:=hg.tok t v e z n ht
   refine⟨g1,λg hgo=>⟨(g2 g hgo).1,(g2 g hgo).2.1,λr hr=>?_⟩⟩
   simp only[k'] at hr
   split at hr
   .have:=(h.tlt ht hgo).2
    have:=aG hr
    omega
   .exact⟨akt ((g2 g hgo).2.2 r hr).1,λhl=>((g2 g hgo).2.2 r hr).2 (aet hl (h.dom r g hr))⟩
  tokne:=hg.tokne
  fresh:=hg.fresh
  cells:=λr off p ht=>by
   have:=h.cells r off p ht
   simp only[bp,ft]
   omega
  m0:=hg.m0}
theorem Sim.newVar(h:Sim M0 k ow done w0 w N s tmps){xs:List X}{vs:List Value}(ty:TypeId)(hx:aV k ow xs vs)(h1:∀ u∈vs,u.oneCell'=true) :
  ∃ k',k.le k'/\k'.μ s.objs.length=some w.heap.size/\Sim M0 k' ow done w0 (w.alloc (.cells vs.toArray ty)) N {s with objs:=s.objs++[Ob.var ty xs]} tmps :=
 h.newOb _ λ_ _ hle hh=>⟨vs,hh,h1,aV.mono hle (λ_ _ h=>h) _ _ hx⟩
theorem Sim.made(hs:Sim M0 k ow done w0 w N s tmps){tk:Tk}(hek:tk.isRow=false){b t z d:Nat}{vs:List Value}{xs:List X}{cur:Array Value}(hk:ow tk=some (.slice (some ⟨b,0,none⟩) 0 1,t,z,0))(hv:tmps.getD d undef=.pointer (some ⟨b,0,none⟩))
  (hr:aV k ow xs vs) (h1:∀ u∈vs,u.oneCell'=true) (hh:w.heap[b]?=some (.cells cur t (0,0))) :
  ∃ k',k.le k'/\Sim M0 k' (ow.del tk) done w0 (w.setRow b vs.toArray) N (aou (s.drop (some tk)) d t (X.drops tk xs)) tmps:=by
 have h:=hs.del tk hek
 have htok:=(hs.tok _ _ _ _ _ hk).2 b rfl
 obtain⟨q1,q2,q3⟩:=htok
 have hbl:b<w.heap.size:=(Array.getElem?_eq_some_iff.1 hh).1
 let k':Know:={m:=k.m,μ:=λr=>if r=s.objs.length then some b else k.μ r}
 have hle:k.le k':=⟨λ_ _ _ h=>h,λr b' hr=>by
  have:=hs.dom r b' hr
  show (if r=s.objs.length then some b else k.μ r)=some b'
  rw[aA aC];exact hr⟩
 have hmb:∀ o,k.m b o=none:=λo=>q2 o aC
 have hdd:∀ r,k.μ r=some b->¬ Liv s.objs r:=λr hr=>ahn (by have:=(q3 r hr).1;rwa [abz] at this)
 have hlen:(s.drop (some tk)).objs.length=s.objs.length:=by simp[S.drop]
 have hoth:∀ c,c≠b->(w.setRow b vs.toArray).heap[c]?=w.heap[c]?:=λc hc=>setRow_other w b c _ hc
 have hsz:(w.setRow b vs.toArray).heap.size=w.heap.size:=by simp[World.setRow]
 have hS:Sim M0 k' (ow.del tk) done w0 (w.setRow b vs.toArray) N {s.drop (some tk) with objs:=(s.drop (some tk)).objs++[Ob.var t (X.drops tk xs)]} tmps:={
  good:=h.good
  size:=h.size
  below:=⟨h.below.os,h.below.tape,h.below.output,by rw[hsz];exact h.below.size,λb' hb' hm=>by
   rw[hoth b' (λe=>by subst e;rcases q1 with q|q;omega;exact hm q)]
   exact h.below.block b' hb' hm⟩
  fr:=λj=>aL.mono hle (λ_ _ h=>h) _ _ (h.fr j)
  mem:=λb' o v hm=>by
   have hne:b'≠b:=λe=>by subst e;rw[show k'.m b' o=k.m b' o from rfl,hmb] at hm;cases hm
   obtain⟨g1,g2⟩:=h.mem b' o v hm
   exact⟨(World.cell?_of_block (a:=⟨b',o,none⟩) (hoth b' hne)).trans g1,g2⟩
  obj:=λr ob' hr'=>by
   by_cases hlast:r=s.objs.length
   .subst hlast
    rw[fd (by rw[hlen];exact am _),hlen] at hr'
    simp at hr'
    subst hr'
    exact⟨b,by simp[k'],q1,by rw[hsz];exact hbl,λ_=>hmb,vs,setRow_heap w b cur _ t (0,0) hh,h1,aV.mono hle (λ_ _ h=>h) _ _ (aV.drop tk hek _ _ hr)⟩
   .have hr2:(s.drop (some tk)).objs[r]?=some ob':=by
     rcases av r (s.drop (some tk)).objs.length with g|g
     .rwa [bq g] at hr'
     .rw[fd g] at hr'
      have:r-(s.drop (some tk)).objs.length≠0:=by omega
      obtain⟨q,hq⟩:=abn this
      rw[hq] at hr'
      simp at hr'
    obtain⟨b',g1,g2,g3,g4,g5⟩:=h.obj r ob' hr2
    by_cases hbb:b'=b
    .subst hbb
     exact⟨b',hle.2 _ _ g1,g2,by rw[hsz];exact g3,g4,.dead (al5 hr2 λhl=>hdd r g1 (adQ (ag2 tk) hl))⟩
    .exact⟨b',hle.2 _ _ g1,g2,by rw[hsz];exact g3,g4,(g5.keep (hoth b' hbb)).mono hle (λ_ _ h=>h)⟩
  dom:=λr b' hr'=>by
   simp only[k'] at hr'
   simp only[bp,ft,hlen]
   split at hr'
   .omega
   .have:=hs.dom r b' hr';omega
  inj:=λr r' b' hr1 hr2 hl hl'=>by
   have old:∀ r,r<s.objs.length->Liv ((s.drop (some tk)).objs++[Ob.var t (X.drops tk xs)]) r->Liv s.objs r:=λr hr hl=>adQ (ag2 tk) (aet hl (by simpa [S.drop] using hr))
   simp only[k'] at hr1 hr2
   split at hr1
   .split at hr2
    .omega
    .have:=aG hr1
     subst this
     exact absurd (old r' (hs.dom r' _ hr2) hl') (hdd r' hr2)
   .split at hr2
    .have:=aG hr2
     subst this
     exact absurd (old r (hs.dom r _ hr1) hl) (hdd r hr1)
    .exact hs.inj r r' b' hr1 hr2 (old r (hs.dom r _ hr1) hl) (old r' (hs.dom r' _ hr2) hl')
  tok:=λt' v e' z' n' ht=>by
   obtain⟨⟨ys,g1⟩,g2⟩:=h.tok t' v e' z' n' ht
   have hne:∀ g,v.ownBlock=some g->g≠b:=λg hg e=>by
    subst e
    simp only[Own.del] at ht
    split at ht
    .cases ht
    .rename_i hne
     exact hs.tokne tk t' _ _ _ _ _ _ _ _ hk ht (bC hne) g rfl hg
   refine⟨⟨ys,acE (λg hg _=>hoth g (hne g hg)) g1⟩,λg hgo=>⟨(g2 g hgo).1,(g2 g hgo).2.1,λr hr=>?_⟩⟩
   simp only[k'] at hr
   split at hr
   .exact (hne g hgo (aG hr).symm).elim
   .exact⟨akt ((g2 g hgo).2.2 r hr).1,λhl=>((g2 g hgo).2.2 r hr).2 (aet hl (by simpa [S.drop] using hs.dom r g hr))⟩
  tokne:=h.tokne
  fresh:=h.fresh
  cells:=λr off p ht=>by
   have:=h.cells r off p ht
   simp only[bp,ft]
   omega
  m0:=h.m0}
 refine⟨k',hle,?_⟩
 unfold aou
 refine hS.refr ?_
 rw[hv]
 simp only[aL]
 exact⟨b,by simp[k',hlen],rfl⟩
theorem Sim.setOb(h:Sim M0 k ow done w0 w N s tmps){r b:Nat}{ob:Ob}{w':World}(hb:k.μ r=some b)(hr:r<s.objs.length)(hbel:w'.os=w.os/\w'.tape=w.tape/\w'.output=w.output)(hsz:w'.heap.size=w.heap.size)
  (hoth:∀ c,c≠b->w'.heap[c]?=w.heap[c]?) (hnr:∀ n,¬ gv s.objs n r) (hob:adH k ow w' b ob):Sim M0 k ow done w0 w' N {s with objs:=s.objs.set r ob} tmps:=by
 have hlr:Liv s.objs r:=Classical.byContradiction λhn=>hnr 0 (axB hr hn)
 obtain⟨b',g1,g2,g3,g4,_⟩:=h.obj r _ (aO hr)
 obtain rfl:b=b':=aG (hb.symm.trans g1)
 exact {
  good:=h.good
  size:=h.size
  below:=⟨hbel.1.trans h.below.os,hbel.2.1.trans h.below.tape,hbel.2.2.trans h.below.output,by rw[hsz];exact h.below.size,λc hc hm=>(hoth c (λe=>by
   subst e
   rcases g2 with g2|g2
   .omega
   .exact hm g2)).trans (h.below.block c hc hm)⟩
  fr:=h.fr
  mem:=λc o v hm=>by
   obtain⟨q1,q2⟩:=h.mem c o v hm
   have hne:c≠b:=by
    rintro rfl
    obtain⟨ob0,p1,p2⟩:=hlr
    rw[aO hr] at p1
    obtain rfl:=aG p1
    rw[g4 p2 o] at hm;cases hm
   exact⟨(World.cell?_of_block (a:=⟨c,o,none⟩) (hoth c hne)).trans q1,q2⟩
  obj:=λr' ob' hr'=>by
   by_cases hrr:r'=r
   .subst hrr
    rw[dh hr] at hr'
    simp only[ae] at hr'
    subst hr'
    exact⟨b,hb,g2,by rw[hsz];exact g3,λ_=>(h.toHp.lt hb).2.2 hlr,hob⟩
   .rw[fa (bC hrr)] at hr'
    obtain⟨c,q1,q2,q3,q4,q5⟩:=h.obj r' ob' hr'
    by_cases hcb:c=b
    .subst hcb
     exact⟨c,q1,q2,by rw[hsz];exact q3,q4,.dead (al5 hr' λhl=>hrr (h.inj r' r c q1 hb hl hlr))⟩
    .exact⟨c,q1,q2,by rw[hsz];exact q3,q4,q5.keep (hoth c hcb)⟩
  dom:=λr' c hr'=>by simpa using h.dom r' c hr'
  inj:=λr1 r2 c h1 h2 hl1 hl2=>by
   have old:∀ r',Liv (s.objs.set r ob) r'->Liv s.objs r':=λr' hl=>by
    by_cases e:r'=r
    .subst e;exact hlr
    .exact asg e hl
   exact h.inj r1 r2 c h1 h2 (old r1 hl1) (old r2 hl2)
  tok:=λt v e z n ht=>by
   obtain⟨⟨xs,q1⟩,q2⟩:=h.tok t v e z n ht
   have hne:∀ g,v.ownBlock=some g->g≠b:=λg hg e=>hnr _ ((q2 g hg).2.2 r (by rw[e];exact hb)).1
   refine⟨⟨xs,acE (λg hg _=>hoth g (hne g hg)) q1⟩,λg hg=>⟨(q2 g hg).1,(q2 g hg).2.1,λr' hr'=>?_⟩⟩
   have hrr:r'≠r:=λe=>by subst e;exact hne g hg (aG (hr'.symm.trans hb))
   exact⟨am4 hrr ((q2 g hg).2.2 r' hr').1,λhl=>((q2 g hg).2.2 r' hr').2 (asg hrr hl)⟩
  tokne:=h.tokne
  fresh:=h.fresh
  cells:=λr' off p ht=>by simpa using h.cells r' off p ht
  m0:=h.m0}
theorem Sim.setVar(h:Sim M0 k ow done w0 w N s tmps){r b:Nat}{ys:List X}{vs:List Value}(hb:k.μ r=some b){old:Array Value}{ty:TypeId}(hh:w.heap[b]?=some (.cells old ty (0,0)))
  (hr:r<s.objs.length) (hnr:∀ n,¬ gv s.objs n r) (hx:aV k ow ys vs) (h1:∀ u∈vs,u.oneCell'=true) :
  Sim M0 k ow done w0 (w.setRow b vs.toArray) N {s with objs:=s.objs.set r (Ob.var ty ys)} tmps:=by
 obtain⟨b',g1,g2,_⟩:=h.obj r _ (aO hr)
 obtain rfl:b=b':=aG (hb.symm.trans g1)
 have hsz:(w.setRow b vs.toArray).heap.size=w.heap.size:=by simp[World.setRow]
 have hoth:∀ c,c≠b->(w.setRow b vs.toArray).heap[c]?=w.heap[c]?:=λc hc=>setRow_other w b c _ hc
 exact h.setOb hb hr ⟨rfl,rfl,rfl⟩ hsz hoth hnr ⟨vs,setRow_heap w b old _ ty _ hh,h1,hx⟩
theorem Sim.setMap(h:Sim M0 k ow done w0 w N s tmps){r b cl cl':Nat}{es:List (Value×C)}{ms ms':Array MapEntry}(hb:k.μ r=some b)(hh:w.heap[b]?=some (.map ms cl))(hr:r<s.objs.length)(hnr:∀ n,¬ gv s.objs n r)
  (hk:ms'.toList.map (·.key)=es.map (·.1)) (hv:bA k.m (es.map (·.2)) (ms'.toList.map (·.val))) :
  Sim M0 k ow done w0 {w with heap:=w.heap.setIfInBounds b (.map ms' cl')} N {s with objs:=s.objs.set r (Ob.map es)} tmps:=by
 obtain⟨b',g1,g2,_⟩:=h.obj r _ (aO hr)
 obtain rfl:b=b':=aG (hb.symm.trans g1)
 have hlt:b<w.heap.size:=(Array.getElem?_eq_some_iff.1 hh).1
 have hoth:∀ c,c≠b->(w.heap.setIfInBounds b (.map ms' cl'))[c]?=w.heap[c]?:=λc hc=>aaa (bC hc)
 exact h.setOb hb hr ⟨rfl,rfl,rfl⟩ aT hoth hnr ⟨ms',cl',by simp[hlt],hk,hv⟩
structure EnSound (P:Program) (G:GP) (E:En):Prop where
 orc:∀ f xs obs an,E.orc f xs obs=some an->abu P G f xs obs an
theorem aAv(hs:Sim M0 k ow done w0 w N s tmps):∀ l:List Operand,aV k ow (l.map s.ev) (l.map λx=>(⟨tmps,ds⟩ : Act).eval x)
 | []=>by simp[aV]
 | x::l=>by simp only[bd,aV];exact⟨_,_,rfl,Sim.ev (ds:=ds) hs x,aAv hs l⟩
open Classical in
noncomputable def Own.img(ρ:Tk->Option Tk)(ow:Own):Own:=λt'=>if h:∃ t p,ow t=some p/\ρ t=some t' then some h.choose_spec.choose else none
theorem Own.img_re{ρ:Tk->Option Tk}{ow:Own}(hi:∀ t u t' ,(ow t).isSome->(ow u).isSome->ρ t=some t'->ρ u=some t'->t=u):ow.re ρ (ow.img ρ):=by
 refine⟨λt p t' ht hr=>?_,λt' p h=>?_⟩
 .have hex:∃ t p,ow t=some p/\ρ t=some t':=⟨t,p,ht,hr⟩
  unfold Own.img
  rw[aiw hex]
  have h2:=hex.choose_spec.choose_spec
  have:hex.choose=t:=hi _ _ t' (by rw[h2.1];rfl) (by rw[ht];rfl) h2.2 hr
  exact ((congrArg ow this).symm.trans h2.1).symm.trans ht
 .unfold Own.img at h
  split at h
  .rename_i hex
   simp only[ae] at h
   subst h
   exact⟨_,hex.choose_spec.choose_spec.1,hex.choose_spec.choose_spec.2⟩
  .cases h
theorem afK(r:Nat):∀ (off:Nat) (xs:List X) (t c:Tk),acx (eS r off xs) t=some c->∃ o,c=.cell r o/\off<=o/\o<off+xs.length
 | off,[],t,c,h=>by simp[eS,acx] at h
 | off,x::xs,t,c,h=>by
  have ih:=afK r (off+1) xs t c
  have rest:acx (eS r (off+1) xs) t=some c->∃ o,c=.cell r o/\off<=o/\o<off+(x::xs).length:=λh=>by
   obtain⟨o,h1,h2,h3⟩:=ih h
   exact⟨o,h1,by omega,by simp only[aX];omega⟩
  cases x with
  | own t0 e z cs n =>
   simp only[eS,acx] at h
   split at h
   .simp only[ae] at h
    exact⟨off,h.symm,am _,by simp⟩
   .exact rest h
  | _=>simp only[eS] at h;exact rest h
theorem apb(r:Nat):∀ (off:Nat) (xs:List X) (t u c:Tk),acx (eS r off xs) t=some c->acx (eS r off xs) u=some c->t=u
 | off,[],t,u,c,h,_=>by simp[eS,acx] at h
 | off,x::xs,t,u,c,h,h'=>by
  have ih:=apb r (off+1) xs t u c
  cases x with
  | own t0 e z cs n =>
   simp only[eS,acx] at h h'
   split at h
   .rename_i e1
    simp only[ae] at h
    split at h'
    .rename_i e2;exact e1.symm.trans e2
    .obtain⟨o,h1,h2,_⟩:=afK r (off+1) xs u c h'
     rw[← h] at h1
     cases h1
     omega
   .split at h'
    .simp only[ae] at h'
     obtain⟨o,h1,h2,_⟩:=afK r (off+1) xs t c h
     rw[← h'] at h1
     cases h1
     omega
    .exact ih h h'
  | _=>simp only[eS] at h h';exact ih h h'
theorem apa(r:Nat):∀ (off:Nat) (xs:List X) (t c:Tk),acx (eS r off xs) t=some c->∃ e z cs n,X.own t e z cs n∈xs
 | off,[],t,c,h=>by simp[eS,acx] at h
 | off,x::xs,t,c,h=>by
  have rest:acx (eS r (off+1) xs) t=some c->∃ e z cs n,X.own t e z cs n∈x::xs:=λh=>by
   obtain⟨e,z,cs,n,hm⟩:=apa r (off+1) xs t c h
   exact⟨e,z,cs,n,dR _ hm⟩
  cases x with
  | own t0 e z cs n =>
   simp only[eS,acx] at h
   split at h
   .rename_i e1;subst e1;exact⟨e,z,cs,n,by simp⟩
   .exact rest h
  | _=>simp only[eS] at h;exact rest h
theorem as5{k:Know}{ow:Own}:∀ {xs:List X} {vs:List Value},aV k ow xs vs->∀ x∈xs,∃ v,aL k ow x v
 | [],_,_,x,hx=>by cases hx
 | a::xs,vs,h,x,hx=>by
  simp only[aV] at h
  obtain⟨v,r,_,h1,h2⟩:=h
  rcases bQ.1 hx with rfl|hx
  .exact⟨v,h1⟩
  .exact as5 h2 x hx
theorem aBS{r off n:Nat}{xs:List X}(hn:xs.length=n){t u t':Tk}(h:adW r off n (eS r off xs) t=some t')(h':adW r off n (eS r off xs) u=some t'):t=u:=by
 have key:∀ t u:Tk,acx (eS r off xs) t=some t'->acx (eS r off xs) u=none->(match u with
   | .cell r' o'=>if r'=r/\off<=o'/\o'<off+n then none else some u
   | .nm ..=>some u)=some t'->False:=by
  intro t u h1 _ h2
  obtain⟨o,rfl,h3,h4⟩:=afK r off xs t t' h1
  cases u with
  | nm c ix i=>cases h2
  | cell r' o' =>
   simp only at h2
   split at h2
   .cases h2
   .rename_i hno
    simp only[ae,Tk.cell.injEq] at h2
    exact hno ⟨h2.1,by omega,by omega⟩
 have key2:∀ u:Tk,(match u with
   | .cell r' o'=>if r'=r/\off<=o'/\o'<off+n then none else some u
   | .nm ..=>some u)=some t'->u=t':=by
  intro u h2
  cases u with
  | nm c ix i=>exact aG h2
  | cell r' o' =>
   simp only at h2
   split at h2
   .cases h2
   .exact aG h2
 unfold adW at h h'
 split at h
 .rename_i c h1
  simp only[ae] at h
  subst h
  split at h'
  .rename_i c' h1'
   simp only[ae] at h'
   subst h'
   exact apb r off xs t u _ h1 h1'
  .rename_i h1'
   exact (key t u h1 h1' h').elim
 .rename_i h1
  split at h'
  .rename_i c' h1'
   simp only[ae] at h'
   subst h'
   exact (key u t h1' h1 h).elim
  .exact (key2 t h).trans (key2 u h').symm
theorem Sim.lay(h:Sim M0 k ow done w0 w N s tmps){r off:Nat}{xs ys:List X}(hr:r<s.objs.length){vs:List Value}(hxs:aV k ow xs vs):∃ ow',Sim M0 k ow' done w0 w N (apK r off xs ys s) tmps:=by
 unfold apK
 split
 .exact⟨ow,h⟩
 .have hre:ow.re (adW r off xs.length (eS r off xs)) (ow.img (adW r off xs.length (eS r off xs))):=Own.img_re λt u t' _ _ h1 h2=>aBS rfl h1 h2
  have hcase:∀ t t',adW r off xs.length (eS r off xs) t=some t'->(∃ o,t'=.cell r o)\/t'=t:=by
   intro t t' h1
   unfold adW at h1
   split at h1
   .rename_i c h2
    simp only[ae] at h1
    subst h1
    obtain⟨o,h3,_⟩:=afK r off xs t _ h2
    exact .inl ⟨o,h3⟩
   .cases t with
    | nm c ix i=>exact .inr (aG h1).symm
    | cell r' o' =>
     simp only at h1
     split at h1
     .cases h1
     .exact .inr (aG h1).symm
  refine⟨_,h.tr hre (λr' v e z n g t' ho hg hμ hl hm=>by
   unfold adW at hm
   split at hm
   .rename_i c h1
    exfalso
    obtain⟨e',z',cs,n',hmem⟩:=apa r off xs _ _ h1
    obtain⟨v',hv'⟩:=as5 hxs _ hmem
    have hv2:=hv'
    simp only[aL] at hv2
    have:=hv2.1.symm.trans ho
    simp only[bT] at this
    obtain⟨rfl,_⟩:=this
    exact h.toHp.own_dead hv' hg hμ hl
   .simp only at hm
    split at hm
    .cases hm
    .exact (aG hm).symm) (λt' p ht=>?_) (λr' o' p ht=>?_)⟩
  .obtain⟨t,g1,g2⟩:=hre.2 _ _ ht
   rcases hcase t t' g2 with ⟨o,rfl⟩|rfl
   .trivial
   .exact h.fresh _ _ g1
  .obtain⟨t,g1,g2⟩:=hre.2 _ _ ht
   rcases hcase t _ g2 with ⟨o,e⟩|e
   .cases e;exact hr
   .subst e;exact h.cells _ _ _ g1
theorem bA.set{m:Mem}:∀ {cs:List C} {vs:List Value} (i:Nat) {c:C} {v:Value},bA m cs vs->Rep m c v->bA m (cs.set i c) (vs.set i v)
 | [],vs,i,c,v,h,_=>by simp only[bA] at h;subst h;simp[bA]
 | d::cs,vs,0,c,v,h,hc=>by
  simp only[bA] at h
  obtain⟨u,r,rfl,_,h2⟩:=h
  simp only[List.set_cons_zero,bA]
  exact⟨v,r,rfl,hc,h2⟩
 | d::cs,vs,i+1,c,v,h,hc=>by
  simp only[bA] at h
  obtain⟨u,r,rfl,h1,h2⟩:=h
  simp only[ags,bA]
  exact⟨u,r.set i v,rfl,h1,bA.set i h2 hc⟩
theorem bA.erase{m:Mem}:∀ {cs:List C} {vs:List Value} (i:Nat),bA m cs vs->bA m (cs.eraseIdx i) (vs.eraseIdx i)
 | [],vs,i,h=>by simp only[bA] at h;subst h;simp[bA]
 | d::cs,vs,0,h=>by
  simp only[bA] at h
  obtain⟨u,r,rfl,_,h2⟩:=h
  simpa using h2
 | d::cs,vs,i+1,h=>by
  simp only[bA] at h
  obtain⟨u,r,rfl,h1,h2⟩:=h
  simp only[List.eraseIdx_cons_succ,bA]
  exact⟨u,r.eraseIdx i,rfl,h1,bA.erase i h2⟩
theorem aiU{α β:Type}(f:α->β):∀ (l:List α) (i:Nat),(l.eraseIdx i).map f=(l.map f).eraseIdx i
 | [],_=>by simp
 | a::l,0=>by simp
 | a::l,i+1=>by simp[aiU f l i]
theorem axg(kind:TypeDesc)(k:Value):∀ (es:List (Value×C)) (i j:Nat),aeQ kind k es i=some (some j)->i<=j/\∃ p,es[j-i]?=some p/\Instr.sameNow kind k p.1=some true
 | [],i,j,h=>by simp[aeQ] at h
 | e::es,i,j,h=>by
  simp only[aeQ] at h
  split at h
  .rename_i hsn
   simp only[ae] at h
   subst h
   exact⟨am _,e,by simp,hsn⟩
  .obtain⟨h1,p,h2,h3⟩:=axg kind k es (i+1) j h
   refine⟨by omega,p,?_,h3⟩
   obtain⟨q,rfl⟩ : ∃ q,j=i+1+q:=⟨j-(i+1),by omega⟩
   have e1:i+1+q-i=q+1:=by omega
   have e2:i+1+q-(i+1)=q:=by omega
   rw[e1]
   rw[e2] at h2
   simpa using h2
  .cases h
theorem at1{kind:TypeDesc}{a b:Value}(h:Instr.sameNow kind a b=some true):b=a/\(Instr.keyThatStays b a).run P w=.ok a w:=by
 unfold Instr.sameNow at h
 split at h
 .rename_i kk a k' b
  split at h
  .rename_i hk
   simp only[ae,dL] at h
   subst hk;subst h
   exact⟨rfl,by simp[Instr.keyThatStays,Instr.sameBits]⟩
  .cases h
 .rename_i a b
  simp only[ae] at h
  have:a=b:=(MapKept.bytes_beq a b).1 h
  subst this
  exact⟨rfl,by simp[Instr.keyThatStays,Instr.sameBits,h]⟩
 .rename_i a b
  simp only[ae,dL] at h
  subst h
  exact⟨rfl,by simp[Instr.keyThatStays,Instr.sameBits]⟩
 .cases h
theorem akC(hs:Sim M0 k ow done w0 w N s tmps){t et r:Nat}{kind:TypeDesc}{kv vm vk vx:Value}{c:C}{es es':List (Value×C)}(hty:agG (TT.of P) t=some (kind,et))(hm:aL k ow (.mp r) vm)(hk:vk=kv)(hc:Rep k.m c vx)
  (hr:s.objs[r]?=some (.map es)) (hput:al2 kind kv c es=some es'):∃ w',(Instr.mapUpdate t vm vk vx).run P w=.ok () w'/\Sim M0 k ow done w0 w' N {s with objs:=s.objs.set r (Ob.map es')} tmps:=by
 subst hk
 obtain⟨d,kt,d',hT,hu,hT',hu',hkk⟩:=anj hty
 have r1:=(TT.of_ok hT).run_und w
 have r2:=(TT.of_ok hT').run_und w
 rw[hu] at r1
 rw[hu'] at r2
 simp only[aL] at hm
 obtain⟨b,hb,rfl⟩:=hm
 obtain⟨b',g1,_,g3,_,ms,cl,hh,hk1,hk2⟩:=hs.obj r _ hr
 obtain rfl:b=b':=aG (hb.symm.trans g1)
 have hrl:r<s.objs.length:=hs.dom r b hb
 unfold al2 at hput
 split at hput
 .rename_i i hfind
  simp only[ae] at hput
  subst hput
  obtain⟨f1,_⟩:=aeR kind vk ms.toList es 0 _ hk1 hfind
  obtain⟨_,e',he,hnow⟩:=f1 i rfl
  obtain⟨_,p,hp,hsn⟩:=axg kind vk es 0 i hfind
  simp only[aeL] at he hp
  have hke:e'.key=p.1:=by
   have:=congrArg (λl=>l[i]?) hk1
   simp only[cd,he,hp,aP,ae] at this
   exact this
  obtain⟨hpk,hst⟩:=at1 (P:=P) (w:=w) hsn
  have he2:ms[i]?=some e':=by simpa using he
  refine⟨_,?_,hs.setMap (ms':=ms.modify i λe=>{e with key:=vk,val:=vx}) (cl':=cl) hb hh hrl (λ_=>ajv hr λ_ _ e=>by cases e) ?_ ?_⟩
  .simp only[Instr.mapUpdate,Sem.run_bind,r1,Result.andThen_ok,MapKept.run_getObj_map hh,aes r2 hkk]
   rw[agl r2 hnow]
   simp only[Result.andThen_ok,he2,aP,Option.getD_some,Sem.run_bind]
   rw[hke,hst]
   simp only[Result.andThen_ok]
   exact MapKept.run_setObj_map _ hh
  .rw[Array.toList_modify]
   apply abD
   intro j
   have:=congrArg (λl=>l[j]?) hk1
   simp only[cd] at this
   simp only[cd,List.getElem?_modify,List.getElem?_set]
   by_cases hij:i=j
   .subst hij
    have hlt:i<es.length:=(List.getElem?_eq_some_iff.1 hp).1
    simp[he2,hlt]
   .simp[hij]
    simpa using this
  .rw[Array.toList_modify]
   have e1:(es.set i (vk,c)).map (·.2)=(es.map (·.2)).set i c:=by rw[List.map_set]
   have e2:(ms.toList.modify i λe=>{e with key:=vk,val:=vx}).map (·.val)=(ms.toList.map (·.val)).set i vx:=by
    apply abD
    intro j
    simp only[cd,List.getElem?_modify,List.getElem?_set]
    by_cases hij:i=j
    .subst hij
     have hlt:i<ms.toList.length:=(List.getElem?_eq_some_iff.1 he).1
     have hlt':i<ms.size:=by simpa using hlt
     simp[he2,hlt']
    .simp[hij]
   rw[e1,e2]
   exact hk2.set i hc
 .rename_i hfind
  simp only[ae] at hput
  subst hput
  obtain⟨_,f2⟩:=aeR kind vk ms.toList es 0 _ hk1 hfind
  refine⟨_,?_,hs.setMap (ms':=ms.push {key:=vk,val:=vx,born:=cl}) (cl':=cl+1) hb hh hrl (λ_=>ajv hr λ_ _ e=>by cases e) ?_ ?_⟩
  .simp only[Instr.mapUpdate,Sem.run_bind,r1,Result.andThen_ok,MapKept.run_getObj_map hh,aes r2 hkk]
   rw[agl r2 (f2 rfl)]
   simp only[Result.andThen_ok]
   exact MapKept.run_setObj_map _ hh
  .simp only[Array.toList_push,aae,hk1]
   rfl
  .simp only[Array.toList_push,aae]
   exact hk2.append (by simp[bA,hc])
 .cases hput
theorem axz(hs:Sim M0 k ow done w0 w N s tmps){t t2 et r ty:Nat}{kind:TypeDesc}{kv vm vk:Value}{es es':List (Value×C)}(hty:agG (TT.of P) t=some (kind,et))(hm:aL k ow (.mp r) vm)(hk:vk=kv)
  (hr:s.objs[r]?=some (.map es)) (hput:aJC kind kv es=some es'):∃ w',(Builtin.delete_ #[t,t2] ty #[vm,vk]).run P w=.ok (.tuple #[]) w'/\Sim M0 k ow done w0 w' N {s with objs:=s.objs.set r (Ob.map es')} tmps:=by
 subst hk
 obtain⟨d,kt,d',hT,hu,hT',hu',hkk⟩:=anj hty
 have r1:=(TT.of_ok hT).run_und w
 have r2:=(TT.of_ok hT').run_und w
 rw[hu] at r1
 rw[hu'] at r2
 simp only[aL] at hm
 obtain⟨b,hb,rfl⟩:=hm
 obtain⟨b',g1,_,g3,_,ms,cl,hh,hk1,hk2⟩:=hs.obj r _ hr
 obtain rfl:b=b':=aG (hb.symm.trans g1)
 have hrl:r<s.objs.length:=hs.dom r b hb
 unfold aJC at hput
 split at hput
 .rename_i i hfind
  simp only[ae] at hput
  subst hput
  obtain⟨f1,_⟩:=aeR kind vk ms.toList es 0 _ hk1 hfind
  obtain⟨_,e',he,hnow⟩:=f1 i rfl
  simp only[aeL] at he
  have hlt:i<ms.size:=by simpa using (List.getElem?_eq_some_iff.1 he).1
  refine⟨_,?_,hs.setMap (ms':=ms.eraseIdxIfInBounds i) (cl':=cl) hb hh hrl (λ_=>ajv hr λ_ _ e=>by cases e) ?_ ?_⟩
  .simp only[Builtin.delete_,ac4,dI,gA,Sem.run_bind,r1,Result.andThen_ok,MapKept.run_getObj_map hh,aes r2 hkk]
   rw[agl r2 hnow]
   simp only[Result.andThen_ok]
   rw[Sem.run_bind,MapKept.run_setObj_map _ hh]
   rfl
  .simp only[Array.eraseIdxIfInBounds,hlt,aiw,Array.toList_eraseIdx,aiU,hk1]
  .simp only[Array.eraseIdxIfInBounds,hlt,aiw,Array.toList_eraseIdx,aiU]
   exact hk2.erase i
 .rename_i hfind
  simp only[ae] at hput
  subst hput
  obtain⟨_,f2⟩:=aeR kind vk ms.toList es 0 _ hk1 hfind
  refine⟨_,?_,hs.setMap (ms':=ms) (cl':=cl) hb hh hrl (λ_=>ajv hr λ_ _ e=>by cases e) hk1 hk2⟩
  .simp only[Builtin.delete_,ac4,dI,gA,Sem.run_bind,r1,Result.andThen_ok,MapKept.run_getObj_map hh,aes r2 hkk]
   rw[agl r2 (f2 rfl)]
   simp only[Result.andThen_ok]
   rw[Sem.run_bind,MapKept.run_setObj_map _ hh]
   rfl
 .cases hput
theorem asa{α:Type}[DecidableEq α]:∀ (l seen:List α) (a:α),a∈nub l seen->a∈l\/a∈seen
 | [],seen,a,h=>.inr h
 | b::l,seen,a,h=>by
  unfold nub at h
  split at h
  .exact (asa l seen a h).imp (λh=>dR _ h) id
  .rcases asa l _ a h with h|h
   .exact .inl (dR _ h)
   .rcases bS.1 h with h|h
    .exact .inr h
    .exact .inl (by rw[dt.1 h];simp)
theorem aqU{objs:List Ob}:∀ l:List Nat,ajg objs l=true->∀ r∈l,Liv objs r
 | [],_,r,hr=>by cases hr
 | a::l,h,r,hr=>by
  simp only[ajg,ar] at h
  rcases bQ.1 hr with rfl|hr
  .cases ho:objs[r]? with
   | none=>rw[ho] at h;cases h.1
   | some ob=>rw[ho] at h;exact⟨ob,ho,h.1⟩
  .exact aqU l h.2 r hr
theorem azv(hs:Sim M0 k ow done w0 w N s tmps){E:En}(horc:EnSound P M0.G E){ix:Nat}(hd:¬ done ix){d:Option Nat}(hdst:∀ j,d=some j->j<N){f:Nat}{us:List X}{vs:List Value}{e:Option X}{s':S}
  (hus:aV k ow us vs) (h:callS P E s ix d f us=some (e,s')):fh P f=true/\Calls P f vs.toArray w λen w'=>∃ k' ow',k.le k' /\
   ((e=none/\∃ v,en=.returned v/\Sim M0 k' ow' (λj=>done j\/j=ix) w0 w' N s' (Act.put ⟨tmps,ds⟩ d v).tmps) \/
    (∃ x v,e=some x/\en=.panicked [{v:=v,recovered:=false}]/\aL k' ow' x v/\Sim M0 k' ow' (λj=>done j\/j=ix) w0 w' N s' tmps)):=by
 unfold callS at h
 split at h
 rotate_left
 .cases h
 rename_i hc
 refine⟨hc,?_⟩
 simp only at h
 split at h
 rotate_left
 .cases h
 rename_i obs hobs
 split at h
 rotate_left
 .cases h
 rename_i an hor
 have hlv:ajg s.objs (fE s.objs 999 (X.refsL us) [])=true:=by
  cases hb:ajg s.objs (fE s.objs 999 (X.refsL us) []) with
  | true=>rfl
  | false=>rw[hb] at hobs;cases hobs
 rw[hlv] at hobs
 simp only[am8] at hobs
 have hnd1:=aiq s.objs 999 (X.refsL us) [] abC
 have hnd2:(if E.tk f=true then nub (X.toksL us) [] else []).Nodup:=by
  split
  .exact akA _ _ abC
  .exact abC
 have hnd3:∀ t∈(if E.tk f=true then nub (X.toksL us) [] else []),∀ v e z n,ow t=some (v,e,z,n)->∀ g,v.ownBlock=some g->∀ r,k.μ r=some g->¬ Liv s.objs r:=by
  split
  .intro t ht;exact hs.toHp.toksL_dead us vs hus t (by rcases asa _ _ _ ht with h|h;exact h;cases h)
  .intro t ht;cases ht
 refine (atH hs hnd1 hnd2 hnd3 (aqU _ hlv) hobs (horc.orc _ _ _ _ hor) hc (aV.tr avR _ _ hus) hd).mono λen w' ⟨us',kn,own,h1,h2,h3,h4,h5⟩=>?_
 refine⟨kn,own,h2,?_⟩
 unfold agJ at h
 simp only at h
 rw[aE h3] at h
 obtain⟨pan,rs,obs'⟩:=an
 cases pan with
 | true =>
  simp only[agB] at h1
  obtain⟨u,rfl,rfl⟩:=h1
  match rs,h,h5 with
  | [x],h,h5 =>
   simp only[bT] at h
   obtain⟨rfl,rfl⟩:=h
   simp only[X.trs,aV] at h5
   obtain⟨v,r,hv,hx,rfl⟩:=h5
   cases hv
   exact .inr ⟨_,_,rfl,rfl,hx,h4⟩
  | [],h,_=>cases h
  | _::_::_,h,_=>cases h
 | false =>
  simp only[agB] at h1
  subst h1
  simp only[bT] at h
  obtain⟨rfl,rfl⟩:=h
  exact .inl ⟨rfl,_,rfl,h4.put d hdst (aws h5)⟩
theorem apX(hs:Sim M0 k ow done w0 w N s tmps)(l:List Operand){caps:List X}{cvs:List Value}(hc:aV k ow caps cvs):aV k ow (l.map s.ev++caps) ((l.map λx=>(⟨tmps,ds⟩ : Act).eval x)++cvs):=(aAv hs l).append hc
theorem ahI{o:Oper}(h:ab2 N o=true)(j:Nat)(hj:o.dst=some j):j<N:=by
 unfold ab2 at h
 rw[ar,hj] at h
 simpa using h.1
theorem adR{o:Oper}(h:cZ o.op=false):dW o=o.dst:=by
 unfold dW
 split
 .rename_i e _;rw[e] at h;cases h
 .rfl
theorem aEo(hs:Sim M0 k ow done w0 w N s tmps){E:En}{ix:Nat}(hd:¬ done ix){o:Oper}{e:Option X}{s':S}(hst:cZ o.op=true)
  (h:fO P (TT.of P) E s ix o=some (e,s')) {K:Act->World->Prop} {Q:Exit->Act->World->Prop}
  (hK:e=none->∀ tmps' w' k' ow',k.le k'->Sim M0 k' ow' (λj=>done j\/j=ix) w0 w' N s' tmps'->K ⟨tmps',ds⟩ w'):o.wp P ⟨tmps,ds⟩ w K Q:=by
 unfold cZ at hst
 split at hst
 rotate_left
 .cases hst
 rename_i t a x ho
 unfold fO at h
 split at h
 rotate_left
 .cases h
 rename_i y tk hv
 split at h
 rotate_left
 .cases h
 rename_i hok
 simp only[bT] at h
 obtain⟨rfl,rfl⟩:=h
 cases a with
 | const v=>unfold val at hv;rw[ho] at hv;cases hv
 | func f=>unfold val at hv;rw[ho] at hv;cases hv
 | global g=>unfold val at hv;rw[ho] at hv;cases hv
 | tmp d =>
  unfold val at hv
  rw[ho] at hv
  simp only at hv
  split at hv
  rotate_left
  .cases hv
  rename_i td tk' ty z cs hT hf hx hg hdn
  split at hv
  rotate_left
  .cases hv
  rename_i hc
  obtain⟨rfl,hz,hl⟩:=hc
  simp only[bT] at hv
  obtain⟨rfl,rfl⟩:=hv
  have hE:dW o=some d:=by unfold dW;rw[ho,hg]
  obtain⟨w',k',ow',hrun,g1,g2⟩:=aRe (P:=P) hs hd ho hT hz hf (ajQ hok) hx hl
  unfold Oper.wp
  rw[hrun]
  simp only[Oper.upon]
  rw[hdn]
  exact hK rfl tmps w' k' ow' g1 (by rw[hE];exact g2)
theorem afa(hs:Sim M0 k ow done w0 w N s tmps){E:En}(horc:EnSound P M0.G E){ix:Nat}(hd:¬ done ix){o:Oper}{e:Option X}{s':S}(hdst:ab2 N o=true)
  (h:fO P (TT.of P) E s ix o=some (e,s')) {K:Act->World->Prop} {Q:Exit->Act->World->Prop}
  (hK:e=none->∀ tmps' w' k' ow',k.le k'->Sim M0 k' ow' (λj=>done j\/j=ix) w0 w' N s' tmps'->K ⟨tmps',ds⟩ w'):o.wp P ⟨tmps,ds⟩ w K Q:=by
 have hdst':=ahI hdst
 have hput:∀ u,(⟨tmps,ds⟩ : Act).put o.dst u=⟨((⟨tmps,ds⟩ : Act).put o.dst u).tmps,ds⟩:=λu=>by
  cases o.dst <;> rfl
 cases hst:cZ o.op with
 | true=>exact aEo hs hd hst h hK
 | false =>
 unfold fO at h
 split at h
 .rename_i x t hv
  split at h
  .rename_i hok
   simp only[bT] at h
   obtain⟨rfl,rfl⟩:=h
   refine aD1 hs horc.orc hd hst hv (λt' e'=>by subst e';exact ajQ hok) λu w' k' ow' g1 g2 g3=>?_
   rw[hput]
   rw[adR hst] at hK
   exact hK rfl _ _ k' ow' g1 (g2.put o.dst hdst' g3)
  .cases h
 .cases h
theorem Sim.kill(h:Sim M0 k ow done w0 w N s tmps)(e r:Nat):Sim M0 k ow done w0 w N {s with objs:=s.objs.set r (.row e [])} tmps :=
 have old:∀ r',Liv (s.objs.set r (.row e [])) r'->r'≠r/\Liv s.objs r':=λr' ⟨ob,h1,h2⟩=>by
  by_cases e1:r'=r
  .subst e1
   have hlt:r'<s.objs.length:=by have:=(List.getElem?_eq_some_iff.1 h1).1;simpa using this
   rw[dh hlt] at h1
   obtain rfl:=aG h1
   cases h2
  .exact⟨e1,asg e1 ⟨ob,h1,h2⟩⟩
 {good:=h.good
  size:=h.size
  below:=h.below
  fr:=h.fr
  mem:=h.mem
  obj:=λr' ob hr=>by
   by_cases e1:r'=r
   .subst e1
    have hlt:r'<s.objs.length:=by have:=(List.getElem?_eq_some_iff.1 hr).1;simpa using this
    rw[dh hlt] at hr
    obtain rfl:=aG hr
    obtain⟨b,g1,g2,g3,_,_⟩:=h.obj r' _ (aO hlt)
    exact⟨b,g1,g2,g3,λhl=>(by cases hl),.inl rfl⟩
   .rw[fa (bC e1)] at hr
    exact h.obj r' ob hr
  dom:=λr' b hr=>by simpa using h.dom r' b hr
  inj:=λr1 r2 b h1 h2 hl1 hl2=>h.inj r1 r2 b h1 h2 (old r1 hl1).2 (old r2 hl2).2
  tok:=λt v e' z n ht=>by
   obtain⟨g1,g2⟩:=h.tok t v e' z n ht
   refine⟨g1,λg hg=>⟨(g2 g hg).1,(g2 g hg).2.1,λr' hr=>⟨?_,λhl=>((g2 g hg).2.2 r' hr).2 (old r' hl).2⟩⟩⟩
   by_cases e1:r'=r
   .subst e1
    exact⟨e,[],dh (h.dom r' g hr),bn _⟩
   .exact am4 e1 ((g2 g hg).2.2 r' hr).1
  tokne:=h.tokne
  fresh:=h.fresh
  cells:=λr' off p ht=>by simpa using h.cells r' off p ht
  m0:=h.m0}
theorem Sim.pop(hs:Sim M0 k ow done w0 w N s tmps){r e z ty c ix i:Nat}{v:Value}{a:C}{cs:List C}(hx:aL k ow (.top r e z) v)(ho:s.objs[r]?=some (.row ty (a::cs)))(ht:ow (.nm c ix i)=none)(hf:c<s.clk\/(c=s.clk/\done ix)) :
  ∃ b cap,v=.slice (some ⟨b,0,none⟩) 1 cap/\1<=cap/\∃ ow',Sim M0 k ow' done w0 w N {s.tr (akD r) with objs:=((s.tr (akD r)).objs).set r (.row e [])} tmps /\
   aL k ow' (.own (.nm c ix i) e z [] 0) (.slice (some ⟨b,0,none⟩) 0 cap):=by
 simp only[aL] at hx
 obtain⟨hk,b,cap,hb,rfl⟩:=hx
 have hlr:Liv s.objs r:=⟨_,ho,rfl⟩
 obtain⟨⟨xs,hown⟩,htok⟩:=hs.tok _ _ _ _ _ hk
 obtain⟨q1,_,_⟩:=htok b rfl
 have hnone:=(hs.toHp.lt hb).2.2 hlr
 rcases hown.2 with ⟨h0,_⟩|⟨g,cap',cur,hv,_,hh,hcap,hcm,hsz,_⟩
 .cases h0
 simp only[Value.slice.injEq,ae,Addr.mk.injEq] at hv
 obtain⟨⟨rfl,_,_⟩,_,rfl⟩:=hv
 have htr:Sim M0 k (ow.del (abw r)) done w0 w N (s.tr (akD r)) tmps:=hs.tr ⟨λt p t' h1 h2=>by
   unfold akD at h2
   split at h2
   .cases h2
   .rename_i hne
    obtain rfl:=aG h2
    simp only[Own.del,hne,ap];exact h1,λt' p h1=>by
   simp only[Own.del] at h1
   split at h1
   .cases h1
   .rename_i hne
    exact⟨t',h1,by simp only[akD,hne,ap]⟩⟩ (λr' _ _ _ _ _ t' _ _ _ _ h=>by
   unfold akD at h
   split at h
   .cases h
   .exact (aG h).symm) (λt p h=>by
   simp only[Own.del] at h
   split at h
   .cases h
   .exact hs.fresh t p h) (λr' off p h=>by
   simp only[Own.del] at h
   split at h
   .cases h
   .exact hs.cells r' off p h)
 refine⟨b,cap,rfl,hcap,_,(htr.kill e r).add (v:=.slice (some ⟨b,0,none⟩) 0 cap) (e:=e) (z:=z) (n:=0) (xs:=[]) (c:=c) (ix:=ix) (i:=i) ?_ ⟨by simp,.inr ⟨b,cap,cur,rfl,bn _,hh,bn _,hcm,hsz,by simp⟩⟩ ?_ ?_ hf,?_⟩
 .simp only[Own.del];split;rfl;exact ht
 .intro g hg
  simp only[Value.ownBlock,ae] at hg
  subst hg
  refine⟨q1,λo _=>hnone o,λr' hr'=>?_⟩
  by_cases e1:r'=r
  .subst e1
   exact⟨e,[],dh (by simpa [S.tr] using hs.dom r' _ hr'),bn _⟩
  .exact am4 e1 (afy (λ_ _=>rfl) (axB (hs.dom r' _ hr') λhl=>e1 (hs.inj r' r _ hr' hb hl hlr)))
 .intro t' v' e' z' n' h' g hg hg'
  simp only[Value.ownBlock,ae] at hg
  subst hg
  simp only[Own.del] at h'
  split at h'
  .cases h'
  .rename_i hne
   exact hs.tokne (abw r) t' _ _ _ _ _ _ _ _ hk h' (bC hne) b rfl hg'
 .simp only[aL,Rep]
  exact⟨by simp[Own.add],by simp,some ⟨b,0,none⟩,cap,[],rfl,bn _,by simp[bA],λh=>absurd rfl h⟩
theorem aBi(hs:Sim M0 k ow done w0 w N s tmps){E:En}(horc:EnSound P M0.G E){dr:Bool}{ix:Nat}(hd:¬ done ix){o:Oper}{e:Option X}{s':S}(hdst:ab2 N o=true)
  (h:abl P (TT.of P) E dr s ix o=some (e,s')) {K:Act->World->Prop} {Q:Exit->Act->World->Prop}
  (hK:e=none->∀ tmps' w' k' ow',k.le k'->Sim M0 k' ow' (λj=>done j\/j=ix) w0 w' N s' tmps'->K ⟨tmps',ds⟩ w')
  (hP:∀ x,e=some x->∀ v w' k' ow',k.le k'->Sim M0 k' ow' (λj=>done j\/j=ix) w0 w' N s' tmps->aL k' ow' x v->Q (.panic [{v:=v,recovered:=false}]) ⟨tmps,ds⟩ w'):o.wp P ⟨tmps,ds⟩ w K Q:=by
 have hdst':=ahI hdst
 have hput:∀ u,(⟨tmps,ds⟩ : Act).put o.dst u=⟨((⟨tmps,ds⟩ : Act).put o.dst u).tmps,ds⟩:=λu=>by
  cases o.dst <;> rfl
 have hs1:=hs.more (done':=λj=>done j\/j=ix) (λ_ h=>.inl h)
 unfold abl at h
 split at h
 .exact afa hs horc hd hdst h hK
 split at h
 .-- alloc
  rename_i t ho
  split at h
  rotate_left
  .exact afa hs horc hd hdst h hK
  split at h
  .rename_i d hT
   simp only[bT] at h
   obtain⟨rfl,rfl⟩:=h
   have ok:=TT.of_ok hT
   obtain⟨z,hz,hz2⟩:=ok.run_zero w
   obtain⟨k',g1,g2,g3⟩:=hs1.newVar (xs:=fU d) (vs:=d.zero) t (agV d.zero) ok.one
   obtain⟨ow',g4⟩:=g3.lay (r:=s.objs.length) (off:=0) (xs:=fU d) (ys:=[]) aT (agV d.zero)
   refine acQ (u:=.pointer (some ⟨w.heap.size,0,none⟩)) (w':=w.alloc (.cells d.zero.toArray t)) ?_ ?_
   .simp[execOp,ho,Instr.alloc,hz,newVar,newRow,← hz2]
   .rw[hput]
    exact hK rfl _ _ k' ow' g1 (g4.put o.dst hdst' (by simp only[aL];exact⟨_,g2,rfl⟩))
  .cases h
 .-- box
  rename_i t x ho
  split at h
  rotate_left
  .-- for good
   split at h
   rotate_left
   .cases h
   rename_i d cs hT hx
   split at h
   rotate_left
   .cases h
   rename_i hc
   obtain⟨hl,hz⟩:=hc
   simp only[bT] at h
   obtain⟨rfl,rfl⟩:=h
   unfold fW at hx
   simp only[bE] at hx
   obtain⟨xs,hx,hrd⟩:=hx
   obtain⟨hr,h1⟩:=aeJ hx (Sim.ev (ds:=ds) hs x)
   have hcl:=ajK _ _ _ hrd hr
   have hlen:=hcl.length
   have hown:(w.alloc (.cells ((⟨tmps,ds⟩ : Act).eval x).cells.toList.toArray t)).ownsRow 0 t d.size (.slice (some ⟨w.heap.size,0,none⟩) 1 1) 1 ((⟨tmps,ds⟩ : Act).eval x).cells.toList :=
    ⟨by omega,.inr ⟨w.heap.size,1,_,rfl,bn _,heap_alloc_new w _,am _,by simp[maxLen],by simp only[dZ];omega,by rw[aa9];exact aaA aC⟩⟩
   obtain⟨k',g1,g2,g3⟩:=hs1.row (row:=none) (cs:=cs) (c:=s.clk) (ix:=ix) (i:=0) (λg hg=>by cases hg) (World.grownBy_alloc w _ none) hown (.inr ⟨rfl,rfl⟩) hcl h1 (hs.new hd) (.inr ⟨rfl,.inr rfl⟩)
   refine acQ (u:=.pointer (some ⟨w.heap.size,0,none⟩)) (w':=w.alloc (.cells ((⟨tmps,ds⟩ : Act).eval x).cells.toList.toArray t)) ?_ ?_
   .simp[execOp,ho,Instr.box,newVar,newRow]
   .rw[hput]
    refine hK rfl _ _ k' _ g1 (g2.put o.dst hdst' ?_)
    simp only[aL,Rep] at g3
    obtain⟨_,_,a,cap,vs,h5,_,h6,h7⟩:=g3
    simp only[Value.slice.injEq] at h5
    obtain⟨rfl,_,rfl⟩:=h5
    simp only[aL,Rep]
    by_cases hne:vs=[]
    .subst hne
     exact⟨w.heap.size,0,[],rfl,h6,λi u hu=>by simp at hu⟩
    .obtain⟨b',o',h8,h9⟩:=h7 hne
     simp only[ae,Addr.mk.injEq] at h8
     obtain⟨rfl,rfl,_⟩:=h8
     exact⟨_,_,vs,rfl,h6,h9⟩
  split at h
  .rename_i d xs hT hx
   split at h
   .simp only[bT] at h
    obtain⟨rfl,rfl⟩:=h
    obtain⟨hl,h1⟩:=aeJ hx (Sim.ev (ds:=ds) hs x)
    obtain⟨k',g1,g2,g3⟩:=hs1.newVar t hl h1
    obtain⟨ow',g4⟩:=g3.lay (r:=s.objs.length) (off:=0) (xs:=xs) (ys:=[]) aT (aV.mono g1 (λ_ _ h=>h) _ _ hl)
    refine acQ (u:=.pointer (some ⟨w.heap.size,0,none⟩)) (w':=w.alloc (.cells ((⟨tmps,ds⟩ : Act).eval x).cells.toList.toArray t)) ?_ ?_
    .simp[execOp,ho,Instr.box,newVar,newRow]
    .rw[hput]
     exact hK rfl _ _ k' ow' g1 (g4.put o.dst hdst' (by simp only[aL];exact⟨_,g2,rfl⟩))
   .cases h
  .cases h
 .-- store
  rename_i t a x ho
  split at h
  .-- a variable's new block
   rename_i tk ty z hnw
   split at h
   rotate_left
   .exact afa hs horc hd hdst h hK
   split at h
   rotate_left
   .cases h
   rename_i d xs j hT hx hE
   split at h
   rotate_left
   .cases h
   rename_i hc
   obtain⟨rfl,hz,hl,hok,hdn⟩:=hc
   simp only[bT] at h
   obtain⟨rfl,rfl⟩:=h
   cases a with
   | const v =>
    exfalso
    simp only[S.ev] at hnw
    unfold abK at hnw
    split at hnw <;> cases hnw
   | func f=>cases hnw
   | global g=>cases hnw
   | tmp d' =>
    obtain rfl:d'=j:=by
     unfold dW at hE
     rw[ho] at hE
     cases hg:o.guard with
     | none=>rw[hg] at hE;exact aG hE
     | some g=>rw[hg,hdn] at hE;cases hE
    obtain⟨b,hv,hk,hr,h1,⟨cur,hh,hcz⟩,hrun⟩:=awy (P:=P) (ds:=ds) hs hd ho hT hz hnw hx hl
    obtain⟨k',g1,g2⟩:=hs1.made (ajQ hok) hk hv hr h1 hh
    unfold Oper.wp
    rw[hrun]
    simp only[Oper.upon]
    rw[hdn]
    exact hK rfl tmps _ k' _ g1 g2
  split at h
  .rename_i d r off xs hT ha hx
   simp only[ay,bh] at h
   obtain⟨s2,h,rfl,rfl⟩:=h
   unfold afx at h
   split at h
   .rename_i ty ys hr
    split at h
    .rename_i hc
     simp only[ae] at h
     subst h
     obtain⟨hl,h1⟩:=aeJ hx (Sim.ev (ds:=ds) hs x)
     have hav:=Sim.ev (ds:=ds) hs a
     rw[ha] at hav
     simp only[aL] at hav
     obtain⟨b,hb,hav⟩:=hav
     obtain⟨b',g1,g2,g3,g4,vs,hh,hone,hvs⟩:=hs.obj r _ hr
     obtain rfl:b=b':=aG (hb.symm.trans g1)
     have hrl:r<s.objs.length:=hs.dom r b hb
     have ok:=TT.of_ok hT
     have hlen:=hl.length
     have hvl:=hvs.length
     have hfit:off+0+((⟨tmps,ds⟩ : Act).eval x).cells.toList.length<=vs.toArray.size:=by
      simp only[dZ]
      omega
     have hrun:=run_storeCells_at P b off ty ((⟨tmps,ds⟩ : Act).eval x).cells.toList 0 vs.toArray w hh hfit h1
     have hsz:((⟨tmps,ds⟩ : Act).eval x).cells.size=d.size:=by
      have:((⟨tmps,ds⟩ : Act).eval x).cells.toList.length=d.size:=by omega
      simpa using this
     have hset:=hs1.setVar (ys:=ys.take off++xs++ys.drop (off+xs.length)) (vs:=vs.take off++((⟨tmps,ds⟩ : Act).eval x).cells.toList++vs.drop (off+xs.length)) hb hh hrl (λ_=>ajv hr λ_ _ e=>by cases e)
      (((hvs.takeN off).append hl).append (hvs.dropN _))
      (λu hu=>by
       simp only[bS] at hu
       rcases hu with (hu|hu)|hu
       .exact hone u (aa0 hu)
       .exact h1 u hu
       .exact hone u (eH hu))
     have hrun2:(execOp (⟨tmps,ds⟩ : Act).eval o).run P w=.ok .skip (w.setRow b (vs.take off++((⟨tmps,ds⟩ : Act).eval x).cells.toList++vs.drop (off+xs.length)).toArray):=by
      simp only[gV,hlen] at hrun
      simp[execOp,ho,Instr.storeAt,hav,Instr.sureAddr,storeVar,ok.run_size,hsz,hrun]
     unfold Oper.wp
     rw[hrun2]
     simp only[Oper.upon]
     rw[hput]
     obtain⟨ow',g4⟩:=hset.lay (r:=r) (off:=off) (xs:=xs) (ys:=(ys.drop off).take xs.length) (by simpa using hrl) hl
     exact hK rfl _ _ k ow' (Know.le_refl k) (g4.put o.dst hdst' (by simp[aL,Rep]))
    .cases h
   .cases h
  .cases h
 .-- makeMap
  rename_i t ho
  simp only[bT] at h
  obtain⟨rfl,rfl⟩:=h
  obtain⟨k',g1,g2,g3⟩:=hs1.newOb (ob:=Ob.map []) (.map #[] 0) (λk' w' _ hh=>⟨#[],0,hh,rfl,by simp[bA]⟩)
  refine acQ (u:=.map (some w.heap.size)) (w':=w.alloc (.map #[] 0)) ?_ ?_
  .simp[execOp,ho,Instr.makeMap]
  .rw[hput]
   exact hK rfl _ _ k' ow g1 (g3.put o.dst hdst' (by simp only[aL];exact⟨_,g2,rfl⟩))
 .-- mapUpdate
  rename_i t m kx x ho
  split at h
  .rename_i kind et r kv c hty hm hlit hrd
   split at h
   .rename_i es hr
    split at h
    .rename_i es' hp
     simp only[bT] at h
     obtain⟨rfl,rfl⟩:=h
     have hmv:=Sim.ev (ds:=ds) hs m
     rw[hm] at hmv
     obtain⟨w',g1,g2⟩:=akC (P:=P) hs1 hty hmv (ag3 hlit (Sim.ev (ds:=ds) hs kx)) (afW _ _ _ hrd (Sim.ev (ds:=ds) hs x)) hr hp
     have hrun2:(execOp (⟨tmps,ds⟩ : Act).eval o).run P w=.ok .skip w':=by simp[execOp,ho,g1]
     unfold Oper.wp
     rw[hrun2]
     simp only[Oper.upon]
     rw[hput]
     exact hK rfl _ _ k ow (Know.le_refl k) (g2.put o.dst hdst' (by simp[aL,Rep]))
    .cases h
   .cases h
  .cases h
 .-- insert
  rename_i t m kx x ho
  split at h
  .rename_i kind et r kv c hty hm hlit hrd
   split at h
   .rename_i es hr
    split at h
    .rename_i es' hp
     simp only[bT] at h
     obtain⟨rfl,rfl⟩:=h
     have hmv:=Sim.ev (ds:=ds) hs m
     rw[hm] at hmv
     obtain⟨w',g1,g2⟩:=akC (P:=P) hs1 hty hmv (ag3 hlit (Sim.ev (ds:=ds) hs kx)) (afW _ _ _ hrd (Sim.ev (ds:=ds) hs x)) hr hp
     have hrun2:(execOp (⟨tmps,ds⟩ : Act).eval o).run P w=.ok .skip w':=by simp[execOp,ho,g1]
     unfold Oper.wp
     rw[hrun2]
     simp only[Oper.upon]
     rw[hput]
     exact hK rfl _ _ k ow (Know.le_refl k) (g2.put o.dst hdst' (by simp[aL,Rep]))
    .cases h
   .cases h
  .cases h
 .-- delete
  rename_i args tys ho
  split at h
  .rename_i m kx t t2 hargs htys
   split at h
   .rename_i kind et r kv hty hm hlit
    split at h
    .rename_i es hr
     split at h
     .rename_i es' hp
      simp only[bT] at h
      obtain⟨rfl,rfl⟩:=h
      have hmv:=Sim.ev (ds:=ds) hs m
      rw[hm] at hmv
      obtain⟨w',g1,g2⟩:=axz (P:=P) (t2:=t2) (ty:=o.type) hs1 hty hmv (ag3 hlit (Sim.ev (ds:=ds) hs kx)) hr hp
      have ha:args=#[m,kx]:=by rw[← cN (xs:=args),hargs]
      have ht:tys=#[t,t2]:=by rw[← cN (xs:=tys),htys]
      subst ha;subst ht
      refine acQ (u:=.tuple #[]) (w':=w') (by simp[execOp,ho,resolve,invoke,builtin,g1]) ?_
      rw[hput]
      exact hK rfl _ _ k ow (Know.le_refl k) (g2.put o.dst hdst' (by simp[aL,aV]))
     .cases h
    .cases h
   .cases h
  .cases h
 .-- panic
  rename_i x ho
  split at h
  .rename_i t c hc
   simp only[bT] at h
   obtain⟨rfl,rfl⟩:=h
   have hrep:=afW _ _ _ hc (Sim.ev (ds:=ds) hs x)
   have hrep':=hrep
   simp only[Rep] at hrep
   obtain⟨u,hu,_⟩:=hrep
   have hrun:(execOp (⟨tmps,ds⟩ : Act).eval o).run P w=.halt (.panic ((⟨tmps,ds⟩ : Act).eval x)) w:=by
    rw[hu]
    simp[execOp,ho,hu,Instr.panic,goPanic]
   unfold Oper.wp
   rw[hrun]
   simp only[Oper.upon]
   exact hP _ rfl _ w k ow (Know.le_refl k) hs1 (by simpa only [aL] using hrep')
  .cases h
 .-- the last element of a pushed row taken off
  rename_i t x hi ho
  split at h
  rotate_left
  .exact afa hs horc hd hdst h hK
  rename_i r e0 z hx
  simp only[ay,bh] at h
  obtain⟨s2,h,rfl,rfl⟩:=h
  unfold aQD at h
  split at h
  rotate_left
  .cases h
  rename_i e' td hel hhi
  split at h
  rotate_left
  .cases h
  rename_i hc
  obtain⟨rfl,rfl⟩:=hc
  split at h
  rotate_left
  .cases h
  rename_i ty c cs hob
  simp only[ae] at h
  subst h
  have hxx:=Sim.ev (ds:=ds) hs x
  rw[hx] at hxx
  obtain⟨b,cap,hv,hcap,ow',g1,g2⟩:=hs1.pop (c:=s.clk) (ix:=ix) (i:=0) hxx hob (hs.new hd) (.inr ⟨rfl,.inr rfl⟩)
  obtain⟨hund,hdd⟩:=ahH hel
  have hru:=aiA (P:=P) (w:=w) hund
  have r2:(hi.map λx=>(⟨tmps,ds⟩ : Act).eval x)=some (.int .i64 0):=by
   cases hi with
   | none=>cases hhi
   | some y =>
    have:=af2 (show aa8 (s.ev y)=some 0 from hhi) (Sim.ev (ds:=ds) hs y)
    simp only[aP,this]
  have hbb:=alW (P:=P) (w:=w) (sl:=true) (cap:=cap) (vl:=none) (len:=1) (.inl ⟨rfl,rfl⟩) (.inr r2) (ahx 0) (ahx 0) aC
  refine acQ (u:=.slice (some ⟨b,0,none⟩) 0 cap) (w':=w) ?_ ?_
  .simp only[execOp,ho,Sem.run_bind,ahO,Result.andThen_ok,Sem.run_pure]
   rw[hv]
   simp[Instr.sliceAt,Instr.slice,hru,hbb,(TT.of_ok hdd).run_size,Addr.add_lit]
  .rw[hput]
   exact hK rfl _ _ k ow' (Know.le_refl k) (g1.put o.dst hdst' g2)
 .-- a call
  rename_i f args tys ho
  split at h
  .rename_i g us htg
   split at h
   .obtain⟨fvs,cvs,hfv,hus⟩ : ∃ fvs cvs:List Value,(⟨tmps,ds⟩ : Act).eval f=.func (.func g) fvs.toArray cvs.toArray/\aV k ow us (fvs++(args.toList.map λx=>(⟨tmps,ds⟩ : Act).eval x)++cvs):=by
     have hfx:=Sim.ev (ds:=ds) hs f
     unfold aep at htg
     simp only at htg
     split at htg
     .rename_i g' caps hf
      simp only[bT] at htg
      obtain⟨rfl,rfl⟩:=htg
      rw[hf] at hfx
      simp only[aL,Rep] at hfx
      obtain⟨vs,h1,h2⟩:=hfx
      exact⟨[],vs,h1,by simpa using apX (ds:=ds) hs _ (aV.of h2)⟩
     .rename_i g' caps hf
      simp only[bT] at htg
      obtain⟨rfl,rfl⟩:=htg
      rw[hf] at hfx
      simp only[aL] at hfx
      obtain⟨vs,h1,h2⟩:=hfx
      unfold anI axH
      split at h1
      .rename_i he
       rw[aE he]
       exact⟨[],vs,h1,by simpa using apX (ds:=ds) hs _ h2⟩
      .rename_i he
       rw[aA he]
       refine⟨vs,[],h1,?_⟩
       rw[aU]
       have h3:=apX (ds:=ds) hs args.toList (show aV k ow [] [] by simp[aV])
       rw[aU,aU] at h3
       exact aV.append h2 h3
     .cases htg
    obtain⟨hc,hcall⟩:=azv (ds:=ds) hs horc hd hdst' hus h
    have hrun:(execOp (⟨tmps,ds⟩ : Act).eval o).run P w=.ok (.enter g (fvs++(args.toList.map λx=>(⟨tmps,ds⟩ : Act).eval x)++cvs).toArray) w:=by
     unfold fh at hc
     split at hc
     .rename_i fn hfn
      simp only[ar,df,acl] at hc
      obtain⟨⟨b,hb⟩,hn⟩:=hc
      have hn':¬ fn.name= "runtime.NumGoroutine":=by simpa using hn
      have hargs:(fvs++(args.toList.map λx=>(⟨tmps,ds⟩ : Act).eval x)++cvs).toArray=fvs.toArray++Array.map (λx=>(⟨tmps,ds⟩ : Act).eval x) args++cvs.toArray:=by
       apply af3
       simp
      rw[hargs]
      simp[execOp,ho,resolve,hfv,Deferred.ofValue,invoke,callFunc,hfn,hn',hb]
     .cases hc
    unfold Oper.wp
    rw[hrun]
    simp only[Oper.upon]
    refine hcall.mono λen w' ⟨k',ow',g1,hcase⟩=>?_
    rcases hcase with ⟨he,v,rfl,g2⟩|⟨x,v,he,rfl,g2,g3⟩
    .show K ((⟨tmps,ds⟩ : Act).put o.dst v) w'
     rw[hput]
     exact hK he _ _ k' ow' g1 g2
    .exact hP x he v w' k' ow' g1 g3 g2
   .exact afa hs horc hd hdst h hK
  .cases h
 .exact afa hs horc hd hdst h hK
theorem ao6(hs:Sim M0 k ow done w0 w N s tmps){ops:Array Oper}{o:Oper}{b:Bool}(h:eV ops s o=some b):Region.wanted o (yielded ops tmps)=b:=by
 unfold eV at h
 unfold Region.wanted
 split at h
 .rename_i hg
  simp only[ae] at h
  simp[hg,h]
 .rename_i j want hg
  simp only[hg]
  split at h
  .rename_i d hd
   have hx:=hs.fr d
   unfold yielded
   rw[hd]
   simp only[dE]
   split at h
   .rename_i b' hb
    rw[hb] at hx
    simp only[aL,Rep] at hx
    simp only[ae] at h
    have:tmps[d]?=some (.bool b'):=by
     rw[eU] at hx
     cases hc:tmps[d]? with
     | none=>rw[hc] at hx;simp[undef] at hx
     | some u=>rw[hc] at hx;simp at hx;rw[hx.1]
    rw[this]
    simp only[]
    rw[← h]
    cases b' <;> cases want <;> rfl
   .rename_i hb
    rw[hb] at hx
    simp only[aL,Rep] at hx
    simp only[ae] at h
    rw[eU] at hx
    cases hc:tmps[d]? with
    | none=>simp[← h]
    | some u =>
     rw[hc] at hx
     simp at hx
     subst hx
     simp[undef,← h]
   .cases h
  .rename_i hd
   simp only[ae] at h
   unfold yielded
   rw[hd]
   simp[← h]
theorem aao(hs:Sim M0 k ow done w0 w N s tmps){E:En}(horc:EnSound P M0.G E){dr:Bool}{ops:Array Oper}{ix:Nat}(hd:¬ done ix){o:Oper}(hi:ops[ix]?=some o){e:Option X}{s':S}(hdst:ab2 N o=true)
  (h:bH P (TT.of P) E dr ops s ix o=some (e,s')) {K:Act->World->Prop} {Q:Exit->Act->World->Prop}
  (hK:e=none->∀ tmps' w' k' ow',k.le k'->Sim M0 k' ow' (λj=>done j\/j=ix) w0 w' N s' tmps'->K ⟨tmps',ds⟩ w')
  (hP:∀ x,e=some x->∀ v w' k' ow',k.le k'->Sim M0 k' ow' (λj=>done j\/j=ix) w0 w' N s' tmps->aL k' ow' x v->Q (.panic [{v:=v,recovered:=false}]) ⟨tmps,ds⟩ w'):wpOp P ops Q ix K ⟨tmps,ds⟩ w:=by
 unfold bH at h
 unfold wpOp
 simp only[hi]
 split at h
 .rename_i hg
  rw[ao6 hs hg,aE rfl]
  exact .inl (aBi hs horc hd hdst h hK hP)
 .rename_i hg
  rw[ao6 hs hg,aA aT]
  simp only[bT] at h
  obtain⟨rfl,rfl⟩:=h
  have hdst':=ahI hdst
  have:=Sim.put (ds:=ds) (hs.more (done':=λj=>done j\/j=ix) (λ_ h=>.inl h)) o.dst hdst' (x:=.of .undef) (v:=undef) (by simp[aL,Rep])
  have hput:(⟨tmps,ds⟩ : Act).put o.dst undef=⟨((⟨tmps,ds⟩ : Act).put o.dst undef).tmps,ds⟩:=by cases o.dst <;> rfl
  rw[hput]
  exact hK rfl _ _ k ow (Know.le_refl k) this
 .cases h
theorem ao7{E:En}(horc:EnSound P M0.G E){dr:Bool}{ops:Array Oper}{Q:Exit->Act->World->Prop}{e:Option X}{s':S}:∀ (l:List Oper) (n:Nat) (s:S) (w:World) (tmps:Array Value) (k:Know) (ow:Own) (done:Nat->Prop),
  (∀ j,l[j]?=ops[n+j]?)->(∀ o∈l,ab2 N o=true)->(∀ j,done j->j<n)->Sim M0 k ow done w0 w N s tmps->aaV P (TT.of P) E dr ops n l s=some (e,s') ->
  (e=none->∀ tmps' w' k' ow' done',k.le k'->Sim M0 k' ow' done' w0 w' N s' tmps'->Q .normal ⟨tmps',ds⟩ w') ->
  (∀ x,e=some x->∀ v tmps' w' k' ow' done',k.le k'->Sim M0 k' ow' done' w0 w' N s' tmps'->aL k' ow' x v->Q (.panic [{v:=v,recovered:=false}]) ⟨tmps',ds⟩ w')->wpOps P ops Q (List.range' n l.length) ⟨tmps,ds⟩ w
 | [],n,s,w,tmps,k,ow,done,_,_,_,hs,h,hQ,_=>by
  simp only[aaV,bT] at h
  obtain⟨rfl,rfl⟩:=h
  exact hQ rfl tmps w k ow done (Know.le_refl k) hs
 | o::l,n,s,w,tmps,k,ow,done,hl,hdst,hdone,hs,h,hQ,hP=>by
  have h0:ops[n]?=some o:=by simpa using (hl 0).symm
  simp only[aaV] at h
  simp only[aX,List.range'_succ]
  rw[wpOps_cons]
  split at h
  .rename_i s1 h1
   refine aao hs horc (λhd=>by have:=hdone n hd;omega) h0 (hdst o aT) h1 (λ_ tmps' w' k' ow' g1 g2=>?_) (λx hx=>by cases hx)
   exact ao7 horc l (n+1) s1 w' tmps' k' ow' _ (λj=>by have:=hl (j+1);simpa [cE,fw 1 j] using this) (λo ho=>hdst o (by simp[ho]))
    (λj hj=>by rcases hj with hj|hj;have:=hdone j hj;omega;omega) g2 h
    (λhe tmps' w' k'' ow' done' g3 g4=>hQ he tmps' w' k'' ow' done' (Know.le_trans g1 g3) g4)
    (λx he v tmps' w' k'' ow' done' g3 g4=>hP x he v tmps' w' k'' ow' done' (Know.le_trans g1 g3) g4)
  .rename_i x s1 h1
   simp only[bT] at h
   obtain⟨rfl,rfl⟩:=h
   exact aao hs horc (λhd=>by have:=hdone n hd;omega) h0 (hdst o aT) h1 (λhe=>by cases he) (λx hx v w' k' ow' g1 g2=>hP x hx v tmps w' k' ow' _ g1 g2)
  .cases h
end
theorem ab3(t:Tk):∀ xs:List X,X.drops t xs=xs.map (X.drop t)
 | []=>rfl
 | x::r=>by simp[X.drops,ab3 t r]
def alc(t:Tk):∀ x:X,(x.drop t).rd=x.rd :=
 X.rec (motive_1:=λx=>(x.drop t).rd=x.rd) (motive_2:=λxs=>X.rds (X.drops t xs)=X.rds xs)
  (λ_=>rfl) rfl (λt' e z cs n=>by simp only[X.drop];split <;> simp[X.rd]) (λ_ _=>rfl) (λ_=>rfl) (λ_ _ _=>rfl)
  (λxs ih=>by simp[X.drop,X.rd,ih]) (λ_ _=>rfl) (λ_ _ _=>rfl) (λ_ _ _=>rfl) rfl (λx xs ih1 ih2=>by simp[X.drops,X.rds,ih1,ih2])
theorem apt(t:Tk):∀ xs:List X,X.rds (xs.map (X.drop t))=X.rds xs
 | []=>rfl
 | x::r=>by simp[X.rds,alc,apt t r]
def drop_drop(t u:Tk):∀ x:X,(x.drop t).drop u=(x.drop u).drop t :=
 X.rec (motive_1:=λx=>(x.drop t).drop u=(x.drop u).drop t) (motive_2:=λxs=>X.drops u (X.drops t xs)=X.drops t (X.drops u xs))
  (λ_=>rfl) rfl
  (λt' e z cs n=>by
   by_cases h1:t'=t
   .by_cases h2:t'=u
    .subst h1;subst h2;simp[X.drop]
    .subst h1;simp[X.drop,h2]
   .by_cases h2:t'=u
    .subst h2;simp[X.drop,h1]
    .simp[X.drop,h1,h2])
  (λ_ _=>rfl) (λ_=>rfl) (λf xs ih=>by simp[X.drop,ih])
  (λxs ih=>by simp[X.drop,ih]) (λxs ih=>by simp[X.drop,ih])
  (λo ty z=>by
   cases o with
   | none=>rfl
   | some t' =>
    by_cases h1:t'=t
    .by_cases h2:t'=u
     .subst h1;subst h2;simp[X.drop,af5]
     .subst h1;simp[X.drop,af5,h2]
    .by_cases h2:t'=u
     .subst h2;simp[X.drop,af5,h1]
     .simp[X.drop,af5,h1,h2])
  (λ_ _ _=>rfl) rfl (λx xs ih1 ih2=>by simp[X.drops,ih1,ih2])
def fQ(t t':Tk)(e z:Nat)(cs:List C)(n:Nat):(X.own t' e z cs n).drop t=.of (.sl cs n)\/(X.own t' e z cs n).drop t=.own t' e z cs n:=by
 simp only[X.drop]
 split
 .exact .inl rfl
 .exact .inr rfl
def aor(t:Tk)(o:Option C):(o.map X.of).map (X.drop t)=o.map X.of:=by cases o <;> rfl
def ad8(t:Tk)(x:X):aa8 (x.drop t)=aa8 x:=by
 cases x with
 | own t' e z cs n=>rcases fQ t t' e z cs n with h|h <;> rw[h] <;> rfl
 | _=>rfl
def awT(t:Tk)(x:X):adk (x.drop t)=adk x:=by
 cases x with
 | own t' e z cs n=>rcases fQ t t' e z cs n with h|h <;> rw[h] <;> rfl
 | _=>rfl
def akL(t:Tk)(x:X):aaR (x.drop t)=aaR x:=by
 cases x with
 | own t' e z cs n=>rcases fQ t t' e z cs n with h|h <;> rw[h] <;> rfl
 | _=>rfl
def ao9(t:Tk)(x:X):cJ (x.drop t)=(cJ x).map (List.map (X.drop t)):=by
 cases x with
 | own t' e z cs n=>simp only[X.drop];split <;> simp[cJ,X.drop, *]
 | of c=>cases c <;> simp[X.drop,cJ]
 | _=>simp[X.drop,cJ,ab3]
def al4(t:Tk)(v:Value):(abK v).drop t=abK v:=by
 unfold abK
 split <;> rfl
def ait(T:TT)(t:Tk)(ty:Nat)(xs:List X):dP T ty (xs.map (X.drop t))=(dP T ty xs).map (X.drop t):=by
 unfold dP
 split
 .rfl
 .rename_i d _
  simp only[bM]
  split
  .split
   .simp[X.drop,ab3,aek]
   .cases xs <;> simp
  .rfl
def dD(t:Tk)(s:S)(x:Operand):(s.drop (some t)).ev x=(s.ev x).drop t:=by
 cases x <;> simp[S.ev,S.drop,X.drop,al4]
def aF9(t:Tk)(x:X):aiY (x.drop t)=aiY x:=by
 cases x with
 | own t' e z cs n=>rcases fQ t t' e z cs n with h|h <;> rw[h] <;> rfl
 | _=>simp[X.drop,aiY]
theorem amw(t:Tk)(s:S):∀ l:List Operand,afq (l.map (s.drop (some t)).ev)=afq (l.map s.ev)
 | []=>rfl
 | x::r=>by simp only[bd,afq,dD,aF9,amw t s r]
def aDk(t:Tk){x y:X}(h:aiY x=some y):y.drop t=y:=by
 cases x <;> simp only[aiY,ae,reduceCtorEq] at h <;> subst h <;> rfl
theorem ak4(t:Tk):∀ (l ys:List X),afq l=some ys->X.drops t ys=ys
 | [],ys,h=>by simp only[afq,ae] at h;subst h;rfl
 | x::r,ys,h=>by
  simp only[afq] at h
  split at h
  .rename_i y q h1 h2
   simp only[ae] at h
   subst h
   simp only[X.drops]
   rw[aDk t h1,ak4 t r q h2]
  .cases h
theorem alY(t:Tk)(s:S):∀ l,abJ (s.drop (some t)).ev l=abJ s.ev l
 | []=>rfl
 | x::r=>by simp[abJ,dD,alc,alY t s r]
theorem akW(t:Tk)(s:S):∀ l,gN (s.drop (some t)).ev l=(gN s.ev l).map (List.map λp=>(p.1,p.2.map (X.drop t)))
 | []=>rfl
 | (i,x)::r=>by
  simp only[gN,dD,ao9,akW t s r]
  cases cJ (s.ev x) <;> cases gN s.ev r <;> simp
theorem ajk(place:Nat->Option (Nat×Nat))(t:Tk):∀ (qs:List (Nat×List X)) (cells:List X),aah place (cells.map (X.drop t)) (qs.map λp=>(p.1,p.2.map (X.drop t)))=(aah place cells qs).map (List.map (X.drop t))
 | [],cells=>rfl
 | (i,xs)::r,cells=>by
  simp only[bd,aah]
  cases place i with
  | none=>rfl
  | some p =>
   obtain⟨off,size⟩:=p
   simp only[bM]
   split
   .rw[← ajk place t r]
    simp[aek,ab5]
   .rfl
def fR(t:Tk):Out->Out
 | none=>none
 | some (x,u)=>if u=some t then none else some (x.drop t,u)
def fS(t:Tk):fR t none=none:=rfl
def gI(t:Tk)(x:X):fR t (out x)=out (x.drop t):=by simp[fR,out]
def abe(t:Tk)(x:Option X):fR t (bX x)=bX (x.map (X.drop t)):=by cases x <;> simp[fR,bX]
def aby(t:Tk)(c:Prop)[Decidable c](a b:Out):fR t (if c then a else b)=if c then fR t a else fR t b:=by split <;> rfl
def ai2(t:Tk)(d:TD):(fU d).map (X.drop t)=fU d:=by
 simp[fU,al4]
def atj(t:Tk)(s:S)(r:Nat):(s.drop (some t)).objs[r]?=(s.objs[r]?).map (Ob.drop t):=by simp[S.drop]
def aBX(T:TT)(t:Tk)(s:S)(ty:Nat)(x:X):abf T (s.drop (some t)).objs ty (x.drop t)=fR t (abf T s.objs ty x):=by
 cases x with
 | ptr r off =>
  simp only[X.drop,abf,atj]
  cases s.objs[r]? with
  | none=>rfl
  | some ob =>
   cases ob with
   | var ty xs=>simp only[aP,Ob.drop,ab3,← ab5,ait,abe]
   | map es=>rfl
   | row ty cs=>cases cs <;> simp only[aP,Ob.drop,fS,abe,aor]
 | of c =>
  cases c <;> simp only[X.drop,abf,fS,abe,aor]
 | own t' e z cs n=>rcases fQ t t' e z cs n with h|h <;> rw[h] <;> rfl
 | _=>rfl
def ard(T:TT)(t:Tk)(ty f:Nat)(x:X):gu T ty f (x.drop t)=fR t (gu T ty f x):=by
 unfold gu
 cases aie T ty f with
 | none=>rfl
 | some p =>
  obtain⟨o,z⟩:=p
  simp only[aby,fS]
  split
  .cases x with
   | of c=>cases c <;> simp[X.drop,fR,out]
   | own t' e z cs n=>rcases fQ t t' e z cs n with h|h <;> rw[h] <;> rfl
   | _=>simp[X.drop,fR,out]
  .rfl
def azm(T:TT)(t:Tk)(ty f:Nat)(x:X):agv T ty f (x.drop t)=fR t (agv T ty f x):=by
 unfold agv
 split
 .split
  .cases x with
   | of c =>
    cases c <;> simp only[X.drop,fS,abe,aor]
   | own t' e z cs n=>rcases fQ t t' e z cs n with h|h <;> rw[h] <;> rfl
   | agg xs=>simp only[X.drop,ab3,← ab5,ait,abe]
   | _=>rfl
  .rfl
 .rfl
def avv(t:Tk)(e z:Nat)(i:Int)(x:X):ahS e z i (x.drop t)=fR t (ahS e z i x):=by
 cases x with
 | top r e' z'=>simp only[X.drop,ahS,aby,fS,gI]
 | own t' e z cs n=>rcases fQ t t' e z cs n with h|h <;> rw[h] <;> rfl
 | _=>rfl
def ayq(t:Tk)(b:Bool)(x:X):ajD b (x.drop t)=fR t (ajD b x):=by
 cases x with
 | top r e' z'=>simp only[X.drop,ajD,aby,fS,gI]
 | own t' e z cs n=>rcases fQ t t' e z cs n with h|h <;> rw[h] <;> rfl
 | _=>rfl
def aq5(T:TT)(t:Tk)(ty:Nat)(x i:X):cn T ty (x.drop t) (i.drop t)=fR t (cn T ty x i):=by
 unfold cn
 rw[ad8]
 split
 .rfl
 .split
  .rw[akL]
   split
   .simp only[aby,fS,gI,X.drop]
   .exact avv _ _ _ _ _
   .rfl
  .split
   .simp only[aby,fS]
    split
    .cases x with
     | of c=>cases c <;> simp[X.drop,fR,out]
     | own t' e z cs n=>rcases fQ t t' e z cs n with h|h <;> rw[h] <;> rfl
     | _=>simp[X.drop,fR,out]
    .rfl
   .rfl
  .rfl
def azh(T:TT)(t:Tk)(ty:Nat)(x i:X):afG T ty (x.drop t) (i.drop t)=fR t (afG T ty x i):=by
 unfold afG
 rw[ad8]
 split
 .rfl
 .cases x with
  | of c =>
   cases c with
   | lit v =>
    cases v with
    | string st =>
     simp only[X.drop]
     split
     .simp[fR,out,X.drop]
     .rfl
    | _=>rfl
   | agg cs =>
    simp only[X.drop]
    split
    .split
     .rename_i n e _ _ _ _ _ _ _ d _
      simp only[aby,fS,abe,aor]
     .rfl
    .rfl
   | _=>rfl
  | own t' e z cs n=>rcases fQ t t' e z cs n with h|h <;> rw[h] <;> rfl
  | agg xs =>
   simp only[X.drop,ab3]
   split
   .split
    .simp only[aby,fS,abe,← ab5,ait]
    .rfl
   .rfl
  | _=>rfl
def atI(t:Tk)(d:Int)(x:Option X):aeX d (x.map (X.drop t))=aeX d x:=by
 cases x <;> simp[aeX,ad8]
def ayx(T:TT)(t:Tk)(ty:Nat)(x:X)(lo hi:Option X):adq T ty (x.drop t) (lo.map (X.drop t)) (hi.map (X.drop t))=fR t (adq T ty x lo hi):=by
 have slice:∀ y:X,(∀ s,y≠.of (.lit (.string s)))->adq T ty y lo hi=match elemOf T ty,aaR y with
  | some (_,d),some (cs,n) =>
   match aeX 0 lo,aeX (n:Int) hi with
   | some l,some h=>if 0<=l/\l<=h/\h<=(n:Int)/\cs.length=n*d.size then out (.of (.sl ((cs.drop (l.toNat*d.size)).take ((h.toNat-l.toNat)*d.size)) (h.toNat-l.toNat))) else none
   | _,_=>none
  | _,_=>none:=by
  intro y hy
  unfold adq
  split
  .rename_i st;exact (hy st rfl).elim
  .rfl
 have slice':∀ y:X,(∀ s,y≠.of (.lit (.string s)))->adq T ty y (lo.map (X.drop t)) (hi.map (X.drop t))=match elemOf T ty,aaR y with
  | some (_,d),some (cs,n) =>
   match aeX 0 lo,aeX (n:Int) hi with
   | some l,some h=>if 0<=l/\l<=h/\h<=(n:Int)/\cs.length=n*d.size then out (.of (.sl ((cs.drop (l.toNat*d.size)).take ((h.toNat-l.toNat)*d.size)) (h.toNat-l.toNat))) else none
   | _,_=>none
  | _,_=>none:=by
  intro y hy
  unfold adq
  split
  .rename_i st;exact (hy st rfl).elim
  .simp only[atI]
   rfl
 have fin:(match elemOf T ty,aaR x with
  | some (_,d),some (cs,n) =>
   match aeX 0 lo,aeX (n:Int) hi with
   | some l,some h=>if 0<=l/\l<=h/\h<=(n:Int)/\cs.length=n*d.size then out (.of (.sl ((cs.drop (l.toNat*d.size)).take ((h.toNat-l.toNat)*d.size)) (h.toNat-l.toNat))) else none
   | _,_=>none
  | _,_=>none)=fR t (match elemOf T ty,aaR x with
  | some (_,d),some (cs,n) =>
   match aeX 0 lo,aeX (n:Int) hi with
   | some l,some h=>if 0<=l/\l<=h/\h<=(n:Int)/\cs.length=n*d.size then out (.of (.sl ((cs.drop (l.toNat*d.size)).take ((h.toNat-l.toNat)*d.size)) (h.toNat-l.toNat))) else none
   | _,_=>none
  | _,_=>none):=by
  split
  .split
   .simp only[aby,fS,gI,X.drop]
   .rfl
  .rfl
 by_cases hstr:∃ st,x=.of (.lit (.string st))
 .obtain⟨st,rfl⟩:=hstr
  simp only[X.drop,adq,atI]
  split
  .split
   .simp only[aby,fS,gI,X.drop]
   .rfl
  .rfl
 .have h1:∀ s,x≠.of (.lit (.string s)):=λs e=>hstr ⟨s,e⟩
  have h2:∀ s,x.drop t≠.of (.lit (.string s)):=λs e=>by
   cases x with
   | own t' e' z cs n=>simp only[X.drop] at e;split at e <;> cases e
   | of c=>exact h1 s e
   | _=>simp[X.drop] at e
  rw[slice' _ h2,slice _ h1,akL]
  exact fin
def aFo(t:Tk)(u:Option TypeDesc)(x:X):aaI u (x.drop t)=fR t (aaI u x):=by
 have tl:∀ x:X,ajD (ajj u) (x.drop t)=fR t (ajD (ajj u) x):=ayq t _
 cases x with
 | of c =>
  cases c with
  | lit v=>cases v <;> simp only[X.drop,aaI,aaR,fS,aby,gI] <;> rfl
  | sl cs n=>simp only[X.drop,aaI,aaR,fS,aby,gI]
  | _=>rfl
 | own t' e z cs n=>simp only[X.drop];split <;> simp only[aaI,aaR,aby,fS,gI,X.drop]
 | nil=>simp only[X.drop,aaI,aaR,fS,aby,gI]
 | top r e z=>simp only[aaI,X.drop,aaR];exact tl (.top r e z)
 | agg xs=>simp only[aaI,X.drop,aaR];rfl
 | tup xs=>simp only[aaI,X.drop,aaR];rfl
 | clo f xs=>simp only[aaI,X.drop,aaR];rfl
 | ptr r o=>simp only[aaI,X.drop,aaR];rfl
 | mp r=>simp only[aaI,X.drop,aaR];rfl
 | nw o ty z=>simp only[aaI,X.drop,aaR];rfl
def arm(T:TT)(t:Tk)(d:Option TD)(x:X):ajm T d (x.drop t)=fR t (ajm T d x):=by
 unfold ajm
 rw[akL]
 split
 .split
  .rename_i cs _ _ _
   cases ae9 cs <;> simp[bX,fR,X.drop]
  .rfl
 .rfl
def arl(T:TT)(a b:Nat)(y:X):Out:=match (T b).map (·.und) with
 | some TypeDesc.string=>ajm T (T a) y
 | _=>none
def aC1(T:TT)(t:Tk)(a b:Nat)(x:X):arl T a b (x.drop t)=fR t (arl T a b x):=by
 unfold arl
 split
 .exact arm T t (T a) x
 .rfl
def aaK(T:TT)(a b:Nat)(y:X)(hy:∀ c,y≠.of (.lit c)):adA T a b y=arl T a b y:=by
 unfold adA arl
 generalize (T b).map (·.und)=u
 generalize T a=d
 split
 .exact absurd rfl (hy _)
 .exact absurd rfl (hy _)
 .rfl
 .split
  .simp_all
  .rfl
def auu(T:TT)(t:Tk)(a b:Nat)(x:X):adA T a b (x.drop t)=fR t (adA T a b x):=by
 have hN:=aC1 T t a b x
 cases x with
 | of c =>
  have hB:=arm T t (T a) (.of c)
  simp only[X.drop] at hB ⊢
  unfold adA
  split
  .simp[fR,out,X.drop]
  .simp[fR,out,X.drop]
  .exact hB
  .rfl
 | own t' e z cs n =>
  have e1:=aaK T a b (.own t' e z cs n) (λc h=>by cases h)
  have e2:=aaK T a b ((X.own t' e z cs n).drop t) (λc h=>by rcases fQ t t' e z cs n with h'|h' <;> rw[h'] at h <;> cases h)
  rw[e1,e2]
  exact hN
 | nil=>rw[aaK T a b _ (λc h=>by cases h),aaK T a b _ (λc h=>by cases h)];exact hN
 | ptr r o=>rw[aaK T a b _ (λc h=>by cases h),aaK T a b _ (λc h=>by cases h)];exact hN
 | mp r=>rw[aaK T a b _ (λc h=>by cases h),aaK T a b _ (λc h=>by cases h)];exact hN
 | clo f l=>rw[aaK T a b _ (λc h=>by cases h),aaK T a b _ (λc h=>by cases h)];exact hN
 | agg l=>rw[aaK T a b _ (λc h=>by cases h),aaK T a b _ (λc h=>by cases h)];exact hN
 | tup l=>rw[aaK T a b _ (λc h=>by cases h),aaK T a b _ (λc h=>by cases h)];exact hN
 | nw o ty z=>rw[aaK T a b _ (λc h=>by cases h),aaK T a b _ (λc h=>by cases h)];exact hN
 | top r e z=>rw[aaK T a b _ (λc h=>by cases h),aaK T a b _ (λc h=>by cases h)];exact hN
def al8(t:Tk)(x:X):gG (x.drop t)=gG x:=by
 cases x with
 | own t' e z cs n=>rcases fQ t t' e z cs n with h|h <;> rw[h] <;> rfl
 | _=>rfl
def aBW(t:Tk)(s:S)(x:X):agH (s.drop (some t)).objs (x.drop t)=agH s.objs x:=by
 cases x with
 | own t' e z cs n=>rcases fQ t t' e z cs n with h|h <;> rw[h] <;> rfl
 | mp r =>
  simp only[X.drop,agH,atj]
  cases s.objs[r]? with
  | none=>rfl
  | some ob=>cases ob <;> rfl
 | of c =>
  cases c with
  | lit v=>cases v with
   | map m=>cases m <;> rfl
   | _=>rfl
  | _=>rfl
 | _=>rfl
def aAJ(T:TT)(t:Tk)(et:Nat):(ake T et).map (X.drop t)=ake T et:=by
 unfold ake
 split
 .rw[← ait,ai2]
 .rfl
def awQ(T:TT)(t:Tk)(s:S)(ty:Nat)(x kx:X)(ok:Bool):afc T (s.drop (some t)).objs ty (x.drop t) (kx.drop t) ok=fR t (afc T s.objs ty x kx ok):=by
 unfold afc
 rw[al8,aBW]
 split
 .rename_i kind et kv es _ _ _
  split
  .rename_i i _
   rw[abe]
   cases es[i]? with
   | none=>rfl
   | some p=>cases ok <;> rfl
  .rw[abe]
   congr 1
   have h:=aAJ T t et
   cases hz:ake T et with
   | none=>rfl
   | some z =>
    rw[hz] at h
    simp only[aP,ae] at h
    cases ok with
    | true=>simp[X.drop,X.drops,h]
    | false=>simp[h]
  .rfl
 .rfl
def azF(T:TT)(t:Tk)(st xt e:Nat)(x:X):aiK T st xt e (x.drop t)=aiK T st xt e x:=by
 unfold aiK
 rw[akL]
 split
 .rfl
 .cases x with
  | own t' e z cs n=>rcases fQ t t' e z cs n with h|h <;> rw[h]
  | _=>rfl
def axW(T:TT)(t tk:Tk)(ht:t≠tk)(st xt:Nat)(x y:X):aaG T tk st xt (x.drop t) (y.drop t)=fR t (aaG T tk st xt x y):=by
 unfold aaG
 split
 .rw[azF]
  split
  .split
   .cases x with
    | own t' e z cs n =>
     simp only[X.drop]
     by_cases he:t'=t
     .subst he
      simp only[ah]
      split
      .simp[fR]
      .rfl
     .simp only[he,ap,aby,fS]
      split
      .simp[fR,he,X.drop,bC ht]
      .rfl
    | nil =>
     simp only[X.drop,aby,fS]
     split
     .simp[fR,X.drop,bC ht]
     .rfl
    | _=>simp[X.drop,fR]
   .rfl
  .rfl
 .rfl
def ayX(t:Tk)(clk ix:Nat)(ht:∀ i,t≠.nm clk ix i):∀ x:X,(x.tr (λ_=>none) (adv clk ix)).drop t=x.tr (λ_=>none) (adv clk ix) :=
 X.rec (motive_1:=λx=>(x.tr (λ_=>none) (adv clk ix)).drop t=x.tr (λ_=>none) (adv clk ix)) (motive_2:=λxs=>X.drops t (X.trs (λ_=>none) (adv clk ix) xs)=X.trs (λ_=>none) (adv clk ix) xs)
  (λ_=>rfl) rfl
  (λt' e z cs n=>by
   simp only[X.tr]
   split
   .rename_i t2 h2
    have:t2≠t:=by
     unfold adv at h2
     split at h2
     .cases h2;exact bC (ht _)
     .cases h2
    simp[X.drop,this]
   .rfl)
  (λ_ _=>rfl) (λ_=>rfl) (λf xs ih=>by simp only[X.tr,X.drop,ih]) (λxs ih=>by simp only[X.tr,X.drop,ih]) (λxs ih=>by simp only[X.tr,X.drop,ih])
  (λo ty z=>by
   cases o with
   | none=>rfl
   | some t' =>
    simp only[X.tr,dE,X.drop]
    cases h2:adv clk ix t' with
    | none=>rfl
    | some t2 =>
     have:t2≠t:=by
      unfold adv at h2
      split at h2
      .cases h2;exact bC (ht _)
      .cases h2
     simp[af5,this])
  (λ_ _ _=>rfl) rfl
  (λx xs h1 h2=>by simp only[X.trs,X.drops,h1,h2])
def aBR(t:Tk)(clk ix:Nat)(ht:∀ i,t≠.nm clk ix i)(xs:List X):(aht clk ix xs).map (X.drop t)=aht clk ix xs:=by
 unfold aht
 induction xs with
 | nil=>rfl
 | cons x xs ih=>simp only[X.trs,bd,ayX t clk ix ht,ih]
def aEW(t:Tk)(xs:List X):(agf xs).drop t=agf (xs.map (X.drop t)):=by
 match xs with
 | []=>simp[agf,X.drop,ab3]
 | [x]=>simp[agf]
 | x::y::r=>simp[agf,X.drop,ab3]
def aDn(P:Program)(E:En)(t:Tk)(clk ix f:Nat)(ht:∀ i,t≠.nm clk ix i)(cs:List C):afs P E clk ix f cs=fR t (afs P E clk ix f cs):=by
 unfold afs
 split
 .split
  .rw[gI,aEW,aBR t _ _ ht]
  .rfl
 .rfl
def aFf(t:Tk)(x y:X):awL (x.drop t) (y.drop t)=fR t (awL x y):=by
 unfold awL
 rw[ad8,ad8]
 split
 .rw[gI];rfl
 .rfl
def aFh(t:Tk)(x y:X):apG (x.drop t) (y.drop t)=fR t (apG x y):=by
 unfold apG
 rw[ad8,ad8]
 split
 .rw[gI];rfl
 .rfl
def aJW(T:TT)(u:Nat)(t:Tk)(x:X)(ok:Bool):asX T u (x.drop t) ok=fR t (asX T u x ok):=by
 cases x with
 | of c =>
  cases c with
  | ifc a b =>
   cases ok with
   | false=>rfl
   | true=>simp only[X.drop,asX];split <;> simp[fR,out,X.drop]
  | _=>rfl
 | own t' e z cs n=>rcases fQ t t' e z cs n with h|h <;> rw[h] <;> rfl
 | _=>rfl
def aC0(T:TT)(t:Tk)(a b:Nat)(x:X):ad3 T a b (x.drop t)=fR t (ad3 T a b x):=by
 have hN:=auu T t a b x
 unfold ad3
 cases hu:(T b).map (·.und) with
 | none=>exact hN
 | some u =>
  cases u with
  | slice e =>
   cases x with
   | of c =>
    cases c with
    | lit v =>
     cases v with
     | string s =>
      simp only[X.drop,au4]
      split <;> simp[fR,out,X.drop]
     | _=>exact hN
    | _=>exact hN
   | own t' e' z cs n =>
    rcases fQ t t' e' z cs n with h|h <;> rw[h] at hN ⊢ <;> exact hN
   | _=>exact hN
  | _=>exact hN
def avp(P:Program)(T:TT)(E:En)(t:Tk)(s:S)(ix:Nat)(ht:∀ i,t≠.nm s.clk ix i)(cal:Callee)(args:List Operand)(tys:List Nat) :
  ae8 P T E (s.drop (some t)) ix cal args tys=fR t (ae8 P T E s ix cal args tys):=by
 unfold ae8
 split
 .rw[dD,aFo]
 .rw[dD,dD];exact axW T t _ (ht 0) _ _ _ _
 .rw[dD,dD,aFf]
 .rw[dD,dD,aFh]
 .rename_i f
  rw[alY,dD]
  cases hf:s.ev f with
  | of c =>
   cases c <;> simp only[X.drop,fS]
   split
   .exact aDn P E t s.clk ix _ ht _
   .rfl
  | own t' e z cs n=>rcases fQ t t' e z cs n with h|h <;> rw[h] <;> rfl
  | _=>rfl
 .rfl
def avm(P:Program)(T:TT)(E:En)(t:Tk)(s:S)(ix:Nat)(ht:∀ i,t≠.nm s.clk ix i)(o:Oper):val P T E (s.drop (some t)) ix o=fR t (val P T E s ix o):=by
 unfold val
 split
 .rw[dD,gI]
 .rw[dD,gI]
 .rw[dD,awT,dD,dD]
  split
  .rename_i b _
   cases b <;> simp[gI]
  .rfl
 .rename_i op ty x y yt _
  rw[dD,dD]
  unfold gJ
  rw[al8,al8,alc,alc]
  split
  .rename_i u v _ _
   cases acg ((T ty).map (·.und)) op u v <;> rfl
  .unfold ae7
   split
   .rename_i cs ds _ _
    split
    .cases af4 P T ty cs ds <;> rfl
    .cases af4 P T ty cs ds <;> rfl
    .rfl
   .rfl
 .rename_i op ty x _
  rw[dD]
  cases s.ev x with
  | of c =>
   cases c <;> simp only[X.drop,fS,abe]
   rename_i u
   cases aqk op u <;> rfl
  | own t' e z cs n=>rcases fQ t t' e z cs n with h|h <;> rw[h] <;> rfl
  | _=>rfl
 .rw[dD];exact aBX T t s _ _
 .rw[dD,ard]
 .rw[dD,azm]
 .rw[dD,dD,aq5]
 .rw[dD,dD,azh]
 .rename_i ty x lo hi _
  rw[dD,← ayx]
  congr 1
  .cases lo <;> simp[dD]
  .cases hi <;> simp[dD]
 .rename_i ty ps _
  rw[akW]
  cases T ty with
  | none=>rfl
  | some d =>
   cases gN s.ev ps.toList with
   | none=>rfl
   | some qs =>
    simp only[aP]
    split
    .have h1:=ajk (λi=>d.fields[i]?) t qs (fU d)
     rw[ai2] at h1
     rw[h1,abe]
     cases aah (λi=>d.fields[i]?) (fU d) qs <;> simp[X.drop,ab3]
    .split
     .rename_i de _
      have h1:=ajk (λi=>some (i*de.size,de.size)) t qs (fU d)
      rw[ai2] at h1
      rw[h1,abe]
      cases aah (λi=>some (i*de.size,de.size)) (fU d) qs <;> simp[X.drop,ab3]
     .rfl
    .rfl
 .rename_i ty n ps _
  rw[akW]
  cases elemOf T ty with
  | none=>rfl
  | some ed =>
   obtain⟨e,d⟩:=ed
   cases gN s.ev ps.toList with
   | none=>rfl
   | some qs =>
    simp only[aP]
    split
    .have h0:((List.replicate n (fU d)).flatten).map (X.drop t)=(List.replicate n (fU d)).flatten:=by
      rw[List.map_flatten,List.map_replicate,ai2]
     have h1:=ajk (λi=>some (i*d.size,d.size)) t qs ((List.replicate n (fU d)).flatten)
     rw[h0] at h1
     rw[h1]
     cases aah (λi=>some (i*d.size,d.size)) ((List.replicate n (fU d)).flatten) qs with
     | none=>rfl
     | some xs =>
      simp only[aP,apt]
      cases X.rds xs with
      | none=>rfl
      | some cs =>
       simp only[gI,X.drop]
       rw[aA (λe=>ht 0 e.symm)]
       rfl
    .rfl
 .rename_i x i _
  rw[dD]
  cases s.ev x with
  | of c =>
   cases c <;> simp only[X.drop,fS,abe]
   rename_i cs
   cases cs[i]? <;> rfl
  | own t' e z cs n=>rcases fQ t t' e z cs n with h|h <;> rw[h] <;> rfl
  | tup xs=>simp[X.drop,ab3,abe]
  | _=>rfl
 .rename_i x _
  rw[dD]
  cases s.ev x with
  | of c=>cases c <;> simp only[X.drop,fS,gI]
  | own t' e z cs n=>rcases fQ t t' e z cs n with h|h <;> rw[h] <;> rfl
  | _=>simp[X.drop,fR,out]
 .rw[alY]
  split
  .split
   .simp[gI,X.drop]
   .rw[amw]
    cases h:afq _ with
    | none=>rfl
    | some ys=>simp[asy,gI,X.drop,ak4 t _ _ h]
  .split
   .rw[amw]
    cases h:afq _ with
    | none=>rfl
    | some ys=>simp[asy,gI,X.drop,ak4 t _ _ h]
   .rfl
 .rw[dD,aC0]
 .rw[dD,dD];exact awQ T t s _ _ _ _
 .rw[dD,alc]
  split
  .simp[gI,X.drop]
  .rfl
 .rw[dD];exact aJW T _ t _ _
 .exact avp P T E t s ix ht _ _ _
 .split
  .split
   .rw[gI]
    simp only[S.drop,X.drop,af5]
    rw[aA (λe=>ht 0 e.symm)]
   .rfl
  .rfl
 .rename_i ty d x _
  have h1:fW ((s.drop (some t)).ev x)=fW (s.ev x):=by
   unfold fW
   rw[dD,ao9]
   cases cJ (s.ev x) with
   | none=>rfl
   | some l=>simp only[aP,dE,apt]
  rw[h1]
  have h2:(s.drop (some t)).fr d=(s.fr d).drop t:=rfl
  rw[h2]
  cases hT:T ty with
  | none=>rfl
  | some td =>
   cases hf:s.fr d with
   | nw ok ty' z =>
    cases ok with
    | none=>rfl
    | some tk =>
    by_cases hk:tk=t
    .subst hk
     simp only[X.drop,af5,ah]
     cases fW (s.ev x) with
     | none=>rfl
     | some cs =>
      cases o.guard with
      | some g=>rfl
      | none =>
       cases o.dst with
       | some d'=>rfl
       | none =>
        simp only
        split
        .simp[fR]
        .rfl
    .simp only[X.drop,af5,hk,ap]
     cases fW (s.ev x) with
     | none=>rfl
     | some cs =>
      cases o.guard with
      | some g=>rfl
      | none =>
       cases o.dst with
       | some d'=>rfl
       | none =>
        simp only
        split
        .simp[fR,hk,X.drop]
        .rfl
   | own t' e z cs n=>rcases fQ t t' e z cs n with h|h <;> rw[h] <;> rfl
   | _=>rfl
 .rfl

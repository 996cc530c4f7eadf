/- A part. Conditions: none. -/
import Derived.Test.YtghkmcffifpkeaaGreatPa1
import Derived.Lib.ConvBytes
set_option linter.all false
set_option maxRecDepth 100000
set_option maxHeartbeats 64000000
namespace Go.Pe
open RowKit
theorem ajz{α:Type}[DecidableEq α]:∀ {l:List α} {a:α} {i:Nat},l.Nodup->l[i]?=some a->pos l a=some i
 | [],a,i,_,h=>by simp at h
 | b::l,a,0,_,h=>by
  simp only[dq,ab] at h
  subst h
  simp[pos]
 | b::l,a,i+1,hn,h=>by
  simp only[eY] at h
  rw[afM] at hn
  have hne:b≠a:=by rintro rfl;exact hn.1 (bT h)
  simp[pos,hne,ajz hn.2 h]
def reK(refs:List Nat)(k:Know):Know:={m:=k.m,μ:=λi=>(refs[i]?).bind k.μ}
def reO(refs:List Nat)(ts:List Tk)(ow:Own):Own
 | .nm 0 0 i=>(ts[i]?).bind ow
 | .nm ..=>none
 | .cell i off=>(refs[i]?).bind λr=>if Tk.cell r off∈ts then none else ow (.cell r off)
section
variable {P:Program} {M0:Base} {k:Know} {ow:Own} {done:Nat->Prop} {w0 w:World} {N:Nat} {s:S} {tmps:Array Value} {ds:List Deferred} {refs:List Nat} {ts:List Tk} {objs obs:List Ob}
theorem axQ:Ren (pos refs) (fM refs ts) k (reK refs k) ow (reO refs ts ow) where
 m:=λ_ _ _ h=>h
 μ:=λr b r' hr hs=>by simp only[reK,adJ hs,dh,hr]
 ow:=λt p t' ht hr=>by
  unfold fM at hr
  split at hr
  .rename_i i hi
   simp only[ab] at hr
   subst hr
   simp only[reO,adJ hi,dh,ht]
  .rename_i hno
   split at hr
   .rename_i r off
    simp only[ar] at hr
    obtain⟨r',hr',rfl⟩:=hr
    simp only[reO,adJ hr',dh,aj (aqt hno),ht]
   .cases hr
theorem auK{r:Nat}(hno:abQ r∉ts):fM refs ts (abQ r)=(pos refs r).map λr'=>abQ r':=by
 unfold fM
 have:pos ts (abQ r)=none:=by
  cases hps:pos ts (abQ r) with
  | none=>rfl
  | some i=>exact absurd (bT (adJ hps)) hno
 rw[this]
theorem akv(hr:refs.Nodup)(hts:ts.Nodup){t':Tk}{p:Value×Nat×Nat×Nat}(h:reO refs ts ow t'=some p):∃ t,ow t=some p/\fM refs ts t=some t':=by
 unfold reO at h
 split at h
 .rename_i i
  simp only[bD] at h
  obtain⟨t,ht,hp⟩:=h
  exact⟨t,hp,by simp only[fM,ajz hts ht]⟩
 .cases h
 .rename_i i off
  simp only[bD] at h
  obtain⟨r,hr',hp⟩:=h
  split at hp
  .cases hp
  .rename_i hno
   refine⟨.cell r off,hp,?_⟩
   have:pos ts (Tk.cell r off)=none:=by
    cases hps:pos ts (Tk.cell r off) with
    | none=>rfl
    | some i=>exact (hno (bT (adJ hps))).elim
   simp only[fM,this,ajz hr hr',aG]
theorem afA{σ:Nat->Option Nat}{ρ:Tk->Option Tk}{objs:List Ob}:∀ {l:List Nat} {obs:List Ob},aaB σ ρ objs l=some obs->obs.length=l.length
 | [],obs,h=>by simp only[aaB,ab] at h;subst h;rfl
 | r::l,obs,h=>by
  simp only[aaB] at h
  split at h
  .rename_i ob q h1 h2
   simp only[ab] at h
   subst h
   simp[afA h2]
  .cases h
theorem aic{σ:Nat->Option Nat}{ρ:Tk->Option Tk}{objs:List Ob}:∀ {l:List Nat} {obs:List Ob},aaB σ ρ objs l=some obs->∀ (i r:Nat),l[i]?=some r->∃ ob:Ob,objs[r]?=some ob/\obs[i]?=some (ob.tr σ ρ)
 | [],obs,h,i,r,hi=>by simp at hi
 | r0::l,obs,h,i,r,hi=>by
  simp only[aaB] at h
  split at h
  .rename_i ob q h1 h2
   simp only[ab] at h
   subst h
   cases i with
   | zero=>simp only[dq,ab] at hi;subst hi;exact⟨ob,h1,rfl⟩
   | succ i=>simpa using aic h2 i r (by simpa using hi)
  .cases h
theorem Hp.own_dead(h:Hp M0 k ow w0 w objs){t:Tk}{e z n:Nat}{cs:List C}{v:Value}(hx:aF k ow (.own t e z cs n) v){g r:Nat}(hg:v.ownBlock=some g)(hr:k.μ r=some g):¬ Liv objs r:=by
 simp only[aF] at hx
 obtain⟨ho,hcl,hrep⟩:=hx
 intro hl
 obtain⟨ty,rs,q1,q2⟩:=(((h.tok _ _ _ _ _ ho).2 g hg).2.2 r hr).1
 have hnone:=(h.lt hr).2.2 hl
 obtain⟨ob,q3,q4⟩:=hl
 obtain rfl:=ay (q1.symm.trans q3)
 cases rs with
 | nil=>cases q4
 | cons a rs =>
  simp only[Rep] at hrep
  obtain⟨a',cp,us,rfl,_,hul,hum⟩:=hrep
  have hpos':0<us.length:=by rw[hul.length,hcl];simp only[aN] at q2;omega
  have hne:us≠[]:=by rintro rfl;simp at hpos'
  obtain⟨b,o,rfl,hc⟩:=hum hne
  have hc0:=hc 0 _ (aM hpos')
  simp only[Value.ownBlock,ab] at hg
  subst hg
  rw[hnone] at hc0
  cases hc0
theorem Hp.toks_dead(h:Hp M0 k ow w0 w objs):∀ (x:X) (v:Value),aF k ow x v->∀ t∈x.toks,∀ v' e z n,ow t=some (v',e,z,n)->∀ g,v'.ownBlock=some g->∀ r,k.μ r=some g->¬ Liv objs r :=
 X.rec (motive_1:=λx=>∀ v,aF k ow x v->∀ t∈x.toks,∀ v' e z n,ow t=some (v',e,z,n)->∀ g,v'.ownBlock=some g->∀ r,k.μ r=some g->¬ Liv objs r)
  (motive_2:=λxs=>∀ vs,aR k ow xs vs->∀ t∈X.toksL xs,∀ v' e z n,ow t=some (v',e,z,n)->∀ g,v'.ownBlock=some g->∀ r,k.μ r=some g->¬ Liv objs r)
  (λ_ _ _ t ht=>by simp[X.toks] at ht) (λ_ _ t ht=>by simp[X.toks] at ht)
  (λt0 e0 z0 cs0 n0 v hx t ht v' e z n ho g hg r hr=>by
   simp only[X.toks,cn] at ht
   subst ht
   have hx':=hx
   simp only[aF] at hx'
   have:=hx'.1.symm.trans ho
   simp only[bF] at this
   obtain⟨rfl,_⟩:=this
   exact h.own_dead hx hg hr)
  (λ_ _ _ _ t ht=>by simp[X.toks] at ht) (λ_ _ _ t ht=>by simp[X.toks] at ht)
  (λf xs ih v hx t ht=>by simp only[aF] at hx;obtain⟨vs,_,hl⟩:=hx;exact ih vs hl t (by simpa [X.toks] using ht))
  (λxs ih v hx t ht=>by simp only[aF] at hx;obtain⟨vs,_,_,hl⟩:=hx;exact ih vs hl t (by simpa [X.toks] using ht))
  (λxs ih v hx t ht=>by simp only[aF] at hx;obtain⟨vs,_,hl⟩:=hx;exact ih vs hl t (by simpa [X.toks] using ht))
  (λo ty z0 v hx t ht v' e z n ho g hg r hr=>by
   cases o with
   | none=>simp[X.toks] at ht
   | some t0 =>
    simp only[X.toks,Option.toList_some,cn] at ht
    subst ht
    simp only[aF] at hx
    obtain⟨b,_,hk⟩:=hx
    have:=hk.symm.trans ho
    simp only[bF] at this
    obtain⟨rfl,rfl,rfl,rfl⟩:=this
    exact ah8 (by have:=(((h.tok _ _ _ _ _ hk).2 g hg).2.2 r hr).1;rwa [abY] at this))
  (λ_ _ _ _ _ t ht=>by simp[X.toks] at ht)
  (λ_ _ t ht=>by simp[X.toksL] at ht)
  (λx xs ih1 ih2 vs hx t ht=>by
   simp only[aR] at hx
   obtain⟨v,r,_,h1,h2⟩:=hx
   simp only[X.toksL,bt] at ht
   rcases ht with ht|ht
   .exact ih1 v h1 t ht
   .exact ih2 r h2 t ht)
theorem Hp.toksL_dead(h:Hp M0 k ow w0 w objs):∀ (xs:List X) (vs:List Value),aR k ow xs vs->∀ t∈X.toksL xs,∀ v' e z n,ow t=some (v',e,z,n)->∀ g,v'.ownBlock=some g->∀ r,k.μ r=some g->¬ Liv objs r
 | [],vs,hx,t,ht=>by simp[X.toksL] at ht
 | x::xs,vs,hx,t,ht=>by
  simp only[aR] at hx
  obtain⟨v,r,_,h1,h2⟩:=hx
  simp only[X.toksL,bt] at ht
  rcases ht with ht|ht
  .exact h.toks_dead x v h1 t ht
  .exact h.toksL_dead xs r h2 t ht
theorem Hp.drops(h:Hp M0 k ow w0 w objs)(ts:List Tk):Hp M0 k ow w0 w (afv ts objs):=by
 unfold afv
 split
 .exact h
 .exact {h with
   obj:=λr ob hr=>by
    simp only[bo,ar] at hr
    obtain⟨ob',h1,rfl⟩:=hr
    obtain⟨b,h2,h3,h4,h5,h6⟩:=h.obj r ob' h1
    exact⟨b,h2,h3,h4,λhl=>h5 (by rw[← acG some];exact hl),h6.tr ⟨λ_ _ _ h=>h,λr b r' hr he=>by cases he;exact hr,λt p t' ht he=>by
     split at he
     .cases he
     .cases he;exact ht⟩⟩
   dom:=λr b hr=>by simpa using h.dom r b hr
   inj:=λr r' b hr hr' hl hl'=>h.inj r r' b hr hr' (ad1 (acG some _) hl) (ad1 (acG some _) hl')
   tok:=λt v e z n ht=>by
    obtain⟨g1,g2⟩:=h.tok t v e z n ht
    exact⟨g1,λg hg=>⟨(g2 g hg).1,(g2 g hg).2.1,λr hr=>⟨agb (λ_ _=>rfl) ((g2 g hg).2.2 r hr).1,λhl=>((g2 g hg).2.2 r hr).2 (ad1 (acG some _) hl)⟩⟩⟩}
theorem aFP{ts:List Tk}{objs:List Ob}{r:Nat}(h:Liv (afv ts objs) r):Liv objs r:=by
 unfold afv at h
 split at h
 .exact h
 .exact ad1 (acG some _) h
theorem aFQ(ts:List Tk)(objs:List Ob):(afv ts objs).length=objs.length:=by
 unfold afv
 split <;> simp
theorem aqw{σ:Nat->Option Nat}{ρ:Tk->Option Tk}{objs obs:List Ob}{l:List Nat}(hp:aaB σ ρ objs l=some obs){i r:Nat}(hi:l[i]?=some r)(hl:Liv obs i):Liv objs r:=by
 obtain⟨ob,h1,h2⟩:=hl
 obtain⟨ob0,h3,h4⟩:=aic hp i r hi
 obtain rfl:=ay (h1.symm.trans h4)
 exact⟨ob0,h3,by rw[← acG σ ρ];exact h2⟩
theorem aMb{σ:Nat->Option Nat}{ρ:Tk->Option Tk}{objs obs:List Ob}{l:List Nat}(hp:aaB σ ρ objs l=some obs){i r n:Nat}(hi:l[i]?=some r)(h:fQ objs n r):fQ obs n i:=by
 obtain⟨ty,cs,h1,h2⟩:=h
 obtain⟨ob0,h3,h4⟩:=aic hp i r hi
 obtain rfl:=ay (h1.symm.trans h3)
 exact⟨ty,cs,h4,h2⟩
theorem Hp.re(h:Hp M0 k ow w0 w objs)(hr:refs.Nodup)(hts:ts.Nodup)(hp:aaB (pos refs) (fM refs ts) objs refs=some obs){M1:Base}{w1:World}
  (hgood:M1.G.holds w1/\∀ b,M1.G.blk b->b<w1.heap.size/\¬ M1.mod b) (hbelow:Keeps M1.mod w1 w) (hmine:∀ b,abM (reK refs k) (reO refs ts ow) b->agZ M0.mod w0 b->agZ M1.mod w1 b)
  (hm0:∀ b o v,k.m b o=some v->b<w1.heap.size->¬ M1.mod b->M1.m b o=some v) (hrow:∀ i r v e z n g t',refs[i]?=some r->ow (abQ r)=some (v,e,z,n)->v.ownBlock=some g->k.μ r=some g->Liv objs r->fM refs ts (abQ r)=some t'->t'=abQ i):Hp M1 (reK refs k) (reO refs ts ow) w1 w obs where
 good:=hgood
 below:=hbelow
 mem:=h.mem
 obj:=λi ob hi=>by
  have hlt:i<refs.length:=by
   rw[← afA hp]
   exact (List.getElem?_eq_some_iff.1 hi).1
  obtain⟨ob0,h1,h2⟩:=aic hp i _ (aM hlt)
  obtain rfl:ob=ob0.tr (pos refs) (fM refs ts):=ay (hi.symm.trans h2)
  obtain⟨b,h3,h4,h5,h6,h7⟩:=h.obj _ _ h1
  have hμ:(reK refs k).μ i=some b:=by simp only[reK,aM hlt,dh,h3]
  exact⟨b,hμ,hmine b (.inl ⟨i,hμ⟩) h4,h5,λhl=>h6 (by rw[← acG (pos refs) (fM refs ts)];exact hl),h7.tr axQ⟩
 dom:=λi b hi=>by
  simp only[reK,bD] at hi
  obtain⟨r,hr',_⟩:=hi
  rw[afA hp]
  exact (List.getElem?_eq_some_iff.1 hr').1
 inj:=λi j b hi hj hl hl'=>by
  simp only[reK,bD] at hi hj
  obtain⟨r,h1,h2⟩:=hi
  obtain⟨r',h3,h4⟩:=hj
  obtain rfl:=h.inj r r' b h2 h4 (aqw hp h1 hl) (aqw hp h3 hl')
  have:=(ajz hr h1).symm.trans (ajz hr h3)
  exact ay this
 tok:=λt v e z n ht=>by
  obtain⟨t0,h1,h5⟩:=akv hr hts ht
  obtain⟨g1,g2⟩:=h.tok t0 v e z n h1
  refine⟨g1,λg hg=>⟨hmine g (.inr ⟨t,v,e,z,n,ht,hg⟩) (g2 g hg).1,(g2 g hg).2.1,λi hi=>?_⟩⟩
  simp only[reK,bD] at hi
  obtain⟨r,h3,h4⟩:=hi
  obtain⟨q1,q2⟩:=(g2 g hg).2.2 r h4
  refine⟨aMb hp h3 q1,λhl=>?_⟩
  have hl':=aqw hp h3 hl
  obtain rfl:=q2 hl'
  exact hrow i r v e z n g t h3 h1 hg h4 hl' h5
 tokne:=λt t' v e z n v' e' z' n' ht ht' hne=>by
  obtain⟨a,h1,h2⟩:=akv hr hts ht
  obtain⟨b,h3,h4⟩:=akv hr hts ht'
  exact h.tokne a b v e z n v' e' z' n' h1 h3 (λe=>hne (by subst e;rw[h2] at h4;exact ay h4))
 m0:=hm0
theorem auM{t:Tk}{p:Value×Nat×Nat×Nat}(h:reO refs ts ow t=some p):t.older 1 λ_=>False:=by
 unfold reO at h
 split at h
 .exact .inl Nat.zero_lt_one
 .cases h
 .trivial
theorem auN{i off:Nat}{p:Value×Nat×Nat×Nat}(h:reO refs ts ow (.cell i off)=some p):i<refs.length:=by
 simp only[reO,bD] at h
 obtain⟨r,hr,_⟩:=h
 exact (List.getElem?_eq_some_iff.1 hr).1
theorem am5(σ:Nat->Option Nat)(ρ:Tk->Option Tk):∀ (l:List Nat) (objs:List Ob) (q:List Ob),(aay σ ρ objs l q).length=objs.length
 | [],objs,q=>by simp[aay]
 | r::l,objs,[]=>by simp[aay]
 | r::l,objs,ob::q=>by simp[aay,am5 σ ρ l]
theorem ah4(σ:Nat->Option Nat)(ρ:Tk->Option Tk):∀ (l:List Nat) (objs:List Ob) (q:List Ob) (r:Nat),r∉l->(aay σ ρ objs l q)[r]?=objs[r]?
 | [],objs,q,r,_=>by simp[aay]
 | r0::l,objs,[],r,_=>by simp[aay]
 | r0::l,objs,ob::q,r,h=>by
  simp only[bp,aii] at h
  simp only[aay]
  rw[ah4 σ ρ l _ q r h.2,eu (bn h.1)]
theorem aog(σ:Nat->Option Nat)(ρ:Tk->Option Tk):∀ (l:List Nat) (objs:List Ob) (q:List Ob) (i r:Nat) (ob:Ob),l.Nodup->l[i]?=some r->q[i]?=some ob->r<objs.length->(aay σ ρ objs l q)[r]?=some (ob.tr σ ρ)
 | [],objs,q,i,r,ob,_,hl,_,_=>by simp at hl
 | r0::l,objs,[],i,r,ob,_,_,hq,_=>by simp at hq
 | r0::l,objs,ob0::q,0,r,ob,hn,hl,hq,hr=>by
  simp only[dq,ab] at hl hq
  subst hl;subst hq
  rw[afM] at hn
  simp only[aay]
  rw[ah4 σ ρ l _ q r0 hn.1,da hr]
 | r0::l,objs,ob0::q,i+1,r,ob,hn,hl,hq,hr=>by
  rw[afM] at hn
  simp only[aay]
  exact aog σ ρ l _ q i r ob hn.2 (by simpa using hl) (by simpa using hq) (by simpa using hr)
theorem Sim.new(h:Sim M0 k ow done w0 w N s tmps){ix i:Nat}(hd:¬ done ix):ow (.nm s.clk ix i)=none:=by
 cases ho:ow (.nm s.clk ix i) with
 | none=>rfl
 | some p =>
  rcases h.fresh _ _ ho with h1|⟨_,h1⟩
  .omega
  .exact (hd h1).elim
theorem alE(s:S):s.drop none=s:=rfl
theorem a2a(f:Nat):2*f % 2=0:=by omega
theorem a19(f:Nat):2*f / 2=f:=by omega
theorem a1Z(f:Nat):¬(2*f+1) % 2=0:=by omega
theorem a1Y(f:Nat):(2*f+1) / 2=f:=by omega
theorem aOw{k:Know}{ow:Own}{x y:X}{v:Value}(hx:ahC x=some y)(h:aF k ow x v):aF k ow y v:=by
 cases x with
 | of c=>simp only[ahC,ab] at hx;subst hx;exact h
 | nil=>simp only[ahC,ab] at hx;subst hx;exact h
 | own t e z cs n=>simp only[ahC,ab] at hx;subst hx;simp only[aF] at h ⊢;exact h.2.2
 | ptr r o=>simp only[ahC,ab] at hx;subst hx;exact h
 | _=>simp[ahC] at hx
theorem aoT{k:Know}{ow:Own}{f:Operand->X}{g:Operand->Value}(ev:∀ x,aF k ow (f x) (g x)):∀ (l:List Operand) (ys:List X),acT (l.map f)=some ys->aR k ow ys (l.map g)
 | [],ys,h=>by simp only[bq,acT,ab] at h;subst h;simp[aR]
 | x::r,ys,h=>by
  simp only[aU,acT] at h
  split at h
  .rename_i y q h1 h2
   simp only[ab] at h
   subst h
   simp only[aU,aR]
   exact⟨_,_,rfl,aOw h1 (ev x),aoT ev r q h2⟩
  .cases h
theorem aoo(h:Sim M0 k ow done w0 w N s tmps):∀ (l:List Operand) (cs:List C),abF s.ev l=some cs->bv k.m cs (l.map λx=>(⟨tmps,ds⟩ : Act).eval x)
 | [],cs,hr=>by simp only[abF,ab] at hr;subst hr;simp[bv]
 | x::l,cs,hr=>by
  simp only[abF] at hr
  split at hr
  .rename_i c cs' h1 h2
   simp only[ab] at hr
   subst hr
   simp only[aU,bv]
   exact⟨_,_,rfl,agB _ _ _ h1 (Sim.ev (ds:=ds) h x),aoo h l cs' h2⟩
  .cases hr
theorem ax5{xs:List X}{us:List Value}(h:aR k ow xs us):aF k ow (afJ xs) (anb us):=by
 unfold afJ
 split
 .simp only[aR] at h
  obtain⟨v,r,rfl,hx,rfl⟩:=h
  exact hx
 .rename_i xs' hne
  have:anb us=.tuple us.toArray:=by
   unfold anb
   split
   .rename_i u
    have hl:=h.length
    match xs,hl,hne with
    | [x],_,hne=>exact (hne x rfl).elim
   .rfl
  rw[this]
  simp only[aF]
  exact⟨us,rfl,h⟩
theorem avo(hs:Sim M0 k ow done w0 w N s tmps)(hr:refs.Nodup)(hts:ts.Nodup)(hts2:∀ t∈ts,∀ v e z n,ow t=some (v,e,z,n)->∀ g,v.ownBlock=some g->∀ r,k.μ r=some g->¬ Liv s.objs r)(hlv:∀ r∈refs,Liv s.objs r)(hp:aaB (pos refs) (fM refs ts) (afv ts s.objs) refs=some obs)
  {f:Nat} {xs:List X} {an:An} {vs:List Value} {ix:Nat} (hsound:aa2 P M0.G f xs obs an) (hc:ew P f=true) (hvs:aR (reK refs k) (reO refs ts ow) xs vs) (hd:¬ done ix) :
  Calls P f vs.toArray w λe w'=>∃ us kn own,ahb an.pan us e/\k.le kn/\refs.length<=an.obs.length /\
   Sim M0 kn own (λj=>done j\/j=ix) w0 w' N {s with fr:=λj=>(s.fr j).tr some (cz refs ts),objs:=aay (λi=>some (ct refs s.objs.length i)) (cN refs s.objs.length s.clk ix) (s.objs.map (Ob.tr some (cz refs ts))) refs an.obs++(an.obs.drop refs.length).map (Ob.tr (λi=>some (ct refs s.objs.length i)) (cN refs s.objs.length s.clk ix))} tmps /\
   aR kn own (X.trs (λi=>some (ct refs s.objs.length i)) (cN refs s.objs.length s.clk ix) an.rs) us:=by
 unfold ew at hc
 split at hc
 rotate_left
 .cases hc
 rename_i fn hf
 have hd1:=hs.toHp.drops ts
 have hgm:∀ b,abM (reK refs k) (reO refs ts ow) b->agZ M0.mod w0 b/\b<w.heap.size:=by
  rintro b (⟨i,hi⟩|⟨t,v,e,z,n,ht,hv⟩)
  .simp only[reK,bD] at hi
   obtain⟨r,_,h2⟩:=hi
   exact⟨(hs.lt h2).1,(hs.lt h2).2.1⟩
  .obtain⟨t0,h1,_⟩:=akv hr hts ht
   exact hs.tlt h1 hv
 have hpre:Hp ⟨M0.G,k.m,abM (reK refs k) (reO refs ts ow)⟩ (reK refs k) (reO refs ts ow) w w obs :=
  hd1.re hr hts hp ⟨hs.table,λb hb=>⟨cG (hs.good.2 b hb).1 hs.below.size,λhg=>by
   rcases (hgm b hg).1 with h1|h1
   .have:=(hs.good.2 b hb).1;omega
   .exact (hs.good.2 b hb).2 h1⟩⟩ (Keeps.refl _ _) (λb hb _=>.inr hb) (λb o v hm _ _=>hm) λi r v e z n g t' hi ho hg hμ hl h=>by
   rw[auK λhm=>hts2 _ hm v e z n ho g hg r hμ (aFP hl)] at h
   rw[ajz hr hi] at h
   exact (ay h).symm
 have hol:obs.length=refs.length:=afA hp
 have hrl:∀ i r,refs[i]?=some r->r<s.objs.length:=λi r hi=>by
  obtain⟨ob,h1,_⟩:=aic hp i r hi
  rw[← aFQ ts s.objs]
  exact (List.getElem?_eq_some_iff.1 h1).1
 refine (hsound fn hf _ _ w vs hpre (λt p ht=>auM ht) (λi off p ht=>by rw[hol];exact auN ht) hvs).mono λe w' ⟨k',ow',us,hend,hp',hle,hlen,hμ,hold,hcl,hrs⟩=>?_
 rw[hol] at hlen hμ
 simp only[reK] at hle hμ
 let L:=s.objs.length
 let m:=refs.length
 let kn:Know:={m:=k'.m,μ:=λr=>if r<L then k.μ r else k'.μ (m+(r-L))}
 let own:Own:=λt=>match t with
  | .nm c ix' i=>if c=s.clk/\ix'=ix then ow' (.nm 0 0 i) else if t∈ts then none else ow t
  | .cell r off=>if r<L then (match pos refs r with
    | some i=>ow' (.cell i off)
    | none=>if t∈ts then none else ow t) else ow' (.cell (m+(r-L)) off)
 have hknl:∀ r,r<L->kn.μ r=k.μ r:=λr h=>by show (if r<L then _ else _)=_;rw[am h]
 have hkng:∀ r,¬ r<L->kn.μ r=k'.μ (m+(r-L)):=λr h=>by show (if r<L then _ else _)=_;rw[aj h]
 have hkle:k.le kn:=⟨hle,λr b hb=>by rw[hknl r (hs.dom r b hb)];exact hb⟩
 have hposnone:∀ r,r∉refs->pos refs r=none:=λr hno=>by
  cases hps:pos refs r with
  | none=>rfl
  | some i=>exact (hno (bT (adJ hps))).elim
 have hkeep:∀ t t',cz refs ts t=some t'->t'=t/\t∉ts/\∀ r off,t=.cell r off->r∉refs:=by
  intro t t' h
  unfold cz at h
  split at h
  .cases h
  .rename_i hno
   split at h
   .rename_i r off
    split at h
    .cases h
    .rename_i hnr
     simp only[ab] at h
     refine⟨h.symm,hno,λr' off' e=>?_⟩
     cases e
     exact hnr
   .simp only[ab] at h
    exact⟨h.symm,hno,λr' off' e=>by cases e⟩
 have hownk:∀ t p,ow t=some p->t∉ts->(∀ r off,t=.cell r off->r∉refs)->own t=some p:=by
  intro t p ht hno hnr
  cases t with
  | nm c ix' i =>
   show (if c=s.clk/\ix'=ix then _ else _)=_
   rw[aj,aj hno,ht]
   rintro⟨rfl,rfl⟩
   rw[hs.new hd] at ht
   cases ht
  | cell r off =>
   show (if r<L then _ else _)=_
   rw[am (hs.cells r off p ht),hposnone r (hnr r off rfl)]
   simp only[aj hno,ht]
 have renA:Ren some (cz refs ts) k kn ow own:=⟨hle,λr b r' hrb he=>by cases he;exact hkle.2 _ _ hrb,λt p t' ht hk=>by
  obtain⟨rfl,h1,h2⟩:=hkeep t t' hk
  exact hownk t' p ht h1 h2⟩
 have hsig1:∀ i r,refs[i]?=some r->ct refs L i=r:=λi r h=>by simp[ct,h]
 have hsig2:∀ i,m<=i->ct refs L i=L+(i-m):=λi h=>by
  have:refs[i]?=none:=aZ h
  simp[ct,this,m]
 have hμi:∀ i r,refs[i]?=some r->k'.μ i=k.μ r:=λi r h=>by
  rw[hμ i (List.getElem?_eq_some_iff.1 h).1,h];rfl
 have renB:Ren (λi=>some (ct refs L i)) (cN refs L s.clk ix) k' kn ow' own:=by
  refine⟨λ_ _ _ h=>h,λi b r' hb he=>?_,λt p t' ht he=>?_⟩
  .simp only[ab] at he
   subst he
   rcases aD i m with g|g
   .have h1:refs[i]?=some refs[i]:=aM g
    rw[hsig1 i _ h1,hknl _ (hrl i _ h1),← hμi i _ h1]
    exact hb
   .rw[hsig2 i g,hkng _ aC]
    have:m+(L+(i-m)-L)=i:=by omega
    rw[this]
    exact hb
  .unfold cN at he
   split at he
   .rename_i i
    simp only[ab] at he
    subst he
    show (if s.clk=s.clk/\ix=ix then _ else _)=_
    rw[am ⟨rfl,rfl⟩]
    exact ht
   .cases he
   .rename_i i off
    simp only[ab] at he
    subst he
    show (if ct refs L i<L then _ else _)=_
    rcases aD i m with g|g
    .have h1:refs[i]?=some refs[i]:=aM g
     rw[hsig1 i _ h1,am (hrl i _ h1),ajz hr h1]
     exact ht
    .rw[hsig2 i g,aj aC]
     have:m+(L+(i-m)-L)=i:=by omega
     rw[this]
     exact ht
 have hsrc:∀ t p,own t=some p->(ow t=some p/\t∉ts/\∀ r off,t=.cell r off->r∉refs)\/∃ t0,ow' t0=some p/\cN refs L s.clk ix t0=some t:=by
  intro t p ht
  cases t with
  | nm c ix' i =>
   have ht':(if c=s.clk/\ix'=ix then ow' (.nm 0 0 i) else if Tk.nm c ix' i∈ts then none else ow (.nm c ix' i))=some p:=ht
   split at ht'
   .rename_i h1
    obtain⟨rfl,rfl⟩:=h1
    exact .inr ⟨_,ht',rfl⟩
   .split at ht'
    .cases ht'
    .rename_i hno
     exact .inl ⟨ht',hno,λr off e=>by cases e⟩
  | cell r off =>
   have ht':(if r<L then (match pos refs r with
    | some i=>ow' (.cell i off)
    | none=>if Tk.cell r off∈ts then none else ow (.cell r off)) else ow' (.cell (m+(r-L)) off))=some p:=ht
   split at ht'
   .split at ht'
    .rename_i i hi
     refine .inr ⟨_,ht',?_⟩
     simp only[cN,hsig1 i r (adJ hi)]
    .rename_i hpn
     split at ht'
     .cases ht'
     .rename_i hno
      exact .inl ⟨ht',hno,λr' off' e=>by cases e;exact aqt hpn⟩
   .rename_i hge
    refine .inr ⟨_,ht',?_⟩
    simp only[cN]
    rw[hsig2 _ aC]
    have:L+(m+(r-L)-m)=r:=by omega
    rw[this]
 have hngiven:∀ t v e z n,ow t=some (v,e,z,n)->t∉ts->(∀ r off,t=.cell r off->r∉refs)->∀ g,v.ownBlock=some g->¬ abM (reK refs k) (reO refs ts ow) g:=by
  rintro t v e z n ht hno hnr g hg (⟨i,hi⟩|⟨t',v',e',z',n',ht',hg'⟩)
  .simp only[reK,bD] at hi
   obtain⟨r,h1,h2⟩:=hi
   have hm:=bT h1
   obtain rfl:=(((hs.tok t v e z n ht).2 g hg).2.2 r h2).2 (hlv r hm)
   exact hnr r _ rfl hm
  .obtain⟨t0,h1,h2⟩:=akv hr hts ht'
   refine hs.tokne t t0 v e z n v' e' z' n' ht h1 ?_ g hg hg'
   rintro rfl
   unfold fM at h2
   split at h2
   .rename_i i hi;exact hno (bT (adJ hi))
   .split at h2
    .rename_i r off _
     simp only[ar] at h2
     obtain⟨i,hi,_⟩:=h2
     exact hnr r off rfl (bT (adJ hi))
    .cases h2
 have hngivo:∀ r b,k.μ r=some b->r∉refs->Liv s.objs r->¬ abM (reK refs k) (reO refs ts ow) b:=by
  rintro r b hb hno hl (⟨i,hi⟩|⟨t',v',e',z',n',ht',hg'⟩)
  .simp only[reK,bD] at hi
   obtain⟨r',h1,h2⟩:=hi
   obtain rfl:=hs.inj r r' b hb h2 hl (hlv r' (bT h1))
   exact hno (bT h1)
  .obtain⟨t0,h1,h2⟩:=akv hr hts ht'
   obtain rfl:=(((hs.tok t0 _ _ _ _ h1).2 b hg').2.2 r hb).2 hl
   rw[auK λhm=>hts2 _ hm _ _ _ _ h1 b hg' r hb hl,hposnone r hno] at h2
   cases h2
 have hmine:∀ b,agZ (abM (reK refs k) (reO refs ts ow)) w b->agZ M0.mod w0 b:=by
  rintro b (h1|h1)
  .exact .inl (fJ hs.below.size h1)
  .exact (hgm b h1).1
 have hapart:∀ b,b<w.heap.size->¬ abM (reK refs k) (reO refs ts ow) b->¬ agZ (abM (reK refs k) (reO refs ts ow)) w b:=by
  rintro b h1 h2 (h3|h3)
  .omega
  .exact h2 h3
 have hmnone:∀ b,b<w.heap.size->¬ abM (reK refs k) (reO refs ts ow) b->∀ o u,k'.m b o=some u->k.m b o=some u:=λb h1 h2 o u hm=>hp'.m0 b o u hm h1 h2
 have hlen2:(aay (λi=>some (ct refs L i)) (cN refs L s.clk ix) (s.objs.map (Ob.tr some (cz refs ts))) refs an.obs).length=L:=by rw[am5];simp[L]
 have hobjs:∀ r ob,(aay (λi=>some (ct refs L i)) (cN refs L s.clk ix) (s.objs.map (Ob.tr some (cz refs ts))) refs an.obs++(an.obs.drop m).map (Ob.tr (λi=>some (ct refs L i)) (cN refs L s.clk ix)))[r]?=some ob ->
   (∃ i ob',an.obs[i]?=some ob'/\ct refs L i=r/\ob=ob'.tr (λi=>some (ct refs L i)) (cN refs L s.clk ix))\/(r<L/\r∉refs/\∃ ob',s.objs[r]?=some ob'/\ob=ob'.tr some (cz refs ts)):=by
  intro r ob hob
  rcases aD r L with g|g
  .rw[ba (by rw[hlen2];exact g)] at hob
   by_cases hmem:r∈refs
   .obtain⟨i,hi⟩:=List.mem_iff_getElem?.1 hmem
    have hil:i<an.obs.length:=cG (List.getElem?_eq_some_iff.1 hi).1 hlen
    have h1:an.obs[i]?=some an.obs[i]:=aM hil
    rw[aog _ _ refs _ _ i r _ hr hi h1 (by simpa [L] using g)] at hob
    exact .inl ⟨i,_,h1,hsig1 i r hi,(ay hob).symm⟩
   .rw[ah4 _ _ refs _ _ r hmem,bo,ar] at hob
    obtain⟨ob',h1,h2⟩:=hob
    exact .inr ⟨g,hmem,ob',h1,h2.symm⟩
  .rw[bW (by rw[hlen2];exact g),hlen2,bo,ar,] at hob
   obtain⟨ob',h1,h2⟩:=hob
   rw[ef] at h1
   refine .inl ⟨m+(r-L),ob',h1,?_,h2.symm⟩
   rw[hsig2 _ aC]
   omega
 have hat:∀ i ob,an.obs[i]?=some ob->(aay (λi=>some (ct refs L i)) (cN refs L s.clk ix) (s.objs.map (Ob.tr some (cz refs ts))) refs an.obs++(an.obs.drop m).map (Ob.tr (λi=>some (ct refs L i)) (cN refs L s.clk ix)))[ct refs L i]?=some (ob.tr (λi=>some (ct refs L i)) (cN refs L s.clk ix)):=by
  intro i ob hi
  rcases aD i m with g|g
  .have h1:refs[i]?=some refs[i]:=aM g
   rw[hsig1 i _ h1,ba (by rw[hlen2];exact hrl i _ h1)]
   exact aog _ _ refs _ _ i _ ob hr h1 hi (by simpa [L] using hrl i _ h1)
  .rw[hsig2 i g,bW (by rw[hlen2];omega),hlen2,bo,ef,show m+(L+(i-m)-L)=i by omega,hi]
   rfl
 have hout:∀ r ob,r<L->r∉refs->s.objs[r]?=some ob->(aay (λi=>some (ct refs L i)) (cN refs L s.clk ix) (s.objs.map (Ob.tr some (cz refs ts))) refs an.obs++(an.obs.drop m).map (Ob.tr (λi=>some (ct refs L i)) (cN refs L s.clk ix)))[r]?=some (ob.tr some (cz refs ts)):=by
  intro r ob g hno hob
  rw[ba (by rw[hlen2];exact g),ah4 _ _ refs _ _ r hno,bo,hob]
  rfl
 generalize hO:aay (λi=>some (ct refs L i)) (cN refs L s.clk ix) (s.objs.map (Ob.tr some (cz refs ts))) refs an.obs++(an.obs.drop m).map (Ob.tr (λi=>some (ct refs L i)) (cN refs L s.clk ix))=O at hobjs hat hout
 have hOl:O.length=L+(an.obs.length-m):=by rw[← hO,bc,hlen2,bR,ch]
 have hlivI:∀ i,Liv O (ct refs L i)->i<an.obs.length->Liv an.obs i:=by
  rintro i ⟨ob,h1,h2⟩ hi
  rw[hat i _ (aM hi)] at h1
  obtain rfl:=ay h1
  exact⟨_,aM hi,by rw[← acG];exact h2⟩
 have hlivR:∀ r,Liv O r->r<L->r∉refs->Liv s.objs r:=by
  rintro r ⟨ob,h1,h2⟩ hr hno
  rw[hout r _ hr hno (aM hr)] at h1
  obtain rfl:=ay h1
  exact⟨_,aM hr,by rw[← acG];exact h2⟩
 have hrowI:∀ i n,fQ an.obs n i->fQ O n (ct refs L i):=by
  rintro i n ⟨ty,cs,h1,h2⟩
  exact⟨ty,cs,hat i _ h1,h2⟩
 have hrowR:∀ r n,fQ s.objs n r->r<L->r∉refs->fQ O n r:=by
  rintro r n ⟨ty,cs,h1,h2⟩ hr hno
  exact⟨ty,cs,hout r _ hr hno h1,h2⟩
 have hdeadR:∀ r,¬ Liv s.objs r->r<L->r∉refs->fQ O 0 r:=by
  intro r hn hr hno
  have h1:s.objs[r]?=some s.objs[r]:=aM hr
  generalize s.objs[r]=ob at h1
  cases ob with
  | var ty xs=>exact absurd ⟨_,h1,rfl⟩ hn
  | map es=>exact absurd ⟨_,h1,rfl⟩ hn
  | row ty cs=>cases cs with
   | nil=>exact⟨ty,[],hout r _ hr hno h1,ae _⟩
   | cons c cs=>exact absurd ⟨_,h1,rfl⟩ hn
 refine⟨us,kn,own,hend,hkle,hlen,?_,aR.tr renB _ _ hrs⟩
 exact {
  good:=hs.good
  below:=⟨hp'.below.os.trans hs.below.os,hp'.below.tape.trans hs.below.tape,hp'.below.output.trans hs.below.output,fJ hs.below.size hp'.below.size,λb hb hm=>by
   have hb':b<w.heap.size:=cG hb hs.below.size
   refine (hp'.below.block b hb' λhg=>?_).trans (hs.below.block b hb hm)
   rcases (hgm b hg).1 with h1|h1
   .omega
   .exact hm h1⟩
  mem:=hp'.mem
  obj:=λr ob hob=>by
   rcases hobjs r ob hob with ⟨i,ob',h1,h2,rfl⟩|⟨h1,h2,ob',h3,rfl⟩
   .obtain⟨b,g1,g2,g3,g4,g5⟩:=hp'.obj i ob' h1
    exact⟨b,renB.μ i b r g1 (by rw[h2]),hmine b g2,g3,λhl=>g4 (by rw[← acG];exact hl),g5.tr renB⟩
   .obtain⟨b,g1,g2,g3,g4,g5⟩:=hs.obj r ob' h3
    cases hlb:ob'.live with
    | false =>
     refine⟨b,by rw[hknl r h1];exact g1,g2,cG g3 hp'.below.size,λ(hl:(Ob.tr some (cz refs ts) ob').live=true)=>(by rw[acG,hlb] at hl;cases hl),?_⟩
     cases ob' with
     | var ty xs=>cases hlb
     | map es=>cases hlb
     | row ty cs=>cases cs with
      | nil=>exact .inl rfl
      | cons c cs=>cases hlb
    | true =>
    have hng:=hngivo r b g1 h2 ⟨ob',h3,hlb⟩
    refine⟨b,by rw[hknl r h1];exact g1,g2,cG g3 hp'.below.size,λ_ o=>?_,(g5.keep (hp'.below.block b g3 hng)).tr renA⟩
    cases hm:k'.m b o with
    | none=>rfl
    | some u =>
     have:=hmnone b g3 hng o u hm
     rw[g4 hlb o] at this
     cases this
  dom:=λr b hb=>by
   show r<O.length
   rw[hOl]
   rcases aD r L with g|g
   .omega
   .rw[hkng r aC] at hb
    have:=hp'.dom _ _ hb
    omega
  inj:=λr r' b hb hb' hl hl'=>by
   have hl:Liv O r:=hl
   have hl':Liv O r':=hl'
   have back:∀ r,¬ r<L->r=ct refs L (m+(r-L)):=λr g=>by rw[hsig2 _ aC];omega
   have inI:∀ r,r∈refs->∃ i,i<m/\i<an.obs.length/\ct refs L i=r/\refs[i]?=some r:=λr hm=>by
    obtain⟨i,hi⟩:=List.mem_iff_getElem?.1 hm
    have:=(List.getElem?_eq_some_iff.1 hi).1
    exact⟨i,this,cG this hlen,hsig1 i r hi,hi⟩
   have lI:∀ r i,Liv O r->ct refs L i=r->i<an.obs.length->Liv an.obs i:=λr i h e hi=>hlivI i (by rw[e];exact h) hi
   have lN:∀ r b,¬ r<L->Liv O r->k'.μ (m+(r-L))=some b->Liv an.obs (m+(r-L)):=λr b g h hb=>lI r _ h (back r g).symm (hp'.dom _ _ hb)
   rcases aD r L with g|g
   .rw[hknl r g] at hb
    rcases aD r' L with g'|g'
    .rw[hknl r' g'] at hb'
     by_cases hm:r∈refs
     .obtain⟨i,hi1,hi2,hi3,hi4⟩:=inI r hm
      by_cases hm':r'∈refs
      .obtain⟨j,hj1,hj2,hj3,hj4⟩:=inI r' hm'
       have:=hp'.inj i j b (by rw[hμi i r hi4];exact hb) (by rw[hμi j r' hj4];exact hb') (lI r i hl hi3 hi2) (lI r' j hl' hj3 hj2)
       subst this
       exact hi3.symm.trans hj3
      .exact hs.inj r r' b hb hb' (hlv r hm) (hlivR r' hl' g' hm')
     .by_cases hm':r'∈refs
      .exact hs.inj r r' b hb hb' (hlivR r hl g hm) (hlv r' hm')
      .exact hs.inj r r' b hb hb' (hlivR r hl g hm) (hlivR r' hl' g' hm')
    .rw[hkng r' aC] at hb'
     by_cases hmem:r∈refs
     .obtain⟨i,hi1,hi2,hi3,hi⟩:=inI r hmem
      have h1:k'.μ i=some b:=by rw[hμi i r hi];exact hb
      have:=hp'.inj _ _ b h1 hb' (lI r i hl hi3 hi2) (lN r' b aC hl' hb')
      omega
     .have:=(hp'.lt hb').1
      exact (hapart b (hs.lt hb).2.1 (hngivo r b hb hmem (hlivR r hl g hmem)) this).elim
   .rw[hkng r aC] at hb
    rcases aD r' L with g'|g'
    .rw[hknl r' g'] at hb'
     by_cases hmem:r'∈refs
     .obtain⟨i,hi1,hi2,hi3,hi⟩:=inI r' hmem
      have h1:k'.μ i=some b:=by rw[hμi i r' hi];exact hb'
      have:=hp'.inj _ _ b h1 hb (lI r' i hl' hi3 hi2) (lN r b aC hl hb)
      omega
     .have:=(hp'.lt hb).1
      exact (hapart b (hs.lt hb').2.1 (hngivo r' b hb' hmem (hlivR r' hl' g' hmem)) this).elim
    .rw[hkng r' aC] at hb'
     have:=hp'.inj _ _ b hb hb' (lN r b aC hl hb) (lN r' b aC hl' hb')
     omega
  tok:=λt v e z n ht=>by
   rcases hsrc t _ ht with ⟨h1,h2,h3⟩|⟨t0,h1,h2⟩
   .obtain⟨⟨xs',g1⟩,g2⟩:=hs.tok t v e z n h1
    have hng:=hngiven t v e z n h1 h2 h3
    refine⟨⟨xs',acX (λg hg hlt=>hp'.below.block g hlt (hng g hg)) g1⟩,λg hg=>⟨(g2 g hg).1,λo ho=>?_,λr hb=>?_⟩⟩
    .have hlt:=(hs.tlt h1 hg).2
     cases hm:k'.m g o with
     | none=>rfl
     | some u =>
      have:=hmnone g hlt (hng g hg) o u hm
      rw[(g2 g hg).2.1 o ho] at this
      cases this
    .rcases aD r L with g'|g'
     .rw[hknl r g'] at hb
      obtain⟨q1,q2⟩:=(g2 g hg).2.2 r hb
      have hno:r∉refs:=λhm=>by
       obtain rfl:=q2 (hlv r hm)
       exact h3 r _ rfl hm
      exact⟨hrowR r _ q1 g' hno,λhl=>q2 (hlivR r hl g' hno)⟩
     .rw[hkng r aC] at hb
      exact (hapart g (hs.tlt h1 hg).2 (hng g hg) (hp'.lt hb).1).elim
   .obtain⟨g1,g2⟩:=hp'.tok t0 v e z n h1
    refine⟨g1,λg hg=>⟨hmine g (g2 g hg).1,(g2 g hg).2.1,λr hb=>?_⟩⟩
    rcases aD r L with g'|g'
    .rw[hknl r g'] at hb
     by_cases hmem:r∈refs
     .obtain⟨i,hi⟩:=List.mem_iff_getElem?.1 hmem
      obtain⟨q1,q2⟩:=(g2 g hg).2.2 i (by rw[hμi i r hi];exact hb)
      refine⟨by rw[← hsig1 i r hi];exact hrowI i _ q1,λhl=>?_⟩
      obtain rfl:=q2 (hlivI i (by rw[hsig1 i r hi];exact hl) (cG (List.getElem?_eq_some_iff.1 hi).1 hlen))
      simp only[cN,hsig1 i r hi,ab] at h2
      exact h2.symm
     .have hnl:¬ Liv s.objs r:=λhl=>hapart g (hs.lt hb).2.1 (hngivo r g hb hmem hl) (g2 g hg).1
      exact⟨(hdeadR r hnl g' hmem).mono (aO _),λhl=>absurd (hlivR r hl g' hmem) hnl⟩
    .rw[hkng r aC] at hb
     obtain⟨q1,q2⟩:=(g2 g hg).2.2 _ hb
     have e1:ct refs L (m+(r-L))=r:=by rw[hsig2 _ aC];omega
     refine⟨by rw[← e1];exact hrowI _ _ q1,λhl=>?_⟩
     obtain rfl:=q2 (hlivI _ (by rw[e1];exact hl) (hp'.dom _ _ hb))
     simp only[cN,e1,ab] at h2
     exact h2.symm
  tokne:=λt t' v e z n v' e' z' n' ht ht' hne g hg hg'=>by
   rcases hsrc t _ ht with ⟨h1,h2,h3⟩|⟨t0,h1,h2⟩
   .rcases hsrc t' _ ht' with ⟨h1',h2',h3'⟩|⟨t0',h1',h2'⟩
    .exact hs.tokne t t' v e z n v' e' z' n' h1 h1' hne g hg hg'
    .exact hapart g (hs.tlt h1 hg).2 (hngiven t v e z n h1 h2 h3 g hg) (hp'.tlt h1' hg').1
   .rcases hsrc t' _ ht' with ⟨h1',h2',h3'⟩|⟨t0',h1',h2'⟩
    .exact hapart g (hs.tlt h1' hg').2 (hngiven t' v' e' z' n' h1' h2' h3' g hg') (hp'.tlt h1 hg).1
    .exact hp'.tokne t0 t0' v e z n v' e' z' n' h1 h1' (λe=>hne (by subst e;rw[h2] at h2';exact ay h2')) g hg hg'
  m0:=λb o u hm hb hmd=>by
   have hb':b<w.heap.size:=cG hb hs.below.size
   refine hs.m0 b o u (hmnone b hb' (λhg=>?_) o u hm) hb hmd
   rcases (hgm b hg).1 with h1|h1
   .omega
   .exact hmd h1
  size:=hs.size
  fr:=λj=>aF.tr renA _ _ (hs.fr j)
  fresh:=λt p ht=>by
   rcases hsrc t p ht with ⟨h1,_,_⟩|⟨t0,h1,h2⟩
   .have:=hs.fresh t p h1
    cases t with
    | nm c ix' i=>exact this.imp id (fun⟨a,b⟩=>⟨a,.inl b⟩)
    | cell r off=>trivial
   .unfold cN at h2
    split at h2
    .cases h2;exact .inr ⟨rfl,.inr rfl⟩
    .cases h2
    .cases h2;trivial
  cells:=λr off p ht=>by
   show r<O.length
   rw[hOl]
   rcases aD r L with g|g
   .omega
   .have ht':ow' (.cell (m+(r-L)) off)=some p:=by
     have:(if r<L then (match pos refs r with
      | some i=>ow' (.cell i off)
      | none=>if Tk.cell r off∈ts then none else ow (.cell r off)) else ow' (.cell (m+(r-L)) off))=some p:=ht
     rwa [aj aC] at this
    have:=hcl _ _ _ ht'
    omega}
theorem X.tr_id:∀ x:X,x.tr some some=x :=
 X.rec (motive_1:=λx=>x.tr some some=x) (motive_2:=λxs=>X.trs some some xs=xs) (λ_=>rfl) rfl (λ_ _ _ _ _=>rfl) (λ_ _=>rfl) (λ_=>rfl)
  (λf xs ih=>by simp only[X.tr,ih]) (λxs ih=>by simp only[X.tr,ih]) (λxs ih=>by simp only[X.tr,ih]) (λo _ _=>by cases o <;> rfl) (λ_ _ _=>am rfl) rfl (λx xs h1 h2=>by simp only[X.trs,h1,h2])
theorem X.trs_id(xs:List X):X.trs some some xs=xs:=by
 induction xs with
 | nil=>rfl
 | cons x xs ih=>simp only[X.trs,X.tr_id,ih]
theorem Ob.tr_id(o:Ob):o.tr some some=o:=by
 cases o with
 | var ty xs=>simp only[Ob.tr,X.trs_id]
 | map es=>rfl
 | row ty cs=>rfl
theorem ar6:cz [] []=some:=by
 funext t
 cases t <;> simp[cz]
theorem aGo(hs:Sim M0 k ow done w0 w N s tmps){f:Nat}{cs:List C}{rs:List X}{vs:List Value}{ix:Nat}(hsound:aa2 P M0.G f (cs.map .of) [] ⟨false,rs,[]⟩)(hc:ew P f=true)(hvs:bv k.m cs vs)(hd:¬ done ix) :
  Calls P f vs.toArray w λe w'=>∃ v kn own,e=.returned v/\k.le kn/\Sim M0 kn own (λj=>done j\/j=ix) w0 w' N s tmps/\aF kn own (afJ (aig s.clk ix rs)) v:=by
 refine (avo (refs:=[]) (ts:=[]) (obs:=[]) hs ab0 ab0 (λ_ h=>by cases h) (λ_ h=>by cases h) rfl hsound hc (aR.of (by exact hvs)) hd).mono λe w' ⟨us,kn,own,h1,h2,_,h3,h4⟩=>?_
 simp only[ahb] at h1
 refine⟨anb us,kn,own,h1,h2,?_,ax5 ?_⟩
 .have e1:(λj=>(s.fr j).tr some (cz [] []))=s.fr:=by funext j;rw[ar6,X.tr_id]
  have e2:s.objs.map (Ob.tr some (cz [] []))=s.objs:=by
   rw[ar6]
   have:Ob.tr some some=id:=by funext o;exact Ob.tr_id o
   rw[this,List.map_id]
  simp only[aay,aW,List.drop_nil,bq,df,e1,e2] at h3
  exact h3
 .have hren:Ren (λ_=>none) some kn kn own own:=⟨λ_ _ _ h=>h,λr b r' _ he=>(by cases he),λt p t' ht he=>(by cases he;exact ht)⟩
  have h5:=aR.tr hren _ _ h4
  have key:∀ x:X,(x.tr (λi=>some (ct [] s.objs.length i)) (cN [] s.objs.length s.clk ix)).tr (λ_=>none) some=x.tr (λ_=>none) (cN [] s.objs.length s.clk ix) :=
   X.rec (motive_1:=λx=>(x.tr (λi=>some (ct [] s.objs.length i)) (cN [] s.objs.length s.clk ix)).tr (λ_=>none) some=x.tr (λ_=>none) (cN [] s.objs.length s.clk ix))
    (motive_2:=λxs=>X.trs (λ_=>none) some (X.trs (λi=>some (ct [] s.objs.length i)) (cN [] s.objs.length s.clk ix) xs)=X.trs (λ_=>none) (cN [] s.objs.length s.clk ix) xs)
    (λ_=>rfl) rfl (λt e z cs n=>by simp only[X.tr];split <;> rfl) (λ_ _=>rfl) (λ_=>rfl)
    (λf xs ih=>by simp only[X.tr,ih]) (λxs ih=>by simp only[X.tr,ih]) (λxs ih=>by simp only[X.tr,ih]) (λo ty z=>by cases o with
     | none=>rfl
     | some t=>simp only[X.tr,dh];cases cN [] s.objs.length s.clk ix t <;> rfl) (λr e z=>by simp only[X.tr];split <;> rfl) rfl (λx xs h1 h2=>by simp only[X.trs,h1,h2])
  have keys:∀ xs:List X,X.trs (λ_=>none) some (X.trs (λi=>some (ct [] s.objs.length i)) (cN [] s.objs.length s.clk ix) xs)=X.trs (λ_=>none) (cN [] s.objs.length s.clk ix) xs:=λxs=>by
   induction xs with
   | nil=>rfl
   | cons x xs ih=>simp only[X.trs,key,ih]
  rw[keys] at h5
  have hren2:Ren (λ_=>none) (λt=>match t with | .nm ..=>some t | .cell ..=>none) kn kn own own:=⟨λ_ _ _ h=>h,λr b r' _ he=>(by cases he),λt p t' ht he=>by
   cases t with
   | nm c ix' i=>cases he;exact ht
   | cell r off=>cases he⟩
  have h6:=aR.tr hren2 _ _ h5
  have key2:∀ x:X,(x.tr (λ_=>none) (cN [] s.objs.length s.clk ix)).tr (λ_=>none) (λt=>match t with | .nm ..=>some t | .cell ..=>none)=x.tr (λ_=>none) (adL s.clk ix) :=
   X.rec (motive_1:=λx=>(x.tr (λ_=>none) (cN [] s.objs.length s.clk ix)).tr (λ_=>none) (λt=>match t with | .nm ..=>some t | .cell ..=>none)=x.tr (λ_=>none) (adL s.clk ix))
    (motive_2:=λxs=>X.trs (λ_=>none) (λt=>match t with | .nm ..=>some t | .cell ..=>none) (X.trs (λ_=>none) (cN [] s.objs.length s.clk ix) xs)=X.trs (λ_=>none) (adL s.clk ix) xs)
    (λ_=>rfl) rfl
    (λt e z cs n=>by
     cases t with
     | nm c ix' i =>
      match c,ix' with
      | 0,0=>rfl
      | 0,_+1=>rfl
      | _+1,_=>rfl
     | cell r off=>rfl) (λ_ _=>rfl) (λ_=>rfl)
    (λf xs ih=>by simp only[X.tr,ih]) (λxs ih=>by simp only[X.tr,ih]) (λxs ih=>by simp only[X.tr,ih]) (λo ty z=>by
     cases o with
     | none=>rfl
     | some t =>
      cases t with
      | nm c ix' i =>
       match c,ix' with
       | 0,0=>rfl
       | 0,_+1=>rfl
       | _+1,_=>rfl
      | cell r off=>rfl) (λ_ _ _=>rfl) rfl (λx xs h1 h2=>by simp only[X.trs,h1,h2])
  have keys2:∀ xs:List X,X.trs (λ_=>none) (λt=>match t with | .nm ..=>some t | .cell ..=>none) (X.trs (λ_=>none) (cN [] s.objs.length s.clk ix) xs)=X.trs (λ_=>none) (adL s.clk ix) xs:=λxs=>by
   induction xs with
   | nil=>rfl
   | cons x xs ih=>simp only[X.trs,key2,ih]
  rw[keys2] at h6
  exact h6
theorem ada{o:Oper}{a:Act}{K:Act->World->Prop}{Q:Exit->Act->World->Prop}{u:Value}{w':World}(hr:(execOp a.eval o).run P w=.ok (.value u) w')(hK:K (a.put o.dst u) w'):o.wp P a w K Q:=by
 unfold Oper.wp
 rw[hr]
 exact hK
theorem eC{x y:X}{e:Option Tk}(h:out x=some (y,e)):x=y/\e=none:=by
 simp only[out,bF] at h
 exact⟨h.1,h.2.symm⟩
theorem adc{x:Option X}{y:X}{e:Option Tk}(h:bJ x=some (y,e)):x=some y/\e=none:=by
 simp only[bJ,ar,aX] at h
 obtain⟨a,h1,rfl,h2⟩:=h
 exact⟨h1,h2.symm⟩
theorem Sim.known(h:Sim M0 k ow done w0 w N s tmps){w':World}(hb:Below w.heap.size w w'){us:List Value}(hc:∀ o u,us[o]?=some u->w'.cell? ⟨w.heap.size,o,none⟩=some u/\u.oneCell'=true) :
  ∃ k',k.le k'/\Sim M0 k' ow done w0 w' N s tmps/\∀ o u,us[o]?=some u->k'.m w.heap.size o=some u:=by
 have hg:=h.grow hb
 let k':Know:={m:=λb o=>if b=w.heap.size then us[o]? else k.m b o,μ:=k.μ}
 have hle:k.le k':=⟨λb o v hm=>by
  have:=ag3 h.mem hm
  show (if b=w.heap.size then us[o]? else k.m b o)=some v
  rw[aj aC];exact hm,λ_ _ h=>h⟩
 have hne:∀ b o,b<w.heap.size->k'.m b o=k.m b o:=λb o hb=>by
  show (if b=w.heap.size then us[o]? else k.m b o)=k.m b o
  rw[aj aC]
 refine⟨k',hle,{hg with
  fr:=λj=>aF.mono hle (λ_ _ h=>h) _ _ (hg.fr j)
  mem:=λb o v hm=>by
   by_cases hbe:b=w.heap.size
   .subst hbe
    simp only[k',au] at hm
    exact hc o v hm
   .simp only[k',hbe,av] at hm
    exact hg.mem b o v hm
  obj:=λr ob hr=>by
   obtain⟨b,g1,g2,g3,g4,g5⟩:=hg.obj r ob hr
   have hlt:=(h.lt g1).2.1
   exact⟨b,g1,g2,g3,λhl o=>by rw[hne b o hlt];exact g4 hl o,g5.mono hle (λ_ _ h=>h)⟩
  tok:=λt v e z n ht=>by
   obtain⟨g1,g2⟩:=hg.tok t v e z n ht
   exact⟨g1,λg hgo=>⟨(g2 g hgo).1,λo ho=>by rw[hne g o (h.tlt ht hgo).2];exact (g2 g hgo).2.1 o ho,(g2 g hgo).2.2⟩⟩
  m0:=λb o v hm hb0 hmd=>by
   rw[hne b o (cG hb0 h.below.size)] at hm
   exact hg.m0 b o v hm hb0 hmd},λo u hu=>by simp only[k',au];exact hu⟩
theorem aHc(hs:Sim M0 k ow done w0 w N s tmps){E:En}(horc:∀ f xs obs an,E.orc f xs obs=some an->aa2 P M0.G f xs obs an){ix:Nat}(hd:¬ done ix){o:Oper}(hns:cU o.op=false){x:X}{e:Option Tk}
  (h:val P (TT.of P) E s ix o=some (x,e)) (hek:∀ t,e=some t->t.isRow=false) {K:Act->World->Prop} {Q:Exit->Act->World->Prop}
  (hK:∀ u w' k' ow',k.le k'->Sim M0 k' ow' (λj=>done j\/j=ix) w0 w' N (s.drop e) tmps->aF k' ow' x u->K ((⟨tmps,ds⟩ : Act).put o.dst u) w'):o.wp P ⟨tmps,ds⟩ w K Q:=by
 have hs1:=hs.more (done':=λj=>done j\/j=ix) (λ_ h=>.inl h)
 have hnew:ow (.nm s.clk ix 0)=none:=hs.new hd
 have plain:∀ u,e=none->(execOp (⟨tmps,ds⟩ : Act).eval o).run P w=.ok (.value u) w->aF k ow x u->o.wp P ⟨tmps,ds⟩ w K Q:=by
  rintro u rfl hr hx
  exact ada hr (hK u w k ow (Know.le_refl k) hs1 hx)
 have ev:=λx=>Sim.ev (ds:=ds) hs x
 unfold val at h
 split at h
 .-- move
  rename_i y ho
  obtain⟨rfl,rfl⟩:=eC h
  exact plain _ rfl (by simp[execOp,ho]) (ev y)
 .rename_i y ho
  obtain⟨rfl,rfl⟩:=eC h
  exact plain _ rfl (by simp[execOp,ho]) (ev y)
 .-- pick
  rename_i c a b ho
  split at h
  .rename_i b' hb
   have hc:=akP hb (ev c)
   obtain⟨rfl,rfl⟩:=eC h
   cases b' with
   | true=>exact plain ((⟨tmps,ds⟩ : Act).eval a) rfl (by simp[execOp,ho,hc,asBool]) (by simpa using ev a)
   | false=>exact plain ((⟨tmps,ds⟩ : Act).eval b) rfl (by simp[execOp,ho,hc,asBool]) (by simpa using ev b)
  .cases h
 .-- binOp
  rename_i op t y z yt ho
  unfold fE at h
  split at h
  .rename_i u v hu hv
   have h':=adc h;clear h;obtain⟨h,rfl⟩:=h'
   simp only[ar] at h
   obtain⟨r,hr,rfl⟩:=h
   have h1:=ahO hu (ev y)
   have h2:=ahO hv (ev z)
   obtain⟨g1,g2⟩:=azJ (w:=w) y z hr
   refine plain r rfl ?_ (by simp[aF,Rep,g2])
   simp only[execOp,ho,h1,h2,Sem.run_bind,g1,Result.andThen_ok,Sem.run_pure]
  .cases hu:(s.ev y).rd with
   | none=>rw[hu] at h;cases h
   | some cu =>
    cases hv:(s.ev z).rd with
    | none=>rw[hu,hv] at h;unfold agt at h;split at h <;> simp_all
    | some cv =>
     obtain⟨b,rfl,rfl,g1⟩:=azK (w:=w) y z h hu hv (agB _ _ _ hu (ev y)) (agB _ _ _ hv (ev z))
     refine plain (.bool b) rfl ?_ (by simp[aF,Rep,Value.oneCell'])
     simp only[execOp,ho,g1,Sem.run_bind,Result.andThen_ok,Sem.run_pure]
 .-- unOp
  rename_i op t y ho
  split at h
  .rename_i u hu
   have h':=adc h;clear h;obtain⟨h,rfl⟩:=h'
   simp only[ar] at h
   obtain⟨r,hr,rfl⟩:=h
   have h1:=ev y
   rw[hu] at h1
   simp only[aF,Rep] at h1
   obtain⟨g1,g2⟩:=aAe (P:=P) (w:=w) hr
   exact plain r rfl (by simp[execOp,ho,h1.1,g1]) (by simp[aF,Rep,g2])
  .cases h
 .-- load
  rename_i t a ho
  obtain⟨rfl,u,hr,hx⟩:=arZ hs.toHp h (ev a)
  exact plain u rfl (by simp[execOp,ho,hr]) hx
 .rename_i t y f ho
  obtain⟨rfl,u,hr,hx⟩:=alD (w:=w) h (ev y)
  exact plain u rfl (by simp[execOp,ho,hr]) hx
 .rename_i t y f ho
  obtain⟨rfl,u,hr,hx⟩:=aA6 (w:=w) h (ev y)
  exact plain u rfl (by simp[execOp,ho,hr]) hx
 .rename_i t y i ho
  obtain⟨rfl,u,hr,hx⟩:=ase (w:=w) h (ev y) (ev i)
  exact plain u rfl (by simp[execOp,ho,hr]) hx
 .rename_i t y i ho
  obtain⟨rfl,u,hr,hx⟩:=aA0 (w:=w) h (ev y) (ev i)
  exact plain u rfl (by simp[execOp,ho,hr]) hx
 .-- slice
  rename_i t y lo hi ho
  have hlo:∀ z:Option Operand,aGX k ow (z.map s.ev) (z.map λx=>(⟨tmps,ds⟩ : Act).eval x):=λz=>by
   cases z with
   | none=>trivial
   | some z=>exact ev z
  obtain⟨rfl,u,hr,hx⟩:=aAr (w:=w) h (ev y) (hlo lo) (hlo hi)
  exact plain u rfl (by simp only[execOp,ho,Sem.run_bind,aiz,hr,Result.andThen_ok,Sem.run_pure]) hx
 .-- build
  rename_i t ps ho
  split at h
  .rename_i d qs hT hq
   have hp:=anh (k:=k) (ow:=ow) ev ps.toList qs hq
   have hpe:ps.toList.map (λp=>(p.1,(⟨tmps,ds⟩ : Act).eval p.2))=(ps.map λ(i,x)=>(i,(⟨tmps,ds⟩ : Act).eval x)).toList:=by simp
   rw[hpe] at hp
   split at h
   .rename_i fs hu
    have h':=adc h;clear h;obtain⟨h,rfl⟩:=h'
    simp only[ar] at h
    obtain⟨xs,hx,rfl⟩:=h
    obtain⟨u,hr,hx⟩:=aBk (w:=w) hT hu hp hx
    exact plain u rfl (by simp[execOp,ho,hr]) hx
   .rename_i n el hu
    split at h
    .rename_i de hE
     have h':=adc h;clear h;obtain⟨h,rfl⟩:=h'
     simp only[ar] at h
     obtain⟨xs,hx,rfl⟩:=h
     obtain⟨u,hr,hx⟩:=apR (w:=w) hT hu hE hp hx
     exact plain u rfl (by simp[execOp,ho,hr]) hx
    .cases h
   .cases h
  .cases h
 .-- buildSlice
  rename_i t n ps ho
  split at h
  .rename_i el d qs he hq
   have hp:=anh (k:=k) (ow:=ow) ev ps.toList qs hq
   have hpe:ps.toList.map (λp=>(p.1,(⟨tmps,ds⟩ : Act).eval p.2))=(ps.map λ(i,x)=>(i,(⟨tmps,ds⟩ : Act).eval x)).toList:=by simp
   rw[hpe] at hp
   split at h
   .rename_i hc
    split at h
    .rename_i xs hx
     split at h
     .rename_i cs hcs
      obtain⟨rfl,rfl⟩:=eC h
      obtain⟨u,w',k',ow',hr,g1,g2,g3⟩:=aq5 hs1 he hc.1 hc.2.1 hp hx hcs hnew (.inr ⟨rfl,.inr rfl⟩)
      exact ada (by simp[execOp,ho,hr]) (hK u w' k' ow' g1 g2 g3)
     .cases h
    .cases h
   .cases h
  .cases h
 .-- extract
  rename_i y i ho
  have h1:=ev y
  split at h
  .rename_i xs hy
   have h':=adc h;clear h;obtain⟨h,rfl⟩:=h'
   rw[hy] at h1
   simp only[aF] at h1
   obtain⟨vs,hv,hl⟩:=h1
   obtain⟨u,hu,hx⟩:=hl.get i x h
   exact plain u rfl (by simp[execOp,ho,hv,Instr.extract,hu]) hx
  .rename_i cs hy
   have h':=adc h;clear h;obtain⟨h,rfl⟩:=h'
   simp only[ar] at h
   obtain⟨c,hc,rfl⟩:=h
   rw[hy] at h1
   simp only[aF,Rep] at h1
   obtain⟨vs,hv,hl⟩:=h1
   obtain⟨u,hu,hx⟩:=hl.get i c hc
   exact plain u rfl (by simp[execOp,ho,hv,Instr.extract,hu]) (by simpa only [aF] using hx)
  .cases h
 .-- nilCheck
  rename_i y ho
  have h1:=ev y
  split at h
  .rename_i r off hy
   obtain⟨rfl,rfl⟩:=eC h
   rw[hy] at h1
   have h2:=h1
   simp only[aF] at h1
   obtain⟨b,hb,hv⟩:=h1
   exact plain ((⟨tmps,ds⟩ : Act).eval y) rfl (by rw[hv];simp[execOp,ho,hv]) h2
  .rename_i cs hy
   obtain⟨rfl,rfl⟩:=eC h
   rw[hy] at h1
   have h2:=h1
   simp only[aF,Rep] at h1
   obtain⟨b,o',vs,hv,_⟩:=h1
   exact plain ((⟨tmps,ds⟩ : Act).eval y) rfl (by rw[hv];simp[execOp,ho,hv]) h2
  .cases h
 .-- makeFunc
  rename_i f first caps ho
  split at h
  .rename_i h0
   have h0':first=#[]:=Array.eq_empty_of_size_eq_zero h0
   subst h0'
   split at h
   .rename_i cs hcs
    obtain⟨rfl,rfl⟩:=eC h
    have hl:=aoo (ds:=ds) hs _ _ hcs
    refine plain (.func (.func f) #[] (caps.map λx=>(⟨tmps,ds⟩ : Act).eval x)) rfl ?_ ?_
    .simp[execOp,ho,Instr.makeFunc]
    .simp only[aF,Rep]
     exact⟨(caps.map λx=>(⟨tmps,ds⟩ : Act).eval x).toList,by rw[cM],by rw[adw];exact hl⟩
   .unfold anM at h
    split at h
    .rename_i ys hys
     obtain⟨rfl,rfl⟩:=eC h
     refine plain (.func (.func f) #[] (caps.map λx=>(⟨tmps,ds⟩ : Act).eval x)) rfl ?_ ?_
     .simp[execOp,ho,Instr.makeFunc]
     .simp only[aF]
      refine⟨(caps.map λx=>(⟨tmps,ds⟩ : Act).eval x).toList,?_,?_⟩
      .rw[am (a2a f),a19 f,cM]
      .rw[adw]
       exact aoT ev _ _ hys
    .cases h
  .split at h
   .rename_i h1
    have h1':caps=#[]:=Array.eq_empty_of_size_eq_zero h1
    subst h1'
    unfold anM at h
    split at h
    .rename_i ys hys
     obtain⟨rfl,rfl⟩:=eC h
     refine plain (.func (.func f) (first.map λx=>(⟨tmps,ds⟩ : Act).eval x) #[]) rfl ?_ ?_
     .simp[execOp,ho,Instr.makeFunc]
     .simp only[aF]
      refine⟨(first.map λx=>(⟨tmps,ds⟩ : Act).eval x).toList,?_,?_⟩
      .rw[aj (a1Z f),a1Y f,cM]
      .rw[adw]
       exact aoT ev _ _ hys
    .cases h
   .cases h
 .rename_i a b y ho
  unfold adU at h
  split at h
  rotate_left
  .obtain⟨rfl,u,hr,hx⟩:=avT (w:=w) (λb o v hm=>(hs.mem b o v hm).1) h (ev y)
   exact plain u rfl (by simp[execOp,ho,hr]) hx
  rename_i el st hb hy
  unfold awP at h
  split at h
  rotate_left
  .cases h
  rename_i hc
  obtain⟨rfl,rfl⟩:=eC h
  rw[ap] at hc
  have h1:P.underlying a=some .string:=by
   cases hT:TT.of P a with
   | none=>rw[hT] at hc;cases hc.1
   | some dd=>rw[hT] at hc;rw[(TT.of_ok hT).und,← axD (u:=some dd.und) hc.1]
  have h2:P.underlying b=some (.slice el):=by
   cases hT:TT.of P b with
   | none=>simp[hT] at hb
   | some dd=>simp only[hT,aG,ab] at hb;rw[← hb];exact (TT.of_ok hT).und
  have h3:P.underlying el=some (.int .u8):=by
   obtain⟨dd,hT,hu,_⟩:=u8D hc.2
   rw[← hu]
   exact (TT.of_ok hT).und
  have hyv:=ev y
  rw[hy] at hyv
  simp only[aF,Rep] at hyv
  have hrun:=Go.Lib.run_convert_string_bytes (P:=P) w a b el st h1 h2 h3
  have hbel:Below w.heap.size w (Go.Lib.bytesWorld w el st):=⟨rfl,rfl,rfl,by rw[Go.Lib.bytesWorld_size];omega,λj hj=>Go.Lib.bytesWorld_at_old w el st j hj⟩
  have hcells:∀ o u,(Lib.strCells st)[o]?=some u->(Go.Lib.bytesWorld w el st).cell? ⟨w.heap.size,o,none⟩=some u/\u.oneCell'=true:=λo u hu=>by
   have hl:o<st.size:=by
    rcases aD o st.size with g|g
    .exact g
    .rw[aZ (by simpa [Lib.strCells] using g)] at hu;cases hu
   have he:u=.int .u8 (st.data.toList.getD o 0).toNat:=by
    have hl2:o<st.data.toList.length:=by simpa using hl
    simp only[Lib.strCells,bo,aM hl2,aG,ab] at hu
    rw[← hu,aY,aM hl2]
    rfl
   rw[he]
   exact⟨Go.Lib.bytesWorld_cell w el st o hl,rfl⟩
  obtain⟨k',g1,g2,g3⟩:=hs1.known hbel hcells
  refine ada (u:=.slice (some ⟨w.heap.size,0,none⟩) st.size (grownCap w st.size 0 el)) (w':=Go.Lib.bytesWorld w el st) (by simp[execOp,ho,hyv.1,hrun]) (hK _ _ k' ow g1 g2 ?_)
  simp only[aF,Rep]
  refine⟨_,_,Lib.strCells st,rfl,?_,anQ st,λ_=>⟨w.heap.size,0,rfl,λi u hu=>by rw[cf];exact g3 i u hu⟩⟩
  simp[grownCap,Question.cut]
 .rename_i t y i ok ho
  obtain⟨rfl,u,hr,hx⟩:=ayv hs h (ev y) (ev i)
  exact plain u rfl (by simp[execOp,ho,hr]) hx
 .rename_i t y ho
  split at h
  .rename_i c hD hc
   obtain⟨rfl,rfl⟩:=eC h
   have hrep:=agB _ _ _ hc (ev y)
   refine plain (.iface t ((⟨tmps,ds⟩ : Act).eval y)) rfl ?_ (by simp only[aF,Rep];exact⟨_,rfl,hrep⟩)
   cases hT:TT.of P t with
   | none=>simp[hT,anB] at hD
   | some d =>
    have hund:=(TT.of_ok hT).run_und w
    rw[hT] at hD
    simp only[aG] at hD
    have hmk:(Instr.makeInterface t ((⟨tmps,ds⟩ : Act).eval y)).run P w=.ok (.iface t ((⟨tmps,ds⟩ : Act).eval y)) w:=by
     simp only[Instr.makeInterface,Sem.run_bind,hund,Result.andThen_ok]
     split
     .rename_i ms e
      rw[e] at hD
      simp[anB] at hD
     .rfl
    simp[execOp,ho,hmk]
  .cases h
 .rename_i y xt u ok ho
  unfold asX at h
  split at h
  .rename_i t c hy
   split at h
   .rename_i hc
    obtain⟨hD,rfl⟩:=hc
    obtain⟨rfl,rfl⟩:=eC h
    have hy':=ev y
    rw[hy] at hy'
    simp only[aF,Rep] at hy'
    obtain⟨v,hv,hr⟩:=hy'
    refine plain (.tuple #[v,.bool true]) rfl ?_ (by simp only[aF,Rep,bv];exact⟨[v,.bool true],rfl,v,_,rfl,hr,_,_,rfl,⟨rfl,rfl⟩,rfl⟩)
    cases hT:TT.of P t with
    | none=>simp[hT,anB] at hD
    | some d =>
     have hund:=(TT.of_ok hT).run_und w
     rw[hT] at hD
     simp only[aG] at hD
     have hmk:(Instr.typeAssert (.iface t v) xt t true).run P w=.ok (.tuple #[v,.bool true]) w:=by
      simp only[Instr.typeAssert,Sem.run_bind,hund,Result.andThen_ok]
      cases hd:d.und with
      | interface ms=>rw[hd] at hD;simp[anB] at hD
      | _=>simp
     simp[execOp,ho,hv,hmk]
   .cases h
  .cases h
 .rename_i cal args tys ho
  unfold afx at h
  split at h
  .-- len
   rename_i y t hargs htys
   obtain⟨rfl,u,hr,hx⟩:=aI0 (w:=w) (ty:=o.type) h (ev y)
   have ha:args=#[y]:=by rw[← cM (xs:=args),hargs]
   have ht:tys=#[t]:=by rw[← cM (xs:=tys),htys]
   subst ha;subst ht
   exact plain u rfl (by simp[execOp,ho,resolve,invoke,builtin,hr]) hx
  .-- append
   rename_i a b st xt hargs htys
   obtain⟨u,w',k',ow',hr,g1,g2,g3⟩:=azL (ty:=o.type) hs1 h hek (ev a) (ev b) hnew (.inr ⟨rfl,.inr rfl⟩)
   have ha:args=#[a,b]:=by rw[← cM (xs:=args),hargs]
   have ht:tys=#[st,xt]:=by rw[← cM (xs:=tys),htys]
   subst ha;subst ht
   exact ada (by simp[execOp,ho,resolve,invoke,builtin,hr]) (hK u w' k' ow' g1 g2 g3)
  .-- min
   rename_i a b hargs
   unfold aqE at h
   split at h
   .rename_i m n hm hn
    obtain⟨rfl,rfl⟩:=eC h
    have ha:args=#[a,b]:=by rw[← cM (xs:=args),hargs]
    subst ha
    have e1:=agG hm (ev a)
    have e2:=agG hn (ev b)
    exact plain (.int .i64 (if n<m then n else m)) rfl (by simp[execOp,ho,resolve,invoke,builtin,e1,e2,Builtin.min_,Builtin.min2]) ⟨rfl,rfl⟩
   .cases h
  .-- max
   rename_i a b hargs
   unfold aqF at h
   split at h
   .rename_i m n hm hn
    obtain⟨rfl,rfl⟩:=eC h
    have ha:args=#[a,b]:=by rw[← cM (xs:=args),hargs]
    subst ha
    have e1:=agG hm (ev a)
    have e2:=agG hn (ev b)
    exact plain (.int .i64 (if m<n then n else m)) rfl (by simp[execOp,ho,resolve,invoke,builtin,e1,e2,Builtin.max_,Builtin.max2]) ⟨rfl,rfl⟩
   .cases h
  .-- a call
   rename_i f
   split at h
   .rename_i g caps cs hf hcs
    unfold af1 at h
    split at h
    .rename_i hc
     simp only[ap] at hc
     replace hc:=hc.1
     split at h
     .rename_i r hr
      obtain⟨rfl,rfl⟩:=eC h
      have hl:=aoo (ds:=ds) hs _ _ hcs
      have hfv:=ev f
      rw[hf] at hfv
      simp only[aF,Rep] at hfv
      obtain⟨cvs,hfv,hcl⟩:=hfv
      have hcall:=aGo (w:=w) hs (horc g _ _ _ hr) hc (hl.append hcl) hd
      have hrun:(execOp (⟨tmps,ds⟩ : Act).eval o).run P w=.ok (.enter g ((args.toList.map λx=>(⟨tmps,ds⟩ : Act).eval x)++cvs).toArray) w:=by
       unfold ew at hc
       split at hc
       .rename_i fn hfn
        simp only[ap,cZ,acH] at hc
        obtain⟨⟨b,hb⟩,hn⟩:=hc
        have hn':¬ fn.name= "runtime.NumGoroutine":=by simpa using hn
        have hargs:((args.toList.map λx=>(⟨tmps,ds⟩ : Act).eval x)++cvs).toArray=Array.map (λx=>(⟨tmps,ds⟩ : Act).eval x) args++cvs.toArray:=by
         apply agH
         simp
        rw[hargs]
        simp[execOp,ho,resolve,hfv,Deferred.ofValue,invoke,callFunc,hfn,hn',hb]
       .cases hc
      unfold Oper.wp
      rw[hrun]
      simp only[Oper.upon]
      refine hcall.mono λe w' ⟨v,k',ow',he,g1,g2,g3⟩=>?_
      subst he
      exact hK v w' k' ow' g1 g2 g3
     .cases h
    .cases h
   .cases h
  .cases h
 .-- alloc
  rename_i t ho
  split at h
  .rename_i d hT
   split at h
   .rename_i hz
    obtain⟨rfl,rfl⟩:=eC h
    have ok:=TT.of_ok hT
    obtain⟨z,hzr,hz2⟩:=ok.run_zero w
    have hown:(w.alloc (.cells d.zero.toArray t)).ownsRow 0 t d.size (.slice (some ⟨w.heap.size,0,none⟩) 0 1) 0 []:=World.ownsRow_made w _ 1 (aO _) (by simp[maxLen]) (by simp[ok.len])
    obtain⟨k',g1,g2,g3⟩:=hs1.row (row:=none) (cs:=[]) (c:=s.clk) (ix:=ix) (i:=0) (λg hg=>by cases hg) (World.grownBy_alloc w _ none) hown (.inr ⟨rfl,rfl⟩) (by simp[bv]) aT hnew (.inr ⟨rfl,.inr rfl⟩)
    refine ada (u:=.pointer (some ⟨w.heap.size,0,none⟩)) (w':=w.alloc (.cells d.zero.toArray t)) ?_ (hK _ _ k' _ g1 g2 ?_)
    .simp[execOp,ho,Instr.alloc,hzr,newVar,newRow,← hz2]
    .simp only[aF];exact⟨_,rfl,by simp[Own.add]⟩
   .cases h
  .cases h
 .rename_i ho
  rw[ho] at hns
  cases hns
 .cases h
theorem Sim.refr(h:Sim M0 k ow done w0 w N s tmps){d:Nat}{x:X}(hx:aF k ow x (tmps.getD d undef)):Sim M0 k ow done w0 w N (s.put (some d) x) tmps:={h with
 fr:=λj=>by
  simp only[S.put,upd]
  split
  .rename_i e;subst e;exact hx
  .exact h.fr j}
theorem at1(w:World)(b:Nat)(c:Array Value):w.grownBy (w.setRow b c) (some b):=⟨rfl,rfl,rfl,by simp[World.setRow],λj _ hj=>setRow_other w b j c (λe=>hj (by rw[e]))⟩
theorem ayd(hs:Sim M0 k ow done w0 w N s tmps){ix:Nat}(hd:¬ done ix){o:Oper}{t d z:Nat}{x:Operand}{td:TD}{tk:Tk}{xs:List X}(ho:o.op=.store t (.tmp d) x)(hT:TT.of P t=some td)(hz:z=td.size)
  (hf:s.fr d=.nw (some tk) t z) (hx:cE (s.ev x)=some xs) (hl:xs.length=z) :
  ∃ b,tmps.getD d undef=.pointer (some ⟨b,0,none⟩)/\ow tk=some (.slice (some ⟨b,0,none⟩) 0 1,t,z,0)/\aR k ow xs ((⟨tmps,ds⟩ : Act).eval x).cells.toList/\(∀ u∈((⟨tmps,ds⟩ : Act).eval x).cells.toList,u.oneCell'=true) /\
   (∃ cur,w.heap[b]?=some (.cells cur t (0,0))/\cur.size=z) /\
   (execOp (⟨tmps,ds⟩ : Act).eval o).run P w=.ok .skip (w.setRow b ((⟨tmps,ds⟩ : Act).eval x).cells.toList.toArray):=by
 have hp:=hs.fr d
 rw[hf] at hp
 simp only[aF] at hp
 obtain⟨b,hv,hk⟩:=hp
 obtain⟨⟨ys,hown⟩,_⟩:=hs.tok _ _ _ _ _ hk
 obtain⟨hr,h1⟩:=ae3 hx (Sim.ev (ds:=ds) hs x)
 rcases hown.2 with ⟨h0,_⟩|⟨g,cap,cur,h0,_,hh,_,_,hc,_⟩
 .cases h0
 simp only[Value.slice.injEq,ab,Addr.mk.injEq] at h0
 obtain⟨⟨rfl,_,_⟩,_,rfl⟩:=h0
 have ok:=TT.of_ok hT
 have hlen:=hr.length
 have hcz:cur.size=z:=by omega
 have hfit:0+0+((⟨tmps,ds⟩ : Act).eval x).cells.toList.length<=cur.size:=by omega
 have hrun:=run_storeCells_at P b 0 t ((⟨tmps,ds⟩ : Act).eval x).cells.toList 0 cur w hh hfit h1
 have hsz:((⟨tmps,ds⟩ : Act).eval x).cells.size=td.size:=by
  have:((⟨tmps,ds⟩ : Act).eval x).cells.toList.length=td.size:=by omega
  simpa using this
 have he:cur.toList.take (0+0)++((⟨tmps,ds⟩ : Act).eval x).cells.toList++cur.toList.drop (0+0+((⟨tmps,ds⟩ : Act).eval x).cells.toList.length)=((⟨tmps,ds⟩ : Act).eval x).cells.toList:=by
  rw[dB (by rw[eE];omega)]
  simp
 have hav:(⟨tmps,ds⟩ : Act).eval (.tmp d)=.pointer (some ⟨b,0,none⟩):=by
  rw[← hv]
  rfl
 refine⟨b,hv,hk,hr,h1,⟨cur,hh,hcz⟩,?_⟩
 rw[he] at hrun
 simp[execOp,ho,Instr.storeAt,hav,Instr.sureAddr,storeVar,ok.run_size,hsz,hrun]
theorem aZe(hs:Sim M0 k ow done w0 w N s tmps){ix:Nat}(hd:¬ done ix){o:Oper}{t d z:Nat}{x:Operand}{td:TD}{tk:Tk}{cs:List C}(ho:o.op=.store t (.tmp d) x)(hT:TT.of P t=some td)(hz:z=td.size)
  (hf:s.fr d=.nw (some tk) t z) (hek:tk.isRow=false) (hx:eA (s.ev x)=some cs) (hl:cs.length=z) :
  ∃ w' k' ow',(execOp (⟨tmps,ds⟩ : Act).eval o).run P w=.ok .skip w'/\k.le k'/\Sim M0 k' ow' (λj=>done j\/j=ix) w0 w' N ((s.drop (some tk)).put (some d) (.of (.ref cs))) tmps:=by
 unfold eA at hx
 simp only[bD] at hx
 obtain⟨xs,hx,hrd⟩:=hx
 have hxl:xs.length=cs.length:=by
  clear hx hl
  induction xs generalizing cs with
  | nil=>simp only[X.rds,ab] at hrd;subst hrd;rfl
  | cons a r ih =>
   simp only[X.rds] at hrd
   split at hrd
   .rename_i c cs' _ h2
    simp only[ab] at hrd
    subst hrd
    simp[ih h2]
   .cases hrd
 obtain⟨b,hv,hk,hr,h1,⟨cur,hh,hcz⟩,hrun⟩:=ayd (ds:=ds) hs hd ho hT hz hf hx aC
 have hcl:=akH _ _ _ hrd hr
 have hs1:=hs.more (done':=λj=>done j\/j=ix) (λ_ h=>.inl h)
 have htok:=(hs.tok _ _ _ _ _ hk).2
 have hsd:=hs1.del tk hek
 have hnew:(ow.del tk) (.nm s.clk ix 0)=none:=by simp only[Own.del];split;rfl;exact hs.new hd
 have hlen:=hr.length
 have hown:(w.setRow b ((⟨tmps,ds⟩ : Act).eval x).cells.toList.toArray).ownsRow 0 t z (.slice (some ⟨b,0,none⟩) 1 1) 1 ((⟨tmps,ds⟩ : Act).eval x).cells.toList :=
  ⟨by omega,.inr ⟨b,1,_,rfl,aO _,setRow_heap w b cur _ t (0,0) hh,ae _,by simp[maxLen],by simp only[dG];omega,by rw[abB];exact aaW aC⟩⟩
 obtain⟨k',g1,g2,g3⟩:=hsd.row (row:=some b) (cs:=cs) (c:=s.clk) (ix:=ix) (i:=0) (λg hg=>by
   obtain rfl:=ay hg
   obtain⟨q1,q2,q3⟩:=htok b rfl
   refine⟨q1,λr hr=>agb (λ_ _=>rfl) (by have:=(q3 r hr).1;rwa [abY] at this),λt' v' e' z' n' h'=>?_,λo' u hm=>by rw[q2 o' aC] at hm;cases hm⟩
   simp only[Own.del] at h'
   split at h'
   .cases h'
   .rename_i hne
    exact hs.tokne tk t' _ _ _ _ _ _ _ _ hk h' (bn hne) b rfl) (at1 w b _) hown (.inl rfl) hcl h1 hnew (.inr ⟨rfl,.inr rfl⟩)
 refine⟨_,k',_,hrun,g1,g2.refr ?_⟩
 rw[hv]
 simp only[aF,Rep] at g3
 obtain⟨_,_,a,cap,vs,h5,_,h6,h7⟩:=g3
 simp only[Value.slice.injEq] at h5
 obtain⟨rfl,_,rfl⟩:=h5
 simp only[aF,Rep]
 by_cases hne:vs=[]
 .subst hne
  exact⟨b,0,[],rfl,h6,λi u hu=>by simp at hu⟩
 .obtain⟨b',o',h8,h9⟩:=h7 hne
  simp only[ab,Addr.mk.injEq] at h8
  obtain⟨rfl,rfl,_⟩:=h8
  exact⟨_,_,vs,rfl,h6,h9⟩
end
section
variable {P:Program} {M0:Base} {k:Know} {ow:Own} {done:Nat->Prop} {w0 w:World} {N:Nat} {s:S} {tmps:Array Value} {ds:List Deferred}
theorem Sim.newOb(h:Sim M0 k ow done w0 w N s tmps){ob:Ob}(o:Obj)(hob:∀ k' w',k.le k'->w'.heap[w.heap.size]?=some o->adV k' ow w' w.heap.size ob) :
  ∃ k',k.le k'/\k'.μ s.objs.length=some w.heap.size/\Sim M0 k' ow done w0 (w.alloc o) N {s with objs:=s.objs++[ob]} tmps:=by
 let k':Know:={m:=k.m,μ:=λr=>if r=s.objs.length then some w.heap.size else k.μ r}
 have hle:k.le k':=⟨λ_ _ _ h=>h,λr b hr=>by
  have:=h.dom r b hr
  show (if r=s.objs.length then some w.heap.size else k.μ r)=some b
  rw[aj aC];exact hr⟩
 have hb:Below w.heap.size w (w.alloc o):=(Below.refl _ _).alloc (ae _) _
 have hg:=h.grow hb
 refine⟨k',hle,by simp[k'],?_⟩
 exact {
  good:=hg.good
  size:=hg.size
  below:=hg.below
  fr:=λj=>aF.mono hle (λ_ _ h=>h) _ _ (hg.fr j)
  mem:=hg.mem
  obj:=λr ob' hr=>by
   by_cases hlast:r=s.objs.length
   .subst hlast
    simp at hr
    subst hr
    refine⟨w.heap.size,by simp[k'],.inl h.below.size,by simp,λ_ o'=>?_,hob _ _ hle (heap_alloc_new w _)⟩
    show k.m w.heap.size o'=none
    cases hm:k.m w.heap.size o' with
    | none=>rfl
    | some u=>have:=ag3 h.mem hm;omega
   .have hr':s.objs[r]?=some ob':=by
     rcases aD r s.objs.length with g|g
     .rwa [ba g] at hr
     .rw[bW g] at hr
      have:r-s.objs.length≠0:=by omega
      obtain⟨q,hq⟩:=abR this
      rw[hq] at hr
      simp at hr
    obtain⟨b,g1,g2,g3,g4,g5⟩:=hg.obj r ob' hr'
    exact⟨b,hle.2 _ _ g1,g2,g3,g4,g5.mono hle (λ_ _ h=>h)⟩
  dom:=λr b hr=>by
   simp only[k'] at hr
   simp only[bc,dX]
   split at hr
   .omega
   .have:=h.dom r b hr;omega
  inj:=λr r' b hr hr' hl hl'=>by
   simp only[k'] at hr hr'
   split at hr
   .split at hr'
    .omega
    .have:=(h.lt hr').2.1
     have:=ay hr
     omega
   .split at hr'
    .have:=(h.lt hr).2.1
     have:=ay hr'
     omega
    .exact h.inj r r' b hr hr' (aeI hl (h.dom r b hr)) (aeI hl' (h.dom r' b hr'))
  tok:=λt v e z n ht=>by
   obtain⟨g1,g2⟩:=hg.tok t v e z n ht
   refine⟨g1,λg hgo=>⟨(g2 g hgo).1,(g2 g hgo).2.1,λr hr=>?_⟩⟩
   simp only[k'] at hr
   split at hr
   .have:=(h.tlt ht hgo).2
    have:=ay hr
    omega
   .exact⟨alr ((g2 g hgo).2.2 r hr).1,λhl=>((g2 g hgo).2.2 r hr).2 (aeI hl (h.dom r g hr))⟩
  tokne:=hg.tokne
  fresh:=hg.fresh
  cells:=λr off p ht=>by
   have:=h.cells r off p ht
   simp only[bc,dX]
   omega
  m0:=hg.m0}
theorem Sim.newVar(h:Sim M0 k ow done w0 w N s tmps){xs:List X}{vs:List Value}(ty:TypeId)(hx:aR k ow xs vs)(h1:∀ u∈vs,u.oneCell'=true) :
  ∃ k',k.le k'/\k'.μ s.objs.length=some w.heap.size/\Sim M0 k' ow done w0 (w.alloc (.cells vs.toArray ty)) N {s with objs:=s.objs++[Ob.var ty xs]} tmps :=
 h.newOb _ λ_ _ hle hh=>⟨vs,hh,h1,aR.mono hle (λ_ _ h=>h) _ _ hx⟩
theorem Sim.made(hs:Sim M0 k ow done w0 w N s tmps){tk:Tk}(hek:tk.isRow=false){b t z d:Nat}{vs:List Value}{xs:List X}{cur:Array Value}(hk:ow tk=some (.slice (some ⟨b,0,none⟩) 0 1,t,z,0))(hv:tmps.getD d undef=.pointer (some ⟨b,0,none⟩))
  (hr:aR k ow xs vs) (h1:∀ u∈vs,u.oneCell'=true) (hh:w.heap[b]?=some (.cells cur t (0,0))) :
  ∃ k',k.le k'/\Sim M0 k' (ow.del tk) done w0 (w.setRow b vs.toArray) N (apz (s.drop (some tk)) d t (X.drops tk xs)) tmps:=by
 have h:=hs.del tk hek
 have htok:=(hs.tok _ _ _ _ _ hk).2 b rfl
 obtain⟨q1,q2,q3⟩:=htok
 have hbl:b<w.heap.size:=(Array.getElem?_eq_some_iff.1 hh).1
 let k':Know:={m:=k.m,μ:=λr=>if r=s.objs.length then some b else k.μ r}
 have hle:k.le k':=⟨λ_ _ _ h=>h,λr b' hr=>by
  have:=hs.dom r b' hr
  show (if r=s.objs.length then some b else k.μ r)=some b'
  rw[aj aC];exact hr⟩
 have hmb:∀ o,k.m b o=none:=λo=>q2 o aC
 have hdd:∀ r,k.μ r=some b->¬ Liv s.objs r:=λr hr=>ah8 (by have:=(q3 r hr).1;rwa [abY] at this)
 have hlen:(s.drop (some tk)).objs.length=s.objs.length:=by simp[S.drop]
 have hoth:∀ c,c≠b->(w.setRow b vs.toArray).heap[c]?=w.heap[c]?:=λc hc=>setRow_other w b c _ hc
 have hsz:(w.setRow b vs.toArray).heap.size=w.heap.size:=by simp[World.setRow]
 have hS:Sim M0 k' (ow.del tk) done w0 (w.setRow b vs.toArray) N {s.drop (some tk) with objs:=(s.drop (some tk)).objs++[Ob.var t (X.drops tk xs)]} tmps:={
  good:=h.good
  size:=h.size
  below:=⟨h.below.os,h.below.tape,h.below.output,by rw[hsz];exact h.below.size,λb' hb' hm=>by
   rw[hoth b' (λe=>by subst e;rcases q1 with q|q;omega;exact hm q)]
   exact h.below.block b' hb' hm⟩
  fr:=λj=>aF.mono hle (λ_ _ h=>h) _ _ (h.fr j)
  mem:=λb' o v hm=>by
   have hne:b'≠b:=λe=>by subst e;rw[show k'.m b' o=k.m b' o from rfl,hmb] at hm;cases hm
   obtain⟨g1,g2⟩:=h.mem b' o v hm
   exact⟨(World.cell?_of_block (a:=⟨b',o,none⟩) (hoth b' hne)).trans g1,g2⟩
  obj:=λr ob' hr'=>by
   by_cases hlast:r=s.objs.length
   .subst hlast
    rw[bW (by rw[hlen];exact ae _),hlen] at hr'
    simp at hr'
    subst hr'
    exact⟨b,by simp[k'],q1,by rw[hsz];exact hbl,λ_=>hmb,vs,setRow_heap w b cur _ t (0,0) hh,h1,aR.mono hle (λ_ _ h=>h) _ _ (aR.drop tk hek _ _ hr)⟩
   .have hr2:(s.drop (some tk)).objs[r]?=some ob':=by
     rcases aD r (s.drop (some tk)).objs.length with g|g
     .rwa [ba g] at hr'
     .rw[bW g] at hr'
      have:r-(s.drop (some tk)).objs.length≠0:=by omega
      obtain⟨q,hq⟩:=abR this
      rw[hq] at hr'
      simp at hr'
    obtain⟨b',g1,g2,g3,g4,g5⟩:=h.obj r ob' hr2
    by_cases hbb:b'=b
    .subst hbb
     exact⟨b',hle.2 _ _ g1,g2,by rw[hsz];exact g3,g4,.dead (ano hr2 λhl=>hdd r g1 (ad1 (ahN tk) hl))⟩
    .exact⟨b',hle.2 _ _ g1,g2,by rw[hsz];exact g3,g4,(g5.keep (hoth b' hbb)).mono hle (λ_ _ h=>h)⟩
  dom:=λr b' hr'=>by
   simp only[k'] at hr'
   simp only[bc,dX,hlen]
   split at hr'
   .omega
   .have:=hs.dom r b' hr';omega
  inj:=λr r' b' hr1 hr2 hl hl'=>by
   have old:∀ r,r<s.objs.length->Liv ((s.drop (some tk)).objs++[Ob.var t (X.drops tk xs)]) r->Liv s.objs r:=λr hr hl=>ad1 (ahN tk) (aeI hl (by simpa [S.drop] using hr))
   simp only[k'] at hr1 hr2
   split at hr1
   .split at hr2
    .omega
    .have:=ay hr1
     subst this
     exact absurd (old r' (hs.dom r' _ hr2) hl') (hdd r' hr2)
   .split at hr2
    .have:=ay hr2
     subst this
     exact absurd (old r (hs.dom r _ hr1) hl) (hdd r hr1)
    .exact hs.inj r r' b' hr1 hr2 (old r (hs.dom r _ hr1) hl) (old r' (hs.dom r' _ hr2) hl')
  tok:=λt' v e' z' n' ht=>by
   obtain⟨⟨ys,g1⟩,g2⟩:=h.tok t' v e' z' n' ht
   have hne:∀ g,v.ownBlock=some g->g≠b:=λg hg e=>by
    subst e
    simp only[Own.del] at ht
    split at ht
    .cases ht
    .rename_i hne
     exact hs.tokne tk t' _ _ _ _ _ _ _ _ hk ht (bn hne) g rfl hg
   refine⟨⟨ys,acX (λg hg _=>hoth g (hne g hg)) g1⟩,λg hgo=>⟨(g2 g hgo).1,(g2 g hgo).2.1,λr hr=>?_⟩⟩
   simp only[k'] at hr
   split at hr
   .exact (hne g hgo (ay hr).symm).elim
   .exact⟨alr ((g2 g hgo).2.2 r hr).1,λhl=>((g2 g hgo).2.2 r hr).2 (aeI hl (by simpa [S.drop] using hs.dom r g hr))⟩
  tokne:=h.tokne
  fresh:=h.fresh
  cells:=λr off p ht=>by
   have:=h.cells r off p ht
   simp only[bc,dX]
   omega
  m0:=h.m0}
 refine⟨k',hle,?_⟩
 unfold apz
 refine hS.refr ?_
 rw[hv]
 simp only[aF]
 exact⟨b,by simp[k',hlen],rfl⟩
theorem Sim.setOb(h:Sim M0 k ow done w0 w N s tmps){r b:Nat}{ob:Ob}{w':World}(hb:k.μ r=some b)(hr:r<s.objs.length)(hbel:w'.os=w.os/\w'.tape=w.tape/\w'.output=w.output)(hsz:w'.heap.size=w.heap.size)
  (hoth:∀ c,c≠b->w'.heap[c]?=w.heap[c]?) (hnr:∀ n,¬ fQ s.objs n r) (hob:adV k ow w' b ob):Sim M0 k ow done w0 w' N {s with objs:=s.objs.set r ob} tmps:=by
 have hlr:Liv s.objs r:=Classical.byContradiction λhn=>hnr 0 (azf hr hn)
 obtain⟨b',g1,g2,g3,g4,_⟩:=h.obj r _ (aM hr)
 obtain rfl:b=b':=ay (hb.symm.trans g1)
 exact {
  good:=h.good
  size:=h.size
  below:=⟨hbel.1.trans h.below.os,hbel.2.1.trans h.below.tape,hbel.2.2.trans h.below.output,by rw[hsz];exact h.below.size,λc hc hm=>(hoth c (λe=>by
   subst e
   rcases g2 with g2|g2
   .omega
   .exact hm g2)).trans (h.below.block c hc hm)⟩
  fr:=h.fr
  mem:=λc o v hm=>by
   obtain⟨q1,q2⟩:=h.mem c o v hm
   have hne:c≠b:=by
    rintro rfl
    obtain⟨ob0,p1,p2⟩:=hlr
    rw[aM hr] at p1
    obtain rfl:=ay p1
    rw[g4 p2 o] at hm;cases hm
   exact⟨(World.cell?_of_block (a:=⟨c,o,none⟩) (hoth c hne)).trans q1,q2⟩
  obj:=λr' ob' hr'=>by
   by_cases hrr:r'=r
   .subst hrr
    rw[da hr] at hr'
    simp only[ab] at hr'
    subst hr'
    exact⟨b,hb,g2,by rw[hsz];exact g3,λ_=>(h.toHp.lt hb).2.2 hlr,hob⟩
   .rw[eu (bn hrr)] at hr'
    obtain⟨c,q1,q2,q3,q4,q5⟩:=h.obj r' ob' hr'
    by_cases hcb:c=b
    .subst hcb
     exact⟨c,q1,q2,by rw[hsz];exact q3,q4,.dead (ano hr' λhl=>hrr (h.inj r' r c q1 hb hl hlr))⟩
    .exact⟨c,q1,q2,by rw[hsz];exact q3,q4,q5.keep (hoth c hcb)⟩
  dom:=λr' c hr'=>by simpa using h.dom r' c hr'
  inj:=λr1 r2 c h1 h2 hl1 hl2=>by
   have old:∀ r',Liv (s.objs.set r ob) r'->Liv s.objs r':=λr' hl=>by
    by_cases e:r'=r
    .subst e;exact hlr
    .exact atS e hl
   exact h.inj r1 r2 c h1 h2 (old r1 hl1) (old r2 hl2)
  tok:=λt v e z n ht=>by
   obtain⟨⟨xs,q1⟩,q2⟩:=h.tok t v e z n ht
   have hne:∀ g,v.ownBlock=some g->g≠b:=λg hg e=>hnr _ ((q2 g hg).2.2 r (by rw[e];exact hb)).1
   refine⟨⟨xs,acX (λg hg _=>hoth g (hne g hg)) q1⟩,λg hg=>⟨(q2 g hg).1,(q2 g hg).2.1,λr' hr'=>?_⟩⟩
   have hrr:r'≠r:=λe=>by subst e;exact hne g hg (ay (hr'.symm.trans hb))
   exact⟨aol hrr ((q2 g hg).2.2 r' hr').1,λhl=>((q2 g hg).2.2 r' hr').2 (atS hrr hl)⟩
  tokne:=h.tokne
  fresh:=h.fresh
  cells:=λr' off p ht=>by simpa using h.cells r' off p ht
  m0:=h.m0}
theorem Sim.setVar(h:Sim M0 k ow done w0 w N s tmps){r b:Nat}{ys:List X}{vs:List Value}(hb:k.μ r=some b){old:Array Value}{ty:TypeId}(hh:w.heap[b]?=some (.cells old ty (0,0)))
  (hr:r<s.objs.length) (hnr:∀ n,¬ fQ s.objs n r) (hx:aR k ow ys vs) (h1:∀ u∈vs,u.oneCell'=true) :
  Sim M0 k ow done w0 (w.setRow b vs.toArray) N {s with objs:=s.objs.set r (Ob.var ty ys)} tmps:=by
 obtain⟨b',g1,g2,_⟩:=h.obj r _ (aM hr)
 obtain rfl:b=b':=ay (hb.symm.trans g1)
 have hsz:(w.setRow b vs.toArray).heap.size=w.heap.size:=by simp[World.setRow]
 have hoth:∀ c,c≠b->(w.setRow b vs.toArray).heap[c]?=w.heap[c]?:=λc hc=>setRow_other w b c _ hc
 exact h.setOb hb hr ⟨rfl,rfl,rfl⟩ hsz hoth hnr ⟨vs,setRow_heap w b old _ ty _ hh,h1,hx⟩
theorem Sim.setMap(h:Sim M0 k ow done w0 w N s tmps){r b cl cl':Nat}{es:List (Value×C)}{ms ms':Array MapEntry}(hb:k.μ r=some b)(hh:w.heap[b]?=some (.map ms cl))(hr:r<s.objs.length)(hnr:∀ n,¬ fQ s.objs n r)
  (hk:ms'.toList.map (·.key)=es.map (·.1)) (hv:bv k.m (es.map (·.2)) (ms'.toList.map (·.val))) :
  Sim M0 k ow done w0 {w with heap:=w.heap.setIfInBounds b (.map ms' cl')} N {s with objs:=s.objs.set r (Ob.map es)} tmps:=by
 obtain⟨b',g1,g2,_⟩:=h.obj r _ (aM hr)
 obtain rfl:b=b':=ay (hb.symm.trans g1)
 have hlt:b<w.heap.size:=(Array.getElem?_eq_some_iff.1 hh).1
 have hoth:∀ c,c≠b->(w.heap.setIfInBounds b (.map ms' cl'))[c]?=w.heap[c]?:=λc hc=>be (bn hc)
 exact h.setOb hb hr ⟨rfl,rfl,rfl⟩ aT hoth hnr ⟨ms',cl',by simp[hlt],hk,hv⟩
structure EnSound (P:Program) (G:GP) (E:En):Prop where
 orc:∀ f xs obs an,E.orc f xs obs=some an->aa2 P G f xs obs an
theorem aC0(hs:Sim M0 k ow done w0 w N s tmps):∀ l:List Operand,aR k ow (l.map s.ev) (l.map λx=>(⟨tmps,ds⟩ : Act).eval x)
 | []=>by simp[aR]
 | x::l=>by simp only[aU,aR];exact⟨_,_,rfl,Sim.ev (ds:=ds) hs x,aC0 hs l⟩
open Classical in
noncomputable def Own.img(ρ:Tk->Option Tk)(ow:Own):Own:=λt'=>if h:∃ t p,ow t=some p/\ρ t=some t' then some h.choose_spec.choose else none
theorem Own.img_re{ρ:Tk->Option Tk}{ow:Own}(hi:∀ t u t' ,(ow t).isSome->(ow u).isSome->ρ t=some t'->ρ u=some t'->t=u):ow.re ρ (ow.img ρ):=by
 refine⟨λt p t' ht hr=>?_,λt' p h=>?_⟩
 .have hex:∃ t p,ow t=some p/\ρ t=some t':=⟨t,p,ht,hr⟩
  unfold Own.img
  rw[ajf hex]
  have h2:=hex.choose_spec.choose_spec
  have:hex.choose=t:=hi _ _ t' (by rw[h2.1];rfl) (by rw[ht];rfl) h2.2 hr
  exact ((congrArg ow this).symm.trans h2.1).symm.trans ht
 .unfold Own.img at h
  split at h
  .rename_i hex
   simp only[ab] at h
   subst h
   exact⟨_,hex.choose_spec.choose_spec.1,hex.choose_spec.choose_spec.2⟩
  .cases h
theorem ags(r:Nat):∀ (off:Nat) (xs:List X) (t c:Tk),acU (dU r off xs) t=some c->∃ o,c=.cell r o/\off<=o/\o<off+xs.length
 | off,[],t,c,h=>by simp[dU,acU] at h
 | off,x::xs,t,c,h=>by
  have ih:=ags r (off+1) xs t c
  have rest:acU (dU r (off+1) xs) t=some c->∃ o,c=.cell r o/\off<=o/\o<off+(x::xs).length:=λh=>by
   obtain⟨o,h1,h2,h3⟩:=ih h
   exact⟨o,h1,by omega,by simp only[aN];omega⟩
  cases x with
  | own t0 e z cs n =>
   simp only[dU,acU] at h
   split at h
   .simp only[ab] at h
    exact⟨off,h.symm,ae _,by simp⟩
   .exact rest h
  | _=>simp only[dU] at h;exact rest h
theorem aqa(r:Nat):∀ (off:Nat) (xs:List X) (t u c:Tk),acU (dU r off xs) t=some c->acU (dU r off xs) u=some c->t=u
 | off,[],t,u,c,h,_=>by simp[dU,acU] at h
 | off,x::xs,t,u,c,h,h'=>by
  have ih:=aqa r (off+1) xs t u c
  cases x with
  | own t0 e z cs n =>
   simp only[dU,acU] at h h'
   split at h
   .rename_i e1
    simp only[ab] at h
    split at h'
    .rename_i e2;exact e1.symm.trans e2
    .obtain⟨o,h1,h2,_⟩:=ags r (off+1) xs u c h'
     rw[← h] at h1
     cases h1
     omega
   .split at h'
    .simp only[ab] at h'
     obtain⟨o,h1,h2,_⟩:=ags r (off+1) xs t c h
     rw[← h'] at h1
     cases h1
     omega
    .exact ih h h'
  | _=>simp only[dU] at h h';exact ih h h'
theorem ap9(r:Nat):∀ (off:Nat) (xs:List X) (t c:Tk),acU (dU r off xs) t=some c->∃ e z cs n,X.own t e z cs n∈xs
 | off,[],t,c,h=>by simp[dU,acU] at h
 | off,x::xs,t,c,h=>by
  have rest:acU (dU r (off+1) xs) t=some c->∃ e z cs n,X.own t e z cs n∈x::xs:=λh=>by
   obtain⟨e,z,cs,n,hm⟩:=ap9 r (off+1) xs t c h
   exact⟨e,z,cs,n,eX _ hm⟩
  cases x with
  | own t0 e z cs n =>
   simp only[dU,acU] at h
   split at h
   .rename_i e1;subst e1;exact⟨e,z,cs,n,by simp⟩
   .exact rest h
  | _=>simp only[dU] at h;exact rest h
theorem auL{k:Know}{ow:Own}:∀ {xs:List X} {vs:List Value},aR k ow xs vs->∀ x∈xs,∃ v,aF k ow x v
 | [],_,_,x,hx=>by cases hx
 | a::xs,vs,h,x,hx=>by
  simp only[aR] at h
  obtain⟨v,r,_,h1,h2⟩:=h
  rcases bp.1 hx with rfl|hx
  .exact⟨v,h1⟩
  .exact auL h2 x hx
theorem aEO{r off n:Nat}{xs:List X}(hn:xs.length=n){t u t':Tk}(h:aaL r off n (dU r off xs) t=some t')(h':aaL r off n (dU r off xs) u=some t'):t=u:=by
 have key:∀ t u:Tk,acU (dU r off xs) t=some t'->acU (dU r off xs) u=none->(match u with
   | .cell r' o'=>if r'=r/\off<=o'/\o'<off+n then none else some u
   | .nm ..=>some u)=some t'->False:=by
  intro t u h1 _ h2
  obtain⟨o,rfl,h3,h4⟩:=ags r off xs t t' h1
  cases u with
  | nm c ix i=>cases h2
  | cell r' o' =>
   simp only at h2
   split at h2
   .cases h2
   .rename_i hno
    simp only[ab,Tk.cell.injEq] at h2
    exact hno ⟨h2.1,by omega,by omega⟩
 have key2:∀ u:Tk,(match u with
   | .cell r' o'=>if r'=r/\off<=o'/\o'<off+n then none else some u
   | .nm ..=>some u)=some t'->u=t':=by
  intro u h2
  cases u with
  | nm c ix i=>exact ay h2
  | cell r' o' =>
   simp only at h2
   split at h2
   .cases h2
   .exact ay h2
 unfold aaL at h h'
 split at h
 .rename_i c h1
  simp only[ab] at h
  subst h
  split at h'
  .rename_i c' h1'
   simp only[ab] at h'
   subst h'
   exact aqa r off xs t u _ h1 h1'
  .rename_i h1'
   exact (key t u h1 h1' h').elim
 .rename_i h1
  split at h'
  .rename_i c' h1'
   simp only[ab] at h'
   subst h'
   exact (key u t h1' h1 h).elim
  .exact (key2 t h).trans (key2 u h').symm
theorem Sim.lay(h:Sim M0 k ow done w0 w N s tmps){r off:Nat}{xs ys:List X}(hr:r<s.objs.length){vs:List Value}(hxs:aR k ow xs vs):∃ ow',Sim M0 k ow' done w0 w N (aqK r off xs ys s) tmps:=by
 unfold aqK
 split
 .exact⟨ow,h⟩
 .have hre:ow.re (aaL r off xs.length (dU r off xs)) (ow.img (aaL r off xs.length (dU r off xs))):=Own.img_re λt u t' _ _ h1 h2=>aEO rfl h1 h2
  have hcase:∀ t t',aaL r off xs.length (dU r off xs) t=some t'->(∃ o,t'=.cell r o)\/t'=t:=by
   intro t t' h1
   unfold aaL at h1
   split at h1
   .rename_i c h2
    simp only[ab] at h1
    subst h1
    obtain⟨o,h3,_⟩:=ags r off xs t _ h2
    exact .inl ⟨o,h3⟩
   .cases t with
    | nm c ix i=>exact .inr (ay h1).symm
    | cell r' o' =>
     simp only at h1
     split at h1
     .cases h1
     .exact .inr (ay h1).symm
  refine⟨_,h.tr hre (λr' v e z n g t' ho hg hμ hl hm=>by
   unfold aaL at hm
   split at hm
   .rename_i c h1
    exfalso
    obtain⟨e',z',cs,n',hmem⟩:=ap9 r off xs _ _ h1
    obtain⟨v',hv'⟩:=auL hxs _ hmem
    have hv2:=hv'
    simp only[aF] at hv2
    have:=hv2.1.symm.trans ho
    simp only[bF] at this
    obtain⟨rfl,_⟩:=this
    exact h.toHp.own_dead hv' hg hμ hl
   .simp only at hm
    split at hm
    .cases hm
    .exact (ay hm).symm) (λt' p ht=>?_) (λr' o' p ht=>?_)⟩
  .obtain⟨t,g1,g2⟩:=hre.2 _ _ ht
   rcases hcase t t' g2 with ⟨o,rfl⟩|rfl
   .trivial
   .exact h.fresh _ _ g1
  .obtain⟨t,g1,g2⟩:=hre.2 _ _ ht
   rcases hcase t _ g2 with ⟨o,e⟩|e
   .cases e;exact hr
   .subst e;exact h.cells _ _ _ g1
theorem bv.set{m:Mem}:∀ {cs:List C} {vs:List Value} (i:Nat) {c:C} {v:Value},bv m cs vs->Rep m c v->bv m (cs.set i c) (vs.set i v)
 | [],vs,i,c,v,h,_=>by simp only[bv] at h;subst h;simp[bv]
 | d::cs,vs,0,c,v,h,hc=>by
  simp only[bv] at h
  obtain⟨u,r,rfl,_,h2⟩:=h
  simp only[List.set_cons_zero,bv]
  exact⟨v,r,rfl,hc,h2⟩
 | d::cs,vs,i+1,c,v,h,hc=>by
  simp only[bv] at h
  obtain⟨u,r,rfl,h1,h2⟩:=h
  simp only[ag4,bv]
  exact⟨u,r.set i v,rfl,h1,bv.set i h2 hc⟩
theorem bv.erase{m:Mem}:∀ {cs:List C} {vs:List Value} (i:Nat),bv m cs vs->bv m (cs.eraseIdx i) (vs.eraseIdx i)
 | [],vs,i,h=>by simp only[bv] at h;subst h;simp[bv]
 | d::cs,vs,0,h=>by
  simp only[bv] at h
  obtain⟨u,r,rfl,_,h2⟩:=h
  simpa using h2
 | d::cs,vs,i+1,h=>by
  simp only[bv] at h
  obtain⟨u,r,rfl,h1,h2⟩:=h
  simp only[List.eraseIdx_cons_succ,bv]
  exact⟨u,r.eraseIdx i,rfl,h1,bv.erase i h2⟩
theorem ajT{α β:Type}(f:α->β):∀ (l:List α) (i:Nat),(l.eraseIdx i).map f=(l.map f).eraseIdx i
 | [],_=>by simp
 | a::l,0=>by simp
 | a::l,i+1=>by simp[ajT f l i]
theorem ayX(kind:TypeDesc)(k:Value):∀ (es:List (Value×C)) (i j:Nat),aff kind k es i=some (some j)->i<=j/\∃ p,es[j-i]?=some p/\Instr.sameNow kind k p.1=some true
 | [],i,j,h=>by simp[aff] at h
 | e::es,i,j,h=>by
  simp only[aff] at h
  split at h
  .rename_i hsn
   simp only[ab] at h
   subst h
   exact⟨ae _,e,by simp,hsn⟩
  .obtain⟨h1,p,h2,h3⟩:=ayX kind k es (i+1) j h
   refine⟨by omega,p,?_,h3⟩
   obtain⟨q,rfl⟩ : ∃ q,j=i+1+q:=⟨j-(i+1),by omega⟩
   have e1:i+1+q-i=q+1:=by omega
   have e2:i+1+q-(i+1)=q:=by omega
   rw[e1]
   rw[e2] at h2
   simpa using h2
  .cases h
theorem avM{kind:TypeDesc}{a b:Value}(h:Instr.sameNow kind a b=some true):b=a/\(Instr.keyThatStays b a).run P w=.ok a w:=by
 unfold Instr.sameNow at h
 split at h
 .rename_i kk a k' b
  split at h
  .rename_i hk
   simp only[ab,dw] at h
   subst hk;subst h
   exact⟨rfl,by simp[Instr.keyThatStays,Instr.sameBits]⟩
  .cases h
 .rename_i a b
  simp only[ab] at h
  have:a=b:=(MapKept.bytes_beq a b).1 h
  subst this
  exact⟨rfl,by simp[Instr.keyThatStays,Instr.sameBits,h]⟩
 .rename_i a b
  simp only[ab,dw] at h
  subst h
  exact⟨rfl,by simp[Instr.keyThatStays,Instr.sameBits]⟩
 .cases h
theorem alx(hs:Sim M0 k ow done w0 w N s tmps){t et r:Nat}{kind:TypeDesc}{kv vm vk vx:Value}{c:C}{es es':List (Value×C)}(hty:ahf (TT.of P) t=some (kind,et))(hm:aF k ow (.mp r) vm)(hk:vk=kv)(hc:Rep k.m c vx)
  (hr:s.objs[r]?=some (.map es)) (hput:anf kind kv c es=some es'):∃ w',(Instr.mapUpdate t vm vk vx).run P w=.ok () w'/\Sim M0 k ow done w0 w' N {s with objs:=s.objs.set r (Ob.map es')} tmps:=by
 subst hk
 obtain⟨d,kt,d',hT,hu,hT',hu',hkk⟩:=aoz hty
 have r1:=(TT.of_ok hT).run_und w
 have r2:=(TT.of_ok hT').run_und w
 rw[hu] at r1
 rw[hu'] at r2
 simp only[aF] at hm
 obtain⟨b,hb,rfl⟩:=hm
 obtain⟨b',g1,_,g3,_,ms,cl,hh,hk1,hk2⟩:=hs.obj r _ hr
 obtain rfl:b=b':=ay (hb.symm.trans g1)
 have hrl:r<s.objs.length:=hs.dom r b hb
 unfold anf at hput
 split at hput
 .rename_i i hfind
  simp only[ab] at hput
  subst hput
  obtain⟨f1,_⟩:=afg kind vk ms.toList es 0 _ hk1 hfind
  obtain⟨_,e',he,hnow⟩:=f1 i rfl
  obtain⟨_,p,hp,hsn⟩:=ayX kind vk es 0 i hfind
  simp only[ae9] at he hp
  have hke:e'.key=p.1:=by
   have:=congrArg (λl=>l[i]?) hk1
   simp only[bo,he,hp,aG,ab] at this
   exact this
  obtain⟨hpk,hst⟩:=avM (P:=P) (w:=w) hsn
  have he2:ms[i]?=some e':=by simpa using he
  refine⟨_,?_,hs.setMap (ms':=ms.modify i λe=>{e with key:=vk,val:=vx}) (cl':=cl) hb hh hrl (λ_=>akw hr λ_ _ e=>by cases e) ?_ ?_⟩
  .simp only[Instr.mapUpdate,Sem.run_bind,r1,Result.andThen_ok,MapKept.run_getObj_map hh,aeC r2 hkk]
   rw[ag0 r2 hnow]
   simp only[Result.andThen_ok,he2,aG,abw,Sem.run_bind]
   rw[hke,hst]
   simp only[Result.andThen_ok]
   exact MapKept.run_setObj_map _ hh
  .rw[Array.toList_modify]
   apply ab1
   intro j
   have:=congrArg (λl=>l[j]?) hk1
   simp only[bo] at this
   simp only[bo,List.getElem?_modify,List.getElem?_set]
   by_cases hij:i=j
   .subst hij
    have hlt:i<es.length:=(List.getElem?_eq_some_iff.1 hp).1
    simp[he2,hlt]
   .simp[hij]
    simpa using this
  .rw[Array.toList_modify]
   have e1:(es.set i (vk,c)).map (·.2)=(es.map (·.2)).set i c:=by rw[List.map_set]
   have e2:(ms.toList.modify i λe=>{e with key:=vk,val:=vx}).map (·.val)=(ms.toList.map (·.val)).set i vx:=by
    apply ab1
    intro j
    simp only[bo,List.getElem?_modify,List.getElem?_set]
    by_cases hij:i=j
    .subst hij
     have hlt:i<ms.toList.length:=(List.getElem?_eq_some_iff.1 he).1
     have hlt':i<ms.size:=by simpa using hlt
     simp[hlt']
    .simp[hij]
   rw[e1,e2]
   exact hk2.set i hc
 .rename_i hfind
  simp only[ab] at hput
  subst hput
  obtain⟨_,f2⟩:=afg kind vk ms.toList es 0 _ hk1 hfind
  refine⟨_,?_,hs.setMap (ms':=ms.push {key:=vk,val:=vx,born:=cl}) (cl':=cl+1) hb hh hrl (λ_=>akw hr λ_ _ e=>by cases e) ?_ ?_⟩
  .simp only[Instr.mapUpdate,Sem.run_bind,r1,Result.andThen_ok,MapKept.run_getObj_map hh,aeC r2 hkk]
   rw[ag0 r2 (f2 rfl)]
   simp only[Result.andThen_ok]
   exact MapKept.run_setObj_map _ hh
  .simp only[Array.toList_push,cm,hk1]
   rfl
  .simp only[Array.toList_push,cm]
   exact hk2.append (by simp[bv,hc])
 .cases hput
theorem azc(hs:Sim M0 k ow done w0 w N s tmps){t t2 et r ty:Nat}{kind:TypeDesc}{kv vm vk:Value}{es es':List (Value×C)}(hty:ahf (TT.of P) t=some (kind,et))(hm:aF k ow (.mp r) vm)(hk:vk=kv)
  (hr:s.objs[r]?=some (.map es)) (hput:aOh kind kv es=some es'):∃ w',(Builtin.delete_ #[t,t2] ty #[vm,vk]).run P w=.ok (.tuple #[]) w'/\Sim M0 k ow done w0 w' N {s with objs:=s.objs.set r (Ob.map es')} tmps:=by
 subst hk
 obtain⟨d,kt,d',hT,hu,hT',hu',hkk⟩:=aoz hty
 have r1:=(TT.of_ok hT).run_und w
 have r2:=(TT.of_ok hT').run_und w
 rw[hu] at r1
 rw[hu'] at r2
 simp only[aF] at hm
 obtain⟨b,hb,rfl⟩:=hm
 obtain⟨b',g1,_,g3,_,ms,cl,hh,hk1,hk2⟩:=hs.obj r _ hr
 obtain rfl:b=b':=ay (hb.symm.trans g1)
 have hrl:r<s.objs.length:=hs.dom r b hb
 unfold aOh at hput
 split at hput
 .rename_i i hfind
  simp only[ab] at hput
  subst hput
  obtain⟨f1,_⟩:=afg kind vk ms.toList es 0 _ hk1 hfind
  obtain⟨_,e',he,hnow⟩:=f1 i rfl
  simp only[ae9] at he
  have hlt:i<ms.size:=by simpa using (List.getElem?_eq_some_iff.1 he).1
  refine⟨_,?_,hs.setMap (ms':=ms.eraseIdxIfInBounds i) (cl':=cl) hb hh hrl (λ_=>akw hr λ_ _ e=>by cases e) ?_ ?_⟩
  .simp only[Builtin.delete_,adt,dq,eY,Sem.run_bind,r1,Result.andThen_ok,MapKept.run_getObj_map hh,aeC r2 hkk]
   rw[ag0 r2 hnow]
   simp only[Result.andThen_ok]
   rw[Sem.run_bind,MapKept.run_setObj_map _ hh]
   rfl
  .simp only[Array.eraseIdxIfInBounds,hlt,ajf,Array.toList_eraseIdx,ajT,hk1]
  .simp only[Array.eraseIdxIfInBounds,hlt,ajf,Array.toList_eraseIdx,ajT]
   exact hk2.erase i
 .rename_i hfind
  simp only[ab] at hput
  subst hput
  obtain⟨_,f2⟩:=afg kind vk ms.toList es 0 _ hk1 hfind
  refine⟨_,?_,hs.setMap (ms':=ms) (cl':=cl) hb hh hrl (λ_=>akw hr λ_ _ e=>by cases e) hk1 hk2⟩
  .simp only[Builtin.delete_,adt,dq,eY,Sem.run_bind,r1,Result.andThen_ok,MapKept.run_getObj_map hh,aeC r2 hkk]
   rw[ag0 r2 (f2 rfl)]
   simp only[Result.andThen_ok]
   rw[Sem.run_bind,MapKept.run_setObj_map _ hh]
   rfl
 .cases hput
theorem atM{α:Type}[DecidableEq α]:∀ (l seen:List α) (a:α),a∈nub l seen->a∈l\/a∈seen
 | [],seen,a,h=>.inr h
 | b::l,seen,a,h=>by
  unfold nub at h
  split at h
  .exact (atM l seen a h).imp (λh=>eX _ h) id
  .rcases atM l _ a h with h|h
   .exact .inl (eX _ h)
   .rcases bt.1 h with h|h
    .exact .inr h
    .exact .inl (by rw[cn.1 h];simp)
theorem ar0{objs:List Ob}:∀ l:List Nat,agF objs l=true->∀ r∈l,Liv objs r
 | [],_,r,hr=>by cases hr
 | a::l,h,r,hr=>by
  simp only[agF,ap] at h
  rcases bp.1 hr with rfl|hr
  .cases ho:objs[r]? with
   | none=>rw[ho] at h;cases h.1
   | some ob=>rw[ho] at h;exact⟨ob,ho,h.1⟩
  .exact ar0 l h.2 r hr
theorem aBj(hs:Sim M0 k ow done w0 w N s tmps){E:En}(horc:EnSound P M0.G E){ix:Nat}(hd:¬ done ix){d:Option Nat}(hdst:∀ j,d=some j->j<N){f:Nat}{us:List X}{vs:List Value}{e:Option X}{s':S}
  (hus:aR k ow us vs) (h:callS P E s ix d f us=some (e,s')):ew P f=true/\Calls P f vs.toArray w λen w'=>∃ k' ow',k.le k' /\
   ((e=none/\∃ v,en=.returned v/\Sim M0 k' ow' (λj=>done j\/j=ix) w0 w' N s' (Act.put ⟨tmps,ds⟩ d v).tmps) \/
    (∃ x v,e=some x/\en=.panicked [{v:=v,recovered:=false}]/\aF k' ow' x v/\Sim M0 k' ow' (λj=>done j\/j=ix) w0 w' N s' tmps)):=by
 unfold callS at h
 split at h
 rotate_left
 .cases h
 rename_i hc
 refine⟨hc,?_⟩
 simp only at h
 split at h
 rotate_left
 .cases h
 rename_i obs hobs
 split at h
 rotate_left
 .cases h
 rename_i an hor
 have hlv:agF s.objs (dW s.objs 999 (X.refsL us) [])=true:=by
  cases hb:agF s.objs (dW s.objs 999 (X.refsL us) []) with
  | true=>rfl
  | false=>rw[hb] at hobs;cases hobs
 rw[hlv] at hobs
 simp only[akJ] at hobs
 have hnd1:=ajb s.objs 999 (X.refsL us) [] ab0
 have hnd2:(if E.tk f=true then nub (X.toksL us) [] else []).Nodup:=by
  split
  .exact alv _ _ ab0
  .exact ab0
 have hnd3:∀ t∈(if E.tk f=true then nub (X.toksL us) [] else []),∀ v e z n,ow t=some (v,e,z,n)->∀ g,v.ownBlock=some g->∀ r,k.μ r=some g->¬ Liv s.objs r:=by
  split
  .intro t ht;exact hs.toHp.toksL_dead us vs hus t (by rcases atM _ _ _ ht with h|h;exact h;cases h)
  .intro t ht;cases ht
 refine (avo hs hnd1 hnd2 hnd3 (ar0 _ hlv) hobs (horc.orc _ _ _ _ hor) hc (aR.tr axQ _ _ hus) hd).mono λen w' ⟨us',kn,own,h1,h2,h3,h4,h5⟩=>?_
 refine⟨kn,own,h2,?_⟩
 unfold af3 at h
 simp only at h
 rw[am h3] at h
 obtain⟨pan,rs,obs'⟩:=an
 cases pan with
 | true =>
  simp only[ahb] at h1
  obtain⟨u,rfl,rfl⟩:=h1
  match rs,h,h5 with
  | [x],h,h5 =>
   simp only[bF] at h
   obtain⟨rfl,rfl⟩:=h
   simp only[X.trs,aR] at h5
   obtain⟨v,r,hv,hx,rfl⟩:=h5
   cases hv
   exact .inr ⟨_,_,rfl,rfl,hx,h4⟩
  | [],h,_=>cases h
  | _::_::_,h,_=>cases h
 | false =>
  simp only[ahb] at h1
  subst h1
  simp only[bF] at h
  obtain⟨rfl,rfl⟩:=h
  exact .inl ⟨rfl,_,rfl,h4.put d hdst (ax5 h5)⟩
theorem aqY(hs:Sim M0 k ow done w0 w N s tmps)(l:List Operand){caps:List X}{cvs:List Value}(hc:aR k ow caps cvs):aR k ow (l.map s.ev++caps) ((l.map λx=>(⟨tmps,ds⟩ : Act).eval x)++cvs):=(aC0 hs l).append hc
theorem ait{o:Oper}(h:acj N o=true)(j:Nat)(hj:o.dst=some j):j<N:=by
 unfold acj at h
 rw[ap,hj] at h
 simpa using h.1
theorem ad2{o:Oper}(h:cU o.op=false):dF o=o.dst:=by
 unfold dF
 split
 .rename_i e _;rw[e] at h;cases h
 .rfl
theorem aHC(hs:Sim M0 k ow done w0 w N s tmps){E:En}{ix:Nat}(hd:¬ done ix){o:Oper}{e:Option X}{s':S}(hst:cU o.op=true)
  (h:fh P (TT.of P) E s ix o=some (e,s')) {K:Act->World->Prop} {Q:Exit->Act->World->Prop}
  (hK:e=none->∀ tmps' w' k' ow',k.le k'->Sim M0 k' ow' (λj=>done j\/j=ix) w0 w' N s' tmps'->K ⟨tmps',ds⟩ w'):o.wp P ⟨tmps,ds⟩ w K Q:=by
 unfold cU at hst
 split at hst
 rotate_left
 .cases hst
 rename_i t a x ho
 unfold fh at h
 split at h
 rotate_left
 .cases h
 rename_i y tk hv
 split at h
 rotate_left
 .cases h
 rename_i hok
 simp only[bF] at h
 obtain⟨rfl,rfl⟩:=h
 cases a with
 | const v=>unfold val at hv;rw[ho] at hv;cases hv
 | func f=>unfold val at hv;rw[ho] at hv;cases hv
 | global g=>unfold val at hv;rw[ho] at hv;cases hv
 | tmp d =>
  unfold val at hv
  rw[ho] at hv
  simp only at hv
  split at hv
  rotate_left
  .cases hv
  rename_i td tk' ty z cs hT hf hx hg hdn
  split at hv
  rotate_left
  .cases hv
  rename_i hc
  obtain⟨rfl,hz,hl⟩:=hc
  simp only[bF] at hv
  obtain⟨rfl,rfl⟩:=hv
  have hE:dF o=some d:=by unfold dF;rw[ho,hg]
  obtain⟨w',k',ow',hrun,g1,g2⟩:=aZe (P:=P) hs hd ho hT hz hf (akL hok) hx hl
  unfold Oper.wp
  rw[hrun]
  simp only[Oper.upon]
  rw[hdn]
  exact hK rfl tmps w' k' ow' g1 (by rw[hE];exact g2)
theorem afz(hs:Sim M0 k ow done w0 w N s tmps){E:En}(horc:EnSound P M0.G E){ix:Nat}(hd:¬ done ix){o:Oper}{e:Option X}{s':S}(hdst:acj N o=true)
  (h:fh P (TT.of P) E s ix o=some (e,s')) {K:Act->World->Prop} {Q:Exit->Act->World->Prop}
  (hK:e=none->∀ tmps' w' k' ow',k.le k'->Sim M0 k' ow' (λj=>done j\/j=ix) w0 w' N s' tmps'->K ⟨tmps',ds⟩ w'):o.wp P ⟨tmps,ds⟩ w K Q:=by
 have hdst':=ait hdst
 have hput:∀ u,(⟨tmps,ds⟩ : Act).put o.dst u=⟨((⟨tmps,ds⟩ : Act).put o.dst u).tmps,ds⟩:=λu=>by
  cases o.dst <;> rfl
 cases hst:cU o.op with
 | true=>exact aHC hs hd hst h hK
 | false =>
 unfold fh at h
 split at h
 .rename_i x t hv
  split at h
  .rename_i hok
   simp only[bF] at h
   obtain⟨rfl,rfl⟩:=h
   refine aHc hs horc.orc hd hst hv (λt' e'=>by subst e';exact akL hok) λu w' k' ow' g1 g2 g3=>?_
   rw[hput]
   rw[ad2 hst] at hK
   exact hK rfl _ _ k' ow' g1 (g2.put o.dst hdst' g3)
  .cases h
 .cases h
theorem Sim.kill(h:Sim M0 k ow done w0 w N s tmps)(e r:Nat):Sim M0 k ow done w0 w N {s with objs:=s.objs.set r (.row e [])} tmps :=
 have old:∀ r',Liv (s.objs.set r (.row e [])) r'->r'≠r/\Liv s.objs r':=λr' ⟨ob,h1,h2⟩=>by
  by_cases e1:r'=r
  .subst e1
   have hlt:r'<s.objs.length:=by have:=(List.getElem?_eq_some_iff.1 h1).1;simpa using this
   rw[da hlt] at h1
   obtain rfl:=ay h1
   cases h2
  .exact⟨e1,atS e1 ⟨ob,h1,h2⟩⟩
 {good:=h.good
  size:=h.size
  below:=h.below
  fr:=h.fr
  mem:=h.mem
  obj:=λr' ob hr=>by
   by_cases e1:r'=r
   .subst e1
    have hlt:r'<s.objs.length:=by have:=(List.getElem?_eq_some_iff.1 hr).1;simpa using this
    rw[da hlt] at hr
    obtain rfl:=ay hr
    obtain⟨b,g1,g2,g3,_,_⟩:=h.obj r' _ (aM hlt)
    exact⟨b,g1,g2,g3,λhl=>(by cases hl),.inl rfl⟩
   .rw[eu (bn e1)] at hr
    exact h.obj r' ob hr
  dom:=λr' b hr=>by simpa using h.dom r' b hr
  inj:=λr1 r2 b h1 h2 hl1 hl2=>h.inj r1 r2 b h1 h2 (old r1 hl1).2 (old r2 hl2).2
  tok:=λt v e' z n ht=>by
   obtain⟨g1,g2⟩:=h.tok t v e' z n ht
   refine⟨g1,λg hg=>⟨(g2 g hg).1,(g2 g hg).2.1,λr' hr=>⟨?_,λhl=>((g2 g hg).2.2 r' hr).2 (old r' hl).2⟩⟩⟩
   by_cases e1:r'=r
   .subst e1
    exact⟨e,[],da (h.dom r' g hr),aO _⟩
   .exact aol e1 ((g2 g hg).2.2 r' hr).1
  tokne:=h.tokne
  fresh:=h.fresh
  cells:=λr' off p ht=>by simpa using h.cells r' off p ht
  m0:=h.m0}
theorem Sim.pop(hs:Sim M0 k ow done w0 w N s tmps){r e z ty c ix i:Nat}{v:Value}{a:C}{cs:List C}(hx:aF k ow (.top r e z) v)(ho:s.objs[r]?=some (.row ty (a::cs)))(ht:ow (.nm c ix i)=none)(hf:c<s.clk\/(c=s.clk/\done ix)) :
  ∃ b cap,v=.slice (some ⟨b,0,none⟩) 1 cap/\1<=cap/\∃ ow',Sim M0 k ow' done w0 w N {s.tr (afX r) with objs:=((s.tr (afX r)).objs).set r (.row e [])} tmps /\
   aF k ow' (.own (.nm c ix i) e z [] 0) (.slice (some ⟨b,0,none⟩) 0 cap):=by
 simp only[aF] at hx
 obtain⟨hk,b,cap,hb,rfl⟩:=hx
 have hlr:Liv s.objs r:=⟨_,ho,rfl⟩
 obtain⟨⟨xs,hown⟩,htok⟩:=hs.tok _ _ _ _ _ hk
 obtain⟨q1,_,_⟩:=htok b rfl
 have hnone:=(hs.toHp.lt hb).2.2 hlr
 rcases hown.2 with ⟨h0,_⟩|⟨g,cap',cur,hv,_,hh,hcap,hcm,hsz,_⟩
 .cases h0
 simp only[Value.slice.injEq,ab,Addr.mk.injEq] at hv
 obtain⟨⟨rfl,_,_⟩,_,rfl⟩:=hv
 have htr:Sim M0 k (ow.del (abQ r)) done w0 w N (s.tr (afX r)) tmps:=hs.tr ⟨λt p t' h1 h2=>by
   unfold afX at h2
   split at h2
   .cases h2
   .rename_i hne
    obtain rfl:=ay h2
    simp only[Own.del,hne,av];exact h1,λt' p h1=>by
   simp only[Own.del] at h1
   split at h1
   .cases h1
   .rename_i hne
    exact⟨t',h1,by simp only[afX,hne,av]⟩⟩ (λr' _ _ _ _ _ t' _ _ _ _ h=>by
   unfold afX at h
   split at h
   .cases h
   .exact (ay h).symm) (λt p h=>by
   simp only[Own.del] at h
   split at h
   .cases h
   .exact hs.fresh t p h) (λr' off p h=>by
   simp only[Own.del] at h
   split at h
   .cases h
   .exact hs.cells r' off p h)
 refine⟨b,cap,rfl,hcap,_,(htr.kill e r).add (v:=.slice (some ⟨b,0,none⟩) 0 cap) (e:=e) (z:=z) (n:=0) (xs:=[]) (c:=c) (ix:=ix) (i:=i) ?_ ⟨by simp,.inr ⟨b,cap,cur,rfl,aO _,hh,aO _,hcm,hsz,by simp⟩⟩ ?_ ?_ hf,?_⟩
 .simp only[Own.del];split;rfl;exact ht
 .intro g hg
  simp only[Value.ownBlock,ab] at hg
  subst hg
  refine⟨q1,λo _=>hnone o,λr' hr'=>?_⟩
  by_cases e1:r'=r
  .subst e1
   exact⟨e,[],da (by simpa [S.tr] using hs.dom r' _ hr'),aO _⟩
  .exact aol e1 (agb (λ_ _=>rfl) (azf (hs.dom r' _ hr') λhl=>e1 (hs.inj r' r _ hr' hb hl hlr)))
 .intro t' v' e' z' n' h' g hg hg'
  simp only[Value.ownBlock,ab] at hg
  subst hg
  simp only[Own.del] at h'
  split at h'
  .cases h'
  .rename_i hne
   exact hs.tokne (abQ r) t' _ _ _ _ _ _ _ _ hk h' (bn hne) b rfl hg'
 .simp only[aF,Rep]
  exact⟨by simp[Own.add],by simp,some ⟨b,0,none⟩,cap,[],rfl,aO _,by simp[bv],λh=>absurd rfl h⟩
theorem aEb(hs:Sim M0 k ow done w0 w N s tmps){E:En}(horc:EnSound P M0.G E){dr:Bool}{ix:Nat}(hd:¬ done ix){o:Oper}{e:Option X}{s':S}(hdst:acj N o=true)
  (h:abm P (TT.of P) E dr s ix o=some (e,s')) {K:Act->World->Prop} {Q:Exit->Act->World->Prop}
  (hK:e=none->∀ tmps' w' k' ow',k.le k'->Sim M0 k' ow' (λj=>done j\/j=ix) w0 w' N s' tmps'->K ⟨tmps',ds⟩ w')
  (hP:∀ x,e=some x->∀ v w' k' ow',k.le k'->Sim M0 k' ow' (λj=>done j\/j=ix) w0 w' N s' tmps->aF k' ow' x v->Q (.panic [{v:=v,recovered:=false}]) ⟨tmps,ds⟩ w'):o.wp P ⟨tmps,ds⟩ w K Q:=by
 have hdst':=ait hdst
 have hput:∀ u,(⟨tmps,ds⟩ : Act).put o.dst u=⟨((⟨tmps,ds⟩ : Act).put o.dst u).tmps,ds⟩:=λu=>by
  cases o.dst <;> rfl
 have hs1:=hs.more (done':=λj=>done j\/j=ix) (λ_ h=>.inl h)
 unfold abm at h
 split at h
 .exact afz hs horc hd hdst h hK
 split at h
 .-- alloc
  rename_i t ho
  split at h
  rotate_left
  .exact afz hs horc hd hdst h hK
  split at h
  .rename_i d hT
   simp only[bF] at h
   obtain⟨rfl,rfl⟩:=h
   have ok:=TT.of_ok hT
   obtain⟨z,hz,hz2⟩:=ok.run_zero w
   obtain⟨k',g1,g2,g3⟩:=hs1.newVar (xs:=fw d) (vs:=d.zero) t (ahD d.zero) ok.one
   obtain⟨ow',g4⟩:=g3.lay (r:=s.objs.length) (off:=0) (xs:=fw d) (ys:=[]) aT (ahD d.zero)
   refine ada (u:=.pointer (some ⟨w.heap.size,0,none⟩)) (w':=w.alloc (.cells d.zero.toArray t)) ?_ ?_
   .simp[execOp,ho,Instr.alloc,hz,newVar,newRow,← hz2]
   .rw[hput]
    exact hK rfl _ _ k' ow' g1 (g4.put o.dst hdst' (by simp only[aF];exact⟨_,g2,rfl⟩))
  .cases h
 .-- box
  rename_i t x ho
  split at h
  rotate_left
  .-- for good
   split at h
   rotate_left
   .cases h
   rename_i d cs hT hx
   split at h
   rotate_left
   .cases h
   rename_i hc
   obtain⟨hl,hz⟩:=hc
   simp only[bF] at h
   obtain⟨rfl,rfl⟩:=h
   unfold eA at hx
   simp only[bD] at hx
   obtain⟨xs,hx,hrd⟩:=hx
   obtain⟨hr,h1⟩:=ae3 hx (Sim.ev (ds:=ds) hs x)
   have hcl:=akH _ _ _ hrd hr
   have hlen:=hcl.length
   have hown:(w.alloc (.cells ((⟨tmps,ds⟩ : Act).eval x).cells.toList.toArray t)).ownsRow 0 t d.size (.slice (some ⟨w.heap.size,0,none⟩) 1 1) 1 ((⟨tmps,ds⟩ : Act).eval x).cells.toList :=
    ⟨by omega,.inr ⟨w.heap.size,1,_,rfl,aO _,heap_alloc_new w _,ae _,by simp[maxLen],by simp only[dG];omega,by rw[abB];exact aaW aC⟩⟩
   obtain⟨k',g1,g2,g3⟩:=hs1.row (row:=none) (cs:=cs) (c:=s.clk) (ix:=ix) (i:=0) (λg hg=>by cases hg) (World.grownBy_alloc w _ none) hown (.inr ⟨rfl,rfl⟩) hcl h1 (hs.new hd) (.inr ⟨rfl,.inr rfl⟩)
   refine ada (u:=.pointer (some ⟨w.heap.size,0,none⟩)) (w':=w.alloc (.cells ((⟨tmps,ds⟩ : Act).eval x).cells.toList.toArray t)) ?_ ?_
   .simp[execOp,ho,Instr.box,newVar,newRow]
   .rw[hput]
    refine hK rfl _ _ k' _ g1 (g2.put o.dst hdst' ?_)
    simp only[aF,Rep] at g3
    obtain⟨_,_,a,cap,vs,h5,_,h6,h7⟩:=g3
    simp only[Value.slice.injEq] at h5
    obtain⟨rfl,_,rfl⟩:=h5
    simp only[aF,Rep]
    by_cases hne:vs=[]
    .subst hne
     exact⟨w.heap.size,0,[],rfl,h6,λi u hu=>by simp at hu⟩
    .obtain⟨b',o',h8,h9⟩:=h7 hne
     simp only[ab,Addr.mk.injEq] at h8
     obtain⟨rfl,rfl,_⟩:=h8
     exact⟨_,_,vs,rfl,h6,h9⟩
  split at h
  .rename_i d xs hT hx
   split at h
   .simp only[bF] at h
    obtain⟨rfl,rfl⟩:=h
    obtain⟨hl,h1⟩:=ae3 hx (Sim.ev (ds:=ds) hs x)
    obtain⟨k',g1,g2,g3⟩:=hs1.newVar t hl h1
    obtain⟨ow',g4⟩:=g3.lay (r:=s.objs.length) (off:=0) (xs:=xs) (ys:=[]) aT (aR.mono g1 (λ_ _ h=>h) _ _ hl)
    refine ada (u:=.pointer (some ⟨w.heap.size,0,none⟩)) (w':=w.alloc (.cells ((⟨tmps,ds⟩ : Act).eval x).cells.toList.toArray t)) ?_ ?_
    .simp[execOp,ho,Instr.box,newVar,newRow]
    .rw[hput]
     exact hK rfl _ _ k' ow' g1 (g4.put o.dst hdst' (by simp only[aF];exact⟨_,g2,rfl⟩))
   .cases h
  .cases h
 .-- store
  rename_i t a x ho
  split at h
  .-- a variable's new block
   rename_i tk ty z hnw
   split at h
   rotate_left
   .exact afz hs horc hd hdst h hK
   split at h
   rotate_left
   .cases h
   rename_i d xs j hT hx hE
   split at h
   rotate_left
   .cases h
   rename_i hc
   obtain⟨rfl,hz,hl,hok,hdn⟩:=hc
   simp only[bF] at h
   obtain⟨rfl,rfl⟩:=h
   cases a with
   | const v =>
    exfalso
    simp only[S.ev] at hnw
    unfold abv at hnw
    split at hnw <;> cases hnw
   | func f=>cases hnw
   | global g=>cases hnw
   | tmp d' =>
    obtain rfl:d'=j:=by
     unfold dF at hE
     rw[ho] at hE
     cases hg:o.guard with
     | none=>rw[hg] at hE;exact ay hE
     | some g=>rw[hg,hdn] at hE;cases hE
    obtain⟨b,hv,hk,hr,h1,⟨cur,hh,hcz⟩,hrun⟩:=ayd (P:=P) (ds:=ds) hs hd ho hT hz hnw hx hl
    obtain⟨k',g1,g2⟩:=hs1.made (akL hok) hk hv hr h1 hh
    unfold Oper.wp
    rw[hrun]
    simp only[Oper.upon]
    rw[hdn]
    exact hK rfl tmps _ k' _ g1 g2
  split at h
  .rename_i d r off xs hT ha hx
   simp only[ar,aX] at h
   obtain⟨s2,h,rfl,rfl⟩:=h
   unfold af9 at h
   split at h
   .rename_i ty ys hr
    split at h
    .rename_i hc
     simp only[ab] at h
     subst h
     obtain⟨hl,h1⟩:=ae3 hx (Sim.ev (ds:=ds) hs x)
     have hav:=Sim.ev (ds:=ds) hs a
     rw[ha] at hav
     simp only[aF] at hav
     obtain⟨b,hb,hav⟩:=hav
     obtain⟨b',g1,g2,g3,g4,vs,hh,hone,hvs⟩:=hs.obj r _ hr
     obtain rfl:b=b':=ay (hb.symm.trans g1)
     have hrl:r<s.objs.length:=hs.dom r b hb
     have ok:=TT.of_ok hT
     have hlen:=hl.length
     have hvl:=hvs.length
     have hfit:off+0+((⟨tmps,ds⟩ : Act).eval x).cells.toList.length<=vs.toArray.size:=by
      simp only[dG]
      omega
     have hrun:=run_storeCells_at P b off ty ((⟨tmps,ds⟩ : Act).eval x).cells.toList 0 vs.toArray w hh hfit h1
     have hsz:((⟨tmps,ds⟩ : Act).eval x).cells.size=d.size:=by
      have:((⟨tmps,ds⟩ : Act).eval x).cells.toList.length=d.size:=by omega
      simpa using this
     have hset:=hs1.setVar (ys:=ys.take off++xs++ys.drop (off+xs.length)) (vs:=vs.take off++((⟨tmps,ds⟩ : Act).eval x).cells.toList++vs.drop (off+xs.length)) hb hh hrl (λ_=>akw hr λ_ _ e=>by cases e)
      (((hvs.takeN off).append hl).append (hvs.dropN _))
      (λu hu=>by
       simp only[bt] at hu
       rcases hu with (hu|hu)|hu
       .exact hone u (acg hu)
       .exact h1 u hu
       .exact hone u (dP hu))
     have hrun2:(execOp (⟨tmps,ds⟩ : Act).eval o).run P w=.ok .skip (w.setRow b (vs.take off++((⟨tmps,ds⟩ : Act).eval x).cells.toList++vs.drop (off+xs.length)).toArray):=by
      simp only[aao,hlen] at hrun
      simp[execOp,ho,Instr.storeAt,hav,Instr.sureAddr,storeVar,ok.run_size,hsz,hrun]
     unfold Oper.wp
     rw[hrun2]
     simp only[Oper.upon]
     rw[hput]
     obtain⟨ow',g4⟩:=hset.lay (r:=r) (off:=off) (xs:=xs) (ys:=(ys.drop off).take xs.length) (by simpa using hrl) hl
     exact hK rfl _ _ k ow' (Know.le_refl k) (g4.put o.dst hdst' (by simp[aF,Rep]))
    .cases h
   .cases h
  .cases h
 .-- makeMap
  rename_i t ho
  simp only[bF] at h
  obtain⟨rfl,rfl⟩:=h
  obtain⟨k',g1,g2,g3⟩:=hs1.newOb (ob:=Ob.map []) (.map #[] 0) (λk' w' _ hh=>⟨#[],0,hh,rfl,by simp[bv]⟩)
  refine ada (u:=.map (some w.heap.size)) (w':=w.alloc (.map #[] 0)) ?_ ?_
  .simp[execOp,ho,Instr.makeMap]
  .rw[hput]
   exact hK rfl _ _ k' ow g1 (g3.put o.dst hdst' (by simp only[aF];exact⟨_,g2,rfl⟩))
 .-- mapUpdate
  rename_i t m kx x ho
  split at h
  .rename_i kind et r kv c hty hm hlit hrd
   split at h
   .rename_i es hr
    split at h
    .rename_i es' hp
     simp only[bF] at h
     obtain⟨rfl,rfl⟩:=h
     have hmv:=Sim.ev (ds:=ds) hs m
     rw[hm] at hmv
     obtain⟨w',g1,g2⟩:=alx (P:=P) hs1 hty hmv (ahO hlit (Sim.ev (ds:=ds) hs kx)) (agB _ _ _ hrd (Sim.ev (ds:=ds) hs x)) hr hp
     have hrun2:(execOp (⟨tmps,ds⟩ : Act).eval o).run P w=.ok .skip w':=by simp[execOp,ho,g1]
     unfold Oper.wp
     rw[hrun2]
     simp only[Oper.upon]
     rw[hput]
     exact hK rfl _ _ k ow (Know.le_refl k) (g2.put o.dst hdst' (by simp[aF,Rep]))
    .cases h
   .cases h
  .cases h
 .-- insert
  rename_i t m kx x ho
  split at h
  .rename_i kind et r kv c hty hm hlit hrd
   split at h
   .rename_i es hr
    split at h
    .rename_i es' hp
     simp only[bF] at h
     obtain⟨rfl,rfl⟩:=h
     have hmv:=Sim.ev (ds:=ds) hs m
     rw[hm] at hmv
     obtain⟨w',g1,g2⟩:=alx (P:=P) hs1 hty hmv (ahO hlit (Sim.ev (ds:=ds) hs kx)) (agB _ _ _ hrd (Sim.ev (ds:=ds) hs x)) hr hp
     have hrun2:(execOp (⟨tmps,ds⟩ : Act).eval o).run P w=.ok .skip w':=by simp[execOp,ho,g1]
     unfold Oper.wp
     rw[hrun2]
     simp only[Oper.upon]
     rw[hput]
     exact hK rfl _ _ k ow (Know.le_refl k) (g2.put o.dst hdst' (by simp[aF,Rep]))
    .cases h
   .cases h
  .cases h
 .-- delete
  rename_i args tys ho
  split at h
  .rename_i m kx t t2 hargs htys
   split at h
   .rename_i kind et r kv hty hm hlit
    split at h
    .rename_i es hr
     split at h
     .rename_i es' hp
      simp only[bF] at h
      obtain⟨rfl,rfl⟩:=h
      have hmv:=Sim.ev (ds:=ds) hs m
      rw[hm] at hmv
      obtain⟨w',g1,g2⟩:=azc (P:=P) (t2:=t2) (ty:=o.type) hs1 hty hmv (ahO hlit (Sim.ev (ds:=ds) hs kx)) hr hp
      have ha:args=#[m,kx]:=by rw[← cM (xs:=args),hargs]
      have ht:tys=#[t,t2]:=by rw[← cM (xs:=tys),htys]
      subst ha;subst ht
      refine ada (u:=.tuple #[]) (w':=w') (by simp[execOp,ho,resolve,invoke,builtin,g1]) ?_
      rw[hput]
      exact hK rfl _ _ k ow (Know.le_refl k) (g2.put o.dst hdst' (by simp[aF,aR]))
     .cases h
    .cases h
   .cases h
  .cases h
 .-- panic
  rename_i x ho
  split at h
  .rename_i t c hc
   simp only[bF] at h
   obtain⟨rfl,rfl⟩:=h
   have hrep:=agB _ _ _ hc (Sim.ev (ds:=ds) hs x)
   have hrep':=hrep
   simp only[Rep] at hrep
   obtain⟨u,hu,_⟩:=hrep
   have hrun:(execOp (⟨tmps,ds⟩ : Act).eval o).run P w=.halt (.panic ((⟨tmps,ds⟩ : Act).eval x)) w:=by
    rw[hu]
    simp[execOp,ho,hu,Instr.panic,goPanic]
   unfold Oper.wp
   rw[hrun]
   simp only[Oper.upon]
   exact hP _ rfl _ w k ow (Know.le_refl k) hs1 (by simpa only [aF] using hrep')
  .cases h
 .-- the last element of a pushed row taken off
  rename_i t x hi ho
  split at h
  rotate_left
  .exact afz hs horc hd hdst h hK
  rename_i r e0 z hx
  simp only[ar,aX] at h
  obtain⟨s2,h,rfl,rfl⟩:=h
  unfold aqu at h
  split at h
  rotate_left
  .cases h
  rename_i e' td hel hhi
  split at h
  rotate_left
  .cases h
  rename_i hc
  obtain⟨rfl,rfl⟩:=hc
  split at h
  rotate_left
  .cases h
  rename_i ty c cs hob
  simp only[ab] at h
  subst h
  have hxx:=Sim.ev (ds:=ds) hs x
  rw[hx] at hxx
  obtain⟨b,cap,hv,hcap,ow',g1,g2⟩:=hs1.pop (c:=s.clk) (ix:=ix) (i:=0) hxx hob (hs.new hd) (.inr ⟨rfl,.inr rfl⟩)
  obtain⟨hund,hdd⟩:=ais hel
  have hru:=ajp (P:=P) (w:=w) hund
  have r2:(hi.map λx=>(⟨tmps,ds⟩ : Act).eval x)=some (.int .i64 0):=by
   cases hi with
   | none=>cases hhi
   | some y =>
    have:=agG (show aaM (s.ev y)=some 0 from hhi) (Sim.ev (ds:=ds) hs y)
    simp only[aG,this]
  have hbb:=am9 (P:=P) (w:=w) (sl:=true) (cap:=cap) (vl:=none) (len:=1) (.inl ⟨rfl,rfl⟩) (.inr r2) (ac5 0) (ac5 0) aC
  refine ada (u:=.slice (some ⟨b,0,none⟩) 0 cap) (w':=w) ?_ ?_
  .simp only[execOp,ho,Sem.run_bind,aiz,Sem.run_pure]
   rw[hv]
   simp[Instr.sliceAt,Instr.slice,hru,hbb,(TT.of_ok hdd).run_size,Addr.add_lit]
  .rw[hput]
   exact hK rfl _ _ k ow' (Know.le_refl k) (g1.put o.dst hdst' g2)
 .-- a call
  rename_i f args tys ho
  split at h
  .rename_i g us htg
   split at h
   .obtain⟨fvs,cvs,hfv,hus⟩ : ∃ fvs cvs:List Value,(⟨tmps,ds⟩ : Act).eval f=.func (.func g) fvs.toArray cvs.toArray/\aR k ow us (fvs++(args.toList.map λx=>(⟨tmps,ds⟩ : Act).eval x)++cvs):=by
     have hfx:=Sim.ev (ds:=ds) hs f
     unfold ad4 at htg
     simp only at htg
     split at htg
     .rename_i g' caps hf
      simp only[bF] at htg
      obtain⟨rfl,rfl⟩:=htg
      rw[hf] at hfx
      simp only[aF,Rep] at hfx
      obtain⟨vs,h1,h2⟩:=hfx
      exact⟨[],vs,h1,by simpa using aqY (ds:=ds) hs _ (aR.of h2)⟩
     .rename_i g' caps hf
      simp only[bF] at htg
      obtain⟨rfl,rfl⟩:=htg
      rw[hf] at hfx
      simp only[aF] at hfx
      obtain⟨vs,h1,h2⟩:=hfx
      unfold aiw akZ
      split at h1
      .rename_i he
       rw[am he]
       exact⟨[],vs,h1,by simpa using aqY (ds:=ds) hs _ h2⟩
      .rename_i he
       rw[aj he]
       refine⟨vs,[],h1,?_⟩
       rw[df]
       have h3:=aqY (ds:=ds) hs args.toList (show aR k ow [] [] by simp[aR])
       rw[df,df] at h3
       exact aR.append h2 h3
     .cases htg
    obtain⟨hc,hcall⟩:=aBj (ds:=ds) hs horc hd hdst' hus h
    have hrun:(execOp (⟨tmps,ds⟩ : Act).eval o).run P w=.ok (.enter g (fvs++(args.toList.map λx=>(⟨tmps,ds⟩ : Act).eval x)++cvs).toArray) w:=by
     unfold ew at hc
     split at hc
     .rename_i fn hfn
      simp only[ap,cZ,acH] at hc
      obtain⟨⟨b,hb⟩,hn⟩:=hc
      have hn':¬ fn.name= "runtime.NumGoroutine":=by simpa using hn
      have hargs:(fvs++(args.toList.map λx=>(⟨tmps,ds⟩ : Act).eval x)++cvs).toArray=fvs.toArray++Array.map (λx=>(⟨tmps,ds⟩ : Act).eval x) args++cvs.toArray:=by
       apply agH
       simp
      rw[hargs]
      simp[execOp,ho,resolve,hfv,Deferred.ofValue,invoke,callFunc,hfn,hn',hb]
     .cases hc
    unfold Oper.wp
    rw[hrun]
    simp only[Oper.upon]
    refine hcall.mono λen w' ⟨k',ow',g1,hcase⟩=>?_
    rcases hcase with ⟨he,v,rfl,g2⟩|⟨x,v,he,rfl,g2,g3⟩
    .show K ((⟨tmps,ds⟩ : Act).put o.dst v) w'
     rw[hput]
     exact hK he _ _ k' ow' g1 g2
    .exact hP x he v w' k' ow' g1 g3 g2
   .exact afz hs horc hd hdst h hK
  .cases h
 .exact afz hs horc hd hdst h hK
theorem ap6(hs:Sim M0 k ow done w0 w N s tmps){ops:Array Oper}{o:Oper}{b:Bool}(h:dM ops s o=some b):Region.wanted o (yielded ops tmps)=b:=by
 unfold dM at h
 unfold Region.wanted
 split at h
 .rename_i hg
  simp only[ab] at h
  simp[hg,h]
 .rename_i j want hg
  simp only[hg]
  split at h
  .rename_i d hd
   have hx:=hs.fr d
   unfold yielded
   rw[hd]
   simp only[dh]
   split at h
   .rename_i b' hb
    rw[hb] at hx
    simp only[aF,Rep] at hx
    simp only[ab] at h
    have:tmps[d]?=some (.bool b'):=by
     rw[bi] at hx
     cases hc:tmps[d]? with
     | none=>rw[hc] at hx;simp[undef] at hx
     | some u=>rw[hc] at hx;simp at hx;rw[hx.1]
    rw[this]
    simp only[]
    rw[← h]
    cases b' <;> cases want <;> rfl
   .rename_i hb
    rw[hb] at hx
    simp only[aF,Rep] at hx
    simp only[ab] at h
    rw[bi] at hx
    cases hc:tmps[d]? with
    | none=>simp[← h]
    | some u =>
     rw[hc] at hx
     simp at hx
     subst hx
     simp[undef,← h]
   .cases h
  .rename_i hd
   simp only[ab] at h
   unfold yielded
   rw[hd]
   simp[← h]
theorem aaG(hs:Sim M0 k ow done w0 w N s tmps){E:En}(horc:EnSound P M0.G E){dr:Bool}{ops:Array Oper}{ix:Nat}(hd:¬ done ix){o:Oper}(hi:ops[ix]?=some o){e:Option X}{s':S}(hdst:acj N o=true)
  (h:bx P (TT.of P) E dr ops s ix o=some (e,s')) {K:Act->World->Prop} {Q:Exit->Act->World->Prop}
  (hK:e=none->∀ tmps' w' k' ow',k.le k'->Sim M0 k' ow' (λj=>done j\/j=ix) w0 w' N s' tmps'->K ⟨tmps',ds⟩ w')
  (hP:∀ x,e=some x->∀ v w' k' ow',k.le k'->Sim M0 k' ow' (λj=>done j\/j=ix) w0 w' N s' tmps->aF k' ow' x v->Q (.panic [{v:=v,recovered:=false}]) ⟨tmps,ds⟩ w'):wpOp P ops Q ix K ⟨tmps,ds⟩ w:=by
 unfold bx at h
 unfold wpOp
 simp only[hi]
 split at h
 .rename_i hg
  rw[ap6 hs hg,am rfl]
  exact .inl (aEb hs horc hd hdst h hK hP)
 .rename_i hg
  rw[ap6 hs hg,aj aT]
  simp only[bF] at h
  obtain⟨rfl,rfl⟩:=h
  have hdst':=ait hdst
  have:=Sim.put (ds:=ds) (hs.more (done':=λj=>done j\/j=ix) (λ_ h=>.inl h)) o.dst hdst' (x:=.of .undef) (v:=undef) (by simp[aF,Rep])
  have hput:(⟨tmps,ds⟩ : Act).put o.dst undef=⟨((⟨tmps,ds⟩ : Act).put o.dst undef).tmps,ds⟩:=by cases o.dst <;> rfl
  rw[hput]
  exact hK rfl _ _ k ow (Know.le_refl k) this
 .cases h
theorem ap7{E:En}(horc:EnSound P M0.G E){dr:Bool}{ops:Array Oper}{Q:Exit->Act->World->Prop}{e:Option X}{s':S}:∀ (l:List Oper) (n:Nat) (s:S) (w:World) (tmps:Array Value) (k:Know) (ow:Own) (done:Nat->Prop),
  (∀ j,l[j]?=ops[n+j]?)->(∀ o∈l,acj N o=true)->(∀ j,done j->j<n)->Sim M0 k ow done w0 w N s tmps->abs P (TT.of P) E dr ops n l s=some (e,s') ->
  (e=none->∀ tmps' w' k' ow' done',k.le k'->Sim M0 k' ow' done' w0 w' N s' tmps'->Q .normal ⟨tmps',ds⟩ w') ->
  (∀ x,e=some x->∀ v tmps' w' k' ow' done',k.le k'->Sim M0 k' ow' done' w0 w' N s' tmps'->aF k' ow' x v->Q (.panic [{v:=v,recovered:=false}]) ⟨tmps',ds⟩ w')->wpOps P ops Q (List.range' n l.length) ⟨tmps,ds⟩ w
 | [],n,s,w,tmps,k,ow,done,_,_,_,hs,h,hQ,_=>by
  simp only[abs,bF] at h
  obtain⟨rfl,rfl⟩:=h
  exact hQ rfl tmps w k ow done (Know.le_refl k) hs
 | o::l,n,s,w,tmps,k,ow,done,hl,hdst,hdone,hs,h,hQ,hP=>by
  have h0:ops[n]?=some o:=by simpa using (hl 0).symm
  simp only[abs] at h
  simp only[aN,List.range'_succ]
  rw[wpOps_cons]
  split at h
  .rename_i s1 h1
   refine aaG hs horc (λhd=>by have:=hdone n hd;omega) h0 (hdst o aT) h1 (λ_ tmps' w' k' ow' g1 g2=>?_) (λx hx=>by cases hx)
   exact ap7 horc l (n+1) s1 w' tmps' k' ow' _ (λj=>by have:=hl (j+1);simpa [bA,eJ 1 j] using this) (λo ho=>hdst o (by simp[ho]))
    (λj hj=>by rcases hj with hj|hj;have:=hdone j hj;omega;omega) g2 h
    (λhe tmps' w' k'' ow' done' g3 g4=>hQ he tmps' w' k'' ow' done' (Know.le_trans g1 g3) g4)
    (λx he v tmps' w' k'' ow' done' g3 g4=>hP x he v tmps' w' k'' ow' done' (Know.le_trans g1 g3) g4)
  .rename_i x s1 h1
   simp only[bF] at h
   obtain⟨rfl,rfl⟩:=h
   exact aaG hs horc (λhd=>by have:=hdone n hd;omega) h0 (hdst o aT) h1 (λhe=>by cases he) (λx hx v w' k' ow' g1 g2=>hP x hx v tmps w' k' ow' _ g1 g2)
  .cases h
end
theorem ack(t:Tk):∀ xs:List X,X.drops t xs=xs.map (X.drop t)
 | []=>rfl
 | x::r=>by simp[X.drops,ack t r]
def amg(t:Tk):∀ x:X,(x.drop t).rd=x.rd :=
 X.rec (motive_1:=λx=>(x.drop t).rd=x.rd) (motive_2:=λxs=>X.rds (X.drops t xs)=X.rds xs)
  (λ_=>rfl) rfl (λt' e z cs n=>by simp only[X.drop];split <;> simp[X.rd]) (λ_ _=>rfl) (λ_=>rfl) (λ_ _ _=>rfl)
  (λxs ih=>by simp[X.drop,X.rd,ih]) (λ_ _=>rfl) (λ_ _ _=>rfl) (λ_ _ _=>rfl) rfl (λx xs ih1 ih2=>by simp[X.drops,X.rds,ih1,ih2])
theorem aqq(t:Tk):∀ xs:List X,X.rds (xs.map (X.drop t))=X.rds xs
 | []=>rfl
 | x::r=>by simp[X.rds,amg,aqq t r]
def drop_drop(t u:Tk):∀ x:X,(x.drop t).drop u=(x.drop u).drop t :=
 X.rec (motive_1:=λx=>(x.drop t).drop u=(x.drop u).drop t) (motive_2:=λxs=>X.drops u (X.drops t xs)=X.drops t (X.drops u xs))
  (λ_=>rfl) rfl
  (λt' e z cs n=>by
   by_cases h1:t'=t
   .by_cases h2:t'=u
    .subst h1;subst h2;simp[X.drop]
    .subst h1;simp[X.drop,h2]
   .by_cases h2:t'=u
    .subst h2;simp[X.drop,h1]
    .simp[X.drop,h1,h2])
  (λ_ _=>rfl) (λ_=>rfl) (λf xs ih=>by simp[X.drop,ih])
  (λxs ih=>by simp[X.drop,ih]) (λxs ih=>by simp[X.drop,ih])
  (λo ty z=>by
   cases o with
   | none=>rfl
   | some t' =>
    by_cases h1:t'=t
    .by_cases h2:t'=u
     .subst h1;subst h2;simp[X.drop,agK]
     .subst h1;simp[X.drop,agK,h2]
    .by_cases h2:t'=u
     .subst h2;simp[X.drop,agK,h1]
     .simp[X.drop,agK,h1,h2])
  (λ_ _ _=>rfl) rfl (λx xs ih1 ih2=>by simp[X.drops,ih1,ih2])
def ft(t t':Tk)(e z:Nat)(cs:List C)(n:Nat):(X.own t' e z cs n).drop t=.of (.sl cs n)\/(X.own t' e z cs n).drop t=.own t' e z cs n:=by
 simp only[X.drop]
 split
 .exact .inl rfl
 .exact .inr rfl
def aps(t:Tk)(o:Option C):(o.map X.of).map (X.drop t)=o.map X.of:=by cases o <;> rfl
def aeo(t:Tk)(x:X):aaM (x.drop t)=aaM x:=by
 cases x with
 | own t' e z cs n=>rcases ft t t' e z cs n with h|h <;> rw[h] <;> rfl
 | _=>rfl
def ayy(t:Tk)(x:X):adF (x.drop t)=adF x:=by
 cases x with
 | own t' e z cs n=>rcases ft t t' e z cs n with h|h <;> rw[h] <;> rfl
 | _=>rfl
def alM(t:Tk)(x:X):aaY (x.drop t)=aaY x:=by
 cases x with
 | own t' e z cs n=>rcases ft t t' e z cs n with h|h <;> rw[h] <;> rfl
 | _=>rfl
def ap8(t:Tk)(x:X):cE (x.drop t)=(cE x).map (List.map (X.drop t)):=by
 cases x with
 | own t' e z cs n=>simp only[X.drop];split <;> simp[cE,X.drop, *]
 | of c=>cases c <;> simp[X.drop,cE]
 | _=>simp[X.drop,cE,ack]
def anl(t:Tk)(v:Value):(abv v).drop t=abv v:=by
 unfold abv
 split <;> rfl
def ajc(T:TT)(t:Tk)(ty:Nat)(xs:List X):bC T ty (xs.map (X.drop t))=(bC T ty xs).map (X.drop t):=by
 unfold bC
 split
 .rfl
 .rename_i d _
  simp only[bR]
  split
  .split
   .simp[X.drop,ack,aey]
   .cases xs <;> simp
  .rfl
def dg(t:Tk)(s:S)(x:Operand):(s.drop (some t)).ev x=(s.ev x).drop t:=by
 cases x <;> simp[S.ev,S.drop,X.drop,anl]
def aJ2(t:Tk)(x:X):ahC (x.drop t)=ahC x:=by
 cases x with
 | own t' e z cs n=>rcases ft t t' e z cs n with h|h <;> rw[h] <;> rfl
 | _=>simp[X.drop,ahC]
theorem anP(t:Tk)(s:S):∀ l:List Operand,acT (l.map (s.drop (some t)).ev)=acT (l.map s.ev)
 | []=>rfl
 | x::r=>by simp only[aU,acT,dg,aJ2,anP t s r]
def aGn(t:Tk){x y:X}(h:ahC x=some y):y.drop t=y:=by
 cases x <;> simp only[ahC,ab,reduceCtorEq] at h <;> subst h <;> rfl
theorem al1(t:Tk):∀ (l ys:List X),acT l=some ys->X.drops t ys=ys
 | [],ys,h=>by simp only[acT,ab] at h;subst h;rfl
 | x::r,ys,h=>by
  simp only[acT] at h
  split at h
  .rename_i y q h1 h2
   simp only[ab] at h
   subst h
   simp only[X.drops]
   rw[aGn t h1,al1 t r q h2]
  .cases h
theorem ane(t:Tk)(s:S):∀ l,abF (s.drop (some t)).ev l=abF s.ev l
 | []=>rfl
 | x::r=>by simp[abF,dg,amg,ane t s r]
theorem alT(t:Tk)(s:S):∀ l,aad (s.drop (some t)).ev l=(aad s.ev l).map (List.map λp=>(p.1,p.2.map (X.drop t)))
 | []=>rfl
 | (i,x)::r=>by
  simp only[aad,dg,ap8,alT t s r]
  cases cE (s.ev x) <;> cases aad s.ev r <;> simp
theorem akk(place:Nat->Option (Nat×Nat))(t:Tk):∀ (qs:List (Nat×List X)) (cells:List X),aax place (cells.map (X.drop t)) (qs.map λp=>(p.1,p.2.map (X.drop t)))=(aax place cells qs).map (List.map (X.drop t))
 | [],cells=>rfl
 | (i,xs)::r,cells=>by
  simp only[aU,aax]
  cases place i with
  | none=>rfl
  | some p =>
   obtain⟨off,size⟩:=p
   simp only[bR]
   split
   .rw[← akk place t r]
    simp[aey,abc]
   .rfl
def fu(t:Tk):Out->Out
 | none=>none
 | some (x,u)=>if u=some t then none else some (x.drop t,u)
def fv(t:Tk):fu t none=none:=rfl
def aab(t:Tk)(x:X):fu t (out x)=out (x.drop t):=by simp[fu,out]
def abH(t:Tk)(x:Option X):fu t (bJ x)=bJ (x.map (X.drop t)):=by cases x <;> simp[fu,bJ]
def abX(t:Tk)(c:Prop)[Decidable c](a b:Out):fu t (if c then a else b)=if c then fu t a else fu t b:=by split <;> rfl
def aj2(t:Tk)(d:TD):(fw d).map (X.drop t)=fw d:=by
 simp[fw,anl]
def auU(t:Tk)(s:S)(r:Nat):(s.drop (some t)).objs[r]?=(s.objs[r]?).map (Ob.drop t):=by simp[S.drop]
def aET(T:TT)(t:Tk)(s:S)(ty:Nat)(x:X):abI T (s.drop (some t)).objs ty (x.drop t)=fu t (abI T s.objs ty x):=by
 cases x with
 | ptr r off =>
  simp only[X.drop,abI,auU]
  cases s.objs[r]? with
  | none=>rfl
  | some ob =>
   cases ob with
   | var ty xs=>simp only[aG,Ob.drop,ack,← abc,ajc,abH]
   | map es=>rfl
   | row ty cs=>cases cs <;> simp only[aG,Ob.drop,fv,abH,aps]
 | of c =>
  cases c <;> simp only[X.drop,abI,fv,abH,aps]
 | own t' e z cs n=>rcases ft t t' e z cs n with h|h <;> rw[h] <;> rfl
 | _=>rfl
def asp(T:TT)(t:Tk)(ty f:Nat)(x:X):fP T ty f (x.drop t)=fu t (fP T ty f x):=by
 unfold fP
 cases ai0 T ty f with
 | none=>rfl
 | some p =>
  obtain⟨o,z⟩:=p
  simp only[abX,fv]
  split
  .cases x with
   | of c=>cases c <;> simp[X.drop,fu,out]
   | own t' e z cs n=>rcases ft t t' e z cs n with h|h <;> rw[h] <;> rfl
   | _=>simp[X.drop,fu,out]
  .rfl
def aA7(T:TT)(t:Tk)(ty f:Nat)(x:X):ago T ty f (x.drop t)=fu t (ago T ty f x):=by
 unfold ago
 split
 .split
  .cases x with
   | of c =>
    cases c <;> simp only[X.drop,fv,abH,aps]
   | own t' e z cs n=>rcases ft t t' e z cs n with h|h <;> rw[h] <;> rfl
   | agg xs=>simp only[X.drop,ack,← abc,ajc,abH]
   | _=>rfl
  .rfl
 .rfl
def axo(t:Tk)(e z:Nat)(i:Int)(x:X):aiB e z i (x.drop t)=fu t (aiB e z i x):=by
 cases x with
 | top r e' z'=>simp only[X.drop,aiB,abX,fv,aab]
 | own t' e z cs n=>rcases ft t t' e z cs n with h|h <;> rw[h] <;> rfl
 | _=>rfl
def aAf(t:Tk)(b:Bool)(x:X):akD b (x.drop t)=fu t (akD b x):=by
 cases x with
 | top r e' z'=>simp only[X.drop,akD,abX,fv,aab]
 | own t' e z cs n=>rcases ft t t' e z cs n with h|h <;> rw[h] <;> rfl
 | _=>rfl
def asf(T:TT)(t:Tk)(ty:Nat)(x i:X):bP T ty (x.drop t) (i.drop t)=fu t (bP T ty x i):=by
 unfold bP
 rw[aeo]
 split
 .rfl
 .split
  .rw[alM]
   split
   .simp only[abX,fv,aab,X.drop]
   .exact axo _ _ _ _ _
   .rfl
  .split
   .simp only[abX,fv]
    split
    .cases x with
     | of c=>cases c <;> simp[X.drop,fu,out]
     | own t' e z cs n=>rcases ft t t' e z cs n with h|h <;> rw[h] <;> rfl
     | _=>simp[X.drop,fu,out]
    .rfl
   .rfl
  .rfl
def aA1(T:TT)(t:Tk)(ty:Nat)(x i:X):agm T ty (x.drop t) (i.drop t)=fu t (agm T ty x i):=by
 unfold agm
 rw[aeo]
 split
 .rfl
 .cases x with
  | of c =>
   cases c with
   | lit v =>
    cases v with
    | string st =>
     simp only[X.drop]
     split
     .simp[fu,out,X.drop]
     .rfl
    | _=>rfl
   | agg cs =>
    simp only[X.drop]
    split
    .split
     .rename_i n e _ _ _ _ _ _ _ d _
      simp only[abX,fv,abH,aps]
     .rfl
    .rfl
   | _=>rfl
  | own t' e z cs n=>rcases ft t t' e z cs n with h|h <;> rw[h] <;> rfl
  | agg xs =>
   simp only[X.drop,ack]
   split
   .split
    .simp only[abX,fv,abH,← abc,ajc]
    .rfl
   .rfl
  | _=>rfl
def avr(t:Tk)(d:Int)(x:Option X):afm d (x.map (X.drop t))=afm d x:=by
 cases x <;> simp[afm,aeo]
def aAs(T:TT)(t:Tk)(ty:Nat)(x:X)(lo hi:Option X):acA T ty (x.drop t) (lo.map (X.drop t)) (hi.map (X.drop t))=fu t (acA T ty x lo hi):=by
 have slice:∀ y:X,(∀ s,y≠.of (.lit (.string s)))->acA T ty y lo hi=match elemOf T ty,aaY y with
  | some (_,d),some (cs,n) =>
   match afm 0 lo,afm (n:Int) hi with
   | some l,some h=>if 0<=l/\l<=h/\h<=(n:Int)/\cs.length=n*d.size then out (.of (.sl ((cs.drop (l.toNat*d.size)).take ((h.toNat-l.toNat)*d.size)) (h.toNat-l.toNat))) else none
   | _,_=>none
  | _,_=>none:=by
  intro y hy
  unfold acA
  split
  .rename_i st;exact (hy st rfl).elim
  .rfl
 have slice':∀ y:X,(∀ s,y≠.of (.lit (.string s)))->acA T ty y (lo.map (X.drop t)) (hi.map (X.drop t))=match elemOf T ty,aaY y with
  | some (_,d),some (cs,n) =>
   match afm 0 lo,afm (n:Int) hi with
   | some l,some h=>if 0<=l/\l<=h/\h<=(n:Int)/\cs.length=n*d.size then out (.of (.sl ((cs.drop (l.toNat*d.size)).take ((h.toNat-l.toNat)*d.size)) (h.toNat-l.toNat))) else none
   | _,_=>none
  | _,_=>none:=by
  intro y hy
  unfold acA
  split
  .rename_i st;exact (hy st rfl).elim
  .simp only[avr]
   rfl
 have fin:(match elemOf T ty,aaY x with
  | some (_,d),some (cs,n) =>
   match afm 0 lo,afm (n:Int) hi with
   | some l,some h=>if 0<=l/\l<=h/\h<=(n:Int)/\cs.length=n*d.size then out (.of (.sl ((cs.drop (l.toNat*d.size)).take ((h.toNat-l.toNat)*d.size)) (h.toNat-l.toNat))) else none
   | _,_=>none
  | _,_=>none)=fu t (match elemOf T ty,aaY x with
  | some (_,d),some (cs,n) =>
   match afm 0 lo,afm (n:Int) hi with
   | some l,some h=>if 0<=l/\l<=h/\h<=(n:Int)/\cs.length=n*d.size then out (.of (.sl ((cs.drop (l.toNat*d.size)).take ((h.toNat-l.toNat)*d.size)) (h.toNat-l.toNat))) else none
   | _,_=>none
  | _,_=>none):=by
  split
  .split
   .simp only[abX,fv,aab,X.drop]
   .rfl
  .rfl
 by_cases hstr:∃ st,x=.of (.lit (.string st))
 .obtain⟨st,rfl⟩:=hstr
  simp only[X.drop,acA,avr]
  split
  .split
   .simp only[abX,fv,aab,X.drop]
   .rfl
  .rfl
 .have h1:∀ s,x≠.of (.lit (.string s)):=λs e=>hstr ⟨s,e⟩
  have h2:∀ s,x.drop t≠.of (.lit (.string s)):=λs e=>by
   cases x with
   | own t' e' z cs n=>simp only[X.drop] at e;split at e <;> cases e
   | of c=>exact h1 s e
   | _=>simp[X.drop] at e
  rw[slice' _ h2,slice _ h1,alM]
  exact fin
def aI1(t:Tk)(u:Option TypeDesc)(x:X):aah u (x.drop t)=fu t (aah u x):=by
 have tl:∀ x:X,akD (aio u) (x.drop t)=fu t (akD (aio u) x):=aAf t _
 cases x with
 | of c =>
  cases c with
  | lit v=>cases v <;> simp only[X.drop,aah,aaY,fv,abX,aab] <;> rfl
  | sl cs n=>simp only[X.drop,aah,aaY,fv,abX,aab]
  | _=>rfl
 | own t' e z cs n=>simp only[X.drop];split <;> simp only[aah,aaY,abX,fv,aab,X.drop]
 | nil=>simp only[X.drop,aah,aaY,fv,abX,aab]
 | top r e z=>simp only[aah,X.drop,aaY];exact tl (.top r e z)
 | agg xs=>simp only[aah,X.drop,aaY];rfl
 | tup xs=>simp only[aah,X.drop,aaY];rfl
 | clo f xs=>simp only[aah,X.drop,aaY];rfl
 | ptr r o=>simp only[aah,X.drop,aaY];rfl
 | mp r=>simp only[aah,X.drop,aaY];rfl
 | nw o ty z=>simp only[aah,X.drop,aaY];rfl
def asF(T:TT)(t:Tk)(d:Option TD)(x:X):ajm T d (x.drop t)=fu t (ajm T d x):=by
 unfold ajm
 rw[alM]
 split
 .split
  .rename_i cs _ _ _
   cases afy cs <;> simp[bJ,fu,X.drop]
  .rfl
 .rfl
def asE(T:TT)(a b:Nat)(y:X):Out:=match (T b).map (·.und) with
 | some TypeDesc.string=>ajm T (T a) y
 | _=>none
def aFV(T:TT)(t:Tk)(a b:Nat)(x:X):asE T a b (x.drop t)=fu t (asE T a b x):=by
 unfold asE
 split
 .exact asF T t (T a) x
 .rfl
def abh(T:TT)(a b:Nat)(y:X)(hy:∀ c,y≠.of (.lit c)):adf T a b y=asE T a b y:=by
 unfold adf asE
 generalize (T b).map (·.und)=u
 generalize T a=d
 split
 .exact absurd rfl (hy _)
 .exact absurd rfl (hy _)
 .rfl
 .split
  .simp_all
  .rfl
def avV(T:TT)(t:Tk)(a b:Nat)(x:X):adf T a b (x.drop t)=fu t (adf T a b x):=by
 have hN:=aFV T t a b x
 cases x with
 | of c =>
  have hB:=asF T t (T a) (.of c)
  simp only[X.drop] at hB ⊢
  unfold adf
  split
  .simp[fu,out,X.drop]
  .simp[fu,out,X.drop]
  .exact hB
  .rfl
 | own t' e z cs n =>
  have e1:=abh T a b (.own t' e z cs n) (λc h=>by cases h)
  have e2:=abh T a b ((X.own t' e z cs n).drop t) (λc h=>by rcases ft t t' e z cs n with h'|h' <;> rw[h'] at h <;> cases h)
  rw[e1,e2]
  exact hN
 | nil=>rw[abh T a b _ (λc h=>by cases h),abh T a b _ (λc h=>by cases h)];exact hN
 | ptr r o=>rw[abh T a b _ (λc h=>by cases h),abh T a b _ (λc h=>by cases h)];exact hN
 | mp r=>rw[abh T a b _ (λc h=>by cases h),abh T a b _ (λc h=>by cases h)];exact hN
 | clo f l=>rw[abh T a b _ (λc h=>by cases h),abh T a b _ (λc h=>by cases h)];exact hN
 | agg l=>rw[abh T a b _ (λc h=>by cases h),abh T a b _ (λc h=>by cases h)];exact hN
 | tup l=>rw[abh T a b _ (λc h=>by cases h),abh T a b _ (λc h=>by cases h)];exact hN
 | nw o ty z=>rw[abh T a b _ (λc h=>by cases h),abh T a b _ (λc h=>by cases h)];exact hN
 | top r e z=>rw[abh T a b _ (λc h=>by cases h),abh T a b _ (λc h=>by cases h)];exact hN
def anu(t:Tk)(x:X):fN (x.drop t)=fN x:=by
 cases x with
 | own t' e z cs n=>rcases ft t t' e z cs n with h|h <;> rw[h] <;> rfl
 | _=>rfl
def aER(t:Tk)(s:S)(x:X):ahg (s.drop (some t)).objs (x.drop t)=ahg s.objs x:=by
 cases x with
 | own t' e z cs n=>rcases ft t t' e z cs n with h|h <;> rw[h] <;> rfl
 | mp r =>
  simp only[X.drop,ahg,auU]
  cases s.objs[r]? with
  | none=>rfl
  | some ob=>cases ob <;> rfl
 | of c =>
  cases c with
  | lit v=>cases v with
   | map m=>cases m <;> rfl
   | _=>rfl
  | _=>rfl
 | _=>rfl
def aDr(T:TT)(t:Tk)(et:Nat):(alb T et).map (X.drop t)=alb T et:=by
 unfold alb
 split
 .rw[← ajc,aj2]
 .rfl
def ayw(T:TT)(t:Tk)(s:S)(ty:Nat)(x kx:X)(ok:Bool):aeH T (s.drop (some t)).objs ty (x.drop t) (kx.drop t) ok=fu t (aeH T s.objs ty x kx ok):=by
 unfold aeH
 rw[anu,aER]
 split
 .rename_i kind et kv es _ _ _
  split
  .rename_i i _
   rw[abH]
   cases es[i]? with
   | none=>rfl
   | some p=>cases ok <;> rfl
  .rw[abH]
   congr 1
   have h:=aDr T t et
   cases hz:alb T et with
   | none=>rfl
   | some z =>
    rw[hz] at h
    simp only[aG,ab] at h
    cases ok with
    | true=>simp[X.drop,X.drops,h]
    | false=>simp[h]
  .rfl
 .rfl
def aBA(T:TT)(t:Tk)(st xt e:Nat)(x:X):ajI T st xt e (x.drop t)=ajI T st xt e x:=by
 unfold ajI
 rw[alM]
 split
 .rfl
 .cases x with
  | own t' e z cs n=>rcases ft t t' e z cs n with h|h <;> rw[h]
  | _=>rfl
def azM(T:TT)(t tk:Tk)(ht:t≠tk)(st xt:Nat)(x y:X):dV T tk st xt (x.drop t) (y.drop t)=fu t (dV T tk st xt x y):=by
 unfold dV
 split
 .rw[aBA]
  split
  .split
   .cases x with
    | own t' e z cs n =>
     simp only[X.drop]
     by_cases he:t'=t
     .subst he
      simp only[au]
      split
      .simp[fu]
      .rfl
     .simp only[he,av,abX,fv]
      split
      .simp[fu,he,X.drop,bn ht]
      .rfl
    | nil =>
     simp only[X.drop,abX,fv]
     split
     .simp[fu,X.drop,bn ht]
     .rfl
    | _=>simp[X.drop,fu]
   .rfl
  .rfl
 .rfl
def aAM(t:Tk)(clk ix:Nat)(ht:∀ i,t≠.nm clk ix i):∀ x:X,(x.tr (λ_=>none) (adL clk ix)).drop t=x.tr (λ_=>none) (adL clk ix) :=
 X.rec (motive_1:=λx=>(x.tr (λ_=>none) (adL clk ix)).drop t=x.tr (λ_=>none) (adL clk ix)) (motive_2:=λxs=>X.drops t (X.trs (λ_=>none) (adL clk ix) xs)=X.trs (λ_=>none) (adL clk ix) xs)
  (λ_=>rfl) rfl
  (λt' e z cs n=>by
   simp only[X.tr]
   split
   .rename_i t2 h2
    have:t2≠t:=by
     unfold adL at h2
     split at h2
     .cases h2;exact bn (ht _)
     .cases h2
    simp[X.drop,this]
   .rfl)
  (λ_ _=>rfl) (λ_=>rfl) (λf xs ih=>by simp only[X.tr,X.drop,ih]) (λxs ih=>by simp only[X.tr,X.drop,ih]) (λxs ih=>by simp only[X.tr,X.drop,ih])
  (λo ty z=>by
   cases o with
   | none=>rfl
   | some t' =>
    simp only[X.tr,dh,X.drop]
    cases h2:adL clk ix t' with
    | none=>rfl
    | some t2 =>
     have:t2≠t:=by
      unfold adL at h2
      split at h2
      .cases h2;exact bn (ht _)
      .cases h2
     simp[agK,this])
  (λ_ _ _=>rfl) rfl
  (λx xs h1 h2=>by simp only[X.trs,X.drops,h1,h2])
def aEK(t:Tk)(clk ix:Nat)(ht:∀ i,t≠.nm clk ix i)(xs:List X):(aig clk ix xs).map (X.drop t)=aig clk ix xs:=by
 unfold aig
 induction xs with
 | nil=>rfl
 | cons x xs ih=>simp only[X.trs,aU,aAM t clk ix ht,ih]
def aIk(t:Tk)(xs:List X):(afJ xs).drop t=afJ (xs.map (X.drop t)):=by
 match xs with
 | []=>simp[afJ,X.drop,ack]
 | [x]=>simp[afJ]
 | x::y::r=>simp[afJ,X.drop,ack]
def aGq(P:Program)(E:En)(t:Tk)(clk ix f:Nat)(ht:∀ i,t≠.nm clk ix i)(cs:List C):af1 P E clk ix f cs=fu t (af1 P E clk ix f cs):=by
 unfold af1
 split
 .split
  .rw[aab,aIk,aEK t _ _ ht]
  .rfl
 .rfl
def aIM(t:Tk)(x y:X):aqE (x.drop t) (y.drop t)=fu t (aqE x y):=by
 unfold aqE
 rw[aeo,aeo]
 split
 .rw[aab];rfl
 .rfl
def aIN(t:Tk)(x y:X):aqF (x.drop t) (y.drop t)=fu t (aqF x y):=by
 unfold aqF
 rw[aeo,aeo]
 split
 .rw[aab];rfl
 .rfl
def aOL(T:TT)(u:Nat)(t:Tk)(x:X)(ok:Bool):asX T u (x.drop t) ok=fu t (asX T u x ok):=by
 cases x with
 | of c =>
  cases c with
  | ifc a b =>
   cases ok with
   | false=>rfl
   | true=>simp only[X.drop,asX];split <;> simp[fu,out,X.drop]
  | _=>rfl
 | own t' e z cs n=>rcases ft t t' e z cs n with h|h <;> rw[h] <;> rfl
 | _=>rfl
def aFU(T:TT)(t:Tk)(a b:Nat)(x:X):adU T a b (x.drop t)=fu t (adU T a b x):=by
 have hN:=avV T t a b x
 unfold adU
 cases hu:(T b).map (·.und) with
 | none=>exact hN
 | some u =>
  cases u with
  | slice e =>
   cases x with
   | of c =>
    cases c with
    | lit v =>
     cases v with
     | string s =>
      simp only[X.drop,awP]
      split <;> simp[fu,out,X.drop]
     | _=>exact hN
    | _=>exact hN
   | own t' e' z cs n =>
    rcases ft t t' e' z cs n with h|h <;> rw[h] at hN ⊢ <;> exact hN
   | _=>exact hN
  | _=>exact hN
def axe(P:Program)(T:TT)(E:En)(t:Tk)(s:S)(ix:Nat)(ht:∀ i,t≠.nm s.clk ix i)(cal:Callee)(args:List Operand)(tys:List Nat) :
  afx P T E (s.drop (some t)) ix cal args tys=fu t (afx P T E s ix cal args tys):=by
 unfold afx
 split
 .rw[dg,aI1]
 .rw[dg,dg];exact azM T t _ (ht 0) _ _ _ _
 .rw[dg,dg,aIM]
 .rw[dg,dg,aIN]
 .rename_i f
  rw[ane,dg]
  cases hf:s.ev f with
  | of c =>
   cases c <;> simp only[X.drop,fv]
   split
   .exact aGq P E t s.clk ix _ ht _
   .rfl
  | own t' e z cs n=>rcases ft t t' e z cs n with h|h <;> rw[h] <;> rfl
  | _=>rfl
 .rfl
def axd(P:Program)(T:TT)(E:En)(t:Tk)(s:S)(ix:Nat)(ht:∀ i,t≠.nm s.clk ix i)(o:Oper):val P T E (s.drop (some t)) ix o=fu t (val P T E s ix o):=by
 unfold val
 split
 .rw[dg,aab]
 .rw[dg,aab]
 .rw[dg,ayy,dg,dg]
  split
  .rename_i b _
   cases b <;> simp[aab]
  .rfl
 .rename_i op ty x y yt _
  rw[dg,dg]
  unfold fE
  rw[anu,anu,amg,amg]
  split
  .rename_i u v _ _
   cases acl ((T ty).map (·.und)) op u v <;> rfl
  .unfold agt
   split
   .rename_i cs ds _ _
    split
    .cases afk P T ty cs ds <;> rfl
    .cases afk P T ty cs ds <;> rfl
    .rfl
   .rfl
 .rename_i op ty x _
  rw[dg]
  cases s.ev x with
  | of c =>
   cases c <;> simp only[X.drop,fv,abH]
   rename_i u
   cases arn op u <;> rfl
  | own t' e z cs n=>rcases ft t t' e z cs n with h|h <;> rw[h] <;> rfl
  | _=>rfl
 .rw[dg];exact aET T t s _ _
 .rw[dg,asp]
 .rw[dg,aA7]
 .rw[dg,dg,asf]
 .rw[dg,dg,aA1]
 .rename_i ty x lo hi _
  rw[dg,← aAs]
  congr 1
  .cases lo <;> simp[dg]
  .cases hi <;> simp[dg]
 .rename_i ty ps _
  rw[alT]
  cases T ty with
  | none=>rfl
  | some d =>
   cases aad s.ev ps.toList with
   | none=>rfl
   | some qs =>
    simp only[aG]
    split
    .have h1:=akk (λi=>d.fields[i]?) t qs (fw d)
     rw[aj2] at h1
     rw[h1,abH]
     cases aax (λi=>d.fields[i]?) (fw d) qs <;> simp[X.drop,ack]
    .split
     .rename_i de _
      have h1:=akk (λi=>some (i*de.size,de.size)) t qs (fw d)
      rw[aj2] at h1
      rw[h1,abH]
      cases aax (λi=>some (i*de.size,de.size)) (fw d) qs <;> simp[X.drop,ack]
     .rfl
    .rfl
 .rename_i ty n ps _
  rw[alT]
  cases elemOf T ty with
  | none=>rfl
  | some ed =>
   obtain⟨e,d⟩:=ed
   cases aad s.ev ps.toList with
   | none=>rfl
   | some qs =>
    simp only[aG]
    split
    .have h0:((List.replicate n (fw d)).flatten).map (X.drop t)=(List.replicate n (fw d)).flatten:=by
      rw[List.map_flatten,List.map_replicate,aj2]
     have h1:=akk (λi=>some (i*d.size,d.size)) t qs ((List.replicate n (fw d)).flatten)
     rw[h0] at h1
     rw[h1]
     cases aax (λi=>some (i*d.size,d.size)) ((List.replicate n (fw d)).flatten) qs with
     | none=>rfl
     | some xs =>
      simp only[aG,aqq]
      cases X.rds xs with
      | none=>rfl
      | some cs =>
       simp only[aab,X.drop]
       rw[aj (λe=>ht 0 e.symm)]
       rfl
    .rfl
 .rename_i x i _
  rw[dg]
  cases s.ev x with
  | of c =>
   cases c <;> simp only[X.drop,fv,abH]
   rename_i cs
   cases cs[i]? <;> rfl
  | own t' e z cs n=>rcases ft t t' e z cs n with h|h <;> rw[h] <;> rfl
  | tup xs=>simp[X.drop,ack,abH]
  | _=>rfl
 .rename_i x _
  rw[dg]
  cases s.ev x with
  | of c=>cases c <;> simp only[X.drop,fv,aab]
  | own t' e z cs n=>rcases ft t t' e z cs n with h|h <;> rw[h] <;> rfl
  | _=>simp[X.drop,fu,out]
 .rw[ane]
  split
  .split
   .simp[aab,X.drop]
   .rw[anP]
    cases h:acT _ with
    | none=>rfl
    | some ys=>simp[anM,aab,X.drop,al1 t _ _ h]
  .split
   .rw[anP]
    cases h:acT _ with
    | none=>rfl
    | some ys=>simp[anM,aab,X.drop,al1 t _ _ h]
   .rfl
 .rw[dg,aFU]
 .rw[dg,dg];exact ayw T t s _ _ _ _
 .rw[dg,amg]
  split
  .simp[aab,X.drop]
  .rfl
 .rw[dg];exact aOL T _ t _ _
 .exact axe P T E t s ix ht _ _ _
 .split
  .split
   .rw[aab]
    simp only[S.drop,X.drop,agK]
    rw[aj (λe=>ht 0 e.symm)]
   .rfl
  .rfl
 .rename_i ty d x _
  have h1:eA ((s.drop (some t)).ev x)=eA (s.ev x):=by
   unfold eA
   rw[dg,ap8]
   cases cE (s.ev x) with
   | none=>rfl
   | some l=>simp only[aG,dh,aqq]
  rw[h1]
  have h2:(s.drop (some t)).fr d=(s.fr d).drop t:=rfl
  rw[h2]
  cases hT:T ty with
  | none=>rfl
  | some td =>
   cases hf:s.fr d with
   | nw ok ty' z =>
    cases ok with
    | none=>rfl
    | some tk =>
    by_cases hk:tk=t
    .subst hk
     simp only[X.drop,agK,au]
     cases eA (s.ev x) with
     | none=>rfl
     | some cs =>
      cases o.guard with
      | some g=>rfl
      | none =>
       cases o.dst with
       | some d'=>rfl
       | none =>
        simp only
        split
        .simp[fu]
        .rfl
    .simp only[X.drop,agK,hk,av]
     cases eA (s.ev x) with
     | none=>rfl
     | some cs =>
      cases o.guard with
      | some g=>rfl
      | none =>
       cases o.dst with
       | some d'=>rfl
       | none =>
        simp only
        split
        .simp[fu,hk,X.drop]
        .rfl
   | own t' e z cs n=>rcases ft t t' e z cs n with h|h <;> rw[h] <;> rfl
   | _=>rfl
 .rfl

/- A part. Conditions: none. -/
import Derived.Test.YtghkmcffifpkeaaGreatPa1
import Derived.Lib.ConvBytes
set_option linter.all false
set_option maxRecDepth 100000
set_option maxHeartbeats 64000000
namespace Go.Pe
open RowKit
theorem aiO{α:Type}[DecidableEq α]:∀ {l:List α} {a:α} {i:Nat},l.Nodup->l[i]?=some a->pos l a=some i
 | [],a,i,_,h=>by simp at h
 | b::l,a,0,_,h=>by
  simp only[dg,ab] at h
  subst h
  simp[pos]
 | b::l,a,i+1,hn,h=>by
  simp only[eL] at h
  rw[afb] at hn
  have hne:b≠a:=by rintro rfl;exact hn.1 (bO h)
  simp[pos,hne,aiO hn.2 h]
def reK(refs:List Nat)(k:Know):Know:={m:=k.m,μ:=λi=>(refs[i]?).bind k.μ}
def reO(refs:List Nat)(ts:List Tk)(ow:Own):Own
 | .nm 0 0 i=>(ts[i]?).bind ow
 | .nm ..=>none
 | .cell i off=>(refs[i]?).bind λr=>if Tk.cell r off∈ts then none else ow (.cell r off)
section
variable {P:Program} {M0:Base} {k:Know} {ow:Own} {done:Nat->Prop} {w0 w:World} {N:Nat} {s:S} {tmps:Array Value} {ds:List Deferred} {refs:List Nat} {ts:List Tk} {objs obs:List Ob}
theorem awV:Ren (pos refs) (fD refs ts) k (reK refs k) ow (reO refs ts ow) where
 m:=λ_ _ _ h=>h
 μ:=λr b r' hr hs=>by simp only[reK,adq hs,db,hr]
 ow:=λt p t' ht hr=>by
  unfold fD at hr
  split at hr
  .rename_i i hi
   simp only[ab] at hr
   subst hr
   simp only[reO,adq hi,db,ht]
  .rename_i hno
   split at hr
   .rename_i r off
    simp only[ap] at hr
    obtain⟨r',hr',rfl⟩:=hr
    simp only[reO,adq hr',db,ar (apK hno),ht]
   .cases hr
theorem atO{r:Nat}(hno:abq r∉ts):fD refs ts (abq r)=(pos refs r).map λr'=>abq r':=by
 unfold fD
 have:pos ts (abq r)=none:=by
  cases hps:pos ts (abq r) with
  | none=>rfl
  | some i=>exact absurd (bO (adq hps)) hno
 rw[this]
theorem ajO(hr:refs.Nodup)(hts:ts.Nodup){t':Tk}{p:Value×Nat×Nat×Nat}(h:reO refs ts ow t'=some p):∃ t,ow t=some p/\fD refs ts t=some t':=by
 unfold reO at h
 split at h
 .rename_i i
  simp only[bI] at h
  obtain⟨t,ht,hp⟩:=h
  exact⟨t,hp,by simp only[fD,aiO hts ht]⟩
 .cases h
 .rename_i i off
  simp only[bI] at h
  obtain⟨r,hr',hp⟩:=h
  split at hp
  .cases hp
  .rename_i hno
   refine⟨.cell r off,hp,?_⟩
   have:pos ts (Tk.cell r off)=none:=by
    cases hps:pos ts (Tk.cell r off) with
    | none=>rfl
    | some i=>exact (hno (bO (adq hps))).elim
   simp only[fD,this,aiO hr hr',aJ]
theorem ae1{σ:Nat->Option Nat}{ρ:Tk->Option Tk}{objs:List Ob}:∀ {l:List Nat} {obs:List Ob},aaj σ ρ objs l=some obs->obs.length=l.length
 | [],obs,h=>by simp only[aaj,ab] at h;subst h;rfl
 | r::l,obs,h=>by
  simp only[aaj] at h
  split at h
  .rename_i ob q h1 h2
   simp only[ab] at h
   subst h
   simp[ae1 h2]
  .cases h
theorem ahA{σ:Nat->Option Nat}{ρ:Tk->Option Tk}{objs:List Ob}:∀ {l:List Nat} {obs:List Ob},aaj σ ρ objs l=some obs->∀ (i r:Nat),l[i]?=some r->∃ ob:Ob,objs[r]?=some ob/\obs[i]?=some (ob.tr σ ρ)
 | [],obs,h,i,r,hi=>by simp at hi
 | r0::l,obs,h,i,r,hi=>by
  simp only[aaj] at h
  split at h
  .rename_i ob q h1 h2
   simp only[ab] at h
   subst h
   cases i with
   | zero=>simp only[dg,ab] at hi;subst hi;exact⟨ob,h1,rfl⟩
   | succ i=>simpa using ahA h2 i r (by simpa using hi)
  .cases h
theorem Hp.own_dead(h:Hp M0 k ow w0 w objs){t:Tk}{e z n:Nat}{cs:List C}{v:Value}(hx:aE k ow (.own t e z cs n) v){g r:Nat}(hg:v.ownBlock=some g)(hr:k.μ r=some g):¬ Liv objs r:=by
 simp only[aE] at hx
 obtain⟨ho,hcl,hrep⟩:=hx
 intro hl
 obtain⟨ty,rs,q1,q2⟩:=(((h.tok _ _ _ _ _ ho).2 g hg).2.2 r hr).1
 have hnone:=(h.lt hr).2.2 hl
 obtain⟨ob,q3,q4⟩:=hl
 obtain rfl:=ay (q1.symm.trans q3)
 cases rs with
 | nil=>cases q4
 | cons a rs =>
  simp only[Rep] at hrep
  obtain⟨a',cp,us,rfl,_,hul,hum⟩:=hrep
  have hpos':0<us.length:=by rw[hul.length,hcl];simp only[aN] at q2;omega
  have hne:us≠[]:=by rintro rfl;simp at hpos'
  obtain⟨b,o,rfl,hc⟩:=hum hne
  have hc0:=hc 0 _ (aL hpos')
  simp only[Value.ownBlock,ab] at hg
  subst hg
  rw[hnone] at hc0
  cases hc0
theorem Hp.toks_dead(h:Hp M0 k ow w0 w objs):∀ (x:X) (v:Value),aE k ow x v->∀ t∈x.toks,∀ v' e z n,ow t=some (v',e,z,n)->∀ g,v'.ownBlock=some g->∀ r,k.μ r=some g->¬ Liv objs r :=
 X.rec (motive_1:=λx=>∀ v,aE k ow x v->∀ t∈x.toks,∀ v' e z n,ow t=some (v',e,z,n)->∀ g,v'.ownBlock=some g->∀ r,k.μ r=some g->¬ Liv objs r)
  (motive_2:=λxs=>∀ vs,aP k ow xs vs->∀ t∈X.toksL xs,∀ v' e z n,ow t=some (v',e,z,n)->∀ g,v'.ownBlock=some g->∀ r,k.μ r=some g->¬ Liv objs r)
  (λ_ _ _ t ht=>by simp[X.toks] at ht) (λ_ _ t ht=>by simp[X.toks] at ht)
  (λt0 e0 z0 cs0 n0 v hx t ht v' e z n ho g hg r hr=>by
   simp only[X.toks,cC] at ht
   subst ht
   have hx':=hx
   simp only[aE] at hx'
   have:=hx'.1.symm.trans ho
   simp only[bD] at this
   obtain⟨rfl,_⟩:=this
   exact h.own_dead hx hg hr)
  (λ_ _ _ _ t ht=>by simp[X.toks] at ht) (λ_ _ _ t ht=>by simp[X.toks] at ht)
  (λf xs ih v hx t ht=>by simp only[aE] at hx;obtain⟨vs,_,hl⟩:=hx;exact ih vs hl t (by simpa [X.toks] using ht))
  (λxs ih v hx t ht=>by simp only[aE] at hx;obtain⟨vs,_,_,hl⟩:=hx;exact ih vs hl t (by simpa [X.toks] using ht))
  (λxs ih v hx t ht=>by simp only[aE] at hx;obtain⟨vs,_,hl⟩:=hx;exact ih vs hl t (by simpa [X.toks] using ht))
  (λo ty z0 v hx t ht v' e z n ho g hg r hr=>by
   cases o with
   | none=>simp[X.toks] at ht
   | some t0 =>
    simp only[X.toks,Option.toList_some,cC] at ht
    subst ht
    simp only[aE] at hx
    obtain⟨b,_,hk⟩:=hx
    have:=hk.symm.trans ho
    simp only[bD] at this
    obtain⟨rfl,rfl,rfl,rfl⟩:=this
    exact ahy (by have:=(((h.tok _ _ _ _ _ hk).2 g hg).2.2 r hr).1;rwa [abB] at this))
  (λ_ _ _ _ _ t ht=>by simp[X.toks] at ht)
  (λ_ _ t ht=>by simp[X.toksL] at ht)
  (λx xs ih1 ih2 vs hx t ht=>by
   simp only[aP] at hx
   obtain⟨v,r,_,h1,h2⟩:=hx
   simp only[X.toksL,br] at ht
   rcases ht with ht|ht
   .exact ih1 v h1 t ht
   .exact ih2 r h2 t ht)
theorem Hp.toksL_dead(h:Hp M0 k ow w0 w objs):∀ (xs:List X) (vs:List Value),aP k ow xs vs->∀ t∈X.toksL xs,∀ v' e z n,ow t=some (v',e,z,n)->∀ g,v'.ownBlock=some g->∀ r,k.μ r=some g->¬ Liv objs r
 | [],vs,hx,t,ht=>by simp[X.toksL] at ht
 | x::xs,vs,hx,t,ht=>by
  simp only[aP] at hx
  obtain⟨v,r,_,h1,h2⟩:=hx
  simp only[X.toksL,br] at ht
  rcases ht with ht|ht
  .exact h.toks_dead x v h1 t ht
  .exact h.toksL_dead xs r h2 t ht
theorem Hp.drops(h:Hp M0 k ow w0 w objs)(ts:List Tk):Hp M0 k ow w0 w (aeX ts objs):=by
 unfold aeX
 split
 .exact h
 .exact {h with
   obj:=λr ob hr=>by
    simp only[bp,ap] at hr
    obtain⟨ob',h1,rfl⟩:=hr
    obtain⟨b,h2,h3,h4,h5,h6⟩:=h.obj r ob' h1
    exact⟨b,h2,h3,h4,λhl=>h5 (by rw[← acn some];exact hl),h6.tr ⟨λ_ _ _ h=>h,λr b r' hr he=>by cases he;exact hr,λt p t' ht he=>by
     split at he
     .cases he
     .cases he;exact ht⟩⟩
   dom:=λr b hr=>by simpa using h.dom r b hr
   inj:=λr r' b hr hr' hl hl'=>h.inj r r' b hr hr' (adG (acn some _) hl) (adG (acn some _) hl')
   tok:=λt v e z n ht=>by
    obtain⟨g1,g2⟩:=h.tok t v e z n ht
    exact⟨g1,λg hg=>⟨(g2 g hg).1,(g2 g hg).2.1,λr hr=>⟨afy (λ_ _=>rfl) ((g2 g hg).2.2 r hr).1,λhl=>((g2 g hg).2.2 r hr).2 (adG (acn some _) hl)⟩⟩⟩}
theorem aED{ts:List Tk}{objs:List Ob}{r:Nat}(h:Liv (aeX ts objs) r):Liv objs r:=by
 unfold aeX at h
 split at h
 .exact h
 .exact adG (acn some _) h
theorem aEE(ts:List Tk)(objs:List Ob):(aeX ts objs).length=objs.length:=by
 unfold aeX
 split <;> simp
theorem apN{σ:Nat->Option Nat}{ρ:Tk->Option Tk}{objs obs:List Ob}{l:List Nat}(hp:aaj σ ρ objs l=some obs){i r:Nat}(hi:l[i]?=some r)(hl:Liv obs i):Liv objs r:=by
 obtain⟨ob,h1,h2⟩:=hl
 obtain⟨ob0,h3,h4⟩:=ahA hp i r hi
 obtain rfl:=ay (h1.symm.trans h4)
 exact⟨ob0,h3,by rw[← acn σ ρ];exact h2⟩
theorem aKS{σ:Nat->Option Nat}{ρ:Tk->Option Tk}{objs obs:List Ob}{l:List Nat}(hp:aaj σ ρ objs l=some obs){i r n:Nat}(hi:l[i]?=some r)(h:fG objs n r):fG obs n i:=by
 obtain⟨ty,cs,h1,h2⟩:=h
 obtain⟨ob0,h3,h4⟩:=ahA hp i r hi
 obtain rfl:=ay (h1.symm.trans h3)
 exact⟨ty,cs,h4,h2⟩
theorem Hp.re(h:Hp M0 k ow w0 w objs)(hr:refs.Nodup)(hts:ts.Nodup)(hp:aaj (pos refs) (fD refs ts) objs refs=some obs){M1:Base}{w1:World}
  (hgood:M1.G.holds w1/\∀ b,M1.G.blk b->b<w1.heap.size/\¬ M1.mod b) (hbelow:Keeps M1.mod w1 w) (hmine:∀ b,abK (reK refs k) (reO refs ts ow) b->agq M0.mod w0 b->agq M1.mod w1 b)
  (hm0:∀ b o v,k.m b o=some v->b<w1.heap.size->¬ M1.mod b->M1.m b o=some v) (hrow:∀ i r v e z n g t',refs[i]?=some r->ow (abq r)=some (v,e,z,n)->v.ownBlock=some g->k.μ r=some g->Liv objs r->fD refs ts (abq r)=some t'->t'=abq i):Hp M1 (reK refs k) (reO refs ts ow) w1 w obs where
 good:=hgood
 below:=hbelow
 mem:=h.mem
 obj:=λi ob hi=>by
  have hlt:i<refs.length:=by
   rw[← ae1 hp]
   exact (List.getElem?_eq_some_iff.1 hi).1
  obtain⟨ob0,h1,h2⟩:=ahA hp i _ (aL hlt)
  obtain rfl:ob=ob0.tr (pos refs) (fD refs ts):=ay (hi.symm.trans h2)
  obtain⟨b,h3,h4,h5,h6,h7⟩:=h.obj _ _ h1
  have hμ:(reK refs k).μ i=some b:=by simp only[reK,aL hlt,db,h3]
  exact⟨b,hμ,hmine b (.inl ⟨i,hμ⟩) h4,h5,λhl=>h6 (by rw[← acn (pos refs) (fD refs ts)];exact hl),h7.tr awV⟩
 dom:=λi b hi=>by
  simp only[reK,bI] at hi
  obtain⟨r,hr',_⟩:=hi
  rw[ae1 hp]
  exact (List.getElem?_eq_some_iff.1 hr').1
 inj:=λi j b hi hj hl hl'=>by
  simp only[reK,bI] at hi hj
  obtain⟨r,h1,h2⟩:=hi
  obtain⟨r',h3,h4⟩:=hj
  obtain rfl:=h.inj r r' b h2 h4 (apN hp h1 hl) (apN hp h3 hl')
  have:=(aiO hr h1).symm.trans (aiO hr h3)
  exact ay this
 tok:=λt v e z n ht=>by
  obtain⟨t0,h1,h5⟩:=ajO hr hts ht
  obtain⟨g1,g2⟩:=h.tok t0 v e z n h1
  refine⟨g1,λg hg=>⟨hmine g (.inr ⟨t,v,e,z,n,ht,hg⟩) (g2 g hg).1,(g2 g hg).2.1,λi hi=>?_⟩⟩
  simp only[reK,bI] at hi
  obtain⟨r,h3,h4⟩:=hi
  obtain⟨q1,q2⟩:=(g2 g hg).2.2 r h4
  refine⟨aKS hp h3 q1,λhl=>?_⟩
  have hl':=apN hp h3 hl
  obtain rfl:=q2 hl'
  exact hrow i r v e z n g t h3 h1 hg h4 hl' h5
 tokne:=λt t' v e z n v' e' z' n' ht ht' hne=>by
  obtain⟨a,h1,h2⟩:=ajO hr hts ht
  obtain⟨b,h3,h4⟩:=ajO hr hts ht'
  exact h.tokne a b v e z n v' e' z' n' h1 h3 (λe=>hne (by subst e;rw[h2] at h4;exact ay h4))
 m0:=hm0
theorem atQ{t:Tk}{p:Value×Nat×Nat×Nat}(h:reO refs ts ow t=some p):t.older 1 λ_=>False:=by
 unfold reO at h
 split at h
 .exact .inl Nat.zero_lt_one
 .cases h
 .trivial
theorem atR{i off:Nat}{p:Value×Nat×Nat×Nat}(h:reO refs ts ow (.cell i off)=some p):i<refs.length:=by
 simp only[reO,bI] at h
 obtain⟨r,hr,_⟩:=h
 exact (List.getElem?_eq_some_iff.1 hr).1
theorem aml(σ:Nat->Option Nat)(ρ:Tk->Option Tk):∀ (l:List Nat) (objs:List Ob) (q:List Ob),(aai σ ρ objs l q).length=objs.length
 | [],objs,q=>by simp[aai]
 | r::l,objs,[]=>by simp[aai]
 | r::l,objs,ob::q=>by simp[aai,aml σ ρ l]
theorem aht(σ:Nat->Option Nat)(ρ:Tk->Option Tk):∀ (l:List Nat) (objs:List Ob) (q:List Ob) (r:Nat),r∉l->(aai σ ρ objs l q)[r]?=objs[r]?
 | [],objs,q,r,_=>by simp[aai]
 | r0::l,objs,[],r,_=>by simp[aai]
 | r0::l,objs,ob::q,r,h=>by
  simp only[bj,af9] at h
  simp only[aai]
  rw[aht σ ρ l _ q r h.2,dZ (bo h.1)]
theorem ano(σ:Nat->Option Nat)(ρ:Tk->Option Tk):∀ (l:List Nat) (objs:List Ob) (q:List Ob) (i r:Nat) (ob:Ob),l.Nodup->l[i]?=some r->q[i]?=some ob->r<objs.length->(aai σ ρ objs l q)[r]?=some (ob.tr σ ρ)
 | [],objs,q,i,r,ob,_,hl,_,_=>by simp at hl
 | r0::l,objs,[],i,r,ob,_,_,hq,_=>by simp at hq
 | r0::l,objs,ob0::q,0,r,ob,hn,hl,hq,hr=>by
  simp only[dg,ab] at hl hq
  subst hl;subst hq
  rw[afb] at hn
  simp only[aai]
  rw[aht σ ρ l _ q r0 hn.1,cW hr]
 | r0::l,objs,ob0::q,i+1,r,ob,hn,hl,hq,hr=>by
  rw[afb] at hn
  simp only[aai]
  exact ano σ ρ l _ q i r ob hn.2 (by simpa using hl) (by simpa using hq) (by simpa using hr)
theorem Sim.new(h:Sim M0 k ow done w0 w N s tmps){ix i:Nat}(hd:¬ done ix):ow (.nm s.clk ix i)=none:=by
 cases ho:ow (.nm s.clk ix i) with
 | none=>rfl
 | some p =>
  rcases h.fresh _ _ ho with h1|⟨_,h1⟩
  .omega
  .exact (hd h1).elim
theorem ak1(s:S):s.drop none=s:=rfl
theorem a0i(f:Nat):2*f % 2=0:=by omega
theorem a0h(f:Nat):2*f / 2=f:=by omega
theorem a0g(f:Nat):¬(2*f+1) % 2=0:=by omega
theorem a0f(f:Nat):(2*f+1) / 2=f:=by omega
theorem aNe{k:Know}{ow:Own}{x y:X}{v:Value}(hx:ag5 x=some y)(h:aE k ow x v):aE k ow y v:=by
 cases x with
 | of c=>simp only[ag5,ab] at hx;subst hx;exact h
 | nil=>simp only[ag5,ab] at hx;subst hx;exact h
 | own t e z cs n=>simp only[ag5,ab] at hx;subst hx;simp only[aE] at h ⊢;exact h.2.2
 | ptr r o=>simp only[ag5,ab] at hx;subst hx;exact h
 | _=>simp[ag5] at hx
theorem an4{k:Know}{ow:Own}{f:Operand->X}{g:Operand->Value}(ev:∀ x,aE k ow (f x) (g x)):∀ (l:List Operand) (ys:List X),acE (l.map f)=some ys->aP k ow ys (l.map g)
 | [],ys,h=>by simp only[bm,acE,ab] at h;subst h;simp[aP]
 | x::r,ys,h=>by
  simp only[bc,acE] at h
  split at h
  .rename_i y q h1 h2
   simp only[ab] at h
   subst h
   simp only[bc,aP]
   exact⟨_,_,rfl,aNe h1 (ev x),an4 ev r q h2⟩
  .cases h
theorem anw(h:Sim M0 k ow done w0 w N s tmps):∀ (l:List Operand) (cs:List C),abh s.ev l=some cs->bu k.m cs (l.map λx=>(⟨tmps,ds⟩ : Act).eval x)
 | [],cs,hr=>by simp only[abh,ab] at hr;subst hr;simp[bu]
 | x::l,cs,hr=>by
  simp only[abh] at hr
  split at hr
  .rename_i c cs' h1 h2
   simp only[ab] at hr
   subst hr
   simp only[bc,bu]
   exact⟨_,_,rfl,af2 _ _ _ h1 (Sim.ev (ds:=ds) h x),anw h l cs' h2⟩
  .cases hr
theorem aw9{xs:List X}{us:List Value}(h:aP k ow xs us):aE k ow (ae8 xs) (ams us):=by
 unfold ae8
 split
 .simp only[aP] at h
  obtain⟨v,r,rfl,hx,rfl⟩:=h
  exact hx
 .rename_i xs' hne
  have:ams us=.tuple us.toArray:=by
   unfold ams
   split
   .rename_i u
    have hl:=h.length
    match xs,hl,hne with
    | [x],_,hne=>exact (hne x rfl).elim
   .rfl
  rw[this]
  simp only[aE]
  exact⟨us,rfl,h⟩
theorem auq(hs:Sim M0 k ow done w0 w N s tmps)(hr:refs.Nodup)(hts:ts.Nodup)(hts2:∀ t∈ts,∀ v e z n,ow t=some (v,e,z,n)->∀ g,v.ownBlock=some g->∀ r,k.μ r=some g->¬ Liv s.objs r)(hlv:∀ r∈refs,Liv s.objs r)(hp:aaj (pos refs) (fD refs ts) (aeX ts s.objs) refs=some obs)
  {f:Nat} {xs:List X} {an:An} {vs:List Value} {ix:Nat} (hsound:aa9 P M0.G f xs obs an) (hc:d9 P f=true) (hvs:aP (reK refs k) (reO refs ts ow) xs vs) (hd:¬ done ix) :
  Calls P f vs.toArray w λe w'=>∃ us kn own,ahT an.pan us e/\k.le kn/\refs.length<=an.obs.length /\
   Sim M0 kn own (λj=>done j\/j=ix) w0 w' N {s with fr:=λj=>(s.fr j).tr some (cf refs ts),objs:=aai (λi=>some (ce refs s.objs.length i)) (cB refs s.objs.length s.clk ix) (s.objs.map (Ob.tr some (cf refs ts))) refs an.obs++(an.obs.drop refs.length).map (Ob.tr (λi=>some (ce refs s.objs.length i)) (cB refs s.objs.length s.clk ix))} tmps /\
   aP kn own (X.trs (λi=>some (ce refs s.objs.length i)) (cB refs s.objs.length s.clk ix) an.rs) us:=by
 unfold d9 at hc
 split at hc
 rotate_left
 .cases hc
 rename_i fn hf
 have hd1:=hs.toHp.drops ts
 have hgm:∀ b,abK (reK refs k) (reO refs ts ow) b->agq M0.mod w0 b/\b<w.heap.size:=by
  rintro b (⟨i,hi⟩|⟨t,v,e,z,n,ht,hv⟩)
  .simp only[reK,bI] at hi
   obtain⟨r,_,h2⟩:=hi
   exact⟨(hs.lt h2).1,(hs.lt h2).2.1⟩
  .obtain⟨t0,h1,_⟩:=ajO hr hts ht
   exact hs.tlt h1 hv
 have hpre:Hp ⟨M0.G,k.m,abK (reK refs k) (reO refs ts ow)⟩ (reK refs k) (reO refs ts ow) w w obs :=
  hd1.re hr hts hp ⟨hs.table,λb hb=>⟨cq (hs.good.2 b hb).1 hs.below.size,λhg=>by
   rcases (hgm b hg).1 with h1|h1
   .have:=(hs.good.2 b hb).1;omega
   .exact (hs.good.2 b hb).2 h1⟩⟩ (Keeps.refl _ _) (λb hb _=>.inr hb) (λb o v hm _ _=>hm) λi r v e z n g t' hi ho hg hμ hl h=>by
   rw[atO λhm=>hts2 _ hm v e z n ho g hg r hμ (aED hl)] at h
   rw[aiO hr hi] at h
   exact (ay h).symm
 have hol:obs.length=refs.length:=ae1 hp
 have hrl:∀ i r,refs[i]?=some r->r<s.objs.length:=λi r hi=>by
  obtain⟨ob,h1,_⟩:=ahA hp i r hi
  rw[← aEE ts s.objs]
  exact (List.getElem?_eq_some_iff.1 h1).1
 refine (hsound fn hf _ _ w vs hpre (λt p ht=>atQ ht) (λi off p ht=>by rw[hol];exact atR ht) hvs).mono λe w' ⟨k',ow',us,hend,hp',hle,hlen,hμ,hold,hcl,hrs⟩=>?_
 rw[hol] at hlen hμ
 simp only[reK] at hle hμ
 let L:=s.objs.length
 let m:=refs.length
 let kn:Know:={m:=k'.m,μ:=λr=>if r<L then k.μ r else k'.μ (m+(r-L))}
 let own:Own:=λt=>match t with
  | .nm c ix' i=>if c=s.clk/\ix'=ix then ow' (.nm 0 0 i) else if t∈ts then none else ow t
  | .cell r off=>if r<L then (match pos refs r with
    | some i=>ow' (.cell i off)
    | none=>if t∈ts then none else ow t) else ow' (.cell (m+(r-L)) off)
 have hknl:∀ r,r<L->kn.μ r=k.μ r:=λr h=>by show (if r<L then _ else _)=_;rw[au h]
 have hkng:∀ r,¬ r<L->kn.μ r=k'.μ (m+(r-L)):=λr h=>by show (if r<L then _ else _)=_;rw[ar h]
 have hkle:k.le kn:=⟨hle,λr b hb=>by rw[hknl r (hs.dom r b hb)];exact hb⟩
 have hposnone:∀ r,r∉refs->pos refs r=none:=λr hno=>by
  cases hps:pos refs r with
  | none=>rfl
  | some i=>exact (hno (bO (adq hps))).elim
 have hkeep:∀ t t',cf refs ts t=some t'->t'=t/\t∉ts/\∀ r off,t=.cell r off->r∉refs:=by
  intro t t' h
  unfold cf at h
  split at h
  .cases h
  .rename_i hno
   split at h
   .rename_i r off
    split at h
    .cases h
    .rename_i hnr
     simp only[ab] at h
     refine⟨h.symm,hno,λr' off' e=>?_⟩
     cases e
     exact hnr
   .simp only[ab] at h
    exact⟨h.symm,hno,λr' off' e=>by cases e⟩
 have hownk:∀ t p,ow t=some p->t∉ts->(∀ r off,t=.cell r off->r∉refs)->own t=some p:=by
  intro t p ht hno hnr
  cases t with
  | nm c ix' i =>
   show (if c=s.clk/\ix'=ix then _ else _)=_
   rw[ar,ar hno,ht]
   rintro⟨rfl,rfl⟩
   rw[hs.new hd] at ht
   cases ht
  | cell r off =>
   show (if r<L then _ else _)=_
   rw[au (hs.cells r off p ht),hposnone r (hnr r off rfl)]
   simp only[ar hno,ht]
 have renA:Ren some (cf refs ts) k kn ow own:=⟨hle,λr b r' hrb he=>by cases he;exact hkle.2 _ _ hrb,λt p t' ht hk=>by
  obtain⟨rfl,h1,h2⟩:=hkeep t t' hk
  exact hownk t' p ht h1 h2⟩
 have hsig1:∀ i r,refs[i]?=some r->ce refs L i=r:=λi r h=>by simp[ce,h]
 have hsig2:∀ i,m<=i->ce refs L i=L+(i-m):=λi h=>by
  have:refs[i]?=none:=aX h
  simp[ce,this,m]
 have hμi:∀ i r,refs[i]?=some r->k'.μ i=k.μ r:=λi r h=>by
  rw[hμ i (List.getElem?_eq_some_iff.1 h).1,h];rfl
 have renB:Ren (λi=>some (ce refs L i)) (cB refs L s.clk ix) k' kn ow' own:=by
  refine⟨λ_ _ _ h=>h,λi b r' hb he=>?_,λt p t' ht he=>?_⟩
  .simp only[ab] at he
   subst he
   rcases aA i m with g|g
   .have h1:refs[i]?=some refs[i]:=aL g
    rw[hsig1 i _ h1,hknl _ (hrl i _ h1),← hμi i _ h1]
    exact hb
   .rw[hsig2 i g,hkng _ aC]
    have:m+(L+(i-m)-L)=i:=by omega
    rw[this]
    exact hb
  .unfold cB at he
   split at he
   .rename_i i
    simp only[ab] at he
    subst he
    show (if s.clk=s.clk/\ix=ix then _ else _)=_
    rw[au ⟨rfl,rfl⟩]
    exact ht
   .cases he
   .rename_i i off
    simp only[ab] at he
    subst he
    show (if ce refs L i<L then _ else _)=_
    rcases aA i m with g|g
    .have h1:refs[i]?=some refs[i]:=aL g
     rw[hsig1 i _ h1,au (hrl i _ h1),aiO hr h1]
     exact ht
    .rw[hsig2 i g,ar aC]
     have:m+(L+(i-m)-L)=i:=by omega
     rw[this]
     exact ht
 have hsrc:∀ t p,own t=some p->(ow t=some p/\t∉ts/\∀ r off,t=.cell r off->r∉refs)\/∃ t0,ow' t0=some p/\cB refs L s.clk ix t0=some t:=by
  intro t p ht
  cases t with
  | nm c ix' i =>
   have ht':(if c=s.clk/\ix'=ix then ow' (.nm 0 0 i) else if Tk.nm c ix' i∈ts then none else ow (.nm c ix' i))=some p:=ht
   split at ht'
   .rename_i h1
    obtain⟨rfl,rfl⟩:=h1
    exact .inr ⟨_,ht',rfl⟩
   .split at ht'
    .cases ht'
    .rename_i hno
     exact .inl ⟨ht',hno,λr off e=>by cases e⟩
  | cell r off =>
   have ht':(if r<L then (match pos refs r with
    | some i=>ow' (.cell i off)
    | none=>if Tk.cell r off∈ts then none else ow (.cell r off)) else ow' (.cell (m+(r-L)) off))=some p:=ht
   split at ht'
   .split at ht'
    .rename_i i hi
     refine .inr ⟨_,ht',?_⟩
     simp only[cB,hsig1 i r (adq hi)]
    .rename_i hpn
     split at ht'
     .cases ht'
     .rename_i hno
      exact .inl ⟨ht',hno,λr' off' e=>by cases e;exact apK hpn⟩
   .rename_i hge
    refine .inr ⟨_,ht',?_⟩
    simp only[cB]
    rw[hsig2 _ aC]
    have:L+(m+(r-L)-m)=r:=by omega
    rw[this]
 have hngiven:∀ t v e z n,ow t=some (v,e,z,n)->t∉ts->(∀ r off,t=.cell r off->r∉refs)->∀ g,v.ownBlock=some g->¬ abK (reK refs k) (reO refs ts ow) g:=by
  rintro t v e z n ht hno hnr g hg (⟨i,hi⟩|⟨t',v',e',z',n',ht',hg'⟩)
  .simp only[reK,bI] at hi
   obtain⟨r,h1,h2⟩:=hi
   have hm:=bO h1
   obtain rfl:=(((hs.tok t v e z n ht).2 g hg).2.2 r h2).2 (hlv r hm)
   exact hnr r _ rfl hm
  .obtain⟨t0,h1,h2⟩:=ajO hr hts ht'
   refine hs.tokne t t0 v e z n v' e' z' n' ht h1 ?_ g hg hg'
   rintro rfl
   unfold fD at h2
   split at h2
   .rename_i i hi;exact hno (bO (adq hi))
   .split at h2
    .rename_i r off _
     simp only[ap] at h2
     obtain⟨i,hi,_⟩:=h2
     exact hnr r off rfl (bO (adq hi))
    .cases h2
 have hngivo:∀ r b,k.μ r=some b->r∉refs->Liv s.objs r->¬ abK (reK refs k) (reO refs ts ow) b:=by
  rintro r b hb hno hl (⟨i,hi⟩|⟨t',v',e',z',n',ht',hg'⟩)
  .simp only[reK,bI] at hi
   obtain⟨r',h1,h2⟩:=hi
   obtain rfl:=hs.inj r r' b hb h2 hl (hlv r' (bO h1))
   exact hno (bO h1)
  .obtain⟨t0,h1,h2⟩:=ajO hr hts ht'
   obtain rfl:=(((hs.tok t0 _ _ _ _ h1).2 b hg').2.2 r hb).2 hl
   rw[atO λhm=>hts2 _ hm _ _ _ _ h1 b hg' r hb hl,hposnone r hno] at h2
   cases h2
 have hmine:∀ b,agq (abK (reK refs k) (reO refs ts ow)) w b->agq M0.mod w0 b:=by
  rintro b (h1|h1)
  .exact .inl (fx hs.below.size h1)
  .exact (hgm b h1).1
 have hapart:∀ b,b<w.heap.size->¬ abK (reK refs k) (reO refs ts ow) b->¬ agq (abK (reK refs k) (reO refs ts ow)) w b:=by
  rintro b h1 h2 (h3|h3)
  .omega
  .exact h2 h3
 have hmnone:∀ b,b<w.heap.size->¬ abK (reK refs k) (reO refs ts ow) b->∀ o u,k'.m b o=some u->k.m b o=some u:=λb h1 h2 o u hm=>hp'.m0 b o u hm h1 h2
 have hlen2:(aai (λi=>some (ce refs L i)) (cB refs L s.clk ix) (s.objs.map (Ob.tr some (cf refs ts))) refs an.obs).length=L:=by rw[aml];simp[L]
 have hobjs:∀ r ob,(aai (λi=>some (ce refs L i)) (cB refs L s.clk ix) (s.objs.map (Ob.tr some (cf refs ts))) refs an.obs++(an.obs.drop m).map (Ob.tr (λi=>some (ce refs L i)) (cB refs L s.clk ix)))[r]?=some ob ->
   (∃ i ob',an.obs[i]?=some ob'/\ce refs L i=r/\ob=ob'.tr (λi=>some (ce refs L i)) (cB refs L s.clk ix))\/(r<L/\r∉refs/\∃ ob',s.objs[r]?=some ob'/\ob=ob'.tr some (cf refs ts)):=by
  intro r ob hob
  rcases aA r L with g|g
  .rw[aZ (by rw[hlen2];exact g)] at hob
   by_cases hmem:r∈refs
   .obtain⟨i,hi⟩:=List.mem_iff_getElem?.1 hmem
    have hil:i<an.obs.length:=cq (List.getElem?_eq_some_iff.1 hi).1 hlen
    have h1:an.obs[i]?=some an.obs[i]:=aL hil
    rw[ano _ _ refs _ _ i r _ hr hi h1 (by simpa [L] using g)] at hob
    exact .inl ⟨i,_,h1,hsig1 i r hi,(ay hob).symm⟩
   .rw[aht _ _ refs _ _ r hmem,bp,ap] at hob
    obtain⟨ob',h1,h2⟩:=hob
    exact .inr ⟨g,hmem,ob',h1,h2.symm⟩
  .rw[bJ (by rw[hlen2];exact g),hlen2,bp,ap,] at hob
   obtain⟨ob',h1,h2⟩:=hob
   rw[dW] at h1
   refine .inl ⟨m+(r-L),ob',h1,?_,h2.symm⟩
   rw[hsig2 _ aC]
   omega
 have hat:∀ i ob,an.obs[i]?=some ob->(aai (λi=>some (ce refs L i)) (cB refs L s.clk ix) (s.objs.map (Ob.tr some (cf refs ts))) refs an.obs++(an.obs.drop m).map (Ob.tr (λi=>some (ce refs L i)) (cB refs L s.clk ix)))[ce refs L i]?=some (ob.tr (λi=>some (ce refs L i)) (cB refs L s.clk ix)):=by
  intro i ob hi
  rcases aA i m with g|g
  .have h1:refs[i]?=some refs[i]:=aL g
   rw[hsig1 i _ h1,aZ (by rw[hlen2];exact hrl i _ h1)]
   exact ano _ _ refs _ _ i _ ob hr h1 hi (by simpa [L] using hrl i _ h1)
  .rw[hsig2 i g,bJ (by rw[hlen2];omega),hlen2,bp,dW,show m+(L+(i-m)-L)=i by omega,hi]
   rfl
 have hout:∀ r ob,r<L->r∉refs->s.objs[r]?=some ob->(aai (λi=>some (ce refs L i)) (cB refs L s.clk ix) (s.objs.map (Ob.tr some (cf refs ts))) refs an.obs++(an.obs.drop m).map (Ob.tr (λi=>some (ce refs L i)) (cB refs L s.clk ix)))[r]?=some (ob.tr some (cf refs ts)):=by
  intro r ob g hno hob
  rw[aZ (by rw[hlen2];exact g),aht _ _ refs _ _ r hno,bp,hob]
  rfl
 generalize hO:aai (λi=>some (ce refs L i)) (cB refs L s.clk ix) (s.objs.map (Ob.tr some (cf refs ts))) refs an.obs++(an.obs.drop m).map (Ob.tr (λi=>some (ce refs L i)) (cB refs L s.clk ix))=O at hobjs hat hout
 have hOl:O.length=L+(an.obs.length-m):=by rw[← hO,bg,hlen2,cN,cP]
 have hlivI:∀ i,Liv O (ce refs L i)->i<an.obs.length->Liv an.obs i:=by
  rintro i ⟨ob,h1,h2⟩ hi
  rw[hat i _ (aL hi)] at h1
  obtain rfl:=ay h1
  exact⟨_,aL hi,by rw[← acn];exact h2⟩
 have hlivR:∀ r,Liv O r->r<L->r∉refs->Liv s.objs r:=by
  rintro r ⟨ob,h1,h2⟩ hr hno
  rw[hout r _ hr hno (aL hr)] at h1
  obtain rfl:=ay h1
  exact⟨_,aL hr,by rw[← acn];exact h2⟩
 have hrowI:∀ i n,fG an.obs n i->fG O n (ce refs L i):=by
  rintro i n ⟨ty,cs,h1,h2⟩
  exact⟨ty,cs,hat i _ h1,h2⟩
 have hrowR:∀ r n,fG s.objs n r->r<L->r∉refs->fG O n r:=by
  rintro r n ⟨ty,cs,h1,h2⟩ hr hno
  exact⟨ty,cs,hout r _ hr hno h1,h2⟩
 have hdeadR:∀ r,¬ Liv s.objs r->r<L->r∉refs->fG O 0 r:=by
  intro r hn hr hno
  have h1:s.objs[r]?=some s.objs[r]:=aL hr
  generalize s.objs[r]=ob at h1
  cases ob with
  | var ty xs=>exact absurd ⟨_,h1,rfl⟩ hn
  | map es=>exact absurd ⟨_,h1,rfl⟩ hn
  | row ty cs=>cases cs with
   | nil=>exact⟨ty,[],hout r _ hr hno h1,ae _⟩
   | cons c cs=>exact absurd ⟨_,h1,rfl⟩ hn
 refine⟨us,kn,own,hend,hkle,hlen,?_,aP.tr renB _ _ hrs⟩
 exact {
  good:=hs.good
  below:=⟨hp'.below.os.trans hs.below.os,hp'.below.tape.trans hs.below.tape,hp'.below.output.trans hs.below.output,fx hs.below.size hp'.below.size,λb hb hm=>by
   have hb':b<w.heap.size:=cq hb hs.below.size
   refine (hp'.below.block b hb' λhg=>?_).trans (hs.below.block b hb hm)
   rcases (hgm b hg).1 with h1|h1
   .omega
   .exact hm h1⟩
  mem:=hp'.mem
  obj:=λr ob hob=>by
   rcases hobjs r ob hob with ⟨i,ob',h1,h2,rfl⟩|⟨h1,h2,ob',h3,rfl⟩
   .obtain⟨b,g1,g2,g3,g4,g5⟩:=hp'.obj i ob' h1
    exact⟨b,renB.μ i b r g1 (by rw[h2]),hmine b g2,g3,λhl=>g4 (by rw[← acn];exact hl),g5.tr renB⟩
   .obtain⟨b,g1,g2,g3,g4,g5⟩:=hs.obj r ob' h3
    cases hlb:ob'.live with
    | false =>
     refine⟨b,by rw[hknl r h1];exact g1,g2,cq g3 hp'.below.size,λ(hl:(Ob.tr some (cf refs ts) ob').live=true)=>(by rw[acn,hlb] at hl;cases hl),?_⟩
     cases ob' with
     | var ty xs=>cases hlb
     | map es=>cases hlb
     | row ty cs=>cases cs with
      | nil=>exact .inl rfl
      | cons c cs=>cases hlb
    | true =>
    have hng:=hngivo r b g1 h2 ⟨ob',h3,hlb⟩
    refine⟨b,by rw[hknl r h1];exact g1,g2,cq g3 hp'.below.size,λ_ o=>?_,(g5.keep (hp'.below.block b g3 hng)).tr renA⟩
    cases hm:k'.m b o with
    | none=>rfl
    | some u =>
     have:=hmnone b g3 hng o u hm
     rw[g4 hlb o] at this
     cases this
  dom:=λr b hb=>by
   show r<O.length
   rw[hOl]
   rcases aA r L with g|g
   .omega
   .rw[hkng r aC] at hb
    have:=hp'.dom _ _ hb
    omega
  inj:=λr r' b hb hb' hl hl'=>by
   have hl:Liv O r:=hl
   have hl':Liv O r':=hl'
   have back:∀ r,¬ r<L->r=ce refs L (m+(r-L)):=λr g=>by rw[hsig2 _ aC];omega
   have inI:∀ r,r∈refs->∃ i,i<m/\i<an.obs.length/\ce refs L i=r/\refs[i]?=some r:=λr hm=>by
    obtain⟨i,hi⟩:=List.mem_iff_getElem?.1 hm
    have:=(List.getElem?_eq_some_iff.1 hi).1
    exact⟨i,this,cq this hlen,hsig1 i r hi,hi⟩
   have lI:∀ r i,Liv O r->ce refs L i=r->i<an.obs.length->Liv an.obs i:=λr i h e hi=>hlivI i (by rw[e];exact h) hi
   have lN:∀ r b,¬ r<L->Liv O r->k'.μ (m+(r-L))=some b->Liv an.obs (m+(r-L)):=λr b g h hb=>lI r _ h (back r g).symm (hp'.dom _ _ hb)
   rcases aA r L with g|g
   .rw[hknl r g] at hb
    rcases aA r' L with g'|g'
    .rw[hknl r' g'] at hb'
     by_cases hm:r∈refs
     .obtain⟨i,hi1,hi2,hi3,hi4⟩:=inI r hm
      by_cases hm':r'∈refs
      .obtain⟨j,hj1,hj2,hj3,hj4⟩:=inI r' hm'
       have:=hp'.inj i j b (by rw[hμi i r hi4];exact hb) (by rw[hμi j r' hj4];exact hb') (lI r i hl hi3 hi2) (lI r' j hl' hj3 hj2)
       subst this
       exact hi3.symm.trans hj3
      .exact hs.inj r r' b hb hb' (hlv r hm) (hlivR r' hl' g' hm')
     .by_cases hm':r'∈refs
      .exact hs.inj r r' b hb hb' (hlivR r hl g hm) (hlv r' hm')
      .exact hs.inj r r' b hb hb' (hlivR r hl g hm) (hlivR r' hl' g' hm')
    .rw[hkng r' aC] at hb'
     by_cases hmem:r∈refs
     .obtain⟨i,hi1,hi2,hi3,hi⟩:=inI r hmem
      have h1:k'.μ i=some b:=by rw[hμi i r hi];exact hb
      have:=hp'.inj _ _ b h1 hb' (lI r i hl hi3 hi2) (lN r' b aC hl' hb')
      omega
     .have:=(hp'.lt hb').1
      exact (hapart b (hs.lt hb).2.1 (hngivo r b hb hmem (hlivR r hl g hmem)) this).elim
   .rw[hkng r aC] at hb
    rcases aA r' L with g'|g'
    .rw[hknl r' g'] at hb'
     by_cases hmem:r'∈refs
     .obtain⟨i,hi1,hi2,hi3,hi⟩:=inI r' hmem
      have h1:k'.μ i=some b:=by rw[hμi i r' hi];exact hb'
      have:=hp'.inj _ _ b h1 hb (lI r' i hl' hi3 hi2) (lN r b aC hl hb)
      omega
     .have:=(hp'.lt hb).1
      exact (hapart b (hs.lt hb').2.1 (hngivo r' b hb' hmem (hlivR r' hl' g' hmem)) this).elim
    .rw[hkng r' aC] at hb'
     have:=hp'.inj _ _ b hb hb' (lN r b aC hl hb) (lN r' b aC hl' hb')
     omega
  tok:=λt v e z n ht=>by
   rcases hsrc t _ ht with ⟨h1,h2,h3⟩|⟨t0,h1,h2⟩
   .obtain⟨⟨xs',g1⟩,g2⟩:=hs.tok t v e z n h1
    have hng:=hngiven t v e z n h1 h2 h3
    refine⟨⟨xs',acK (λg hg hlt=>hp'.below.block g hlt (hng g hg)) g1⟩,λg hg=>⟨(g2 g hg).1,λo ho=>?_,λr hb=>?_⟩⟩
    .have hlt:=(hs.tlt h1 hg).2
     cases hm:k'.m g o with
     | none=>rfl
     | some u =>
      have:=hmnone g hlt (hng g hg) o u hm
      rw[(g2 g hg).2.1 o ho] at this
      cases this
    .rcases aA r L with g'|g'
     .rw[hknl r g'] at hb
      obtain⟨q1,q2⟩:=(g2 g hg).2.2 r hb
      have hno:r∉refs:=λhm=>by
       obtain rfl:=q2 (hlv r hm)
       exact h3 r _ rfl hm
      exact⟨hrowR r _ q1 g' hno,λhl=>q2 (hlivR r hl g' hno)⟩
     .rw[hkng r aC] at hb
      exact (hapart g (hs.tlt h1 hg).2 (hng g hg) (hp'.lt hb).1).elim
   .obtain⟨g1,g2⟩:=hp'.tok t0 v e z n h1
    refine⟨g1,λg hg=>⟨hmine g (g2 g hg).1,(g2 g hg).2.1,λr hb=>?_⟩⟩
    rcases aA r L with g'|g'
    .rw[hknl r g'] at hb
     by_cases hmem:r∈refs
     .obtain⟨i,hi⟩:=List.mem_iff_getElem?.1 hmem
      obtain⟨q1,q2⟩:=(g2 g hg).2.2 i (by rw[hμi i r hi];exact hb)
      refine⟨by rw[← hsig1 i r hi];exact hrowI i _ q1,λhl=>?_⟩
      obtain rfl:=q2 (hlivI i (by rw[hsig1 i r hi];exact hl) (cq (List.getElem?_eq_some_iff.1 hi).1 hlen))
      simp only[cB,hsig1 i r hi,ab] at h2
      exact h2.symm
     .have hnl:¬ Liv s.objs r:=λhl=>hapart g (hs.lt hb).2.1 (hngivo r g hb hmem hl) (g2 g hg).1
      exact⟨(hdeadR r hnl g' hmem).mono (aU _),λhl=>absurd (hlivR r hl g' hmem) hnl⟩
    .rw[hkng r aC] at hb
     obtain⟨q1,q2⟩:=(g2 g hg).2.2 _ hb
     have e1:ce refs L (m+(r-L))=r:=by rw[hsig2 _ aC];omega
     refine⟨by rw[← e1];exact hrowI _ _ q1,λhl=>?_⟩
     obtain rfl:=q2 (hlivI _ (by rw[e1];exact hl) (hp'.dom _ _ hb))
     simp only[cB,e1,ab] at h2
     exact h2.symm
  tokne:=λt t' v e z n v' e' z' n' ht ht' hne g hg hg'=>by
   rcases hsrc t _ ht with ⟨h1,h2,h3⟩|⟨t0,h1,h2⟩
   .rcases hsrc t' _ ht' with ⟨h1',h2',h3'⟩|⟨t0',h1',h2'⟩
    .exact hs.tokne t t' v e z n v' e' z' n' h1 h1' hne g hg hg'
    .exact hapart g (hs.tlt h1 hg).2 (hngiven t v e z n h1 h2 h3 g hg) (hp'.tlt h1' hg').1
   .rcases hsrc t' _ ht' with ⟨h1',h2',h3'⟩|⟨t0',h1',h2'⟩
    .exact hapart g (hs.tlt h1' hg').2 (hngiven t' v' e' z' n' h1' h2' h3' g hg') (hp'.tlt h1 hg).1
    .exact hp'.tokne t0 t0' v e z n v' e' z' n' h1 h1' (λe=>hne (by subst e;rw[h2] at h2';exact ay h2')) g hg hg'
  m0:=λb o u hm hb hmd=>by
   have hb':b<w.heap.size:=cq hb hs.below.size
   refine hs.m0 b o u (hmnone b hb' (λhg=>?_) o u hm) hb hmd
   rcases (hgm b hg).1 with h1|h1
   .omega
   .exact hmd h1
  size:=hs.size
  fr:=λj=>aE.tr renA _ _ (hs.fr j)
  fresh:=λt p ht=>by
   rcases hsrc t p ht with ⟨h1,_,_⟩|⟨t0,h1,h2⟩
   .have:=hs.fresh t p h1
    cases t with
    | nm c ix' i=>exact this.imp id (fun⟨a,b⟩=>⟨a,.inl b⟩)
    | cell r off=>trivial
   .unfold cB at h2
    split at h2
    .cases h2;exact .inr ⟨rfl,.inr rfl⟩
    .cases h2
    .cases h2;trivial
  cells:=λr off p ht=>by
   show r<O.length
   rw[hOl]
   rcases aA r L with g|g
   .omega
   .have ht':ow' (.cell (m+(r-L)) off)=some p:=by
     have:(if r<L then (match pos refs r with
      | some i=>ow' (.cell i off)
      | none=>if Tk.cell r off∈ts then none else ow (.cell r off)) else ow' (.cell (m+(r-L)) off))=some p:=ht
     rwa [ar aC] at this
    have:=hcl _ _ _ ht'
    omega}
theorem X.tr_id:∀ x:X,x.tr some some=x :=
 X.rec (motive_1:=λx=>x.tr some some=x) (motive_2:=λxs=>X.trs some some xs=xs) (λ_=>rfl) rfl (λ_ _ _ _ _=>rfl) (λ_ _=>rfl) (λ_=>rfl)
  (λf xs ih=>by simp only[X.tr,ih]) (λxs ih=>by simp only[X.tr,ih]) (λxs ih=>by simp only[X.tr,ih]) (λo _ _=>by cases o <;> rfl) (λ_ _ _=>au rfl) rfl (λx xs h1 h2=>by simp only[X.trs,h1,h2])
theorem X.trs_id(xs:List X):X.trs some some xs=xs:=by
 induction xs with
 | nil=>rfl
 | cons x xs ih=>simp only[X.trs,X.tr_id,ih]
theorem Ob.tr_id(o:Ob):o.tr some some=o:=by
 cases o with
 | var ty xs=>simp only[Ob.tr,X.trs_id]
 | map es=>rfl
 | row ty cs=>rfl
theorem arb:cf [] []=some:=by
 funext t
 cases t <;> simp[cf]
theorem aFc(hs:Sim M0 k ow done w0 w N s tmps){f:Nat}{cs:List C}{rs:List X}{vs:List Value}{ix:Nat}(hsound:aa9 P M0.G f (cs.map .of) [] ⟨false,rs,[]⟩)(hc:d9 P f=true)(hvs:bu k.m cs vs)(hd:¬ done ix) :
  Calls P f vs.toArray w λe w'=>∃ v kn own,e=.returned v/\k.le kn/\Sim M0 kn own (λj=>done j\/j=ix) w0 w' N s tmps/\aE kn own (ae8 (ahD s.clk ix rs)) v:=by
 refine (auq (refs:=[]) (ts:=[]) (obs:=[]) hs abE abE (λ_ h=>by cases h) (λ_ h=>by cases h) rfl hsound hc (aP.of (by exact hvs)) hd).mono λe w' ⟨us,kn,own,h1,h2,_,h3,h4⟩=>?_
 simp only[ahT] at h1
 refine⟨ams us,kn,own,h1,h2,?_,aw9 ?_⟩
 .have e1:(λj=>(s.fr j).tr some (cf [] []))=s.fr:=by funext j;rw[arb,X.tr_id]
  have e2:s.objs.map (Ob.tr some (cf [] []))=s.objs:=by
   rw[arb]
   have:Ob.tr some some=id:=by funext o;exact Ob.tr_id o
   rw[this,List.map_id]
  simp only[aai,aR,List.drop_nil,bm,cZ,e1,e2] at h3
  exact h3
 .have hren:Ren (λ_=>none) some kn kn own own:=⟨λ_ _ _ h=>h,λr b r' _ he=>(by cases he),λt p t' ht he=>(by cases he;exact ht)⟩
  have h5:=aP.tr hren _ _ h4
  have key:∀ x:X,(x.tr (λi=>some (ce [] s.objs.length i)) (cB [] s.objs.length s.clk ix)).tr (λ_=>none) some=x.tr (λ_=>none) (cB [] s.objs.length s.clk ix) :=
   X.rec (motive_1:=λx=>(x.tr (λi=>some (ce [] s.objs.length i)) (cB [] s.objs.length s.clk ix)).tr (λ_=>none) some=x.tr (λ_=>none) (cB [] s.objs.length s.clk ix))
    (motive_2:=λxs=>X.trs (λ_=>none) some (X.trs (λi=>some (ce [] s.objs.length i)) (cB [] s.objs.length s.clk ix) xs)=X.trs (λ_=>none) (cB [] s.objs.length s.clk ix) xs)
    (λ_=>rfl) rfl (λt e z cs n=>by simp only[X.tr];split <;> rfl) (λ_ _=>rfl) (λ_=>rfl)
    (λf xs ih=>by simp only[X.tr,ih]) (λxs ih=>by simp only[X.tr,ih]) (λxs ih=>by simp only[X.tr,ih]) (λo ty z=>by cases o with
     | none=>rfl
     | some t=>simp only[X.tr,db];cases cB [] s.objs.length s.clk ix t <;> rfl) (λr e z=>by simp only[X.tr];split <;> rfl) rfl (λx xs h1 h2=>by simp only[X.trs,h1,h2])
  have keys:∀ xs:List X,X.trs (λ_=>none) some (X.trs (λi=>some (ce [] s.objs.length i)) (cB [] s.objs.length s.clk ix) xs)=X.trs (λ_=>none) (cB [] s.objs.length s.clk ix) xs:=λxs=>by
   induction xs with
   | nil=>rfl
   | cons x xs ih=>simp only[X.trs,key,ih]
  rw[keys] at h5
  have hren2:Ren (λ_=>none) (λt=>match t with | .nm ..=>some t | .cell ..=>none) kn kn own own:=⟨λ_ _ _ h=>h,λr b r' _ he=>(by cases he),λt p t' ht he=>by
   cases t with
   | nm c ix' i=>cases he;exact ht
   | cell r off=>cases he⟩
  have h6:=aP.tr hren2 _ _ h5
  have key2:∀ x:X,(x.tr (λ_=>none) (cB [] s.objs.length s.clk ix)).tr (λ_=>none) (λt=>match t with | .nm ..=>some t | .cell ..=>none)=x.tr (λ_=>none) (adr s.clk ix) :=
   X.rec (motive_1:=λx=>(x.tr (λ_=>none) (cB [] s.objs.length s.clk ix)).tr (λ_=>none) (λt=>match t with | .nm ..=>some t | .cell ..=>none)=x.tr (λ_=>none) (adr s.clk ix))
    (motive_2:=λxs=>X.trs (λ_=>none) (λt=>match t with | .nm ..=>some t | .cell ..=>none) (X.trs (λ_=>none) (cB [] s.objs.length s.clk ix) xs)=X.trs (λ_=>none) (adr s.clk ix) xs)
    (λ_=>rfl) rfl
    (λt e z cs n=>by
     cases t with
     | nm c ix' i =>
      match c,ix' with
      | 0,0=>rfl
      | 0,_+1=>rfl
      | _+1,_=>rfl
     | cell r off=>rfl) (λ_ _=>rfl) (λ_=>rfl)
    (λf xs ih=>by simp only[X.tr,ih]) (λxs ih=>by simp only[X.tr,ih]) (λxs ih=>by simp only[X.tr,ih]) (λo ty z=>by
     cases o with
     | none=>rfl
     | some t =>
      cases t with
      | nm c ix' i =>
       match c,ix' with
       | 0,0=>rfl
       | 0,_+1=>rfl
       | _+1,_=>rfl
      | cell r off=>rfl) (λ_ _ _=>rfl) rfl (λx xs h1 h2=>by simp only[X.trs,h1,h2])
  have keys2:∀ xs:List X,X.trs (λ_=>none) (λt=>match t with | .nm ..=>some t | .cell ..=>none) (X.trs (λ_=>none) (cB [] s.objs.length s.clk ix) xs)=X.trs (λ_=>none) (adr s.clk ix) xs:=λxs=>by
   induction xs with
   | nil=>rfl
   | cons x xs ih=>simp only[X.trs,key2,ih]
  rw[keys2] at h6
  exact h6
theorem acT{o:Oper}{a:Act}{K:Act->World->Prop}{Q:Exit->Act->World->Prop}{u:Value}{w':World}(hr:(execOp a.eval o).run P w=.ok (.value u) w')(hK:K (a.put o.dst u) w'):o.wp P a w K Q:=by
 unfold Oper.wp
 rw[hr]
 exact hK
theorem ef{x y:X}{e:Option Tk}(h:out x=some (y,e)):x=y/\e=none:=by
 simp only[out,bD] at h
 exact⟨h.1,h.2.symm⟩
theorem acV{x:Option X}{y:X}{e:Option Tk}(h:bE x=some (y,e)):x=some y/\e=none:=by
 simp only[bE,ap,aY] at h
 obtain⟨a,h1,rfl,h2⟩:=h
 exact⟨h1,h2.symm⟩
theorem Sim.known(h:Sim M0 k ow done w0 w N s tmps){w':World}(hb:Below w.heap.size w w'){us:List Value}(hc:∀ o u,us[o]?=some u->w'.cell? ⟨w.heap.size,o,none⟩=some u/\u.oneCell'=true) :
  ∃ k',k.le k'/\Sim M0 k' ow done w0 w' N s tmps/\∀ o u,us[o]?=some u->k'.m w.heap.size o=some u:=by
 have hg:=h.grow hb
 let k':Know:={m:=λb o=>if b=w.heap.size then us[o]? else k.m b o,μ:=k.μ}
 have hle:k.le k':=⟨λb o v hm=>by
  have:=agt h.mem hm
  show (if b=w.heap.size then us[o]? else k.m b o)=some v
  rw[ar aC];exact hm,λ_ _ h=>h⟩
 have hne:∀ b o,b<w.heap.size->k'.m b o=k.m b o:=λb o hb=>by
  show (if b=w.heap.size then us[o]? else k.m b o)=k.m b o
  rw[ar aC]
 refine⟨k',hle,{hg with
  fr:=λj=>aE.mono hle (λ_ _ h=>h) _ _ (hg.fr j)
  mem:=λb o v hm=>by
   by_cases hbe:b=w.heap.size
   .subst hbe
    simp only[k',am] at hm
    exact hc o v hm
   .simp only[k',hbe,av] at hm
    exact hg.mem b o v hm
  obj:=λr ob hr=>by
   obtain⟨b,g1,g2,g3,g4,g5⟩:=hg.obj r ob hr
   have hlt:=(h.lt g1).2.1
   exact⟨b,g1,g2,g3,λhl o=>by rw[hne b o hlt];exact g4 hl o,g5.mono hle (λ_ _ h=>h)⟩
  tok:=λt v e z n ht=>by
   obtain⟨g1,g2⟩:=hg.tok t v e z n ht
   exact⟨g1,λg hgo=>⟨(g2 g hgo).1,λo ho=>by rw[hne g o (h.tlt ht hgo).2];exact (g2 g hgo).2.1 o ho,(g2 g hgo).2.2⟩⟩
  m0:=λb o v hm hb0 hmd=>by
   rw[hne b o (cq hb0 h.below.size)] at hm
   exact hg.m0 b o v hm hb0 hmd},λo u hu=>by simp only[k',am];exact hu⟩
theorem aF2(hs:Sim M0 k ow done w0 w N s tmps){E:En}(horc:∀ f xs obs an,E.orc f xs obs=some an->aa9 P M0.G f xs obs an){ix:Nat}(hd:¬ done ix){o:Oper}(hns:cL o.op=false){x:X}{e:Option Tk}
  (h:val P (TT.of P) E s ix o=some (x,e)) (hek:∀ t,e=some t->t.isRow=false) {K:Act->World->Prop} {Q:Exit->Act->World->Prop}
  (hK:∀ u w' k' ow',k.le k'->Sim M0 k' ow' (λj=>done j\/j=ix) w0 w' N (s.drop e) tmps->aE k' ow' x u->K ((⟨tmps,ds⟩ : Act).put o.dst u) w'):o.wp P ⟨tmps,ds⟩ w K Q:=by
 have hs1:=hs.more (done':=λj=>done j\/j=ix) (λ_ h=>.inl h)
 have hnew:ow (.nm s.clk ix 0)=none:=hs.new hd
 have plain:∀ u,e=none->(execOp (⟨tmps,ds⟩ : Act).eval o).run P w=.ok (.value u) w->aE k ow x u->o.wp P ⟨tmps,ds⟩ w K Q:=by
  rintro u rfl hr hx
  exact acT hr (hK u w k ow (Know.le_refl k) hs1 hx)
 have ev:=λx=>Sim.ev (ds:=ds) hs x
 unfold val at h
 split at h
 .-- move
  rename_i y ho
  obtain⟨rfl,rfl⟩:=ef h
  exact plain _ rfl (by simp[execOp,ho]) (ev y)
 .rename_i y ho
  obtain⟨rfl,rfl⟩:=ef h
  exact plain _ rfl (by simp[execOp,ho]) (ev y)
 .-- pick
  rename_i c a b ho
  split at h
  .rename_i b' hb
   have hc:=akb hb (ev c)
   obtain⟨rfl,rfl⟩:=ef h
   cases b' with
   | true=>exact plain ((⟨tmps,ds⟩ : Act).eval a) rfl (by simp[execOp,ho,hc,asBool]) (by simpa using ev a)
   | false=>exact plain ((⟨tmps,ds⟩ : Act).eval b) rfl (by simp[execOp,ho,hc,asBool]) (by simpa using ev b)
  .cases h
 .-- binOp
  rename_i op t y z yt ho
  unfold eT at h
  split at h
  .rename_i u v hu hv
   have h':=acV h;clear h;obtain⟨h,rfl⟩:=h'
   simp only[ap] at h
   obtain⟨r,hr,rfl⟩:=h
   have h1:=ahh hu (ev y)
   have h2:=ahh hv (ev z)
   obtain⟨g1,g2⟩:=ayG (w:=w) y z hr
   refine plain r rfl ?_ (by simp[aE,Rep,g2])
   simp only[execOp,ho,h1,h2,Sem.run_bind,g1,Result.andThen_ok,Sem.run_pure]
  .cases hu:(s.ev y).rd with
   | none=>rw[hu] at h;cases h
   | some cu =>
    cases hv:(s.ev z).rd with
    | none=>rw[hu,hv] at h;unfold afS at h;split at h <;> simp_all
    | some cv =>
     obtain⟨b,rfl,rfl,g1⟩:=ayH (w:=w) y z h hu hv (af2 _ _ _ hu (ev y)) (af2 _ _ _ hv (ev z))
     refine plain (.bool b) rfl ?_ (by simp[aE,Rep,Value.oneCell'])
     simp only[execOp,ho,g1,Sem.run_bind,Result.andThen_ok,Sem.run_pure]
 .-- unOp
  rename_i op t y ho
  split at h
  .rename_i u hu
   have h':=acV h;clear h;obtain⟨h,rfl⟩:=h'
   simp only[ap] at h
   obtain⟨r,hr,rfl⟩:=h
   have h1:=ev y
   rw[hu] at h1
   simp only[aE,Rep] at h1
   obtain⟨g1,g2⟩:=azb (P:=P) (w:=w) hr
   exact plain r rfl (by simp[execOp,ho,h1.1,g1]) (by simp[aE,Rep,g2])
  .cases h
 .-- load
  rename_i t a ho
  obtain⟨rfl,u,hr,hx⟩:=aq4 hs.toHp h (ev a)
  exact plain u rfl (by simp[execOp,ho,hr]) hx
 .rename_i t y f ho
  obtain⟨rfl,u,hr,hx⟩:=ak0 (w:=w) h (ev y)
  exact plain u rfl (by simp[execOp,ho,hr]) hx
 .rename_i t y f ho
  obtain⟨rfl,u,hr,hx⟩:=az1 (w:=w) h (ev y)
  exact plain u rfl (by simp[execOp,ho,hr]) hx
 .rename_i t y i ho
  obtain⟨rfl,u,hr,hx⟩:=arj (w:=w) h (ev y) (ev i)
  exact plain u rfl (by simp[execOp,ho,hr]) hx
 .rename_i t y i ho
  obtain⟨rfl,u,hr,hx⟩:=azV (w:=w) h (ev y) (ev i)
  exact plain u rfl (by simp[execOp,ho,hr]) hx
 .-- slice
  rename_i t y lo hi ho
  have hlo:∀ z:Option Operand,aFL k ow (z.map s.ev) (z.map λx=>(⟨tmps,ds⟩ : Act).eval x):=λz=>by
   cases z with
   | none=>trivial
   | some z=>exact ev z
  obtain⟨rfl,u,hr,hx⟩:=azn (w:=w) h (ev y) (hlo lo) (hlo hi)
  exact plain u rfl (by simp only[execOp,ho,Sem.run_bind,ahU,hr,Result.andThen_ok,Sem.run_pure]) hx
 .-- build
  rename_i t ps ho
  split at h
  .rename_i d qs hT hq
   have hp:=amx (k:=k) (ow:=ow) ev ps.toList qs hq
   have hpe:ps.toList.map (λp=>(p.1,(⟨tmps,ds⟩ : Act).eval p.2))=(ps.map λ(i,x)=>(i,(⟨tmps,ds⟩ : Act).eval x)).toList:=by simp
   rw[hpe] at hp
   split at h
   .rename_i fs hu
    have h':=acV h;clear h;obtain⟨h,rfl⟩:=h'
    simp only[ap] at h
    obtain⟨xs,hx,rfl⟩:=h
    obtain⟨u,hr,hx⟩:=aAe (w:=w) hT hu hp hx
    exact plain u rfl (by simp[execOp,ho,hr]) hx
   .rename_i n el hu
    split at h
    .rename_i de hE
     have h':=acV h;clear h;obtain⟨h,rfl⟩:=h'
     simp only[ap] at h
     obtain⟨xs,hx,rfl⟩:=h
     obtain⟨u,hr,hx⟩:=ao8 (w:=w) hT hu hE hp hx
     exact plain u rfl (by simp[execOp,ho,hr]) hx
    .cases h
   .cases h
  .cases h
 .-- buildSlice
  rename_i t n ps ho
  split at h
  .rename_i el d qs he hq
   have hp:=amx (k:=k) (ow:=ow) ev ps.toList qs hq
   have hpe:ps.toList.map (λp=>(p.1,(⟨tmps,ds⟩ : Act).eval p.2))=(ps.map λ(i,x)=>(i,(⟨tmps,ds⟩ : Act).eval x)).toList:=by simp
   rw[hpe] at hp
   split at h
   .rename_i hc
    split at h
    .rename_i xs hx
     split at h
     .rename_i cs hcs
      obtain⟨rfl,rfl⟩:=ef h
      obtain⟨u,w',k',ow',hr,g1,g2,g3⟩:=aqf hs1 he hc.1 hc.2.1 hp hx hcs hnew (.inr ⟨rfl,.inr rfl⟩)
      exact acT (by simp[execOp,ho,hr]) (hK u w' k' ow' g1 g2 g3)
     .cases h
    .cases h
   .cases h
  .cases h
 .-- extract
  rename_i y i ho
  have h1:=ev y
  split at h
  .rename_i xs hy
   have h':=acV h;clear h;obtain⟨h,rfl⟩:=h'
   rw[hy] at h1
   simp only[aE] at h1
   obtain⟨vs,hv,hl⟩:=h1
   obtain⟨u,hu,hx⟩:=hl.get i x h
   exact plain u rfl (by simp[execOp,ho,hv,Instr.extract,hu]) hx
  .rename_i cs hy
   have h':=acV h;clear h;obtain⟨h,rfl⟩:=h'
   simp only[ap] at h
   obtain⟨c,hc,rfl⟩:=h
   rw[hy] at h1
   simp only[aE,Rep] at h1
   obtain⟨vs,hv,hl⟩:=h1
   obtain⟨u,hu,hx⟩:=hl.get i c hc
   exact plain u rfl (by simp[execOp,ho,hv,Instr.extract,hu]) (by simpa only [aE] using hx)
  .cases h
 .-- nilCheck
  rename_i y ho
  have h1:=ev y
  split at h
  .rename_i r off hy
   obtain⟨rfl,rfl⟩:=ef h
   rw[hy] at h1
   have h2:=h1
   simp only[aE] at h1
   obtain⟨b,hb,hv⟩:=h1
   exact plain ((⟨tmps,ds⟩ : Act).eval y) rfl (by rw[hv];simp[execOp,ho,hv]) h2
  .rename_i cs hy
   obtain⟨rfl,rfl⟩:=ef h
   rw[hy] at h1
   have h2:=h1
   simp only[aE,Rep] at h1
   obtain⟨b,o',vs,hv,_⟩:=h1
   exact plain ((⟨tmps,ds⟩ : Act).eval y) rfl (by rw[hv];simp[execOp,ho,hv]) h2
  .cases h
 .-- makeFunc
  rename_i f first caps ho
  split at h
  .rename_i h0
   have h0':first=#[]:=Array.eq_empty_of_size_eq_zero h0
   subst h0'
   split at h
   .rename_i cs hcs
    obtain⟨rfl,rfl⟩:=ef h
    have hl:=anw (ds:=ds) hs _ _ hcs
    refine plain (.func (.func f) #[] (caps.map λx=>(⟨tmps,ds⟩ : Act).eval x)) rfl ?_ ?_
    .simp[execOp,ho,Instr.makeFunc]
    .simp only[aE,Rep]
     exact⟨(caps.map λx=>(⟨tmps,ds⟩ : Act).eval x).toList,by rw[cz],by rw[adb];exact hl⟩
   .unfold amV at h
    split at h
    .rename_i ys hys
     obtain⟨rfl,rfl⟩:=ef h
     refine plain (.func (.func f) #[] (caps.map λx=>(⟨tmps,ds⟩ : Act).eval x)) rfl ?_ ?_
     .simp[execOp,ho,Instr.makeFunc]
     .simp only[aE]
      refine⟨(caps.map λx=>(⟨tmps,ds⟩ : Act).eval x).toList,?_,?_⟩
      .rw[au (a0i f),a0h f,cz]
      .rw[adb]
       exact an4 ev _ _ hys
    .cases h
  .split at h
   .rename_i h1
    have h1':caps=#[]:=Array.eq_empty_of_size_eq_zero h1
    subst h1'
    unfold amV at h
    split at h
    .rename_i ys hys
     obtain⟨rfl,rfl⟩:=ef h
     refine plain (.func (.func f) (first.map λx=>(⟨tmps,ds⟩ : Act).eval x) #[]) rfl ?_ ?_
     .simp[execOp,ho,Instr.makeFunc]
     .simp only[aE]
      refine⟨(first.map λx=>(⟨tmps,ds⟩ : Act).eval x).toList,?_,?_⟩
      .rw[ar (a0g f),a0f f,cz]
      .rw[adb]
       exact an4 ev _ _ hys
    .cases h
   .cases h
 .rename_i a b y ho
  unfold aed at h
  split at h
  rotate_left
  .obtain⟨rfl,u,hr,hx⟩:=auX (w:=w) (λb o v hm=>(hs.mem b o v hm).1) h (ev y)
   exact plain u rfl (by simp[execOp,ho,hr]) hx
  rename_i el st hb hy
  unfold avW at h
  split at h
  rotate_left
  .cases h
  rename_i hc
  obtain⟨rfl,rfl⟩:=ef h
  rw[aj] at hc
  have h1:P.underlying a=some .string:=by
   cases hT:TT.of P a with
   | none=>rw[hT] at hc;cases hc.1
   | some dd=>rw[hT] at hc;rw[(TT.of_ok hT).und,← awK (u:=some dd.und) hc.1]
  have h2:P.underlying b=some (.slice el):=by
   cases hT:TT.of P b with
   | none=>simp[hT] at hb
   | some dd=>simp only[hT,aJ,ab] at hb;rw[← hb];exact (TT.of_ok hT).und
  have h3:P.underlying el=some (.int .u8):=by
   obtain⟨dd,hT,hu,_⟩:=u8D hc.2
   rw[← hu]
   exact (TT.of_ok hT).und
  have hyv:=ev y
  rw[hy] at hyv
  simp only[aE,Rep] at hyv
  have hrun:=Go.Lib.run_convert_string_bytes (P:=P) w a b el st h1 h2 h3
  have hbel:Below w.heap.size w (Go.Lib.bytesWorld w el st):=⟨rfl,rfl,rfl,by rw[Go.Lib.bytesWorld_size];omega,λj hj=>Go.Lib.bytesWorld_at_old w el st j hj⟩
  have hcells:∀ o u,(Lib.strCells st)[o]?=some u->(Go.Lib.bytesWorld w el st).cell? ⟨w.heap.size,o,none⟩=some u/\u.oneCell'=true:=λo u hu=>by
   have hl:o<st.size:=by
    rcases aA o st.size with g|g
    .exact g
    .rw[aX (by simpa [Lib.strCells] using g)] at hu;cases hu
   have he:u=.int .u8 (st.data.toList.getD o 0).toNat:=by
    have hl2:o<st.data.toList.length:=by simpa using hl
    simp only[Lib.strCells,bp,aL hl2,aJ,ab] at hu
    rw[← hu,aW,aL hl2]
    rfl
   rw[he]
   exact⟨Go.Lib.bytesWorld_cell w el st o hl,rfl⟩
  obtain⟨k',g1,g2,g3⟩:=hs1.known hbel hcells
  refine acT (u:=.slice (some ⟨w.heap.size,0,none⟩) st.size (grownCap w st.size 0 el)) (w':=Go.Lib.bytesWorld w el st) (by simp[execOp,ho,hyv.1,hrun]) (hK _ _ k' ow g1 g2 ?_)
  simp only[aE,Rep]
  refine⟨_,_,Lib.strCells st,rfl,?_,arK st,λ_=>⟨w.heap.size,0,rfl,λi u hu=>by rw[bK];exact g3 i u hu⟩⟩
  simp[grownCap,Question.cut]
 .rename_i t y i ok ho
  obtain⟨rfl,u,hr,hx⟩:=axu hs h (ev y) (ev i)
  exact plain u rfl (by simp[execOp,ho,hr]) hx
 .rename_i t y ho
  split at h
  .rename_i c hD hc
   obtain⟨rfl,rfl⟩:=ef h
   have hrep:=af2 _ _ _ hc (ev y)
   refine plain (.iface t ((⟨tmps,ds⟩ : Act).eval y)) rfl ?_ (by simp only[aE,Rep];exact⟨_,rfl,hrep⟩)
   cases hT:TT.of P t with
   | none=>simp[hT,amL] at hD
   | some d =>
    have hund:=(TT.of_ok hT).run_und w
    rw[hT] at hD
    simp only[aJ] at hD
    have hmk:(Instr.makeInterface t ((⟨tmps,ds⟩ : Act).eval y)).run P w=.ok (.iface t ((⟨tmps,ds⟩ : Act).eval y)) w:=by
     simp only[Instr.makeInterface,Sem.run_bind,hund,Result.andThen_ok]
     split
     .rename_i ms e
      rw[e] at hD
      simp[amL] at hD
     .rfl
    simp[execOp,ho,hmk]
  .cases h
 .rename_i y xt u ok ho
  unfold asX at h
  split at h
  .rename_i t c hy
   split at h
   .rename_i hc
    obtain⟨hD,rfl⟩:=hc
    obtain⟨rfl,rfl⟩:=ef h
    have hy':=ev y
    rw[hy] at hy'
    simp only[aE,Rep] at hy'
    obtain⟨v,hv,hr⟩:=hy'
    refine plain (.tuple #[v,.bool true]) rfl ?_ (by simp only[aE,Rep,bu];exact⟨[v,.bool true],rfl,v,_,rfl,hr,_,_,rfl,⟨rfl,rfl⟩,rfl⟩)
    cases hT:TT.of P t with
    | none=>simp[hT,amL] at hD
    | some d =>
     have hund:=(TT.of_ok hT).run_und w
     rw[hT] at hD
     simp only[aJ] at hD
     have hmk:(Instr.typeAssert (.iface t v) xt t true).run P w=.ok (.tuple #[v,.bool true]) w:=by
      simp only[Instr.typeAssert,Sem.run_bind,hund,Result.andThen_ok]
      cases hd:d.und with
      | interface ms=>rw[hd] at hD;simp[amL] at hD
      | _=>simp
     simp[execOp,ho,hv,hmk]
   .cases h
  .cases h
 .rename_i cal args tys ho
  unfold aeY at h
  split at h
  .-- len
   rename_i y t hargs htys
   obtain⟨rfl,u,hr,hx⟩:=aHJ (w:=w) (ty:=o.type) h (ev y)
   have ha:args=#[y]:=by rw[← cz (xs:=args),hargs]
   have ht:tys=#[t]:=by rw[← cz (xs:=tys),htys]
   subst ha;subst ht
   exact plain u rfl (by simp[execOp,ho,resolve,invoke,builtin,hr]) hx
  .-- append
   rename_i a b st xt hargs htys
   obtain⟨u,w',k',ow',hr,g1,g2,g3⟩:=ayI (ty:=o.type) hs1 h hek (ev a) (ev b) hnew (.inr ⟨rfl,.inr rfl⟩)
   have ha:args=#[a,b]:=by rw[← cz (xs:=args),hargs]
   have ht:tys=#[st,xt]:=by rw[← cz (xs:=tys),htys]
   subst ha;subst ht
   exact acT (by simp[execOp,ho,resolve,invoke,builtin,hr]) (hK u w' k' ow' g1 g2 g3)
  .-- min
   rename_i a b hargs
   unfold apS at h
   split at h
   .rename_i m n hm hn
    obtain⟨rfl,rfl⟩:=ef h
    have ha:args=#[a,b]:=by rw[← cz (xs:=args),hargs]
    subst ha
    have e1:=af8 hm (ev a)
    have e2:=af8 hn (ev b)
    exact plain (.int .i64 (if n<m then n else m)) rfl (by simp[execOp,ho,resolve,invoke,builtin,e1,e2,Builtin.min_,Builtin.min2]) ⟨rfl,rfl⟩
   .cases h
  .-- max
   rename_i a b hargs
   unfold apT at h
   split at h
   .rename_i m n hm hn
    obtain⟨rfl,rfl⟩:=ef h
    have ha:args=#[a,b]:=by rw[← cz (xs:=args),hargs]
    subst ha
    have e1:=af8 hm (ev a)
    have e2:=af8 hn (ev b)
    exact plain (.int .i64 (if m<n then n else m)) rfl (by simp[execOp,ho,resolve,invoke,builtin,e1,e2,Builtin.max_,Builtin.max2]) ⟨rfl,rfl⟩
   .cases h
  .-- a call
   rename_i f
   split at h
   .rename_i g caps cs hf hcs
    unfold afo at h
    split at h
    .rename_i hc
     simp only[aj] at hc
     replace hc:=hc.1
     split at h
     .rename_i r hr
      obtain⟨rfl,rfl⟩:=ef h
      have hl:=anw (ds:=ds) hs _ _ hcs
      have hfv:=ev f
      rw[hf] at hfv
      simp only[aE,Rep] at hfv
      obtain⟨cvs,hfv,hcl⟩:=hfv
      have hcall:=aFc (w:=w) hs (horc g _ _ _ hr) hc (hl.append hcl) hd
      have hrun:(execOp (⟨tmps,ds⟩ : Act).eval o).run P w=.ok (.enter g ((args.toList.map λx=>(⟨tmps,ds⟩ : Act).eval x)++cvs).toArray) w:=by
       unfold d9 at hc
       split at hc
       .rename_i fn hfn
        simp only[aj,cV,aco] at hc
        obtain⟨⟨b,hb⟩,hn⟩:=hc
        have hn':¬ fn.name= "runtime.NumGoroutine":=by simpa using hn
        have hargs:((args.toList.map λx=>(⟨tmps,ds⟩ : Act).eval x)++cvs).toArray=Array.map (λx=>(⟨tmps,ds⟩ : Act).eval x) args++cvs.toArray:=by
         apply aga
         simp
        rw[hargs]
        simp[execOp,ho,resolve,hfv,Deferred.ofValue,invoke,callFunc,hfn,hn',hb]
       .cases hc
      unfold Oper.wp
      rw[hrun]
      simp only[Oper.upon]
      refine hcall.mono λe w' ⟨v,k',ow',he,g1,g2,g3⟩=>?_
      subst he
      exact hK v w' k' ow' g1 g2 g3
     .cases h
    .cases h
   .cases h
  .cases h
 .-- alloc
  rename_i t ho
  split at h
  .rename_i d hT
   split at h
   .rename_i hz
    obtain⟨rfl,rfl⟩:=ef h
    have ok:=TT.of_ok hT
    obtain⟨z,hzr,hz2⟩:=ok.run_zero w
    have hown:(w.alloc (.cells d.zero.toArray t)).ownsRow 0 t d.size (.slice (some ⟨w.heap.size,0,none⟩) 0 1) 0 []:=World.ownsRow_made w _ 1 (aU _) (by simp[maxLen]) (by simp[ok.len])
    obtain⟨k',g1,g2,g3⟩:=hs1.row (row:=none) (cs:=[]) (c:=s.clk) (ix:=ix) (i:=0) (λg hg=>by cases hg) (World.grownBy_alloc w _ none) hown (.inr ⟨rfl,rfl⟩) (by simp[bu]) aT hnew (.inr ⟨rfl,.inr rfl⟩)
    refine acT (u:=.pointer (some ⟨w.heap.size,0,none⟩)) (w':=w.alloc (.cells d.zero.toArray t)) ?_ (hK _ _ k' _ g1 g2 ?_)
    .simp[execOp,ho,Instr.alloc,hzr,newVar,newRow,← hz2]
    .simp only[aE];exact⟨_,rfl,by simp[Own.add]⟩
   .cases h
  .cases h
 .rename_i ho
  rw[ho] at hns
  cases hns
 .cases h
theorem Sim.refr(h:Sim M0 k ow done w0 w N s tmps){d:Nat}{x:X}(hx:aE k ow x (tmps.getD d undef)):Sim M0 k ow done w0 w N (s.put (some d) x) tmps:={h with
 fr:=λj=>by
  simp only[S.put,upd]
  split
  .rename_i e;subst e;exact hx
  .exact h.fr j}
theorem as1(w:World)(b:Nat)(c:Array Value):w.grownBy (w.setRow b c) (some b):=⟨rfl,rfl,rfl,by simp[World.setRow],λj _ hj=>setRow_other w b j c (λe=>hj (by rw[e]))⟩
theorem axg(hs:Sim M0 k ow done w0 w N s tmps){ix:Nat}(hd:¬ done ix){o:Oper}{t d z:Nat}{x:Operand}{td:TD}{tk:Tk}{xs:List X}(ho:o.op=.store t (.tmp d) x)(hT:TT.of P t=some td)(hz:z=td.size)
  (hf:s.fr d=.nw (some tk) t z) (hx:cn (s.ev x)=some xs) (hl:xs.length=z) :
  ∃ b,tmps.getD d undef=.pointer (some ⟨b,0,none⟩)/\ow tk=some (.slice (some ⟨b,0,none⟩) 0 1,t,z,0)/\aP k ow xs ((⟨tmps,ds⟩ : Act).eval x).cells.toList/\(∀ u∈((⟨tmps,ds⟩ : Act).eval x).cells.toList,u.oneCell'=true) /\
   (∃ cur,w.heap[b]?=some (.cells cur t (0,0))/\cur.size=z) /\
   (execOp (⟨tmps,ds⟩ : Act).eval o).run P w=.ok .skip (w.setRow b ((⟨tmps,ds⟩ : Act).eval x).cells.toList.toArray):=by
 have hp:=hs.fr d
 rw[hf] at hp
 simp only[aE] at hp
 obtain⟨b,hv,hk⟩:=hp
 obtain⟨⟨ys,hown⟩,_⟩:=hs.tok _ _ _ _ _ hk
 obtain⟨hr,h1⟩:=aeE hx (Sim.ev (ds:=ds) hs x)
 rcases hown.2 with ⟨h0,_⟩|⟨g,cap,cur,h0,_,hh,_,_,hc,_⟩
 .cases h0
 simp only[Value.slice.injEq,ab,Addr.mk.injEq] at h0
 obtain⟨⟨rfl,_,_⟩,_,rfl⟩:=h0
 have ok:=TT.of_ok hT
 have hlen:=hr.length
 have hcz:cur.size=z:=by omega
 have hfit:0+0+((⟨tmps,ds⟩ : Act).eval x).cells.toList.length<=cur.size:=by omega
 have hrun:=run_storeCells_at P b 0 t ((⟨tmps,ds⟩ : Act).eval x).cells.toList 0 cur w hh hfit h1
 have hsz:((⟨tmps,ds⟩ : Act).eval x).cells.size=td.size:=by
  have:((⟨tmps,ds⟩ : Act).eval x).cells.toList.length=td.size:=by omega
  simpa using this
 have he:cur.toList.take (0+0)++((⟨tmps,ds⟩ : Act).eval x).cells.toList++cur.toList.drop (0+0+((⟨tmps,ds⟩ : Act).eval x).cells.toList.length)=((⟨tmps,ds⟩ : Act).eval x).cells.toList:=by
  rw[dv (by rw[ep];omega)]
  simp
 have hav:(⟨tmps,ds⟩ : Act).eval (.tmp d)=.pointer (some ⟨b,0,none⟩):=by
  rw[← hv]
  rfl
 refine⟨b,hv,hk,hr,h1,⟨cur,hh,hcz⟩,?_⟩
 rw[he] at hrun
 simp[execOp,ho,Instr.storeAt,hav,Instr.sureAddr,storeVar,ok.run_size,hsz,hrun]
theorem aXI(hs:Sim M0 k ow done w0 w N s tmps){ix:Nat}(hd:¬ done ix){o:Oper}{t d z:Nat}{x:Operand}{td:TD}{tk:Tk}{cs:List C}(ho:o.op=.store t (.tmp d) x)(hT:TT.of P t=some td)(hz:z=td.size)
  (hf:s.fr d=.nw (some tk) t z) (hek:tk.isRow=false) (hx:ec (s.ev x)=some cs) (hl:cs.length=z) :
  ∃ w' k' ow',(execOp (⟨tmps,ds⟩ : Act).eval o).run P w=.ok .skip w'/\k.le k'/\Sim M0 k' ow' (λj=>done j\/j=ix) w0 w' N ((s.drop (some tk)).put (some d) (.of (.ref cs))) tmps:=by
 unfold ec at hx
 simp only[bI] at hx
 obtain⟨xs,hx,hrd⟩:=hx
 have hxl:xs.length=cs.length:=by
  clear hx hl
  induction xs generalizing cs with
  | nil=>simp only[X.rds,ab] at hrd;subst hrd;rfl
  | cons a r ih =>
   simp only[X.rds] at hrd
   split at hrd
   .rename_i c cs' _ h2
    simp only[ab] at hrd
    subst hrd
    simp[ih h2]
   .cases hrd
 obtain⟨b,hv,hk,hr,h1,⟨cur,hh,hcz⟩,hrun⟩:=axg (ds:=ds) hs hd ho hT hz hf hx aC
 have hcl:=aj2 _ _ _ hrd hr
 have hs1:=hs.more (done':=λj=>done j\/j=ix) (λ_ h=>.inl h)
 have htok:=(hs.tok _ _ _ _ _ hk).2
 have hsd:=hs1.del tk hek
 have hnew:(ow.del tk) (.nm s.clk ix 0)=none:=by simp only[Own.del];split;rfl;exact hs.new hd
 have hlen:=hr.length
 have hown:(w.setRow b ((⟨tmps,ds⟩ : Act).eval x).cells.toList.toArray).ownsRow 0 t z (.slice (some ⟨b,0,none⟩) 1 1) 1 ((⟨tmps,ds⟩ : Act).eval x).cells.toList :=
  ⟨by omega,.inr ⟨b,1,_,rfl,aU _,setRow_heap w b cur _ t (0,0) hh,ae _,by simp[maxLen],by simp only[dD];omega,by rw[abd];exact aaB aC⟩⟩
 obtain⟨k',g1,g2,g3⟩:=hsd.row (row:=some b) (cs:=cs) (c:=s.clk) (ix:=ix) (i:=0) (λg hg=>by
   obtain rfl:=ay hg
   obtain⟨q1,q2,q3⟩:=htok b rfl
   refine⟨q1,λr hr=>afy (λ_ _=>rfl) (by have:=(q3 r hr).1;rwa [abB] at this),λt' v' e' z' n' h'=>?_,λo' u hm=>by rw[q2 o' aC] at hm;cases hm⟩
   simp only[Own.del] at h'
   split at h'
   .cases h'
   .rename_i hne
    exact hs.tokne tk t' _ _ _ _ _ _ _ _ hk h' (bo hne) b rfl) (as1 w b _) hown (.inl rfl) hcl h1 hnew (.inr ⟨rfl,.inr rfl⟩)
 refine⟨_,k',_,hrun,g1,g2.refr ?_⟩
 rw[hv]
 simp only[aE,Rep] at g3
 obtain⟨_,_,a,cap,vs,h5,_,h6,h7⟩:=g3
 simp only[Value.slice.injEq] at h5
 obtain⟨rfl,_,rfl⟩:=h5
 simp only[aE,Rep]
 by_cases hne:vs=[]
 .subst hne
  exact⟨b,0,[],rfl,h6,λi u hu=>by simp at hu⟩
 .obtain⟨b',o',h8,h9⟩:=h7 hne
  simp only[ab,Addr.mk.injEq] at h8
  obtain⟨rfl,rfl,_⟩:=h8
  exact⟨_,_,vs,rfl,h6,h9⟩
end
section
variable {P:Program} {M0:Base} {k:Know} {ow:Own} {done:Nat->Prop} {w0 w:World} {N:Nat} {s:S} {tmps:Array Value} {ds:List Deferred}
theorem Sim.newOb(h:Sim M0 k ow done w0 w N s tmps){ob:Ob}(o:Obj)(hob:∀ k' w',k.le k'->w'.heap[w.heap.size]?=some o->ady k' ow w' w.heap.size ob) :
  ∃ k',k.le k'/\k'.μ s.objs.length=some w.heap.size/\Sim M0 k' ow done w0 (w.alloc o) N {s with objs:=s.objs++[ob]} tmps:=by
 let k':Know:={m:=k.m,μ:=λr=>if r=s.objs.length then some w.heap.size else k.μ r}
 have hle:k.le k':=⟨λ_ _ _ h=>h,λr b hr=>by
  have:=h.dom r b hr
  show (if r=s.objs.length then some w.heap.size else k.μ r)=some b
  rw[ar aC];exact hr⟩
 have hb:Below w.heap.size w (w.alloc o):=(Below.refl _ _).alloc (ae _) _
 have hg:=h.grow hb
 refine⟨k',hle,by simp[k'],?_⟩
 exact {
  good:=hg.good
  size:=hg.size
  below:=hg.below
  fr:=λj=>aE.mono hle (λ_ _ h=>h) _ _ (hg.fr j)
  mem:=hg.mem
  obj:=λr ob' hr=>by
   by_cases hlast:r=s.objs.length
   .subst hlast
    simp at hr
    subst hr
    refine⟨w.heap.size,by simp[k'],.inl h.below.size,by simp,λ_ o'=>?_,hob _ _ hle (heap_alloc_new w _)⟩
    show k.m w.heap.size o'=none
    cases hm:k.m w.heap.size o' with
    | none=>rfl
    | some u=>have:=agt h.mem hm;omega
   .have hr':s.objs[r]?=some ob':=by
     rcases aA r s.objs.length with g|g
     .rwa [aZ g] at hr
     .rw[bJ g] at hr
      have:r-s.objs.length≠0:=by omega
      obtain⟨q,hq⟩:=abs this
      rw[hq] at hr
      simp at hr
    obtain⟨b,g1,g2,g3,g4,g5⟩:=hg.obj r ob' hr'
    exact⟨b,hle.2 _ _ g1,g2,g3,g4,g5.mono hle (λ_ _ h=>h)⟩
  dom:=λr b hr=>by
   simp only[k'] at hr
   simp only[bg,dR]
   split at hr
   .omega
   .have:=h.dom r b hr;omega
  inj:=λr r' b hr hr' hl hl'=>by
   simp only[k'] at hr hr'
   split at hr
   .split at hr'
    .omega
    .have:=(h.lt hr').2.1
     have:=ay hr
     omega
   .split at hr'
    .have:=(h.lt hr).2.1
     have:=ay hr'
     omega
    .exact h.inj r r' b hr hr' (aej hl (h.dom r b hr)) (aej hl' (h.dom r' b hr'))
  tok:=λt v e z n ht=>by
   obtain⟨g1,g2⟩:=hg.tok t v e z n ht
   refine⟨g1,λg hgo=>⟨(g2 g hgo).1,(g2 g hgo).2.1,λr hr=>?_⟩⟩
   simp only[k'] at hr
   split at hr
   .have:=(h.tlt ht hgo).2
    have:=ay hr
    omega
   .exact⟨akP ((g2 g hgo).2.2 r hr).1,λhl=>((g2 g hgo).2.2 r hr).2 (aej hl (h.dom r g hr))⟩
  tokne:=hg.tokne
  fresh:=hg.fresh
  cells:=λr off p ht=>by
   have:=h.cells r off p ht
   simp only[bg,dR]
   omega
  m0:=hg.m0}
theorem Sim.newVar(h:Sim M0 k ow done w0 w N s tmps){xs:List X}{vs:List Value}(ty:TypeId)(hx:aP k ow xs vs)(h1:∀ u∈vs,u.oneCell'=true) :
  ∃ k',k.le k'/\k'.μ s.objs.length=some w.heap.size/\Sim M0 k' ow done w0 (w.alloc (.cells vs.toArray ty)) N {s with objs:=s.objs++[Ob.var ty xs]} tmps :=
 h.newOb _ λ_ _ hle hh=>⟨vs,hh,h1,aP.mono hle (λ_ _ h=>h) _ _ hx⟩
theorem Sim.made(hs:Sim M0 k ow done w0 w N s tmps){tk:Tk}(hek:tk.isRow=false){b t z d:Nat}{vs:List Value}{xs:List X}{cur:Array Value}(hk:ow tk=some (.slice (some ⟨b,0,none⟩) 0 1,t,z,0))(hv:tmps.getD d undef=.pointer (some ⟨b,0,none⟩))
  (hr:aP k ow xs vs) (h1:∀ u∈vs,u.oneCell'=true) (hh:w.heap[b]?=some (.cells cur t (0,0))) :
  ∃ k',k.le k'/\Sim M0 k' (ow.del tk) done w0 (w.setRow b vs.toArray) N (aoN (s.drop (some tk)) d t (X.drops tk xs)) tmps:=by
 have h:=hs.del tk hek
 have htok:=(hs.tok _ _ _ _ _ hk).2 b rfl
 obtain⟨q1,q2,q3⟩:=htok
 have hbl:b<w.heap.size:=(Array.getElem?_eq_some_iff.1 hh).1
 let k':Know:={m:=k.m,μ:=λr=>if r=s.objs.length then some b else k.μ r}
 have hle:k.le k':=⟨λ_ _ _ h=>h,λr b' hr=>by
  have:=hs.dom r b' hr
  show (if r=s.objs.length then some b else k.μ r)=some b'
  rw[ar aC];exact hr⟩
 have hmb:∀ o,k.m b o=none:=λo=>q2 o aC
 have hdd:∀ r,k.μ r=some b->¬ Liv s.objs r:=λr hr=>ahy (by have:=(q3 r hr).1;rwa [abB] at this)
 have hlen:(s.drop (some tk)).objs.length=s.objs.length:=by simp[S.drop]
 have hoth:∀ c,c≠b->(w.setRow b vs.toArray).heap[c]?=w.heap[c]?:=λc hc=>setRow_other w b c _ hc
 have hsz:(w.setRow b vs.toArray).heap.size=w.heap.size:=by simp[World.setRow]
 have hS:Sim M0 k' (ow.del tk) done w0 (w.setRow b vs.toArray) N {s.drop (some tk) with objs:=(s.drop (some tk)).objs++[Ob.var t (X.drops tk xs)]} tmps:={
  good:=h.good
  size:=h.size
  below:=⟨h.below.os,h.below.tape,h.below.output,by rw[hsz];exact h.below.size,λb' hb' hm=>by
   rw[hoth b' (λe=>by subst e;rcases q1 with q|q;omega;exact hm q)]
   exact h.below.block b' hb' hm⟩
  fr:=λj=>aE.mono hle (λ_ _ h=>h) _ _ (h.fr j)
  mem:=λb' o v hm=>by
   have hne:b'≠b:=λe=>by subst e;rw[show k'.m b' o=k.m b' o from rfl,hmb] at hm;cases hm
   obtain⟨g1,g2⟩:=h.mem b' o v hm
   exact⟨(World.cell?_of_block (a:=⟨b',o,none⟩) (hoth b' hne)).trans g1,g2⟩
  obj:=λr ob' hr'=>by
   by_cases hlast:r=s.objs.length
   .subst hlast
    rw[bJ (by rw[hlen];exact ae _),hlen] at hr'
    simp at hr'
    subst hr'
    exact⟨b,by simp[k'],q1,by rw[hsz];exact hbl,λ_=>hmb,vs,setRow_heap w b cur _ t (0,0) hh,h1,aP.mono hle (λ_ _ h=>h) _ _ (aP.drop tk hek _ _ hr)⟩
   .have hr2:(s.drop (some tk)).objs[r]?=some ob':=by
     rcases aA r (s.drop (some tk)).objs.length with g|g
     .rwa [aZ g] at hr'
     .rw[bJ g] at hr'
      have:r-(s.drop (some tk)).objs.length≠0:=by omega
      obtain⟨q,hq⟩:=abs this
      rw[hq] at hr'
      simp at hr'
    obtain⟨b',g1,g2,g3,g4,g5⟩:=h.obj r ob' hr2
    by_cases hbb:b'=b
    .subst hbb
     exact⟨b',hle.2 _ _ g1,g2,by rw[hsz];exact g3,g4,.dead (amB hr2 λhl=>hdd r g1 (adG (ahg tk) hl))⟩
    .exact⟨b',hle.2 _ _ g1,g2,by rw[hsz];exact g3,g4,(g5.keep (hoth b' hbb)).mono hle (λ_ _ h=>h)⟩
  dom:=λr b' hr'=>by
   simp only[k'] at hr'
   simp only[bg,dR,hlen]
   split at hr'
   .omega
   .have:=hs.dom r b' hr';omega
  inj:=λr r' b' hr1 hr2 hl hl'=>by
   have old:∀ r,r<s.objs.length->Liv ((s.drop (some tk)).objs++[Ob.var t (X.drops tk xs)]) r->Liv s.objs r:=λr hr hl=>adG (ahg tk) (aej hl (by simpa [S.drop] using hr))
   simp only[k'] at hr1 hr2
   split at hr1
   .split at hr2
    .omega
    .have:=ay hr1
     subst this
     exact absurd (old r' (hs.dom r' _ hr2) hl') (hdd r' hr2)
   .split at hr2
    .have:=ay hr2
     subst this
     exact absurd (old r (hs.dom r _ hr1) hl) (hdd r hr1)
    .exact hs.inj r r' b' hr1 hr2 (old r (hs.dom r _ hr1) hl) (old r' (hs.dom r' _ hr2) hl')
  tok:=λt' v e' z' n' ht=>by
   obtain⟨⟨ys,g1⟩,g2⟩:=h.tok t' v e' z' n' ht
   have hne:∀ g,v.ownBlock=some g->g≠b:=λg hg e=>by
    subst e
    simp only[Own.del] at ht
    split at ht
    .cases ht
    .rename_i hne
     exact hs.tokne tk t' _ _ _ _ _ _ _ _ hk ht (bo hne) g rfl hg
   refine⟨⟨ys,acK (λg hg _=>hoth g (hne g hg)) g1⟩,λg hgo=>⟨(g2 g hgo).1,(g2 g hgo).2.1,λr hr=>?_⟩⟩
   simp only[k'] at hr
   split at hr
   .exact (hne g hgo (ay hr).symm).elim
   .exact⟨akP ((g2 g hgo).2.2 r hr).1,λhl=>((g2 g hgo).2.2 r hr).2 (aej hl (by simpa [S.drop] using hs.dom r g hr))⟩
  tokne:=h.tokne
  fresh:=h.fresh
  cells:=λr off p ht=>by
   have:=h.cells r off p ht
   simp only[bg,dR]
   omega
  m0:=h.m0}
 refine⟨k',hle,?_⟩
 unfold aoN
 refine hS.refr ?_
 rw[hv]
 simp only[aE]
 exact⟨b,by simp[k',hlen],rfl⟩
theorem Sim.setOb(h:Sim M0 k ow done w0 w N s tmps){r b:Nat}{ob:Ob}{w':World}(hb:k.μ r=some b)(hr:r<s.objs.length)(hbel:w'.os=w.os/\w'.tape=w.tape/\w'.output=w.output)(hsz:w'.heap.size=w.heap.size)
  (hoth:∀ c,c≠b->w'.heap[c]?=w.heap[c]?) (hnr:∀ n,¬ fG s.objs n r) (hob:ady k ow w' b ob):Sim M0 k ow done w0 w' N {s with objs:=s.objs.set r ob} tmps:=by
 have hlr:Liv s.objs r:=Classical.byContradiction λhn=>hnr 0 (aye hr hn)
 obtain⟨b',g1,g2,g3,g4,_⟩:=h.obj r _ (aL hr)
 obtain rfl:b=b':=ay (hb.symm.trans g1)
 exact {
  good:=h.good
  size:=h.size
  below:=⟨hbel.1.trans h.below.os,hbel.2.1.trans h.below.tape,hbel.2.2.trans h.below.output,by rw[hsz];exact h.below.size,λc hc hm=>(hoth c (λe=>by
   subst e
   rcases g2 with g2|g2
   .omega
   .exact hm g2)).trans (h.below.block c hc hm)⟩
  fr:=h.fr
  mem:=λc o v hm=>by
   obtain⟨q1,q2⟩:=h.mem c o v hm
   have hne:c≠b:=by
    rintro rfl
    obtain⟨ob0,p1,p2⟩:=hlr
    rw[aL hr] at p1
    obtain rfl:=ay p1
    rw[g4 p2 o] at hm;cases hm
   exact⟨(World.cell?_of_block (a:=⟨c,o,none⟩) (hoth c hne)).trans q1,q2⟩
  obj:=λr' ob' hr'=>by
   by_cases hrr:r'=r
   .subst hrr
    rw[cW hr] at hr'
    simp only[ab] at hr'
    subst hr'
    exact⟨b,hb,g2,by rw[hsz];exact g3,λ_=>(h.toHp.lt hb).2.2 hlr,hob⟩
   .rw[dZ (bo hrr)] at hr'
    obtain⟨c,q1,q2,q3,q4,q5⟩:=h.obj r' ob' hr'
    by_cases hcb:c=b
    .subst hcb
     exact⟨c,q1,q2,by rw[hsz];exact q3,q4,.dead (amB hr' λhl=>hrr (h.inj r' r c q1 hb hl hlr))⟩
    .exact⟨c,q1,q2,by rw[hsz];exact q3,q4,q5.keep (hoth c hcb)⟩
  dom:=λr' c hr'=>by simpa using h.dom r' c hr'
  inj:=λr1 r2 c h1 h2 hl1 hl2=>by
   have old:∀ r',Liv (s.objs.set r ob) r'->Liv s.objs r':=λr' hl=>by
    by_cases e:r'=r
    .subst e;exact hlr
    .exact asS e hl
   exact h.inj r1 r2 c h1 h2 (old r1 hl1) (old r2 hl2)
  tok:=λt v e z n ht=>by
   obtain⟨⟨xs,q1⟩,q2⟩:=h.tok t v e z n ht
   have hne:∀ g,v.ownBlock=some g->g≠b:=λg hg e=>hnr _ ((q2 g hg).2.2 r (by rw[e];exact hb)).1
   refine⟨⟨xs,acK (λg hg _=>hoth g (hne g hg)) q1⟩,λg hg=>⟨(q2 g hg).1,(q2 g hg).2.1,λr' hr'=>?_⟩⟩
   have hrr:r'≠r:=λe=>by subst e;exact hne g hg (ay (hr'.symm.trans hb))
   exact⟨anu hrr ((q2 g hg).2.2 r' hr').1,λhl=>((q2 g hg).2.2 r' hr').2 (asS hrr hl)⟩
  tokne:=h.tokne
  fresh:=h.fresh
  cells:=λr' off p ht=>by simpa using h.cells r' off p ht
  m0:=h.m0}
theorem Sim.setVar(h:Sim M0 k ow done w0 w N s tmps){r b:Nat}{ys:List X}{vs:List Value}(hb:k.μ r=some b){old:Array Value}{ty:TypeId}(hh:w.heap[b]?=some (.cells old ty (0,0)))
  (hr:r<s.objs.length) (hnr:∀ n,¬ fG s.objs n r) (hx:aP k ow ys vs) (h1:∀ u∈vs,u.oneCell'=true) :
  Sim M0 k ow done w0 (w.setRow b vs.toArray) N {s with objs:=s.objs.set r (Ob.var ty ys)} tmps:=by
 obtain⟨b',g1,g2,_⟩:=h.obj r _ (aL hr)
 obtain rfl:b=b':=ay (hb.symm.trans g1)
 have hsz:(w.setRow b vs.toArray).heap.size=w.heap.size:=by simp[World.setRow]
 have hoth:∀ c,c≠b->(w.setRow b vs.toArray).heap[c]?=w.heap[c]?:=λc hc=>setRow_other w b c _ hc
 exact h.setOb hb hr ⟨rfl,rfl,rfl⟩ hsz hoth hnr ⟨vs,setRow_heap w b old _ ty _ hh,h1,hx⟩
theorem Sim.setMap(h:Sim M0 k ow done w0 w N s tmps){r b cl cl':Nat}{es:List (Value×C)}{ms ms':Array MapEntry}(hb:k.μ r=some b)(hh:w.heap[b]?=some (.map ms cl))(hr:r<s.objs.length)(hnr:∀ n,¬ fG s.objs n r)
  (hk:ms'.toList.map (·.key)=es.map (·.1)) (hv:bu k.m (es.map (·.2)) (ms'.toList.map (·.val))) :
  Sim M0 k ow done w0 {w with heap:=w.heap.setIfInBounds b (.map ms' cl')} N {s with objs:=s.objs.set r (Ob.map es)} tmps:=by
 obtain⟨b',g1,g2,_⟩:=h.obj r _ (aL hr)
 obtain rfl:b=b':=ay (hb.symm.trans g1)
 have hlt:b<w.heap.size:=(Array.getElem?_eq_some_iff.1 hh).1
 have hoth:∀ c,c≠b->(w.heap.setIfInBounds b (.map ms' cl'))[c]?=w.heap[c]?:=λc hc=>aaa (bo hc)
 exact h.setOb hb hr ⟨rfl,rfl,rfl⟩ aT hoth hnr ⟨ms',cl',by simp[hlt],hk,hv⟩
structure EnSound (P:Program) (G:GP) (E:En):Prop where
 orc:∀ f xs obs an,E.orc f xs obs=some an->aa9 P G f xs obs an
theorem aBM(hs:Sim M0 k ow done w0 w N s tmps):∀ l:List Operand,aP k ow (l.map s.ev) (l.map λx=>(⟨tmps,ds⟩ : Act).eval x)
 | []=>by simp[aP]
 | x::l=>by simp only[bc,aP];exact⟨_,_,rfl,Sim.ev (ds:=ds) hs x,aBM hs l⟩
open Classical in
noncomputable def Own.img(ρ:Tk->Option Tk)(ow:Own):Own:=λt'=>if h:∃ t p,ow t=some p/\ρ t=some t' then some h.choose_spec.choose else none
theorem Own.img_re{ρ:Tk->Option Tk}{ow:Own}(hi:∀ t u t' ,(ow t).isSome->(ow u).isSome->ρ t=some t'->ρ u=some t'->t=u):ow.re ρ (ow.img ρ):=by
 refine⟨λt p t' ht hr=>?_,λt' p h=>?_⟩
 .have hex:∃ t p,ow t=some p/\ρ t=some t':=⟨t,p,ht,hr⟩
  unfold Own.img
  rw[aix hex]
  have h2:=hex.choose_spec.choose_spec
  have:hex.choose=t:=hi _ _ t' (by rw[h2.1];rfl) (by rw[ht];rfl) h2.2 hr
  exact ((congrArg ow this).symm.trans h2.1).symm.trans ht
 .unfold Own.img at h
  split at h
  .rename_i hex
   simp only[ab] at h
   subst h
   exact⟨_,hex.choose_spec.choose_spec.1,hex.choose_spec.choose_spec.2⟩
  .cases h
theorem afR(r:Nat):∀ (off:Nat) (xs:List X) (t c:Tk),acF (dN r off xs) t=some c->∃ o,c=.cell r o/\off<=o/\o<off+xs.length
 | off,[],t,c,h=>by simp[dN,acF] at h
 | off,x::xs,t,c,h=>by
  have ih:=afR r (off+1) xs t c
  have rest:acF (dN r (off+1) xs) t=some c->∃ o,c=.cell r o/\off<=o/\o<off+(x::xs).length:=λh=>by
   obtain⟨o,h1,h2,h3⟩:=ih h
   exact⟨o,h1,by omega,by simp only[aN];omega⟩
  cases x with
  | own t0 e z cs n =>
   simp only[dN,acF] at h
   split at h
   .simp only[ab] at h
    exact⟨off,h.symm,ae _,by simp⟩
   .exact rest h
  | _=>simp only[dN] at h;exact rest h
theorem apu(r:Nat):∀ (off:Nat) (xs:List X) (t u c:Tk),acF (dN r off xs) t=some c->acF (dN r off xs) u=some c->t=u
 | off,[],t,u,c,h,_=>by simp[dN,acF] at h
 | off,x::xs,t,u,c,h,h'=>by
  have ih:=apu r (off+1) xs t u c
  cases x with
  | own t0 e z cs n =>
   simp only[dN,acF] at h h'
   split at h
   .rename_i e1
    simp only[ab] at h
    split at h'
    .rename_i e2;exact e1.symm.trans e2
    .obtain⟨o,h1,h2,_⟩:=afR r (off+1) xs u c h'
     rw[← h] at h1
     cases h1
     omega
   .split at h'
    .simp only[ab] at h'
     obtain⟨o,h1,h2,_⟩:=afR r (off+1) xs t c h
     rw[← h'] at h1
     cases h1
     omega
    .exact ih h h'
  | _=>simp only[dN] at h h';exact ih h h'
theorem apt(r:Nat):∀ (off:Nat) (xs:List X) (t c:Tk),acF (dN r off xs) t=some c->∃ e z cs n,X.own t e z cs n∈xs
 | off,[],t,c,h=>by simp[dN,acF] at h
 | off,x::xs,t,c,h=>by
  have rest:acF (dN r (off+1) xs) t=some c->∃ e z cs n,X.own t e z cs n∈x::xs:=λh=>by
   obtain⟨e,z,cs,n,hm⟩:=apt r (off+1) xs t c h
   exact⟨e,z,cs,n,dY _ hm⟩
  cases x with
  | own t0 e z cs n =>
   simp only[dN,acF] at h
   split at h
   .rename_i e1;subst e1;exact⟨e,z,cs,n,by simp⟩
   .exact rest h
  | _=>simp only[dN] at h;exact rest h
theorem atP{k:Know}{ow:Own}:∀ {xs:List X} {vs:List Value},aP k ow xs vs->∀ x∈xs,∃ v,aE k ow x v
 | [],_,_,x,hx=>by cases hx
 | a::xs,vs,h,x,hx=>by
  simp only[aP] at h
  obtain⟨v,r,_,h1,h2⟩:=h
  rcases bj.1 hx with rfl|hx
  .exact⟨v,h1⟩
  .exact atP h2 x hx
theorem aDz{r off n:Nat}{xs:List X}(hn:xs.length=n){t u t':Tk}(h:aar r off n (dN r off xs) t=some t')(h':aar r off n (dN r off xs) u=some t'):t=u:=by
 have key:∀ t u:Tk,acF (dN r off xs) t=some t'->acF (dN r off xs) u=none->(match u with
   | .cell r' o'=>if r'=r/\off<=o'/\o'<off+n then none else some u
   | .nm ..=>some u)=some t'->False:=by
  intro t u h1 _ h2
  obtain⟨o,rfl,h3,h4⟩:=afR r off xs t t' h1
  cases u with
  | nm c ix i=>cases h2
  | cell r' o' =>
   simp only at h2
   split at h2
   .cases h2
   .rename_i hno
    simp only[ab,Tk.cell.injEq] at h2
    exact hno ⟨h2.1,by omega,by omega⟩
 have key2:∀ u:Tk,(match u with
   | .cell r' o'=>if r'=r/\off<=o'/\o'<off+n then none else some u
   | .nm ..=>some u)=some t'->u=t':=by
  intro u h2
  cases u with
  | nm c ix i=>exact ay h2
  | cell r' o' =>
   simp only at h2
   split at h2
   .cases h2
   .exact ay h2
 unfold aar at h h'
 split at h
 .rename_i c h1
  simp only[ab] at h
  subst h
  split at h'
  .rename_i c' h1'
   simp only[ab] at h'
   subst h'
   exact apu r off xs t u _ h1 h1'
  .rename_i h1'
   exact (key t u h1 h1' h').elim
 .rename_i h1
  split at h'
  .rename_i c' h1'
   simp only[ab] at h'
   subst h'
   exact (key u t h1' h1 h).elim
  .exact (key2 t h).trans (key2 u h').symm
theorem Sim.lay(h:Sim M0 k ow done w0 w N s tmps){r off:Nat}{xs ys:List X}(hr:r<s.objs.length){vs:List Value}(hxs:aP k ow xs vs):∃ ow',Sim M0 k ow' done w0 w N (apY r off xs ys s) tmps:=by
 unfold apY
 split
 .exact⟨ow,h⟩
 .have hre:ow.re (aar r off xs.length (dN r off xs)) (ow.img (aar r off xs.length (dN r off xs))):=Own.img_re λt u t' _ _ h1 h2=>aDz rfl h1 h2
  have hcase:∀ t t',aar r off xs.length (dN r off xs) t=some t'->(∃ o,t'=.cell r o)\/t'=t:=by
   intro t t' h1
   unfold aar at h1
   split at h1
   .rename_i c h2
    simp only[ab] at h1
    subst h1
    obtain⟨o,h3,_⟩:=afR r off xs t _ h2
    exact .inl ⟨o,h3⟩
   .cases t with
    | nm c ix i=>exact .inr (ay h1).symm
    | cell r' o' =>
     simp only at h1
     split at h1
     .cases h1
     .exact .inr (ay h1).symm
  refine⟨_,h.tr hre (λr' v e z n g t' ho hg hμ hl hm=>by
   unfold aar at hm
   split at hm
   .rename_i c h1
    exfalso
    obtain⟨e',z',cs,n',hmem⟩:=apt r off xs _ _ h1
    obtain⟨v',hv'⟩:=atP hxs _ hmem
    have hv2:=hv'
    simp only[aE] at hv2
    have:=hv2.1.symm.trans ho
    simp only[bD] at this
    obtain⟨rfl,_⟩:=this
    exact h.toHp.own_dead hv' hg hμ hl
   .simp only at hm
    split at hm
    .cases hm
    .exact (ay hm).symm) (λt' p ht=>?_) (λr' o' p ht=>?_)⟩
  .obtain⟨t,g1,g2⟩:=hre.2 _ _ ht
   rcases hcase t t' g2 with ⟨o,rfl⟩|rfl
   .trivial
   .exact h.fresh _ _ g1
  .obtain⟨t,g1,g2⟩:=hre.2 _ _ ht
   rcases hcase t _ g2 with ⟨o,e⟩|e
   .cases e;exact hr
   .subst e;exact h.cells _ _ _ g1
theorem bu.set{m:Mem}:∀ {cs:List C} {vs:List Value} (i:Nat) {c:C} {v:Value},bu m cs vs->Rep m c v->bu m (cs.set i c) (vs.set i v)
 | [],vs,i,c,v,h,_=>by simp only[bu] at h;subst h;simp[bu]
 | d::cs,vs,0,c,v,h,hc=>by
  simp only[bu] at h
  obtain⟨u,r,rfl,_,h2⟩:=h
  simp only[List.set_cons_zero,bu]
  exact⟨v,r,rfl,hc,h2⟩
 | d::cs,vs,i+1,c,v,h,hc=>by
  simp only[bu] at h
  obtain⟨u,r,rfl,h1,h2⟩:=h
  simp only[agu,bu]
  exact⟨u,r.set i v,rfl,h1,bu.set i h2 hc⟩
theorem bu.erase{m:Mem}:∀ {cs:List C} {vs:List Value} (i:Nat),bu m cs vs->bu m (cs.eraseIdx i) (vs.eraseIdx i)
 | [],vs,i,h=>by simp only[bu] at h;subst h;simp[bu]
 | d::cs,vs,0,h=>by
  simp only[bu] at h
  obtain⟨u,r,rfl,_,h2⟩:=h
  simpa using h2
 | d::cs,vs,i+1,h=>by
  simp only[bu] at h
  obtain⟨u,r,rfl,h1,h2⟩:=h
  simp only[List.eraseIdx_cons_succ,bu]
  exact⟨u,r.eraseIdx i,rfl,h1,bu.erase i h2⟩
theorem ai9{α β:Type}(f:α->β):∀ (l:List α) (i:Nat),(l.eraseIdx i).map f=(l.map f).eraseIdx i
 | [],_=>by simp
 | a::l,0=>by simp
 | a::l,i+1=>by simp[ai9 f l i]
theorem axW(kind:TypeDesc)(k:Value):∀ (es:List (Value×C)) (i j:Nat),aeK kind k es i=some (some j)->i<=j/\∃ p,es[j-i]?=some p/\Instr.sameNow kind k p.1=some true
 | [],i,j,h=>by simp[aeK] at h
 | e::es,i,j,h=>by
  simp only[aeK] at h
  split at h
  .rename_i hsn
   simp only[ab] at h
   subst h
   exact⟨ae _,e,by simp,hsn⟩
  .obtain⟨h1,p,h2,h3⟩:=axW kind k es (i+1) j h
   refine⟨by omega,p,?_,h3⟩
   obtain⟨q,rfl⟩ : ∃ q,j=i+1+q:=⟨j-(i+1),by omega⟩
   have e1:i+1+q-i=q+1:=by omega
   have e2:i+1+q-(i+1)=q:=by omega
   rw[e1]
   rw[e2] at h2
   simpa using h2
  .cases h
theorem auQ{kind:TypeDesc}{a b:Value}(h:Instr.sameNow kind a b=some true):b=a/\(Instr.keyThatStays b a).run P w=.ok a w:=by
 unfold Instr.sameNow at h
 split at h
 .rename_i kk a k' b
  split at h
  .rename_i hk
   simp only[ab,dm] at h
   subst hk;subst h
   exact⟨rfl,by simp[Instr.keyThatStays,Instr.sameBits]⟩
  .cases h
 .rename_i a b
  simp only[ab] at h
  have:a=b:=(MapKept.bytes_beq a b).1 h
  subst this
  exact⟨rfl,by simp[Instr.keyThatStays,Instr.sameBits,h]⟩
 .rename_i a b
  simp only[ab,dm] at h
  subst h
  exact⟨rfl,by simp[Instr.keyThatStays,Instr.sameBits]⟩
 .cases h
theorem akV(hs:Sim M0 k ow done w0 w N s tmps){t et r:Nat}{kind:TypeDesc}{kv vm vk vx:Value}{c:C}{es es':List (Value×C)}(hty:agD (TT.of P) t=some (kind,et))(hm:aE k ow (.mp r) vm)(hk:vk=kv)(hc:Rep k.m c vx)
  (hr:s.objs[r]?=some (.map es)) (hput:amv kind kv c es=some es'):∃ w',(Instr.mapUpdate t vm vk vx).run P w=.ok () w'/\Sim M0 k ow done w0 w' N {s with objs:=s.objs.set r (Ob.map es')} tmps:=by
 subst hk
 obtain⟨d,kt,d',hT,hu,hT',hu',hkk⟩:=anI hty
 have r1:=(TT.of_ok hT).run_und w
 have r2:=(TT.of_ok hT').run_und w
 rw[hu] at r1
 rw[hu'] at r2
 simp only[aE] at hm
 obtain⟨b,hb,rfl⟩:=hm
 obtain⟨b',g1,_,g3,_,ms,cl,hh,hk1,hk2⟩:=hs.obj r _ hr
 obtain rfl:b=b':=ay (hb.symm.trans g1)
 have hrl:r<s.objs.length:=hs.dom r b hb
 unfold amv at hput
 split at hput
 .rename_i i hfind
  simp only[ab] at hput
  subst hput
  obtain⟨f1,_⟩:=aeL kind vk ms.toList es 0 _ hk1 hfind
  obtain⟨_,e',he,hnow⟩:=f1 i rfl
  obtain⟨_,p,hp,hsn⟩:=axW kind vk es 0 i hfind
  simp only[aeG] at he hp
  have hke:e'.key=p.1:=by
   have:=congrArg (λl=>l[i]?) hk1
   simp only[bp,he,hp,aJ,ab] at this
   exact this
  obtain⟨hpk,hst⟩:=auQ (P:=P) (w:=w) hsn
  have he2:ms[i]?=some e':=by simpa using he
  refine⟨_,?_,hs.setMap (ms':=ms.modify i λe=>{e with key:=vk,val:=vx}) (cl':=cl) hb hh hrl (λ_=>ajP hr λ_ _ e=>by cases e) ?_ ?_⟩
  .simp only[Instr.mapUpdate,Sem.run_bind,r1,Result.andThen_ok,MapKept.run_getObj_map hh,aee r2 hkk]
   rw[ags r2 hnow]
   simp only[Result.andThen_ok,he2,aJ,Option.getD_some,Sem.run_bind]
   rw[hke,hst]
   simp only[Result.andThen_ok]
   exact MapKept.run_setObj_map _ hh
  .rw[Array.toList_modify]
   apply abF
   intro j
   have:=congrArg (λl=>l[j]?) hk1
   simp only[bp] at this
   simp only[bp,List.getElem?_modify,List.getElem?_set]
   by_cases hij:i=j
   .subst hij
    have hlt:i<es.length:=(List.getElem?_eq_some_iff.1 hp).1
    simp[he2,hlt]
   .simp[hij]
    simpa using this
  .rw[Array.toList_modify]
   have e1:(es.set i (vk,c)).map (·.2)=(es.map (·.2)).set i c:=by rw[List.map_set]
   have e2:(ms.toList.modify i λe=>{e with key:=vk,val:=vx}).map (·.val)=(ms.toList.map (·.val)).set i vx:=by
    apply abF
    intro j
    simp only[bp,List.getElem?_modify,List.getElem?_set]
    by_cases hij:i=j
    .subst hij
     have hlt:i<ms.toList.length:=(List.getElem?_eq_some_iff.1 he).1
     have hlt':i<ms.size:=by simpa using hlt
     simp[hlt']
    .simp[hij]
   rw[e1,e2]
   exact hk2.set i hc
 .rename_i hfind
  simp only[ab] at hput
  subst hput
  obtain⟨_,f2⟩:=aeL kind vk ms.toList es 0 _ hk1 hfind
  refine⟨_,?_,hs.setMap (ms':=ms.push {key:=vk,val:=vx,born:=cl}) (cl':=cl+1) hb hh hrl (λ_=>ajP hr λ_ _ e=>by cases e) ?_ ?_⟩
  .simp only[Instr.mapUpdate,Sem.run_bind,r1,Result.andThen_ok,MapKept.run_getObj_map hh,aee r2 hkk]
   rw[ags r2 (f2 rfl)]
   simp only[Result.andThen_ok]
   exact MapKept.run_setObj_map _ hh
  .simp only[Array.toList_push,bX,hk1]
   rfl
  .simp only[Array.toList_push,bX]
   exact hk2.append (by simp[bu,hc])
 .cases hput
theorem ayb(hs:Sim M0 k ow done w0 w N s tmps){t t2 et r ty:Nat}{kind:TypeDesc}{kv vm vk:Value}{es es':List (Value×C)}(hty:agD (TT.of P) t=some (kind,et))(hm:aE k ow (.mp r) vm)(hk:vk=kv)
  (hr:s.objs[r]?=some (.map es)) (hput:aMY kind kv es=some es'):∃ w',(Builtin.delete_ #[t,t2] ty #[vm,vk]).run P w=.ok (.tuple #[]) w'/\Sim M0 k ow done w0 w' N {s with objs:=s.objs.set r (Ob.map es')} tmps:=by
 subst hk
 obtain⟨d,kt,d',hT,hu,hT',hu',hkk⟩:=anI hty
 have r1:=(TT.of_ok hT).run_und w
 have r2:=(TT.of_ok hT').run_und w
 rw[hu] at r1
 rw[hu'] at r2
 simp only[aE] at hm
 obtain⟨b,hb,rfl⟩:=hm
 obtain⟨b',g1,_,g3,_,ms,cl,hh,hk1,hk2⟩:=hs.obj r _ hr
 obtain rfl:b=b':=ay (hb.symm.trans g1)
 have hrl:r<s.objs.length:=hs.dom r b hb
 unfold aMY at hput
 split at hput
 .rename_i i hfind
  simp only[ab] at hput
  subst hput
  obtain⟨f1,_⟩:=aeL kind vk ms.toList es 0 _ hk1 hfind
  obtain⟨_,e',he,hnow⟩:=f1 i rfl
  simp only[aeG] at he
  have hlt:i<ms.size:=by simpa using (List.getElem?_eq_some_iff.1 he).1
  refine⟨_,?_,hs.setMap (ms':=ms.eraseIdxIfInBounds i) (cl':=cl) hb hh hrl (λ_=>ajP hr λ_ _ e=>by cases e) ?_ ?_⟩
  .simp only[Builtin.delete_,ac8,dg,eL,Sem.run_bind,r1,Result.andThen_ok,MapKept.run_getObj_map hh,aee r2 hkk]
   rw[ags r2 hnow]
   simp only[Result.andThen_ok]
   rw[Sem.run_bind,MapKept.run_setObj_map _ hh]
   rfl
  .simp only[Array.eraseIdxIfInBounds,hlt,aix,Array.toList_eraseIdx,ai9,hk1]
  .simp only[Array.eraseIdxIfInBounds,hlt,aix,Array.toList_eraseIdx,ai9]
   exact hk2.erase i
 .rename_i hfind
  simp only[ab] at hput
  subst hput
  obtain⟨_,f2⟩:=aeL kind vk ms.toList es 0 _ hk1 hfind
  refine⟨_,?_,hs.setMap (ms':=ms) (cl':=cl) hb hh hrl (λ_=>ajP hr λ_ _ e=>by cases e) hk1 hk2⟩
  .simp only[Builtin.delete_,ac8,dg,eL,Sem.run_bind,r1,Result.andThen_ok,MapKept.run_getObj_map hh,aee r2 hkk]
   rw[ags r2 (f2 rfl)]
   simp only[Result.andThen_ok]
   rw[Sem.run_bind,MapKept.run_setObj_map _ hh]
   rfl
 .cases hput
theorem asL{α:Type}[DecidableEq α]:∀ (l seen:List α) (a:α),a∈nub l seen->a∈l\/a∈seen
 | [],seen,a,h=>.inr h
 | b::l,seen,a,h=>by
  unfold nub at h
  split at h
  .exact (asL l seen a h).imp (λh=>dY _ h) id
  .rcases asL l _ a h with h|h
   .exact .inl (dY _ h)
   .rcases br.1 h with h|h
    .exact .inr h
    .exact .inl (by rw[cC.1 h];simp)
theorem aq5{objs:List Ob}:∀ l:List Nat,af7 objs l=true->∀ r∈l,Liv objs r
 | [],_,r,hr=>by cases hr
 | a::l,h,r,hr=>by
  simp only[af7,aj] at h
  rcases bj.1 hr with rfl|hr
  .cases ho:objs[r]? with
   | none=>rw[ho] at h;cases h.1
   | some ob=>rw[ho] at h;exact⟨ob,ho,h.1⟩
  .exact aq5 l h.2 r hr
theorem aAd(hs:Sim M0 k ow done w0 w N s tmps){E:En}(horc:EnSound P M0.G E){ix:Nat}(hd:¬ done ix){d:Option Nat}(hdst:∀ j,d=some j->j<N){f:Nat}{us:List X}{vs:List Value}{e:Option X}{s':S}
  (hus:aP k ow us vs) (h:callS P E s ix d f us=some (e,s')):d9 P f=true/\Calls P f vs.toArray w λen w'=>∃ k' ow',k.le k' /\
   ((e=none/\∃ v,en=.returned v/\Sim M0 k' ow' (λj=>done j\/j=ix) w0 w' N s' (Act.put ⟨tmps,ds⟩ d v).tmps) \/
    (∃ x v,e=some x/\en=.panicked [{v:=v,recovered:=false}]/\aE k' ow' x v/\Sim M0 k' ow' (λj=>done j\/j=ix) w0 w' N s' tmps)):=by
 unfold callS at h
 split at h
 rotate_left
 .cases h
 rename_i hc
 refine⟨hc,?_⟩
 simp only at h
 split at h
 rotate_left
 .cases h
 rename_i obs hobs
 split at h
 rotate_left
 .cases h
 rename_i an hor
 have hlv:af7 s.objs (dQ s.objs 999 (X.refsL us) [])=true:=by
  cases hb:af7 s.objs (dQ s.objs 999 (X.refsL us) []) with
  | true=>rfl
  | false=>rw[hb] at hobs;cases hobs
 rw[hlv] at hobs
 simp only[aj5] at hobs
 have hnd1:=aiu s.objs 999 (X.refsL us) [] abE
 have hnd2:(if E.tk f=true then nub (X.toksL us) [] else []).Nodup:=by
  split
  .exact akT _ _ abE
  .exact abE
 have hnd3:∀ t∈(if E.tk f=true then nub (X.toksL us) [] else []),∀ v e z n,ow t=some (v,e,z,n)->∀ g,v.ownBlock=some g->∀ r,k.μ r=some g->¬ Liv s.objs r:=by
  split
  .intro t ht;exact hs.toHp.toksL_dead us vs hus t (by rcases asL _ _ _ ht with h|h;exact h;cases h)
  .intro t ht;cases ht
 refine (auq hs hnd1 hnd2 hnd3 (aq5 _ hlv) hobs (horc.orc _ _ _ _ hor) hc (aP.tr awV _ _ hus) hd).mono λen w' ⟨us',kn,own,h1,h2,h3,h4,h5⟩=>?_
 refine⟨kn,own,h2,?_⟩
 unfold afq at h
 simp only at h
 rw[au h3] at h
 obtain⟨pan,rs,obs'⟩:=an
 cases pan with
 | true =>
  simp only[ahT] at h1
  obtain⟨u,rfl,rfl⟩:=h1
  match rs,h,h5 with
  | [x],h,h5 =>
   simp only[bD] at h
   obtain⟨rfl,rfl⟩:=h
   simp only[X.trs,aP] at h5
   obtain⟨v,r,hv,hx,rfl⟩:=h5
   cases hv
   exact .inr ⟨_,_,rfl,rfl,hx,h4⟩
  | [],h,_=>cases h
  | _::_::_,h,_=>cases h
 | false =>
  simp only[ahT] at h1
  subst h1
  simp only[bD] at h
  obtain⟨rfl,rfl⟩:=h
  exact .inl ⟨rfl,_,rfl,h4.put d hdst (aw9 h5)⟩
theorem aqa(hs:Sim M0 k ow done w0 w N s tmps)(l:List Operand){caps:List X}{cvs:List Value}(hc:aP k ow caps cvs):aP k ow (l.map s.ev++caps) ((l.map λx=>(⟨tmps,ds⟩ : Act).eval x)++cvs):=(aBM hs l).append hc
theorem ahP{o:Oper}(h:abZ N o=true)(j:Nat)(hj:o.dst=some j):j<N:=by
 unfold abZ at h
 rw[aj,hj] at h
 simpa using h.1
theorem adI{o:Oper}(h:cL o.op=false):dB o=o.dst:=by
 unfold dB
 split
 .rename_i e _;rw[e] at h;cases h
 .rfl
theorem aGn(hs:Sim M0 k ow done w0 w N s tmps){E:En}{ix:Nat}(hd:¬ done ix){o:Oper}{e:Option X}{s':S}(hst:cL o.op=true)
  (h:eV P (TT.of P) E s ix o=some (e,s')) {K:Act->World->Prop} {Q:Exit->Act->World->Prop}
  (hK:e=none->∀ tmps' w' k' ow',k.le k'->Sim M0 k' ow' (λj=>done j\/j=ix) w0 w' N s' tmps'->K ⟨tmps',ds⟩ w'):o.wp P ⟨tmps,ds⟩ w K Q:=by
 unfold cL at hst
 split at hst
 rotate_left
 .cases hst
 rename_i t a x ho
 unfold eV at h
 split at h
 rotate_left
 .cases h
 rename_i y tk hv
 split at h
 rotate_left
 .cases h
 rename_i hok
 simp only[bD] at h
 obtain⟨rfl,rfl⟩:=h
 cases a with
 | const v=>unfold val at hv;rw[ho] at hv;cases hv
 | func f=>unfold val at hv;rw[ho] at hv;cases hv
 | global g=>unfold val at hv;rw[ho] at hv;cases hv
 | tmp d =>
  unfold val at hv
  rw[ho] at hv
  simp only at hv
  split at hv
  rotate_left
  .cases hv
  rename_i td tk' ty z cs hT hf hx hg hdn
  split at hv
  rotate_left
  .cases hv
  rename_i hc
  obtain⟨rfl,hz,hl⟩:=hc
  simp only[bD] at hv
  obtain⟨rfl,rfl⟩:=hv
  have hE:dB o=some d:=by unfold dB;rw[ho,hg]
  obtain⟨w',k',ow',hrun,g1,g2⟩:=aXI (P:=P) hs hd ho hT hz hf (aj7 hok) hx hl
  unfold Oper.wp
  rw[hrun]
  simp only[Oper.upon]
  rw[hdn]
  exact hK rfl tmps w' k' ow' g1 (by rw[hE];exact g2)
theorem ae0(hs:Sim M0 k ow done w0 w N s tmps){E:En}(horc:EnSound P M0.G E){ix:Nat}(hd:¬ done ix){o:Oper}{e:Option X}{s':S}(hdst:abZ N o=true)
  (h:eV P (TT.of P) E s ix o=some (e,s')) {K:Act->World->Prop} {Q:Exit->Act->World->Prop}
  (hK:e=none->∀ tmps' w' k' ow',k.le k'->Sim M0 k' ow' (λj=>done j\/j=ix) w0 w' N s' tmps'->K ⟨tmps',ds⟩ w'):o.wp P ⟨tmps,ds⟩ w K Q:=by
 have hdst':=ahP hdst
 have hput:∀ u,(⟨tmps,ds⟩ : Act).put o.dst u=⟨((⟨tmps,ds⟩ : Act).put o.dst u).tmps,ds⟩:=λu=>by
  cases o.dst <;> rfl
 cases hst:cL o.op with
 | true=>exact aGn hs hd hst h hK
 | false =>
 unfold eV at h
 split at h
 .rename_i x t hv
  split at h
  .rename_i hok
   simp only[bD] at h
   obtain⟨rfl,rfl⟩:=h
   refine aF2 hs horc.orc hd hst hv (λt' e'=>by subst e';exact aj7 hok) λu w' k' ow' g1 g2 g3=>?_
   rw[hput]
   rw[adI hst] at hK
   exact hK rfl _ _ k' ow' g1 (g2.put o.dst hdst' g3)
  .cases h
 .cases h
theorem Sim.kill(h:Sim M0 k ow done w0 w N s tmps)(e r:Nat):Sim M0 k ow done w0 w N {s with objs:=s.objs.set r (.row e [])} tmps :=
 have old:∀ r',Liv (s.objs.set r (.row e [])) r'->r'≠r/\Liv s.objs r':=λr' ⟨ob,h1,h2⟩=>by
  by_cases e1:r'=r
  .subst e1
   have hlt:r'<s.objs.length:=by have:=(List.getElem?_eq_some_iff.1 h1).1;simpa using this
   rw[cW hlt] at h1
   obtain rfl:=ay h1
   cases h2
  .exact⟨e1,asS e1 ⟨ob,h1,h2⟩⟩
 {good:=h.good
  size:=h.size
  below:=h.below
  fr:=h.fr
  mem:=h.mem
  obj:=λr' ob hr=>by
   by_cases e1:r'=r
   .subst e1
    have hlt:r'<s.objs.length:=by have:=(List.getElem?_eq_some_iff.1 hr).1;simpa using this
    rw[cW hlt] at hr
    obtain rfl:=ay hr
    obtain⟨b,g1,g2,g3,_,_⟩:=h.obj r' _ (aL hlt)
    exact⟨b,g1,g2,g3,λhl=>(by cases hl),.inl rfl⟩
   .rw[dZ (bo e1)] at hr
    exact h.obj r' ob hr
  dom:=λr' b hr=>by simpa using h.dom r' b hr
  inj:=λr1 r2 b h1 h2 hl1 hl2=>h.inj r1 r2 b h1 h2 (old r1 hl1).2 (old r2 hl2).2
  tok:=λt v e' z n ht=>by
   obtain⟨g1,g2⟩:=h.tok t v e' z n ht
   refine⟨g1,λg hg=>⟨(g2 g hg).1,(g2 g hg).2.1,λr' hr=>⟨?_,λhl=>((g2 g hg).2.2 r' hr).2 (old r' hl).2⟩⟩⟩
   by_cases e1:r'=r
   .subst e1
    exact⟨e,[],cW (h.dom r' g hr),aU _⟩
   .exact anu e1 ((g2 g hg).2.2 r' hr).1
  tokne:=h.tokne
  fresh:=h.fresh
  cells:=λr' off p ht=>by simpa using h.cells r' off p ht
  m0:=h.m0}
theorem Sim.pop(hs:Sim M0 k ow done w0 w N s tmps){r e z ty c ix i:Nat}{v:Value}{a:C}{cs:List C}(hx:aE k ow (.top r e z) v)(ho:s.objs[r]?=some (.row ty (a::cs)))(ht:ow (.nm c ix i)=none)(hf:c<s.clk\/(c=s.clk/\done ix)) :
  ∃ b cap,v=.slice (some ⟨b,0,none⟩) 1 cap/\1<=cap/\∃ ow',Sim M0 k ow' done w0 w N {s.tr (afk r) with objs:=((s.tr (afk r)).objs).set r (.row e [])} tmps /\
   aE k ow' (.own (.nm c ix i) e z [] 0) (.slice (some ⟨b,0,none⟩) 0 cap):=by
 simp only[aE] at hx
 obtain⟨hk,b,cap,hb,rfl⟩:=hx
 have hlr:Liv s.objs r:=⟨_,ho,rfl⟩
 obtain⟨⟨xs,hown⟩,htok⟩:=hs.tok _ _ _ _ _ hk
 obtain⟨q1,_,_⟩:=htok b rfl
 have hnone:=(hs.toHp.lt hb).2.2 hlr
 rcases hown.2 with ⟨h0,_⟩|⟨g,cap',cur,hv,_,hh,hcap,hcm,hsz,_⟩
 .cases h0
 simp only[Value.slice.injEq,ab,Addr.mk.injEq] at hv
 obtain⟨⟨rfl,_,_⟩,_,rfl⟩:=hv
 have htr:Sim M0 k (ow.del (abq r)) done w0 w N (s.tr (afk r)) tmps:=hs.tr ⟨λt p t' h1 h2=>by
   unfold afk at h2
   split at h2
   .cases h2
   .rename_i hne
    obtain rfl:=ay h2
    simp only[Own.del,hne,av];exact h1,λt' p h1=>by
   simp only[Own.del] at h1
   split at h1
   .cases h1
   .rename_i hne
    exact⟨t',h1,by simp only[afk,hne,av]⟩⟩ (λr' _ _ _ _ _ t' _ _ _ _ h=>by
   unfold afk at h
   split at h
   .cases h
   .exact (ay h).symm) (λt p h=>by
   simp only[Own.del] at h
   split at h
   .cases h
   .exact hs.fresh t p h) (λr' off p h=>by
   simp only[Own.del] at h
   split at h
   .cases h
   .exact hs.cells r' off p h)
 refine⟨b,cap,rfl,hcap,_,(htr.kill e r).add (v:=.slice (some ⟨b,0,none⟩) 0 cap) (e:=e) (z:=z) (n:=0) (xs:=[]) (c:=c) (ix:=ix) (i:=i) ?_ ⟨by simp,.inr ⟨b,cap,cur,rfl,aU _,hh,aU _,hcm,hsz,by simp⟩⟩ ?_ ?_ hf,?_⟩
 .simp only[Own.del];split;rfl;exact ht
 .intro g hg
  simp only[Value.ownBlock,ab] at hg
  subst hg
  refine⟨q1,λo _=>hnone o,λr' hr'=>?_⟩
  by_cases e1:r'=r
  .subst e1
   exact⟨e,[],cW (by simpa [S.tr] using hs.dom r' _ hr'),aU _⟩
  .exact anu e1 (afy (λ_ _=>rfl) (aye (hs.dom r' _ hr') λhl=>e1 (hs.inj r' r _ hr' hb hl hlr)))
 .intro t' v' e' z' n' h' g hg hg'
  simp only[Value.ownBlock,ab] at hg
  subst hg
  simp only[Own.del] at h'
  split at h'
  .cases h'
  .rename_i hne
   exact hs.tokne (abq r) t' _ _ _ _ _ _ _ _ hk h' (bo hne) b rfl hg'
 .simp only[aE,Rep]
  exact⟨by simp[Own.add],by simp,some ⟨b,0,none⟩,cap,[],rfl,aU _,by simp[bu],λh=>absurd rfl h⟩
theorem aCX(hs:Sim M0 k ow done w0 w N s tmps){E:En}(horc:EnSound P M0.G E){dr:Bool}{ix:Nat}(hd:¬ done ix){o:Oper}{e:Option X}{s':S}(hdst:abZ N o=true)
  (h:aaV P (TT.of P) E dr s ix o=some (e,s')) {K:Act->World->Prop} {Q:Exit->Act->World->Prop}
  (hK:e=none->∀ tmps' w' k' ow',k.le k'->Sim M0 k' ow' (λj=>done j\/j=ix) w0 w' N s' tmps'->K ⟨tmps',ds⟩ w')
  (hP:∀ x,e=some x->∀ v w' k' ow',k.le k'->Sim M0 k' ow' (λj=>done j\/j=ix) w0 w' N s' tmps->aE k' ow' x v->Q (.panic [{v:=v,recovered:=false}]) ⟨tmps,ds⟩ w'):o.wp P ⟨tmps,ds⟩ w K Q:=by
 have hdst':=ahP hdst
 have hput:∀ u,(⟨tmps,ds⟩ : Act).put o.dst u=⟨((⟨tmps,ds⟩ : Act).put o.dst u).tmps,ds⟩:=λu=>by
  cases o.dst <;> rfl
 have hs1:=hs.more (done':=λj=>done j\/j=ix) (λ_ h=>.inl h)
 unfold aaV at h
 split at h
 .exact ae0 hs horc hd hdst h hK
 split at h
 .-- alloc
  rename_i t ho
  split at h
  rotate_left
  .exact ae0 hs horc hd hdst h hK
  split at h
  .rename_i d hT
   simp only[bD] at h
   obtain⟨rfl,rfl⟩:=h
   have ok:=TT.of_ok hT
   obtain⟨z,hz,hz2⟩:=ok.run_zero w
   obtain⟨k',g1,g2,g3⟩:=hs1.newVar (xs:=fj d) (vs:=d.zero) t (ag7 d.zero) ok.one
   obtain⟨ow',g4⟩:=g3.lay (r:=s.objs.length) (off:=0) (xs:=fj d) (ys:=[]) aT (ag7 d.zero)
   refine acT (u:=.pointer (some ⟨w.heap.size,0,none⟩)) (w':=w.alloc (.cells d.zero.toArray t)) ?_ ?_
   .simp[execOp,ho,Instr.alloc,hz,newVar,newRow,← hz2]
   .rw[hput]
    exact hK rfl _ _ k' ow' g1 (g4.put o.dst hdst' (by simp only[aE];exact⟨_,g2,rfl⟩))
  .cases h
 .-- box
  rename_i t x ho
  split at h
  rotate_left
  .-- for good
   split at h
   rotate_left
   .cases h
   rename_i d cs hT hx
   split at h
   rotate_left
   .cases h
   rename_i hc
   obtain⟨hl,hz⟩:=hc
   simp only[bD] at h
   obtain⟨rfl,rfl⟩:=h
   unfold ec at hx
   simp only[bI] at hx
   obtain⟨xs,hx,hrd⟩:=hx
   obtain⟨hr,h1⟩:=aeE hx (Sim.ev (ds:=ds) hs x)
   have hcl:=aj2 _ _ _ hrd hr
   have hlen:=hcl.length
   have hown:(w.alloc (.cells ((⟨tmps,ds⟩ : Act).eval x).cells.toList.toArray t)).ownsRow 0 t d.size (.slice (some ⟨w.heap.size,0,none⟩) 1 1) 1 ((⟨tmps,ds⟩ : Act).eval x).cells.toList :=
    ⟨by omega,.inr ⟨w.heap.size,1,_,rfl,aU _,heap_alloc_new w _,ae _,by simp[maxLen],by simp only[dD];omega,by rw[abd];exact aaB aC⟩⟩
   obtain⟨k',g1,g2,g3⟩:=hs1.row (row:=none) (cs:=cs) (c:=s.clk) (ix:=ix) (i:=0) (λg hg=>by cases hg) (World.grownBy_alloc w _ none) hown (.inr ⟨rfl,rfl⟩) hcl h1 (hs.new hd) (.inr ⟨rfl,.inr rfl⟩)
   refine acT (u:=.pointer (some ⟨w.heap.size,0,none⟩)) (w':=w.alloc (.cells ((⟨tmps,ds⟩ : Act).eval x).cells.toList.toArray t)) ?_ ?_
   .simp[execOp,ho,Instr.box,newVar,newRow]
   .rw[hput]
    refine hK rfl _ _ k' _ g1 (g2.put o.dst hdst' ?_)
    simp only[aE,Rep] at g3
    obtain⟨_,_,a,cap,vs,h5,_,h6,h7⟩:=g3
    simp only[Value.slice.injEq] at h5
    obtain⟨rfl,_,rfl⟩:=h5
    simp only[aE,Rep]
    by_cases hne:vs=[]
    .subst hne
     exact⟨w.heap.size,0,[],rfl,h6,λi u hu=>by simp at hu⟩
    .obtain⟨b',o',h8,h9⟩:=h7 hne
     simp only[ab,Addr.mk.injEq] at h8
     obtain⟨rfl,rfl,_⟩:=h8
     exact⟨_,_,vs,rfl,h6,h9⟩
  split at h
  .rename_i d xs hT hx
   split at h
   .simp only[bD] at h
    obtain⟨rfl,rfl⟩:=h
    obtain⟨hl,h1⟩:=aeE hx (Sim.ev (ds:=ds) hs x)
    obtain⟨k',g1,g2,g3⟩:=hs1.newVar t hl h1
    obtain⟨ow',g4⟩:=g3.lay (r:=s.objs.length) (off:=0) (xs:=xs) (ys:=[]) aT (aP.mono g1 (λ_ _ h=>h) _ _ hl)
    refine acT (u:=.pointer (some ⟨w.heap.size,0,none⟩)) (w':=w.alloc (.cells ((⟨tmps,ds⟩ : Act).eval x).cells.toList.toArray t)) ?_ ?_
    .simp[execOp,ho,Instr.box,newVar,newRow]
    .rw[hput]
     exact hK rfl _ _ k' ow' g1 (g4.put o.dst hdst' (by simp only[aE];exact⟨_,g2,rfl⟩))
   .cases h
  .cases h
 .-- store
  rename_i t a x ho
  split at h
  .-- a variable's new block
   rename_i tk ty z hnw
   split at h
   rotate_left
   .exact ae0 hs horc hd hdst h hK
   split at h
   rotate_left
   .cases h
   rename_i d xs j hT hx hE
   split at h
   rotate_left
   .cases h
   rename_i hc
   obtain⟨rfl,hz,hl,hok,hdn⟩:=hc
   simp only[bD] at h
   obtain⟨rfl,rfl⟩:=h
   cases a with
   | const v =>
    exfalso
    simp only[S.ev] at hnw
    unfold aa5 at hnw
    split at hnw <;> cases hnw
   | func f=>cases hnw
   | global g=>cases hnw
   | tmp d' =>
    obtain rfl:d'=j:=by
     unfold dB at hE
     rw[ho] at hE
     cases hg:o.guard with
     | none=>rw[hg] at hE;exact ay hE
     | some g=>rw[hg,hdn] at hE;cases hE
    obtain⟨b,hv,hk,hr,h1,⟨cur,hh,hcz⟩,hrun⟩:=axg (P:=P) (ds:=ds) hs hd ho hT hz hnw hx hl
    obtain⟨k',g1,g2⟩:=hs1.made (aj7 hok) hk hv hr h1 hh
    unfold Oper.wp
    rw[hrun]
    simp only[Oper.upon]
    rw[hdn]
    exact hK rfl tmps _ k' _ g1 g2
  split at h
  .rename_i d r off xs hT ha hx
   simp only[ap,aY] at h
   obtain⟨s2,h,rfl,rfl⟩:=h
   unfold afv at h
   split at h
   .rename_i ty ys hr
    split at h
    .rename_i hc
     simp only[ab] at h
     subst h
     obtain⟨hl,h1⟩:=aeE hx (Sim.ev (ds:=ds) hs x)
     have hav:=Sim.ev (ds:=ds) hs a
     rw[ha] at hav
     simp only[aE] at hav
     obtain⟨b,hb,hav⟩:=hav
     obtain⟨b',g1,g2,g3,g4,vs,hh,hone,hvs⟩:=hs.obj r _ hr
     obtain rfl:b=b':=ay (hb.symm.trans g1)
     have hrl:r<s.objs.length:=hs.dom r b hb
     have ok:=TT.of_ok hT
     have hlen:=hl.length
     have hvl:=hvs.length
     have hfit:off+0+((⟨tmps,ds⟩ : Act).eval x).cells.toList.length<=vs.toArray.size:=by
      simp only[dD]
      omega
     have hrun:=run_storeCells_at P b off ty ((⟨tmps,ds⟩ : Act).eval x).cells.toList 0 vs.toArray w hh hfit h1
     have hsz:((⟨tmps,ds⟩ : Act).eval x).cells.size=d.size:=by
      have:((⟨tmps,ds⟩ : Act).eval x).cells.toList.length=d.size:=by omega
      simpa using this
     have hset:=hs1.setVar (ys:=ys.take off++xs++ys.drop (off+xs.length)) (vs:=vs.take off++((⟨tmps,ds⟩ : Act).eval x).cells.toList++vs.drop (off+xs.length)) hb hh hrl (λ_=>ajP hr λ_ _ e=>by cases e)
      (((hvs.takeN off).append hl).append (hvs.dropN _))
      (λu hu=>by
       simp only[br] at hu
       rcases hu with (hu|hu)|hu
       .exact hone u (abX hu)
       .exact h1 u hu
       .exact hone u (dX hu))
     have hrun2:(execOp (⟨tmps,ds⟩ : Act).eval o).run P w=.ok .skip (w.setRow b (vs.take off++((⟨tmps,ds⟩ : Act).eval x).cells.toList++vs.drop (off+xs.length)).toArray):=by
      simp only[abC,hlen] at hrun
      simp[execOp,ho,Instr.storeAt,hav,Instr.sureAddr,storeVar,ok.run_size,hsz,hrun]
     unfold Oper.wp
     rw[hrun2]
     simp only[Oper.upon]
     rw[hput]
     obtain⟨ow',g4⟩:=hset.lay (r:=r) (off:=off) (xs:=xs) (ys:=(ys.drop off).take xs.length) (by simpa using hrl) hl
     exact hK rfl _ _ k ow' (Know.le_refl k) (g4.put o.dst hdst' (by simp[aE,Rep]))
    .cases h
   .cases h
  .cases h
 .-- makeMap
  rename_i t ho
  simp only[bD] at h
  obtain⟨rfl,rfl⟩:=h
  obtain⟨k',g1,g2,g3⟩:=hs1.newOb (ob:=Ob.map []) (.map #[] 0) (λk' w' _ hh=>⟨#[],0,hh,rfl,by simp[bu]⟩)
  refine acT (u:=.map (some w.heap.size)) (w':=w.alloc (.map #[] 0)) ?_ ?_
  .simp[execOp,ho,Instr.makeMap]
  .rw[hput]
   exact hK rfl _ _ k' ow g1 (g3.put o.dst hdst' (by simp only[aE];exact⟨_,g2,rfl⟩))
 .-- mapUpdate
  rename_i t m kx x ho
  split at h
  .rename_i kind et r kv c hty hm hlit hrd
   split at h
   .rename_i es hr
    split at h
    .rename_i es' hp
     simp only[bD] at h
     obtain⟨rfl,rfl⟩:=h
     have hmv:=Sim.ev (ds:=ds) hs m
     rw[hm] at hmv
     obtain⟨w',g1,g2⟩:=akV (P:=P) hs1 hty hmv (ahh hlit (Sim.ev (ds:=ds) hs kx)) (af2 _ _ _ hrd (Sim.ev (ds:=ds) hs x)) hr hp
     have hrun2:(execOp (⟨tmps,ds⟩ : Act).eval o).run P w=.ok .skip w':=by simp[execOp,ho,g1]
     unfold Oper.wp
     rw[hrun2]
     simp only[Oper.upon]
     rw[hput]
     exact hK rfl _ _ k ow (Know.le_refl k) (g2.put o.dst hdst' (by simp[aE,Rep]))
    .cases h
   .cases h
  .cases h
 .-- insert
  rename_i t m kx x ho
  split at h
  .rename_i kind et r kv c hty hm hlit hrd
   split at h
   .rename_i es hr
    split at h
    .rename_i es' hp
     simp only[bD] at h
     obtain⟨rfl,rfl⟩:=h
     have hmv:=Sim.ev (ds:=ds) hs m
     rw[hm] at hmv
     obtain⟨w',g1,g2⟩:=akV (P:=P) hs1 hty hmv (ahh hlit (Sim.ev (ds:=ds) hs kx)) (af2 _ _ _ hrd (Sim.ev (ds:=ds) hs x)) hr hp
     have hrun2:(execOp (⟨tmps,ds⟩ : Act).eval o).run P w=.ok .skip w':=by simp[execOp,ho,g1]
     unfold Oper.wp
     rw[hrun2]
     simp only[Oper.upon]
     rw[hput]
     exact hK rfl _ _ k ow (Know.le_refl k) (g2.put o.dst hdst' (by simp[aE,Rep]))
    .cases h
   .cases h
  .cases h
 .-- delete
  rename_i args tys ho
  split at h
  .rename_i m kx t t2 hargs htys
   split at h
   .rename_i kind et r kv hty hm hlit
    split at h
    .rename_i es hr
     split at h
     .rename_i es' hp
      simp only[bD] at h
      obtain⟨rfl,rfl⟩:=h
      have hmv:=Sim.ev (ds:=ds) hs m
      rw[hm] at hmv
      obtain⟨w',g1,g2⟩:=ayb (P:=P) (t2:=t2) (ty:=o.type) hs1 hty hmv (ahh hlit (Sim.ev (ds:=ds) hs kx)) hr hp
      have ha:args=#[m,kx]:=by rw[← cz (xs:=args),hargs]
      have ht:tys=#[t,t2]:=by rw[← cz (xs:=tys),htys]
      subst ha;subst ht
      refine acT (u:=.tuple #[]) (w':=w') (by simp[execOp,ho,resolve,invoke,builtin,g1]) ?_
      rw[hput]
      exact hK rfl _ _ k ow (Know.le_refl k) (g2.put o.dst hdst' (by simp[aE,aP]))
     .cases h
    .cases h
   .cases h
  .cases h
 .-- panic
  rename_i x ho
  split at h
  .rename_i t c hc
   simp only[bD] at h
   obtain⟨rfl,rfl⟩:=h
   have hrep:=af2 _ _ _ hc (Sim.ev (ds:=ds) hs x)
   have hrep':=hrep
   simp only[Rep] at hrep
   obtain⟨u,hu,_⟩:=hrep
   have hrun:(execOp (⟨tmps,ds⟩ : Act).eval o).run P w=.halt (.panic ((⟨tmps,ds⟩ : Act).eval x)) w:=by
    rw[hu]
    simp[execOp,ho,hu,Instr.panic,goPanic]
   unfold Oper.wp
   rw[hrun]
   simp only[Oper.upon]
   exact hP _ rfl _ w k ow (Know.le_refl k) hs1 (by simpa only [aE] using hrep')
  .cases h
 .-- the last element of a pushed row taken off
  rename_i t x hi ho
  split at h
  rotate_left
  .exact ae0 hs horc hd hdst h hK
  rename_i r e0 z hx
  simp only[ap,aY] at h
  obtain⟨s2,h,rfl,rfl⟩:=h
  unfold apL at h
  split at h
  rotate_left
  .cases h
  rename_i e' td hel hhi
  split at h
  rotate_left
  .cases h
  rename_i hc
  obtain⟨rfl,rfl⟩:=hc
  split at h
  rotate_left
  .cases h
  rename_i ty c cs hob
  simp only[ab] at h
  subst h
  have hxx:=Sim.ev (ds:=ds) hs x
  rw[hx] at hxx
  obtain⟨b,cap,hv,hcap,ow',g1,g2⟩:=hs1.pop (c:=s.clk) (ix:=ix) (i:=0) hxx hob (hs.new hd) (.inr ⟨rfl,.inr rfl⟩)
  obtain⟨hund,hdd⟩:=ahO hel
  have hru:=aiE (P:=P) (w:=w) hund
  have r2:(hi.map λx=>(⟨tmps,ds⟩ : Act).eval x)=some (.int .i64 0):=by
   cases hi with
   | none=>cases hhi
   | some y =>
    have:=af8 (show aas (s.ev y)=some 0 from hhi) (Sim.ev (ds:=ds) hs y)
    simp only[aJ,this]
  have hbb:=amq (P:=P) (w:=w) (sl:=true) (cap:=cap) (vl:=none) (len:=1) (.inl ⟨rfl,rfl⟩) (.inr r2) (ahI 0) (ahI 0) aC
  refine acT (u:=.slice (some ⟨b,0,none⟩) 0 cap) (w':=w) ?_ ?_
  .simp only[execOp,ho,Sem.run_bind,ahU,Sem.run_pure]
   rw[hv]
   simp[Instr.sliceAt,Instr.slice,hru,hbb,(TT.of_ok hdd).run_size,Addr.add_lit]
  .rw[hput]
   exact hK rfl _ _ k ow' (Know.le_refl k) (g1.put o.dst hdst' g2)
 .-- a call
  rename_i f args tys ho
  split at h
  .rename_i g us htg
   split at h
   .obtain⟨fvs,cvs,hfv,hus⟩ : ∃ fvs cvs:List Value,(⟨tmps,ds⟩ : Act).eval f=.func (.func g) fvs.toArray cvs.toArray/\aP k ow us (fvs++(args.toList.map λx=>(⟨tmps,ds⟩ : Act).eval x)++cvs):=by
     have hfx:=Sim.ev (ds:=ds) hs f
     unfold adJ at htg
     simp only at htg
     split at htg
     .rename_i g' caps hf
      simp only[bD] at htg
      obtain⟨rfl,rfl⟩:=htg
      rw[hf] at hfx
      simp only[aE,Rep] at hfx
      obtain⟨vs,h1,h2⟩:=hfx
      exact⟨[],vs,h1,by simpa using aqa (ds:=ds) hs _ (aP.of h2)⟩
     .rename_i g' caps hf
      simp only[bD] at htg
      obtain⟨rfl,rfl⟩:=htg
      rw[hf] at hfx
      simp only[aE] at hfx
      obtain⟨vs,h1,h2⟩:=hfx
      unfold ahQ ako
      split at h1
      .rename_i he
       rw[au he]
       exact⟨[],vs,h1,by simpa using aqa (ds:=ds) hs _ h2⟩
      .rename_i he
       rw[ar he]
       refine⟨vs,[],h1,?_⟩
       rw[cZ]
       have h3:=aqa (ds:=ds) hs args.toList (show aP k ow [] [] by simp[aP])
       rw[cZ,cZ] at h3
       exact aP.append h2 h3
     .cases htg
    obtain⟨hc,hcall⟩:=aAd (ds:=ds) hs horc hd hdst' hus h
    have hrun:(execOp (⟨tmps,ds⟩ : Act).eval o).run P w=.ok (.enter g (fvs++(args.toList.map λx=>(⟨tmps,ds⟩ : Act).eval x)++cvs).toArray) w:=by
     unfold d9 at hc
     split at hc
     .rename_i fn hfn
      simp only[aj,cV,aco] at hc
      obtain⟨⟨b,hb⟩,hn⟩:=hc
      have hn':¬ fn.name= "runtime.NumGoroutine":=by simpa using hn
      have hargs:(fvs++(args.toList.map λx=>(⟨tmps,ds⟩ : Act).eval x)++cvs).toArray=fvs.toArray++Array.map (λx=>(⟨tmps,ds⟩ : Act).eval x) args++cvs.toArray:=by
       apply aga
       simp
      rw[hargs]
      simp[execOp,ho,resolve,hfv,Deferred.ofValue,invoke,callFunc,hfn,hn',hb]
     .cases hc
    unfold Oper.wp
    rw[hrun]
    simp only[Oper.upon]
    refine hcall.mono λen w' ⟨k',ow',g1,hcase⟩=>?_
    rcases hcase with ⟨he,v,rfl,g2⟩|⟨x,v,he,rfl,g2,g3⟩
    .show K ((⟨tmps,ds⟩ : Act).put o.dst v) w'
     rw[hput]
     exact hK he _ _ k' ow' g1 g2
    .exact hP x he v w' k' ow' g1 g3 g2
   .exact ae0 hs horc hd hdst h hK
  .cases h
 .exact ae0 hs horc hd hdst h hK
theorem apo(hs:Sim M0 k ow done w0 w N s tmps){ops:Array Oper}{o:Oper}{b:Bool}(h:dI ops s o=some b):Region.wanted o (yielded ops tmps)=b:=by
 unfold dI at h
 unfold Region.wanted
 split at h
 .rename_i hg
  simp only[ab] at h
  simp[hg,h]
 .rename_i j want hg
  simp only[hg]
  split at h
  .rename_i d hd
   have hx:=hs.fr d
   unfold yielded
   rw[hd]
   simp only[db]
   split at h
   .rename_i b' hb
    rw[hb] at hx
    simp only[aE,Rep] at hx
    simp only[ab] at h
    have:tmps[d]?=some (.bool b'):=by
     rw[dS] at hx
     cases hc:tmps[d]? with
     | none=>rw[hc] at hx;simp[undef] at hx
     | some u=>rw[hc] at hx;simp at hx;rw[hx.1]
    rw[this]
    simp only[]
    rw[← h]
    cases b' <;> cases want <;> rfl
   .rename_i hb
    rw[hb] at hx
    simp only[aE,Rep] at hx
    simp only[ab] at h
    rw[dS] at hx
    cases hc:tmps[d]? with
    | none=>simp[← h]
    | some u =>
     rw[hc] at hx
     simp at hx
     subst hx
     simp[undef,← h]
   .cases h
  .rename_i hd
   simp only[ab] at h
   unfold yielded
   rw[hd]
   simp[← h]
theorem aao(hs:Sim M0 k ow done w0 w N s tmps){E:En}(horc:EnSound P M0.G E){dr:Bool}{ops:Array Oper}{ix:Nat}(hd:¬ done ix){o:Oper}(hi:ops[ix]?=some o){e:Option X}{s':S}(hdst:abZ N o=true)
  (h:bv P (TT.of P) E dr ops s ix o=some (e,s')) {K:Act->World->Prop} {Q:Exit->Act->World->Prop}
  (hK:e=none->∀ tmps' w' k' ow',k.le k'->Sim M0 k' ow' (λj=>done j\/j=ix) w0 w' N s' tmps'->K ⟨tmps',ds⟩ w')
  (hP:∀ x,e=some x->∀ v w' k' ow',k.le k'->Sim M0 k' ow' (λj=>done j\/j=ix) w0 w' N s' tmps->aE k' ow' x v->Q (.panic [{v:=v,recovered:=false}]) ⟨tmps,ds⟩ w'):wpOp P ops Q ix K ⟨tmps,ds⟩ w:=by
 unfold bv at h
 unfold wpOp
 simp only[hi]
 split at h
 .rename_i hg
  rw[apo hs hg,au rfl]
  exact .inl (aCX hs horc hd hdst h hK hP)
 .rename_i hg
  rw[apo hs hg,ar aT]
  simp only[bD] at h
  obtain⟨rfl,rfl⟩:=h
  have hdst':=ahP hdst
  have:=Sim.put (ds:=ds) (hs.more (done':=λj=>done j\/j=ix) (λ_ h=>.inl h)) o.dst hdst' (x:=.of .undef) (v:=undef) (by simp[aE,Rep])
  have hput:(⟨tmps,ds⟩ : Act).put o.dst undef=⟨((⟨tmps,ds⟩ : Act).put o.dst undef).tmps,ds⟩:=by cases o.dst <;> rfl
  rw[hput]
  exact hK rfl _ _ k ow (Know.le_refl k) this
 .cases h
theorem apq{E:En}(horc:EnSound P M0.G E){dr:Bool}{ops:Array Oper}{Q:Exit->Act->World->Prop}{e:Option X}{s':S}:∀ (l:List Oper) (n:Nat) (s:S) (w:World) (tmps:Array Value) (k:Know) (ow:Own) (done:Nat->Prop),
  (∀ j,l[j]?=ops[n+j]?)->(∀ o∈l,abZ N o=true)->(∀ j,done j->j<n)->Sim M0 k ow done w0 w N s tmps->aa1 P (TT.of P) E dr ops n l s=some (e,s') ->
  (e=none->∀ tmps' w' k' ow' done',k.le k'->Sim M0 k' ow' done' w0 w' N s' tmps'->Q .normal ⟨tmps',ds⟩ w') ->
  (∀ x,e=some x->∀ v tmps' w' k' ow' done',k.le k'->Sim M0 k' ow' done' w0 w' N s' tmps'->aE k' ow' x v->Q (.panic [{v:=v,recovered:=false}]) ⟨tmps',ds⟩ w')->wpOps P ops Q (List.range' n l.length) ⟨tmps,ds⟩ w
 | [],n,s,w,tmps,k,ow,done,_,_,_,hs,h,hQ,_=>by
  simp only[aa1,bD] at h
  obtain⟨rfl,rfl⟩:=h
  exact hQ rfl tmps w k ow done (Know.le_refl k) hs
 | o::l,n,s,w,tmps,k,ow,done,hl,hdst,hdone,hs,h,hQ,hP=>by
  have h0:ops[n]?=some o:=by simpa using (hl 0).symm
  simp only[aa1] at h
  simp only[aN,List.range'_succ]
  rw[wpOps_cons]
  split at h
  .rename_i s1 h1
   refine aao hs horc (λhd=>by have:=hdone n hd;omega) h0 (hdst o aT) h1 (λ_ tmps' w' k' ow' g1 g2=>?_) (λx hx=>by cases hx)
   exact apq horc l (n+1) s1 w' tmps' k' ow' _ (λj=>by have:=hl (j+1);simpa [bA,ey 1 j] using this) (λo ho=>hdst o (by simp[ho]))
    (λj hj=>by rcases hj with hj|hj;have:=hdone j hj;omega;omega) g2 h
    (λhe tmps' w' k'' ow' done' g3 g4=>hQ he tmps' w' k'' ow' done' (Know.le_trans g1 g3) g4)
    (λx he v tmps' w' k'' ow' done' g3 g4=>hP x he v tmps' w' k'' ow' done' (Know.le_trans g1 g3) g4)
  .rename_i x s1 h1
   simp only[bD] at h
   obtain⟨rfl,rfl⟩:=h
   exact aao hs horc (λhd=>by have:=hdone n hd;omega) h0 (hdst o aT) h1 (λhe=>by cases he) (λx hx v w' k' ow' g1 g2=>hP x hx v tmps w' k' ow' _ g1 g2)
  .cases h
end
theorem ab0(t:Tk):∀ xs:List X,X.drops t xs=xs.map (X.drop t)
 | []=>rfl
 | x::r=>by simp[X.drops,ab0 t r]
def aly(t:Tk):∀ x:X,(x.drop t).rd=x.rd :=
 X.rec (motive_1:=λx=>(x.drop t).rd=x.rd) (motive_2:=λxs=>X.rds (X.drops t xs)=X.rds xs)
  (λ_=>rfl) rfl (λt' e z cs n=>by simp only[X.drop];split <;> simp[X.rd]) (λ_ _=>rfl) (λ_=>rfl) (λ_ _ _=>rfl)
  (λxs ih=>by simp[X.drop,X.rd,ih]) (λ_ _=>rfl) (λ_ _ _=>rfl) (λ_ _ _=>rfl) rfl (λx xs ih1 ih2=>by simp[X.drops,X.rds,ih1,ih2])
theorem apI(t:Tk):∀ xs:List X,X.rds (xs.map (X.drop t))=X.rds xs
 | []=>rfl
 | x::r=>by simp[X.rds,aly,apI t r]
def drop_drop(t u:Tk):∀ x:X,(x.drop t).drop u=(x.drop u).drop t :=
 X.rec (motive_1:=λx=>(x.drop t).drop u=(x.drop u).drop t) (motive_2:=λxs=>X.drops u (X.drops t xs)=X.drops t (X.drops u xs))
  (λ_=>rfl) rfl
  (λt' e z cs n=>by
   by_cases h1:t'=t
   .by_cases h2:t'=u
    .subst h1;subst h2;simp[X.drop]
    .subst h1;simp[X.drop,h2]
   .by_cases h2:t'=u
    .subst h2;simp[X.drop,h1]
    .simp[X.drop,h1,h2])
  (λ_ _=>rfl) (λ_=>rfl) (λf xs ih=>by simp[X.drop,ih])
  (λxs ih=>by simp[X.drop,ih]) (λxs ih=>by simp[X.drop,ih])
  (λo ty z=>by
   cases o with
   | none=>rfl
   | some t' =>
    by_cases h1:t'=t
    .by_cases h2:t'=u
     .subst h1;subst h2;simp[X.drop,agd]
     .subst h1;simp[X.drop,agd,h2]
    .by_cases h2:t'=u
     .subst h2;simp[X.drop,agd,h1]
     .simp[X.drop,agd,h1,h2])
  (λ_ _ _=>rfl) rfl (λx xs ih1 ih2=>by simp[X.drops,ih1,ih2])
def fa(t t':Tk)(e z:Nat)(cs:List C)(n:Nat):(X.own t' e z cs n).drop t=.of (.sl cs n)\/(X.own t' e z cs n).drop t=.own t' e z cs n:=by
 simp only[X.drop]
 split
 .exact .inl rfl
 .exact .inr rfl
def aoF(t:Tk)(o:Option C):(o.map X.of).map (X.drop t)=o.map X.of:=by cases o <;> rfl
def ad1(t:Tk)(x:X):aas (x.drop t)=aas x:=by
 cases x with
 | own t' e z cs n=>rcases fa t t' e z cs n with h|h <;> rw[h] <;> rfl
 | _=>rfl
def axy(t:Tk)(x:X):adm (x.drop t)=adm x:=by
 cases x with
 | own t' e z cs n=>rcases fa t t' e z cs n with h|h <;> rw[h] <;> rfl
 | _=>rfl
def ak6(t:Tk)(x:X):aaT (x.drop t)=aaT x:=by
 cases x with
 | own t' e z cs n=>rcases fa t t' e z cs n with h|h <;> rw[h] <;> rfl
 | _=>rfl
def aps(t:Tk)(x:X):cn (x.drop t)=(cn x).map (List.map (X.drop t)):=by
 cases x with
 | own t' e z cs n=>simp only[X.drop];split <;> simp[cn,X.drop, *]
 | of c=>cases c <;> simp[X.drop,cn]
 | _=>simp[X.drop,cn,ab0]
def amA(t:Tk)(v:Value):(aa5 v).drop t=aa5 v:=by
 unfold aa5
 split <;> rfl
def aiw(T:TT)(t:Tk)(ty:Nat)(xs:List X):bx T ty (xs.map (X.drop t))=(bx T ty xs).map (X.drop t):=by
 unfold bx
 split
 .rfl
 .rename_i d _
  simp only[cN]
  split
  .split
   .simp[X.drop,ab0,aeb]
   .cases xs <;> simp
  .rfl
def da(t:Tk)(s:S)(x:Operand):(s.drop (some t)).ev x=(s.ev x).drop t:=by
 cases x <;> simp[S.ev,S.drop,X.drop,amA]
def aIK(t:Tk)(x:X):ag5 (x.drop t)=ag5 x:=by
 cases x with
 | own t' e z cs n=>rcases fa t t' e z cs n with h|h <;> rw[h] <;> rfl
 | _=>simp[X.drop,ag5]
theorem amY(t:Tk)(s:S):∀ l:List Operand,acE (l.map (s.drop (some t)).ev)=acE (l.map s.ev)
 | []=>rfl
 | x::r=>by simp only[bc,acE,da,aIK,amY t s r]
def aFb(t:Tk){x y:X}(h:ag5 x=some y):y.drop t=y:=by
 cases x <;> simp only[ag5,ab,reduceCtorEq] at h <;> subst h <;> rfl
theorem aln(t:Tk):∀ (l ys:List X),acE l=some ys->X.drops t ys=ys
 | [],ys,h=>by simp only[acE,ab] at h;subst h;rfl
 | x::r,ys,h=>by
  simp only[acE] at h
  split at h
  .rename_i y q h1 h2
   simp only[ab] at h
   subst h
   simp only[X.drops]
   rw[aFb t h1,aln t r q h2]
  .cases h
theorem amu(t:Tk)(s:S):∀ l,abh (s.drop (some t)).ev l=abh s.ev l
 | []=>rfl
 | x::r=>by simp[abh,da,aly,amu t s r]
theorem alb(t:Tk)(s:S):∀ l,fQ (s.drop (some t)).ev l=(fQ s.ev l).map (List.map λp=>(p.1,p.2.map (X.drop t)))
 | []=>rfl
 | (i,x)::r=>by
  simp only[fQ,da,aps,alb t s r]
  cases cn (s.ev x) <;> cases fQ s.ev r <;> simp
theorem ajB(place:Nat->Option (Nat×Nat))(t:Tk):∀ (qs:List (Nat×List X)) (cells:List X),aah place (cells.map (X.drop t)) (qs.map λp=>(p.1,p.2.map (X.drop t)))=(aah place cells qs).map (List.map (X.drop t))
 | [],cells=>rfl
 | (i,xs)::r,cells=>by
  simp only[bc,aah]
  cases place i with
  | none=>rfl
  | some p =>
   obtain⟨off,size⟩:=p
   simp only[cN]
   split
   .rw[← ajB place t r]
    simp[aeb,ab2]
   .rfl
def fd(t:Tk):Out->Out
 | none=>none
 | some (x,u)=>if u=some t then none else some (x.drop t,u)
def fe(t:Tk):fd t none=none:=rfl
def fN(t:Tk)(x:X):fd t (out x)=out (x.drop t):=by simp[fd,out]
def abj(t:Tk)(x:Option X):fd t (bE x)=bE (x.map (X.drop t)):=by cases x <;> simp[fd,bE]
def abA(t:Tk)(c:Prop)[Decidable c](a b:Out):fd t (if c then a else b)=if c then fd t a else fd t b:=by split <;> rfl
def ajk(t:Tk)(d:TD):(fj d).map (X.drop t)=fj d:=by
 simp[fj,amA]
def atY(t:Tk)(s:S)(r:Nat):(s.drop (some t)).objs[r]?=(s.objs[r]?).map (Ob.drop t):=by simp[S.drop]
def aDF(T:TT)(t:Tk)(s:S)(ty:Nat)(x:X):abk T (s.drop (some t)).objs ty (x.drop t)=fd t (abk T s.objs ty x):=by
 cases x with
 | ptr r off =>
  simp only[X.drop,abk,atY]
  cases s.objs[r]? with
  | none=>rfl
  | some ob =>
   cases ob with
   | var ty xs=>simp only[aJ,Ob.drop,ab0,← ab2,aiw,abj]
   | map es=>rfl
   | row ty cs=>cases cs <;> simp only[aJ,Ob.drop,fe,abj,aoF]
 | of c =>
  cases c <;> simp only[X.drop,abk,fe,abj,aoF]
 | own t' e z cs n=>rcases fa t t' e z cs n with h|h <;> rw[h] <;> rfl
 | _=>rfl
def art(T:TT)(t:Tk)(ty f:Nat)(x:X):fF T ty f (x.drop t)=fd t (fF T ty f x):=by
 unfold fF
 cases aig T ty f with
 | none=>rfl
 | some p =>
  obtain⟨o,z⟩:=p
  simp only[abA,fe]
  split
  .cases x with
   | of c=>cases c <;> simp[X.drop,fd,out]
   | own t' e z cs n=>rcases fa t t' e z cs n with h|h <;> rw[h] <;> rfl
   | _=>simp[X.drop,fd,out]
  .rfl
def az2(T:TT)(t:Tk)(ty f:Nat)(x:X):afO T ty f (x.drop t)=fd t (afO T ty f x):=by
 unfold afO
 split
 .split
  .cases x with
   | of c =>
    cases c <;> simp only[X.drop,fe,abj,aoF]
   | own t' e z cs n=>rcases fa t t' e z cs n with h|h <;> rw[h] <;> rfl
   | agg xs=>simp only[X.drop,ab0,← ab2,aiw,abj]
   | _=>rfl
  .rfl
 .rfl
def awx(t:Tk)(e z:Nat)(i:Int)(x:X):ahX e z i (x.drop t)=fd t (ahX e z i x):=by
 cases x with
 | top r e' z'=>simp only[X.drop,ahX,abA,fe,fN]
 | own t' e z cs n=>rcases fa t t' e z cs n with h|h <;> rw[h] <;> rfl
 | _=>rfl
def azc(t:Tk)(b:Bool)(x:X):ajY b (x.drop t)=fd t (ajY b x):=by
 cases x with
 | top r e' z'=>simp only[X.drop,ajY,abA,fe,fN]
 | own t' e z cs n=>rcases fa t t' e z cs n with h|h <;> rw[h] <;> rfl
 | _=>rfl
def ark(T:TT)(t:Tk)(ty:Nat)(x i:X):bz T ty (x.drop t) (i.drop t)=fd t (bz T ty x i):=by
 unfold bz
 rw[ad1]
 split
 .rfl
 .split
  .rw[ak6]
   split
   .simp only[abA,fe,fN,X.drop]
   .exact awx _ _ _ _ _
   .rfl
  .split
   .simp only[abA,fe]
    split
    .cases x with
     | of c=>cases c <;> simp[X.drop,fd,out]
     | own t' e z cs n=>rcases fa t t' e z cs n with h|h <;> rw[h] <;> rfl
     | _=>simp[X.drop,fd,out]
    .rfl
   .rfl
  .rfl
def azW(T:TT)(t:Tk)(ty:Nat)(x i:X):afL T ty (x.drop t) (i.drop t)=fd t (afL T ty x i):=by
 unfold afL
 rw[ad1]
 split
 .rfl
 .cases x with
  | of c =>
   cases c with
   | lit v =>
    cases v with
    | string st =>
     simp only[X.drop]
     split
     .simp[fd,out,X.drop]
     .rfl
    | _=>rfl
   | agg cs =>
    simp only[X.drop]
    split
    .split
     .rename_i n e _ _ _ _ _ _ _ d _
      simp only[abA,fe,abj,aoF]
     .rfl
    .rfl
   | _=>rfl
  | own t' e z cs n=>rcases fa t t' e z cs n with h|h <;> rw[h] <;> rfl
  | agg xs =>
   simp only[X.drop,ab0]
   split
   .split
    .simp only[abA,fe,abj,← ab2,aiw]
    .rfl
   .rfl
  | _=>rfl
def aut(t:Tk)(d:Int)(x:Option X):aeQ d (x.map (X.drop t))=aeQ d x:=by
 cases x <;> simp[aeQ,ad1]
def azo(T:TT)(t:Tk)(ty:Nat)(x:X)(lo hi:Option X):acJ T ty (x.drop t) (lo.map (X.drop t)) (hi.map (X.drop t))=fd t (acJ T ty x lo hi):=by
 have slice:∀ y:X,(∀ s,y≠.of (.lit (.string s)))->acJ T ty y lo hi=match elemOf T ty,aaT y with
  | some (_,d),some (cs,n) =>
   match aeQ 0 lo,aeQ (n:Int) hi with
   | some l,some h=>if 0<=l/\l<=h/\h<=(n:Int)/\cs.length=n*d.size then out (.of (.sl ((cs.drop (l.toNat*d.size)).take ((h.toNat-l.toNat)*d.size)) (h.toNat-l.toNat))) else none
   | _,_=>none
  | _,_=>none:=by
  intro y hy
  unfold acJ
  split
  .rename_i st;exact (hy st rfl).elim
  .rfl
 have slice':∀ y:X,(∀ s,y≠.of (.lit (.string s)))->acJ T ty y (lo.map (X.drop t)) (hi.map (X.drop t))=match elemOf T ty,aaT y with
  | some (_,d),some (cs,n) =>
   match aeQ 0 lo,aeQ (n:Int) hi with
   | some l,some h=>if 0<=l/\l<=h/\h<=(n:Int)/\cs.length=n*d.size then out (.of (.sl ((cs.drop (l.toNat*d.size)).take ((h.toNat-l.toNat)*d.size)) (h.toNat-l.toNat))) else none
   | _,_=>none
  | _,_=>none:=by
  intro y hy
  unfold acJ
  split
  .rename_i st;exact (hy st rfl).elim
  .simp only[aut]
   rfl
 have fin:(match elemOf T ty,aaT x with
  | some (_,d),some (cs,n) =>
   match aeQ 0 lo,aeQ (n:Int) hi with
   | some l,some h=>if 0<=l/\l<=h/\h<=(n:Int)/\cs.length=n*d.size then out (.of (.sl ((cs.drop (l.toNat*d.size)).take ((h.toNat-l.toNat)*d.size)) (h.toNat-l.toNat))) else none
   | _,_=>none
  | _,_=>none)=fd t (match elemOf T ty,aaT x with
  | some (_,d),some (cs,n) =>
   match aeQ 0 lo,aeQ (n:Int) hi with
   | some l,some h=>if 0<=l/\l<=h/\h<=(n:Int)/\cs.length=n*d.size then out (.of (.sl ((cs.drop (l.toNat*d.size)).take ((h.toNat-l.toNat)*d.size)) (h.toNat-l.toNat))) else none
   | _,_=>none
  | _,_=>none):=by
  split
  .split
   .simp only[abA,fe,fN,X.drop]
   .rfl
  .rfl
 by_cases hstr:∃ st,x=.of (.lit (.string st))
 .obtain⟨st,rfl⟩:=hstr
  simp only[X.drop,acJ,aut]
  split
  .split
   .simp only[abA,fe,fN,X.drop]
   .rfl
  .rfl
 .have h1:∀ s,x≠.of (.lit (.string s)):=λs e=>hstr ⟨s,e⟩
  have h2:∀ s,x.drop t≠.of (.lit (.string s)):=λs e=>by
   cases x with
   | own t' e' z cs n=>simp only[X.drop] at e;split at e <;> cases e
   | of c=>exact h1 s e
   | _=>simp[X.drop] at e
  rw[slice' _ h2,slice _ h1,ak6]
  exact fin
def aHK(t:Tk)(u:Option TypeDesc)(x:X):fV u (x.drop t)=fd t (fV u x):=by
 have tl:∀ x:X,ajY (ahK u) (x.drop t)=fd t (ajY (ahK u) x):=azc t _
 cases x with
 | of c =>
  cases c with
  | lit v=>cases v <;> simp only[X.drop,fV,aaT,fe,abA,fN] <;> rfl
  | sl cs n=>simp only[X.drop,fV,aaT,fe,abA,fN]
  | _=>rfl
 | own t' e z cs n=>simp only[X.drop];split <;> simp only[fV,aaT,abA,fe,fN,X.drop]
 | nil=>simp only[X.drop,fV,aaT,fe,abA,fN]
 | top r e z=>simp only[fV,X.drop,aaT];exact tl (.top r e z)
 | agg xs=>simp only[fV,X.drop,aaT];rfl
 | tup xs=>simp only[fV,X.drop,aaT];rfl
 | clo f xs=>simp only[fV,X.drop,aaT];rfl
 | ptr r o=>simp only[fV,X.drop,aaT];rfl
 | mp r=>simp only[fV,X.drop,aaT];rfl
 | nw o ty z=>simp only[fV,X.drop,aaT];rfl
def arD(T:TT)(t:Tk)(d:Option TD)(x:X):ajD T d (x.drop t)=fd t (ajD T d x):=by
 unfold ajD
 rw[ak6]
 split
 .split
  .rename_i cs _ _ _
   cases aeZ cs <;> simp[bE,fd,X.drop]
  .rfl
 .rfl
def arC(T:TT)(a b:Nat)(y:X):Out:=match (T b).map (·.und) with
 | some TypeDesc.string=>ajD T (T a) y
 | _=>none
def aEK(T:TT)(t:Tk)(a b:Nat)(x:X):arC T a b (x.drop t)=fd t (arC T a b x):=by
 unfold arC
 split
 .exact arD T t (T a) x
 .rfl
def aaS(T:TT)(a b:Nat)(y:X)(hy:∀ c,y≠.of (.lit c)):adv T a b y=arC T a b y:=by
 unfold adv arC
 generalize (T b).map (·.und)=u
 generalize T a=d
 split
 .exact absurd rfl (hy _)
 .exact absurd rfl (hy _)
 .rfl
 .split
  .simp_all
  .rfl
def auZ(T:TT)(t:Tk)(a b:Nat)(x:X):adv T a b (x.drop t)=fd t (adv T a b x):=by
 have hN:=aEK T t a b x
 cases x with
 | of c =>
  have hB:=arD T t (T a) (.of c)
  simp only[X.drop] at hB ⊢
  unfold adv
  split
  .simp[fd,out,X.drop]
  .simp[fd,out,X.drop]
  .exact hB
  .rfl
 | own t' e z cs n =>
  have e1:=aaS T a b (.own t' e z cs n) (λc h=>by cases h)
  have e2:=aaS T a b ((X.own t' e z cs n).drop t) (λc h=>by rcases fa t t' e z cs n with h'|h' <;> rw[h'] at h <;> cases h)
  rw[e1,e2]
  exact hN
 | nil=>rw[aaS T a b _ (λc h=>by cases h),aaS T a b _ (λc h=>by cases h)];exact hN
 | ptr r o=>rw[aaS T a b _ (λc h=>by cases h),aaS T a b _ (λc h=>by cases h)];exact hN
 | mp r=>rw[aaS T a b _ (λc h=>by cases h),aaS T a b _ (λc h=>by cases h)];exact hN
 | clo f l=>rw[aaS T a b _ (λc h=>by cases h),aaS T a b _ (λc h=>by cases h)];exact hN
 | agg l=>rw[aaS T a b _ (λc h=>by cases h),aaS T a b _ (λc h=>by cases h)];exact hN
 | tup l=>rw[aaS T a b _ (λc h=>by cases h),aaS T a b _ (λc h=>by cases h)];exact hN
 | nw o ty z=>rw[aaS T a b _ (λc h=>by cases h),aaS T a b _ (λc h=>by cases h)];exact hN
 | top r e z=>rw[aaS T a b _ (λc h=>by cases h),aaS T a b _ (λc h=>by cases h)];exact hN
def amG(t:Tk)(x:X):fu (x.drop t)=fu x:=by
 cases x with
 | own t' e z cs n=>rcases fa t t' e z cs n with h|h <;> rw[h] <;> rfl
 | _=>rfl
def aDC(t:Tk)(s:S)(x:X):agE (s.drop (some t)).objs (x.drop t)=agE s.objs x:=by
 cases x with
 | own t' e z cs n=>rcases fa t t' e z cs n with h|h <;> rw[h] <;> rfl
 | mp r =>
  simp only[X.drop,agE,atY]
  cases s.objs[r]? with
  | none=>rfl
  | some ob=>cases ob <;> rfl
 | of c =>
  cases c with
  | lit v=>cases v with
   | map m=>cases m <;> rfl
   | _=>rfl
  | _=>rfl
 | _=>rfl
def aCg(T:TT)(t:Tk)(et:Nat):(akB T et).map (X.drop t)=akB T et:=by
 unfold akB
 split
 .rw[← aiw,ajk]
 .rfl
def axv(T:TT)(t:Tk)(s:S)(ty:Nat)(x kx:X)(ok:Bool):aei T (s.drop (some t)).objs ty (x.drop t) (kx.drop t) ok=fd t (aei T s.objs ty x kx ok):=by
 unfold aei
 rw[amG,aDC]
 split
 .rename_i kind et kv es _ _ _
  split
  .rename_i i _
   rw[abj]
   cases es[i]? with
   | none=>rfl
   | some p=>cases ok <;> rfl
  .rw[abj]
   congr 1
   have h:=aCg T t et
   cases hz:akB T et with
   | none=>rfl
   | some z =>
    rw[hz] at h
    simp only[aJ,ab] at h
    cases ok with
    | true=>simp[X.drop,X.drops,h]
    | false=>simp[h]
  .rfl
 .rfl
def aAw(T:TT)(t:Tk)(st xt e:Nat)(x:X):aiY T st xt e (x.drop t)=aiY T st xt e x:=by
 unfold aiY
 rw[ak6]
 split
 .rfl
 .cases x with
  | own t' e z cs n=>rcases fa t t' e z cs n with h|h <;> rw[h]
  | _=>rfl
def ayJ(T:TT)(t tk:Tk)(ht:t≠tk)(st xt:Nat)(x y:X):dP T tk st xt (x.drop t) (y.drop t)=fd t (dP T tk st xt x y):=by
 unfold dP
 split
 .rw[aAw]
  split
  .split
   .cases x with
    | own t' e z cs n =>
     simp only[X.drop]
     by_cases he:t'=t
     .subst he
      simp only[am]
      split
      .simp[fd]
      .rfl
     .simp only[he,av,abA,fe]
      split
      .simp[fd,he,X.drop,bo ht]
      .rfl
    | nil =>
     simp only[X.drop,abA,fe]
     split
     .simp[fd,X.drop,bo ht]
     .rfl
    | _=>simp[X.drop,fd]
   .rfl
  .rfl
 .rfl
def azH(t:Tk)(clk ix:Nat)(ht:∀ i,t≠.nm clk ix i):∀ x:X,(x.tr (λ_=>none) (adr clk ix)).drop t=x.tr (λ_=>none) (adr clk ix) :=
 X.rec (motive_1:=λx=>(x.tr (λ_=>none) (adr clk ix)).drop t=x.tr (λ_=>none) (adr clk ix)) (motive_2:=λxs=>X.drops t (X.trs (λ_=>none) (adr clk ix) xs)=X.trs (λ_=>none) (adr clk ix) xs)
  (λ_=>rfl) rfl
  (λt' e z cs n=>by
   simp only[X.tr]
   split
   .rename_i t2 h2
    have:t2≠t:=by
     unfold adr at h2
     split at h2
     .cases h2;exact bo (ht _)
     .cases h2
    simp[X.drop,this]
   .rfl)
  (λ_ _=>rfl) (λ_=>rfl) (λf xs ih=>by simp only[X.tr,X.drop,ih]) (λxs ih=>by simp only[X.tr,X.drop,ih]) (λxs ih=>by simp only[X.tr,X.drop,ih])
  (λo ty z=>by
   cases o with
   | none=>rfl
   | some t' =>
    simp only[X.tr,db,X.drop]
    cases h2:adr clk ix t' with
    | none=>rfl
    | some t2 =>
     have:t2≠t:=by
      unfold adr at h2
      split at h2
      .cases h2;exact bo (ht _)
      .cases h2
     simp[agd,this])
  (λ_ _ _=>rfl) rfl
  (λx xs h1 h2=>by simp only[X.trs,X.drops,h1,h2])
def aDv(t:Tk)(clk ix:Nat)(ht:∀ i,t≠.nm clk ix i)(xs:List X):(ahD clk ix xs).map (X.drop t)=ahD clk ix xs:=by
 unfold ahD
 induction xs with
 | nil=>rfl
 | cons x xs ih=>simp only[X.trs,bc,azH t clk ix ht,ih]
def aG2(t:Tk)(xs:List X):(ae8 xs).drop t=ae8 (xs.map (X.drop t)):=by
 match xs with
 | []=>simp[ae8,X.drop,ab0]
 | [x]=>simp[ae8]
 | x::y::r=>simp[ae8,X.drop,ab0]
def aFe(P:Program)(E:En)(t:Tk)(clk ix f:Nat)(ht:∀ i,t≠.nm clk ix i)(cs:List C):afo P E clk ix f cs=fd t (afo P E clk ix f cs):=by
 unfold afo
 split
 .split
  .rw[fN,aG2,aDv t _ _ ht]
  .rfl
 .rfl
def aHu(t:Tk)(x y:X):apS (x.drop t) (y.drop t)=fd t (apS x y):=by
 unfold apS
 rw[ad1,ad1]
 split
 .rw[fN];rfl
 .rfl
def aHw(t:Tk)(x y:X):apT (x.drop t) (y.drop t)=fd t (apT x y):=by
 unfold apT
 rw[ad1,ad1]
 split
 .rw[fN];rfl
 .rfl
def aNt(T:TT)(u:Nat)(t:Tk)(x:X)(ok:Bool):asX T u (x.drop t) ok=fd t (asX T u x ok):=by
 cases x with
 | of c =>
  cases c with
  | ifc a b =>
   cases ok with
   | false=>rfl
   | true=>simp only[X.drop,asX];split <;> simp[fd,out,X.drop]
  | _=>rfl
 | own t' e z cs n=>rcases fa t t' e z cs n with h|h <;> rw[h] <;> rfl
 | _=>rfl
def aEJ(T:TT)(t:Tk)(a b:Nat)(x:X):aed T a b (x.drop t)=fd t (aed T a b x):=by
 have hN:=auZ T t a b x
 unfold aed
 cases hu:(T b).map (·.und) with
 | none=>exact hN
 | some u =>
  cases u with
  | slice e =>
   cases x with
   | of c =>
    cases c with
    | lit v =>
     cases v with
     | string s =>
      simp only[X.drop,avW]
      split <;> simp[fd,out,X.drop]
     | _=>exact hN
    | _=>exact hN
   | own t' e' z cs n =>
    rcases fa t t' e' z cs n with h|h <;> rw[h] at hN ⊢ <;> exact hN
   | _=>exact hN
  | _=>exact hN
def awn(P:Program)(T:TT)(E:En)(t:Tk)(s:S)(ix:Nat)(ht:∀ i,t≠.nm s.clk ix i)(cal:Callee)(args:List Operand)(tys:List Nat) :
  aeY P T E (s.drop (some t)) ix cal args tys=fd t (aeY P T E s ix cal args tys):=by
 unfold aeY
 split
 .rw[da,aHK]
 .rw[da,da];exact ayJ T t _ (ht 0) _ _ _ _
 .rw[da,da,aHu]
 .rw[da,da,aHw]
 .rename_i f
  rw[amu,da]
  cases hf:s.ev f with
  | of c =>
   cases c <;> simp only[X.drop,fe]
   split
   .exact aFe P E t s.clk ix _ ht _
   .rfl
  | own t' e z cs n=>rcases fa t t' e z cs n with h|h <;> rw[h] <;> rfl
  | _=>rfl
 .rfl
def awm(P:Program)(T:TT)(E:En)(t:Tk)(s:S)(ix:Nat)(ht:∀ i,t≠.nm s.clk ix i)(o:Oper):val P T E (s.drop (some t)) ix o=fd t (val P T E s ix o):=by
 unfold val
 split
 .rw[da,fN]
 .rw[da,fN]
 .rw[da,axy,da,da]
  split
  .rename_i b _
   cases b <;> simp[fN]
  .rfl
 .rename_i op ty x y yt _
  rw[da,da]
  unfold eT
  rw[amG,amG,aly,aly]
  split
  .rename_i u v _ _
   cases abI ((T ty).map (·.und)) op u v <;> rfl
  .unfold afS
   split
   .rename_i cs ds _ _
    split
    .cases aeO P T ty cs ds <;> rfl
    .cases aeO P T ty cs ds <;> rfl
    .rfl
   .rfl
 .rename_i op ty x _
  rw[da]
  cases s.ev x with
  | of c =>
   cases c <;> simp only[X.drop,fe,abj]
   rename_i u
   cases aqv op u <;> rfl
  | own t' e z cs n=>rcases fa t t' e z cs n with h|h <;> rw[h] <;> rfl
  | _=>rfl
 .rw[da];exact aDF T t s _ _
 .rw[da,art]
 .rw[da,az2]
 .rw[da,da,ark]
 .rw[da,da,azW]
 .rename_i ty x lo hi _
  rw[da,← azo]
  congr 1
  .cases lo <;> simp[da]
  .cases hi <;> simp[da]
 .rename_i ty ps _
  rw[alb]
  cases T ty with
  | none=>rfl
  | some d =>
   cases fQ s.ev ps.toList with
   | none=>rfl
   | some qs =>
    simp only[aJ]
    split
    .have h1:=ajB (λi=>d.fields[i]?) t qs (fj d)
     rw[ajk] at h1
     rw[h1,abj]
     cases aah (λi=>d.fields[i]?) (fj d) qs <;> simp[X.drop,ab0]
    .split
     .rename_i de _
      have h1:=ajB (λi=>some (i*de.size,de.size)) t qs (fj d)
      rw[ajk] at h1
      rw[h1,abj]
      cases aah (λi=>some (i*de.size,de.size)) (fj d) qs <;> simp[X.drop,ab0]
     .rfl
    .rfl
 .rename_i ty n ps _
  rw[alb]
  cases elemOf T ty with
  | none=>rfl
  | some ed =>
   obtain⟨e,d⟩:=ed
   cases fQ s.ev ps.toList with
   | none=>rfl
   | some qs =>
    simp only[aJ]
    split
    .have h0:((List.replicate n (fj d)).flatten).map (X.drop t)=(List.replicate n (fj d)).flatten:=by
      rw[List.map_flatten,List.map_replicate,ajk]
     have h1:=ajB (λi=>some (i*d.size,d.size)) t qs ((List.replicate n (fj d)).flatten)
     rw[h0] at h1
     rw[h1]
     cases aah (λi=>some (i*d.size,d.size)) ((List.replicate n (fj d)).flatten) qs with
     | none=>rfl
     | some xs =>
      simp only[aJ,apI]
      cases X.rds xs with
      | none=>rfl
      | some cs =>
       simp only[fN,X.drop]
       rw[ar (λe=>ht 0 e.symm)]
       rfl
    .rfl
 .rename_i x i _
  rw[da]
  cases s.ev x with
  | of c =>
   cases c <;> simp only[X.drop,fe,abj]
   rename_i cs
   cases cs[i]? <;> rfl
  | own t' e z cs n=>rcases fa t t' e z cs n with h|h <;> rw[h] <;> rfl
  | tup xs=>simp[X.drop,ab0,abj]
  | _=>rfl
 .rename_i x _
  rw[da]
  cases s.ev x with
  | of c=>cases c <;> simp only[X.drop,fe,fN]
  | own t' e z cs n=>rcases fa t t' e z cs n with h|h <;> rw[h] <;> rfl
  | _=>simp[X.drop,fd,out]
 .rw[amu]
  split
  .split
   .simp[fN,X.drop]
   .rw[amY]
    cases h:acE _ with
    | none=>rfl
    | some ys=>simp[amV,fN,X.drop,aln t _ _ h]
  .split
   .rw[amY]
    cases h:acE _ with
    | none=>rfl
    | some ys=>simp[amV,fN,X.drop,aln t _ _ h]
   .rfl
 .rw[da,aEJ]
 .rw[da,da];exact axv T t s _ _ _ _
 .rw[da,aly]
  split
  .simp[fN,X.drop]
  .rfl
 .rw[da];exact aNt T _ t _ _
 .exact awn P T E t s ix ht _ _ _
 .split
  .split
   .rw[fN]
    simp only[S.drop,X.drop,agd]
    rw[ar (λe=>ht 0 e.symm)]
   .rfl
  .rfl
 .rename_i ty d x _
  have h1:ec ((s.drop (some t)).ev x)=ec (s.ev x):=by
   unfold ec
   rw[da,aps]
   cases cn (s.ev x) with
   | none=>rfl
   | some l=>simp only[aJ,db,apI]
  rw[h1]
  have h2:(s.drop (some t)).fr d=(s.fr d).drop t:=rfl
  rw[h2]
  cases hT:T ty with
  | none=>rfl
  | some td =>
   cases hf:s.fr d with
   | nw ok ty' z =>
    cases ok with
    | none=>rfl
    | some tk =>
    by_cases hk:tk=t
    .subst hk
     simp only[X.drop,agd,am]
     cases ec (s.ev x) with
     | none=>rfl
     | some cs =>
      cases o.guard with
      | some g=>rfl
      | none =>
       cases o.dst with
       | some d'=>rfl
       | none =>
        simp only
        split
        .simp[fd]
        .rfl
    .simp only[X.drop,agd,hk,av]
     cases ec (s.ev x) with
     | none=>rfl
     | some cs =>
      cases o.guard with
      | some g=>rfl
      | none =>
       cases o.dst with
       | some d'=>rfl
       | none =>
        simp only
        split
        .simp[fd,hk,X.drop]
        .rfl
   | own t' e z cs n=>rcases fa t t' e z cs n with h|h <;> rw[h] <;> rfl
   | _=>rfl
 .rfl

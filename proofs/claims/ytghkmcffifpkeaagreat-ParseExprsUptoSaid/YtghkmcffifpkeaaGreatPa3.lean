/- A part. Conditions: none. -/
import Derived.Test.YtghkmcffifpkeaaGreatPa2
import Derived.Lib.ConvBytes
set_option linter.all false
set_option maxRecDepth 100000
set_option maxHeartbeats 64000000
namespace Go.Pe
open RowKit
theorem aiE{α:Type}[DecidableEq α]:∀ {l:List α} {a:α} {i:Nat},l.Nodup->l[i]?=some a->pos l a=some i
 | [],a,i,_,h=>by simp at h
 | b::l,a,0,_,h=>by
  simp only[dI,ae] at h
  subst h
  simp[pos]
 | b::l,a,i+1,hn,h=>by
  simp only[gA] at h
  rw[afh] at hn
  have hne:b≠a:=by rintro rfl;exact hn.1 (co h)
  simp[pos,hne,aiE hn.2 h]
def reK(refs:List Nat)(k:Know):Know:={m:=k.m,μ:=λi=>(refs[i]?).bind k.μ}
def reO(refs:List Nat)(ts:List Tk)(ow:Own):Own
 | .nm 0 0 i=>(ts[i]?).bind ow
 | .nm ..=>none
 | .cell i off=>(refs[i]?).bind λr=>if Tk.cell r off∈ts then none else ow (.cell r off)
section
variable {P:Program} {M0:Base} {k:Know} {ow:Own} {done:Nat->Prop} {w0 w:World} {N:Nat} {s:S} {tmps:Array Value} {ds:List Deferred} {refs:List Nat} {ts:List Tk} {objs obs:List Ob}
theorem avR:Ren (pos refs) (abc refs ts) k (reK refs k) ow (reO refs ts ow) where
 m:=λ_ _ _ h=>h
 μ:=λr b r' hr hs=>by simp only[reK,ads hs,dE,hr]
 ow:=λt p t' ht hr=>by
  unfold abc at hr
  split at hr
  .rename_i i hi
   simp only[ae] at hr
   subst hr
   simp only[reO,ads hi,dE,ht]
  .rename_i hno
   split at hr
   .rename_i r off
    simp only[ay] at hr
    obtain⟨r',hr',rfl⟩:=hr
    simp only[reO,ads hr',dE,aA (apz hno),ht]
   .cases hr
theorem as4{r:Nat}(hno:abw r∉ts):abc refs ts (abw r)=(pos refs r).map λr'=>abw r':=by
 unfold abc
 have:pos ts (abw r)=none:=by
  cases hps:pos ts (abw r) with
  | none=>rfl
  | some i=>exact absurd (co (ads hps)) hno
 rw[this]
theorem ajt(hr:refs.Nodup)(hts:ts.Nodup){t':Tk}{p:Value×Nat×Nat×Nat}(h:reO refs ts ow t'=some p):∃ t,ow t=some p/\abc refs ts t=some t':=by
 unfold reO at h
 split at h
 .rename_i i
  simp only[bE] at h
  obtain⟨t,ht,hp⟩:=h
  exact⟨t,hp,by simp only[abc,aiE hts ht]⟩
 .cases h
 .rename_i i off
  simp only[bE] at h
  obtain⟨r,hr',hp⟩:=h
  split at hp
  .cases hp
  .rename_i hno
   refine⟨.cell r off,hp,?_⟩
   have:pos ts (Tk.cell r off)=none:=by
    cases hps:pos ts (Tk.cell r off) with
    | none=>rfl
    | some i=>exact (hno (co (ads hps))).elim
   simp only[abc,this,aiE hr hr',aP]
theorem afb{σ:Nat->Option Nat}{ρ:Tk->Option Tk}{objs:List Ob}:∀ {l:List Nat} {obs:List Ob},abj σ ρ objs l=some obs->obs.length=l.length
 | [],obs,h=>by simp only[abj,ae] at h;subst h;rfl
 | r::l,obs,h=>by
  simp only[abj] at h
  split at h
  .rename_i ob q h1 h2
   simp only[ae] at h
   subst h
   simp[afb h2]
  .cases h
theorem ahs{σ:Nat->Option Nat}{ρ:Tk->Option Tk}{objs:List Ob}:∀ {l:List Nat} {obs:List Ob},abj σ ρ objs l=some obs->∀ (i r:Nat),l[i]?=some r->∃ ob:Ob,objs[r]?=some ob/\obs[i]?=some (ob.tr σ ρ)
 | [],obs,h,i,r,hi=>by simp at hi
 | r0::l,obs,h,i,r,hi=>by
  simp only[abj] at h
  split at h
  .rename_i ob q h1 h2
   simp only[ae] at h
   subst h
   cases i with
   | zero=>simp only[dI,ae] at hi;subst hi;exact⟨ob,h1,rfl⟩
   | succ i=>simpa using ahs h2 i r (by simpa using hi)
  .cases h
theorem Hp.own_dead(h:Hp M0 k ow w0 w objs){t:Tk}{e z n:Nat}{cs:List C}{v:Value}(hx:aL k ow (.own t e z cs n) v){g r:Nat}(hg:v.ownBlock=some g)(hr:k.μ r=some g):¬ Liv objs r:=by
 simp only[aL] at hx
 obtain⟨ho,hcl,hrep⟩:=hx
 intro hl
 obtain⟨ty,rs,q1,q2⟩:=(((h.tok _ _ _ _ _ ho).2 g hg).2.2 r hr).1
 have hnone:=(h.lt hr).2.2 hl
 obtain⟨ob,q3,q4⟩:=hl
 obtain rfl:=aG (q1.symm.trans q3)
 cases rs with
 | nil=>cases q4
 | cons a rs =>
  simp only[Rep] at hrep
  obtain⟨a',cp,us,rfl,_,hul,hum⟩:=hrep
  have hpos':0<us.length:=by rw[hul.length,hcl];simp only[aX] at q2;omega
  have hne:us≠[]:=by rintro rfl;simp at hpos'
  obtain⟨b,o,rfl,hc⟩:=hum hne
  have hc0:=hc 0 _ (aO hpos')
  simp only[Value.ownBlock,ae] at hg
  subst hg
  rw[hnone] at hc0
  cases hc0
theorem Hp.toks_dead(h:Hp M0 k ow w0 w objs):∀ (x:X) (v:Value),aL k ow x v->∀ t∈x.toks,∀ v' e z n,ow t=some (v',e,z,n)->∀ g,v'.ownBlock=some g->∀ r,k.μ r=some g->¬ Liv objs r :=
 X.rec (motive_1:=λx=>∀ v,aL k ow x v->∀ t∈x.toks,∀ v' e z n,ow t=some (v',e,z,n)->∀ g,v'.ownBlock=some g->∀ r,k.μ r=some g->¬ Liv objs r)
  (motive_2:=λxs=>∀ vs,aV k ow xs vs->∀ t∈X.toksL xs,∀ v' e z n,ow t=some (v',e,z,n)->∀ g,v'.ownBlock=some g->∀ r,k.μ r=some g->¬ Liv objs r)
  (λ_ _ _ t ht=>by simp[X.toks] at ht) (λ_ _ t ht=>by simp[X.toks] at ht)
  (λt0 e0 z0 cs0 n0 v hx t ht v' e z n ho g hg r hr=>by
   simp only[X.toks,dt] at ht
   subst ht
   have hx':=hx
   simp only[aL] at hx'
   have:=hx'.1.symm.trans ho
   simp only[bT] at this
   obtain⟨rfl,_⟩:=this
   exact h.own_dead hx hg hr)
  (λ_ _ _ _ t ht=>by simp[X.toks] at ht) (λ_ _ _ t ht=>by simp[X.toks] at ht)
  (λf xs ih v hx t ht=>by simp only[aL] at hx;obtain⟨vs,_,hl⟩:=hx;exact ih vs hl t (by simpa [X.toks] using ht))
  (λxs ih v hx t ht=>by simp only[aL] at hx;obtain⟨vs,_,_,hl⟩:=hx;exact ih vs hl t (by simpa [X.toks] using ht))
  (λxs ih v hx t ht=>by simp only[aL] at hx;obtain⟨vs,_,hl⟩:=hx;exact ih vs hl t (by simpa [X.toks] using ht))
  (λo ty z0 v hx t ht v' e z n ho g hg r hr=>by
   cases o with
   | none=>simp[X.toks] at ht
   | some t0 =>
    simp only[X.toks,ad9,dt] at ht
    subst ht
    simp only[aL] at hx
    obtain⟨b,_,hk⟩:=hx
    have:=hk.symm.trans ho
    simp only[bT] at this
    obtain⟨rfl,rfl,rfl,rfl⟩:=this
    exact ahn (by have:=(((h.tok _ _ _ _ _ hk).2 g hg).2.2 r hr).1;rwa [abz] at this))
  (λ_ _ _ _ _ t ht=>by simp[X.toks] at ht)
  (λ_ _ t ht=>by simp[X.toksL] at ht)
  (λx xs ih1 ih2 vs hx t ht=>by
   simp only[aV] at hx
   obtain⟨v,r,_,h1,h2⟩:=hx
   simp only[X.toksL,bS] at ht
   rcases ht with ht|ht
   .exact ih1 v h1 t ht
   .exact ih2 r h2 t ht)
theorem Hp.toksL_dead(h:Hp M0 k ow w0 w objs):∀ (xs:List X) (vs:List Value),aV k ow xs vs->∀ t∈X.toksL xs,∀ v' e z n,ow t=some (v',e,z,n)->∀ g,v'.ownBlock=some g->∀ r,k.μ r=some g->¬ Liv objs r
 | [],vs,hx,t,ht=>by simp[X.toksL] at ht
 | x::xs,vs,hx,t,ht=>by
  simp only[aV] at hx
  obtain⟨v,r,_,h1,h2⟩:=hx
  simp only[X.toksL,bS] at ht
  rcases ht with ht|ht
  .exact h.toks_dead x v h1 t ht
  .exact h.toksL_dead xs r h2 t ht
theorem Hp.drops(h:Hp M0 k ow w0 w objs)(ts:List Tk):Hp M0 k ow w0 w (agz ts objs):=by
 unfold agz
 split
 .exact h
 .exact {h with
   obj:=λr ob hr=>by
    simp only[cd,ay] at hr
    obtain⟨ob',h1,rfl⟩:=hr
    obtain⟨b,h2,h3,h4,h5,h6⟩:=h.obj r ob' h1
    exact⟨b,h2,h3,h4,λhl=>h5 (by rw[← ack some];exact hl),h6.tr ⟨λ_ _ _ h=>h,λr b r' hr he=>by cases he;exact hr,λt p t' ht he=>by
     split at he
     .cases he
     .cases he;exact ht⟩⟩
   dom:=λr b hr=>by simpa using h.dom r b hr
   inj:=λr r' b hr hr' hl hl'=>h.inj r r' b hr hr' (adQ (ack some _) hl) (adQ (ack some _) hl')
   tok:=λt v e z n ht=>by
    obtain⟨g1,g2⟩:=h.tok t v e z n ht
    exact⟨g1,λg hg=>⟨(g2 g hg).1,(g2 g hg).2.1,λr hr=>⟨afy (λ_ _=>rfl) ((g2 g hg).2.2 r hr).1,λhl=>((g2 g hg).2.2 r hr).2 (adQ (ack some _) hl)⟩⟩⟩}
theorem aCW{ts:List Tk}{objs:List Ob}{r:Nat}(h:Liv (agz ts objs) r):Liv objs r:=by
 unfold agz at h
 split at h
 .exact h
 .exact adQ (ack some _) h
theorem aCX(ts:List Tk)(objs:List Ob):(agz ts objs).length=objs.length:=by
 unfold agz
 split <;> simp
theorem apB{σ:Nat->Option Nat}{ρ:Tk->Option Tk}{objs obs:List Ob}{l:List Nat}(hp:abj σ ρ objs l=some obs){i r:Nat}(hi:l[i]?=some r)(hl:Liv obs i):Liv objs r:=by
 obtain⟨ob,h1,h2⟩:=hl
 obtain⟨ob0,h3,h4⟩:=ahs hp i r hi
 obtain rfl:=aG (h1.symm.trans h4)
 exact⟨ob0,h3,by rw[← ack σ ρ];exact h2⟩
theorem aHQ{σ:Nat->Option Nat}{ρ:Tk->Option Tk}{objs obs:List Ob}{l:List Nat}(hp:abj σ ρ objs l=some obs){i r n:Nat}(hi:l[i]?=some r)(h:gv objs n r):gv obs n i:=by
 obtain⟨ty,cs,h1,h2⟩:=h
 obtain⟨ob0,h3,h4⟩:=ahs hp i r hi
 obtain rfl:=aG (h1.symm.trans h3)
 exact⟨ty,cs,h4,h2⟩
theorem Hp.re(h:Hp M0 k ow w0 w objs)(hr:refs.Nodup)(hts:ts.Nodup)(hp:abj (pos refs) (abc refs ts) objs refs=some obs){M1:Base}{w1:World}
  (hgood:M1.G.holds w1/\∀ b,M1.G.blk b->b<w1.heap.size/\¬ M1.mod b) (hbelow:Keeps M1.mod w1 w) (hmine:∀ b,abi (reK refs k) (reO refs ts ow) b->agk M0.mod w0 b->agk M1.mod w1 b)
  (hm0:∀ b o v,k.m b o=some v->b<w1.heap.size->¬ M1.mod b->M1.m b o=some v) (hrow:∀ i r v e z n g t',refs[i]?=some r->ow (abw r)=some (v,e,z,n)->v.ownBlock=some g->k.μ r=some g->Liv objs r->abc refs ts (abw r)=some t'->t'=abw i):Hp M1 (reK refs k) (reO refs ts ow) w1 w obs where
 good:=hgood
 below:=hbelow
 mem:=h.mem
 obj:=λi ob hi=>by
  have hlt:i<refs.length:=by
   rw[← afb hp]
   exact (List.getElem?_eq_some_iff.1 hi).1
  obtain⟨ob0,h1,h2⟩:=ahs hp i _ (aO hlt)
  obtain rfl:ob=ob0.tr (pos refs) (abc refs ts):=aG (hi.symm.trans h2)
  obtain⟨b,h3,h4,h5,h6,h7⟩:=h.obj _ _ h1
  have hμ:(reK refs k).μ i=some b:=by simp only[reK,aO hlt,dE,h3]
  exact⟨b,hμ,hmine b (.inl ⟨i,hμ⟩) h4,h5,λhl=>h6 (by rw[← ack (pos refs) (abc refs ts)];exact hl),h7.tr avR⟩
 dom:=λi b hi=>by
  simp only[reK,bE] at hi
  obtain⟨r,hr',_⟩:=hi
  rw[afb hp]
  exact (List.getElem?_eq_some_iff.1 hr').1
 inj:=λi j b hi hj hl hl'=>by
  simp only[reK,bE] at hi hj
  obtain⟨r,h1,h2⟩:=hi
  obtain⟨r',h3,h4⟩:=hj
  obtain rfl:=h.inj r r' b h2 h4 (apB hp h1 hl) (apB hp h3 hl')
  have:=(aiE hr h1).symm.trans (aiE hr h3)
  exact aG this
 tok:=λt v e z n ht=>by
  obtain⟨t0,h1,h5⟩:=ajt hr hts ht
  obtain⟨g1,g2⟩:=h.tok t0 v e z n h1
  refine⟨g1,λg hg=>⟨hmine g (.inr ⟨t,v,e,z,n,ht,hg⟩) (g2 g hg).1,(g2 g hg).2.1,λi hi=>?_⟩⟩
  simp only[reK,bE] at hi
  obtain⟨r,h3,h4⟩:=hi
  obtain⟨q1,q2⟩:=(g2 g hg).2.2 r h4
  refine⟨aHQ hp h3 q1,λhl=>?_⟩
  have hl':=apB hp h3 hl
  obtain rfl:=q2 hl'
  exact hrow i r v e z n g t h3 h1 hg h4 hl' h5
 tokne:=λt t' v e z n v' e' z' n' ht ht' hne=>by
  obtain⟨a,h1,h2⟩:=ajt hr hts ht
  obtain⟨b,h3,h4⟩:=ajt hr hts ht'
  exact h.tokne a b v e z n v' e' z' n' h1 h3 (λe=>hne (by subst e;rw[h2] at h4;exact aG h4))
 m0:=hm0
theorem as6{t:Tk}{p:Value×Nat×Nat×Nat}(h:reO refs ts ow t=some p):t.older 1 λ_=>False:=by
 unfold reO at h
 split at h
 .exact .inl Nat.zero_lt_one
 .cases h
 .trivial
theorem as7{i off:Nat}{p:Value×Nat×Nat×Nat}(h:reO refs ts ow (.cell i off)=some p):i<refs.length:=by
 simp only[reO,bE] at h
 obtain⟨r,hr,_⟩:=h
 exact (List.getElem?_eq_some_iff.1 hr).1
theorem alT(σ:Nat->Option Nat)(ρ:Tk->Option Tk):∀ (l:List Nat) (objs:List Ob) (q:List Ob),(aa7 σ ρ objs l q).length=objs.length
 | [],objs,q=>by simp[aa7]
 | r::l,objs,[]=>by simp[aa7]
 | r::l,objs,ob::q=>by simp[aa7,alT σ ρ l]
theorem ahl(σ:Nat->Option Nat)(ρ:Tk->Option Tk):∀ (l:List Nat) (objs:List Ob) (q:List Ob) (r:Nat),r∉l->(aa7 σ ρ objs l q)[r]?=objs[r]?
 | [],objs,q,r,_=>by simp[aa7]
 | r0::l,objs,[],r,_=>by simp[aa7]
 | r0::l,objs,ob::q,r,h=>by
  simp only[bQ,ac2] at h
  simp only[aa7]
  rw[ahl σ ρ l _ q r h.2,fa (bC h.1)]
theorem am0(σ:Nat->Option Nat)(ρ:Tk->Option Tk):∀ (l:List Nat) (objs:List Ob) (q:List Ob) (i r:Nat) (ob:Ob),l.Nodup->l[i]?=some r->q[i]?=some ob->r<objs.length->(aa7 σ ρ objs l q)[r]?=some (ob.tr σ ρ)
 | [],objs,q,i,r,ob,_,hl,_,_=>by simp at hl
 | r0::l,objs,[],i,r,ob,_,_,hq,_=>by simp at hq
 | r0::l,objs,ob0::q,0,r,ob,hn,hl,hq,hr=>by
  simp only[dI,ae] at hl hq
  subst hl;subst hq
  rw[afh] at hn
  simp only[aa7]
  rw[ahl σ ρ l _ q r0 hn.1,dh hr]
 | r0::l,objs,ob0::q,i+1,r,ob,hn,hl,hq,hr=>by
  rw[afh] at hn
  simp only[aa7]
  exact am0 σ ρ l _ q i r ob hn.2 (by simpa using hl) (by simpa using hq) (by simpa using hr)
theorem Sim.new(h:Sim M0 k ow done w0 w N s tmps){ix i:Nat}(hd:¬ done ix):ow (.nm s.clk ix i)=none:=by
 cases ho:ow (.nm s.clk ix i) with
 | none=>rfl
 | some p =>
  rcases h.fresh _ _ ho with h1|⟨_,h1⟩
  .omega
  .exact (hd h1).elim
theorem akH(s:S):s.drop none=s:=rfl
theorem aS3(f:Nat):2*f % 2=0:=by omega
theorem aS2(f:Nat):2*f / 2=f:=by omega
theorem aS1(f:Nat):¬(2*f+1) % 2=0:=by omega
theorem aS0(f:Nat):(2*f+1) / 2=f:=by omega
theorem aJK{k:Know}{ow:Own}{x y:X}{v:Value}(hx:aiY x=some y)(h:aL k ow x v):aL k ow y v:=by
 cases x with
 | of c=>simp only[aiY,ae] at hx;subst hx;exact h
 | nil=>simp only[aiY,ae] at hx;subst hx;exact h
 | own t e z cs n=>simp only[aiY,ae] at hx;subst hx;simp only[aL] at h ⊢;exact h.2.2
 | ptr r o=>simp only[aiY,ae] at hx;subst hx;exact h
 | _=>simp[aiY] at hx
theorem anK{k:Know}{ow:Own}{f:Operand->X}{g:Operand->Value}(ev:∀ x,aL k ow (f x) (g x)):∀ (l:List Operand) (ys:List X),afq (l.map f)=some ys->aV k ow ys (l.map g)
 | [],ys,h=>by simp only[cI,afq,ae] at h;subst h;simp[aV]
 | x::r,ys,h=>by
  simp only[bd,afq] at h
  split at h
  .rename_i y q h1 h2
   simp only[ae] at h
   subst h
   simp only[bd,aV]
   exact⟨_,_,rfl,aJK h1 (ev x),anK ev r q h2⟩
  .cases h
theorem am6(h:Sim M0 k ow done w0 w N s tmps):∀ (l:List Operand) (cs:List C),abJ s.ev l=some cs->bA k.m cs (l.map λx=>(⟨tmps,ds⟩ : Act).eval x)
 | [],cs,hr=>by simp only[abJ,ae] at hr;subst hr;simp[bA]
 | x::l,cs,hr=>by
  simp only[abJ] at hr
  split at hr
  .rename_i c cs' h1 h2
   simp only[ae] at hr
   subst hr
   simp only[bd,bA]
   exact⟨_,_,rfl,afW _ _ _ h1 (Sim.ev (ds:=ds) h x),am6 h l cs' h2⟩
  .cases hr
theorem aws{xs:List X}{us:List Value}(h:aV k ow xs us):aL k ow (agf xs) (alX us):=by
 unfold agf
 split
 .simp only[aV] at h
  obtain⟨v,r,rfl,hx,rfl⟩:=h
  exact hx
 .rename_i xs' hne
  have:alX us=.tuple us.toArray:=by
   unfold alX
   split
   .rename_i u
    have hl:=h.length
    match xs,hl,hne with
    | [x],_,hne=>exact (hne x rfl).elim
   .rfl
  rw[this]
  simp only[aL]
  exact⟨us,rfl,h⟩
theorem atH(hs:Sim M0 k ow done w0 w N s tmps)(hr:refs.Nodup)(hts:ts.Nodup)(hts2:∀ t∈ts,∀ v e z n,ow t=some (v,e,z,n)->∀ g,v.ownBlock=some g->∀ r,k.μ r=some g->¬ Liv s.objs r)(hlv:∀ r∈refs,Liv s.objs r)(hp:abj (pos refs) (abc refs ts) (agz ts s.objs) refs=some obs)
  {f:Nat} {xs:List X} {an:An} {vs:List Value} {ix:Nat} (hsound:abu P M0.G f xs obs an) (hc:fh P f=true) (hvs:aV (reK refs k) (reO refs ts ow) xs vs) (hd:¬ done ix) :
  Calls P f vs.toArray w λe w'=>∃ us kn own,agB an.pan us e/\k.le kn/\refs.length<=an.obs.length /\
   Sim M0 kn own (λj=>done j\/j=ix) w0 w' N {s with fr:=λj=>(s.fr j).tr some (dz refs ts),objs:=aa7 (λi=>some (eM refs s.objs.length i)) (eJ refs s.objs.length s.clk ix) (s.objs.map (Ob.tr some (dz refs ts))) refs an.obs++(an.obs.drop refs.length).map (Ob.tr (λi=>some (eM refs s.objs.length i)) (eJ refs s.objs.length s.clk ix))} tmps /\
   aV kn own (X.trs (λi=>some (eM refs s.objs.length i)) (eJ refs s.objs.length s.clk ix) an.rs) us:=by
 unfold fh at hc
 split at hc
 rotate_left
 .cases hc
 rename_i fn hf
 have hd1:=hs.toHp.drops ts
 have hgm:∀ b,abi (reK refs k) (reO refs ts ow) b->agk M0.mod w0 b/\b<w.heap.size:=by
  rintro b (⟨i,hi⟩|⟨t,v,e,z,n,ht,hv⟩)
  .simp only[reK,bE] at hi
   obtain⟨r,_,h2⟩:=hi
   exact⟨(hs.lt h2).1,(hs.lt h2).2.1⟩
  .obtain⟨t0,h1,_⟩:=ajt hr hts ht
   exact hs.tlt h1 hv
 have hpre:Hp ⟨M0.G,k.m,abi (reK refs k) (reO refs ts ow)⟩ (reK refs k) (reO refs ts ow) w w obs :=
  hd1.re hr hts hp ⟨hs.table,λb hb=>⟨cD (hs.good.2 b hb).1 hs.below.size,λhg=>by
   rcases (hgm b hg).1 with h1|h1
   .have:=(hs.good.2 b hb).1;omega
   .exact (hs.good.2 b hb).2 h1⟩⟩ (Keeps.refl _ _) (λb hb _=>.inr hb) (λb o v hm _ _=>hm) λi r v e z n g t' hi ho hg hμ hl h=>by
   rw[as4 λhm=>hts2 _ hm v e z n ho g hg r hμ (aCW hl)] at h
   rw[aiE hr hi] at h
   exact (aG h).symm
 have hol:obs.length=refs.length:=afb hp
 have hrl:∀ i r,refs[i]?=some r->r<s.objs.length:=λi r hi=>by
  obtain⟨ob,h1,_⟩:=ahs hp i r hi
  rw[← aCX ts s.objs]
  exact (List.getElem?_eq_some_iff.1 h1).1
 refine (hsound fn hf _ _ w vs hpre (λt p ht=>as6 ht) (λi off p ht=>by rw[hol];exact as7 ht) hvs).mono λe w' ⟨k',ow',us,hend,hp',hle,hlen,hμ,hold,hcl,hrs⟩=>?_
 rw[hol] at hlen hμ
 simp only[reK] at hle hμ
 let L:=s.objs.length
 let m:=refs.length
 let kn:Know:={m:=k'.m,μ:=λr=>if r<L then k.μ r else k'.μ (m+(r-L))}
 let own:Own:=λt=>match t with
  | .nm c ix' i=>if c=s.clk/\ix'=ix then ow' (.nm 0 0 i) else if t∈ts then none else ow t
  | .cell r off=>if r<L then (match pos refs r with
    | some i=>ow' (.cell i off)
    | none=>if t∈ts then none else ow t) else ow' (.cell (m+(r-L)) off)
 have hknl:∀ r,r<L->kn.μ r=k.μ r:=λr h=>by show (if r<L then _ else _)=_;rw[aE h]
 have hkng:∀ r,¬ r<L->kn.μ r=k'.μ (m+(r-L)):=λr h=>by show (if r<L then _ else _)=_;rw[aA h]
 have hkle:k.le kn:=⟨hle,λr b hb=>by rw[hknl r (hs.dom r b hb)];exact hb⟩
 have hposnone:∀ r,r∉refs->pos refs r=none:=λr hno=>by
  cases hps:pos refs r with
  | none=>rfl
  | some i=>exact (hno (co (ads hps))).elim
 have hkeep:∀ t t',dz refs ts t=some t'->t'=t/\t∉ts/\∀ r off,t=.cell r off->r∉refs:=by
  intro t t' h
  unfold dz at h
  split at h
  .cases h
  .rename_i hno
   split at h
   .rename_i r off
    split at h
    .cases h
    .rename_i hnr
     simp only[ae] at h
     refine⟨h.symm,hno,λr' off' e=>?_⟩
     cases e
     exact hnr
   .simp only[ae] at h
    exact⟨h.symm,hno,λr' off' e=>by cases e⟩
 have hownk:∀ t p,ow t=some p->t∉ts->(∀ r off,t=.cell r off->r∉refs)->own t=some p:=by
  intro t p ht hno hnr
  cases t with
  | nm c ix' i =>
   show (if c=s.clk/\ix'=ix then _ else _)=_
   rw[aA,aA hno,ht]
   rintro⟨rfl,rfl⟩
   rw[hs.new hd] at ht
   cases ht
  | cell r off =>
   show (if r<L then _ else _)=_
   rw[aE (hs.cells r off p ht),hposnone r (hnr r off rfl)]
   simp only[aA hno,ht]
 have renA:Ren some (dz refs ts) k kn ow own:=⟨hle,λr b r' hrb he=>by cases he;exact hkle.2 _ _ hrb,λt p t' ht hk=>by
  obtain⟨rfl,h1,h2⟩:=hkeep t t' hk
  exact hownk t' p ht h1 h2⟩
 have hsig1:∀ i r,refs[i]?=some r->eM refs L i=r:=λi r h=>by simp[eM,h]
 have hsig2:∀ i,m<=i->eM refs L i=L+(i-m):=λi h=>by
  have:refs[i]?=none:=bc h
  simp[eM,this,m]
 have hμi:∀ i r,refs[i]?=some r->k'.μ i=k.μ r:=λi r h=>by
  rw[hμ i (List.getElem?_eq_some_iff.1 h).1,h];rfl
 have renB:Ren (λi=>some (eM refs L i)) (eJ refs L s.clk ix) k' kn ow' own:=by
  refine⟨λ_ _ _ h=>h,λi b r' hb he=>?_,λt p t' ht he=>?_⟩
  .simp only[ae] at he
   subst he
   rcases av i m with g|g
   .have h1:refs[i]?=some refs[i]:=aO g
    rw[hsig1 i _ h1,hknl _ (hrl i _ h1),← hμi i _ h1]
    exact hb
   .rw[hsig2 i g,hkng _ aC]
    have:m+(L+(i-m)-L)=i:=by omega
    rw[this]
    exact hb
  .unfold eJ at he
   split at he
   .rename_i i
    simp only[ae] at he
    subst he
    show (if s.clk=s.clk/\ix=ix then _ else _)=_
    rw[aE ⟨rfl,rfl⟩]
    exact ht
   .cases he
   .rename_i i off
    simp only[ae] at he
    subst he
    show (if eM refs L i<L then _ else _)=_
    rcases av i m with g|g
    .have h1:refs[i]?=some refs[i]:=aO g
     rw[hsig1 i _ h1,aE (hrl i _ h1),aiE hr h1]
     exact ht
    .rw[hsig2 i g,aA aC]
     have:m+(L+(i-m)-L)=i:=by omega
     rw[this]
     exact ht
 have hsrc:∀ t p,own t=some p->(ow t=some p/\t∉ts/\∀ r off,t=.cell r off->r∉refs)\/∃ t0,ow' t0=some p/\eJ refs L s.clk ix t0=some t:=by
  intro t p ht
  cases t with
  | nm c ix' i =>
   have ht':(if c=s.clk/\ix'=ix then ow' (.nm 0 0 i) else if Tk.nm c ix' i∈ts then none else ow (.nm c ix' i))=some p:=ht
   split at ht'
   .rename_i h1
    obtain⟨rfl,rfl⟩:=h1
    exact .inr ⟨_,ht',rfl⟩
   .split at ht'
    .cases ht'
    .rename_i hno
     exact .inl ⟨ht',hno,λr off e=>by cases e⟩
  | cell r off =>
   have ht':(if r<L then (match pos refs r with
    | some i=>ow' (.cell i off)
    | none=>if Tk.cell r off∈ts then none else ow (.cell r off)) else ow' (.cell (m+(r-L)) off))=some p:=ht
   split at ht'
   .split at ht'
    .rename_i i hi
     refine .inr ⟨_,ht',?_⟩
     simp only[eJ,hsig1 i r (ads hi)]
    .rename_i hpn
     split at ht'
     .cases ht'
     .rename_i hno
      exact .inl ⟨ht',hno,λr' off' e=>by cases e;exact apz hpn⟩
   .rename_i hge
    refine .inr ⟨_,ht',?_⟩
    simp only[eJ]
    rw[hsig2 _ aC]
    have:L+(m+(r-L)-m)=r:=by omega
    rw[this]
 have hngiven:∀ t v e z n,ow t=some (v,e,z,n)->t∉ts->(∀ r off,t=.cell r off->r∉refs)->∀ g,v.ownBlock=some g->¬ abi (reK refs k) (reO refs ts ow) g:=by
  rintro t v e z n ht hno hnr g hg (⟨i,hi⟩|⟨t',v',e',z',n',ht',hg'⟩)
  .simp only[reK,bE] at hi
   obtain⟨r,h1,h2⟩:=hi
   have hm:=co h1
   obtain rfl:=(((hs.tok t v e z n ht).2 g hg).2.2 r h2).2 (hlv r hm)
   exact hnr r _ rfl hm
  .obtain⟨t0,h1,h2⟩:=ajt hr hts ht'
   refine hs.tokne t t0 v e z n v' e' z' n' ht h1 ?_ g hg hg'
   rintro rfl
   unfold abc at h2
   split at h2
   .rename_i i hi;exact hno (co (ads hi))
   .split at h2
    .rename_i r off _
     simp only[ay] at h2
     obtain⟨i,hi,_⟩:=h2
     exact hnr r off rfl (co (ads hi))
    .cases h2
 have hngivo:∀ r b,k.μ r=some b->r∉refs->Liv s.objs r->¬ abi (reK refs k) (reO refs ts ow) b:=by
  rintro r b hb hno hl (⟨i,hi⟩|⟨t',v',e',z',n',ht',hg'⟩)
  .simp only[reK,bE] at hi
   obtain⟨r',h1,h2⟩:=hi
   obtain rfl:=hs.inj r r' b hb h2 hl (hlv r' (co h1))
   exact hno (co h1)
  .obtain⟨t0,h1,h2⟩:=ajt hr hts ht'
   obtain rfl:=(((hs.tok t0 _ _ _ _ h1).2 b hg').2.2 r hb).2 hl
   rw[as4 λhm=>hts2 _ hm _ _ _ _ h1 b hg' r hb hl,hposnone r hno] at h2
   cases h2
 have hmine:∀ b,agk (abi (reK refs k) (reO refs ts ow)) w b->agk M0.mod w0 b:=by
  rintro b (h1|h1)
  .exact .inl (gU hs.below.size h1)
  .exact (hgm b h1).1
 have hapart:∀ b,b<w.heap.size->¬ abi (reK refs k) (reO refs ts ow) b->¬ agk (abi (reK refs k) (reO refs ts ow)) w b:=by
  rintro b h1 h2 (h3|h3)
  .omega
  .exact h2 h3
 have hmnone:∀ b,b<w.heap.size->¬ abi (reK refs k) (reO refs ts ow) b->∀ o u,k'.m b o=some u->k.m b o=some u:=λb h1 h2 o u hm=>hp'.m0 b o u hm h1 h2
 have hlen2:(aa7 (λi=>some (eM refs L i)) (eJ refs L s.clk ix) (s.objs.map (Ob.tr some (dz refs ts))) refs an.obs).length=L:=by rw[alT];simp[L]
 have hobjs:∀ r ob,(aa7 (λi=>some (eM refs L i)) (eJ refs L s.clk ix) (s.objs.map (Ob.tr some (dz refs ts))) refs an.obs++(an.obs.drop m).map (Ob.tr (λi=>some (eM refs L i)) (eJ refs L s.clk ix)))[r]?=some ob ->
   (∃ i ob',an.obs[i]?=some ob'/\eM refs L i=r/\ob=ob'.tr (λi=>some (eM refs L i)) (eJ refs L s.clk ix))\/(r<L/\r∉refs/\∃ ob',s.objs[r]?=some ob'/\ob=ob'.tr some (dz refs ts)):=by
  intro r ob hob
  rcases av r L with g|g
  .rw[bq (by rw[hlen2];exact g)] at hob
   by_cases hmem:r∈refs
   .obtain⟨i,hi⟩:=List.mem_iff_getElem?.1 hmem
    have hil:i<an.obs.length:=cD (List.getElem?_eq_some_iff.1 hi).1 hlen
    have h1:an.obs[i]?=some an.obs[i]:=aO hil
    rw[am0 _ _ refs _ _ i r _ hr hi h1 (by simpa [L] using g)] at hob
    exact .inl ⟨i,_,h1,hsig1 i r hi,(aG hob).symm⟩
   .rw[ahl _ _ refs _ _ r hmem,cd,ay] at hob
    obtain⟨ob',h1,h2⟩:=hob
    exact .inr ⟨g,hmem,ob',h1,h2.symm⟩
  .rw[fd (by rw[hlen2];exact g),hlen2,cd,ay,] at hob
   obtain⟨ob',h1,h2⟩:=hob
   rw[eX] at h1
   refine .inl ⟨m+(r-L),ob',h1,?_,h2.symm⟩
   rw[hsig2 _ aC]
   omega
 have hat:∀ i ob,an.obs[i]?=some ob->(aa7 (λi=>some (eM refs L i)) (eJ refs L s.clk ix) (s.objs.map (Ob.tr some (dz refs ts))) refs an.obs++(an.obs.drop m).map (Ob.tr (λi=>some (eM refs L i)) (eJ refs L s.clk ix)))[eM refs L i]?=some (ob.tr (λi=>some (eM refs L i)) (eJ refs L s.clk ix)):=by
  intro i ob hi
  rcases av i m with g|g
  .have h1:refs[i]?=some refs[i]:=aO g
   rw[hsig1 i _ h1,bq (by rw[hlen2];exact hrl i _ h1)]
   exact am0 _ _ refs _ _ i _ ob hr h1 hi (by simpa [L] using hrl i _ h1)
  .rw[hsig2 i g,fd (by rw[hlen2];omega),hlen2,cd,eX,show m+(L+(i-m)-L)=i by omega,hi]
   rfl
 have hout:∀ r ob,r<L->r∉refs->s.objs[r]?=some ob->(aa7 (λi=>some (eM refs L i)) (eJ refs L s.clk ix) (s.objs.map (Ob.tr some (dz refs ts))) refs an.obs++(an.obs.drop m).map (Ob.tr (λi=>some (eM refs L i)) (eJ refs L s.clk ix)))[r]?=some (ob.tr some (dz refs ts)):=by
  intro r ob g hno hob
  rw[bq (by rw[hlen2];exact g),ahl _ _ refs _ _ r hno,cd,hob]
  rfl
 generalize hO:aa7 (λi=>some (eM refs L i)) (eJ refs L s.clk ix) (s.objs.map (Ob.tr some (dz refs ts))) refs an.obs++(an.obs.drop m).map (Ob.tr (λi=>some (eM refs L i)) (eJ refs L s.clk ix))=O at hobjs hat hout
 have hOl:O.length=L+(an.obs.length-m):=by rw[← hO,bp,hlen2,bM,cU]
 have hlivI:∀ i,Liv O (eM refs L i)->i<an.obs.length->Liv an.obs i:=by
  rintro i ⟨ob,h1,h2⟩ hi
  rw[hat i _ (aO hi)] at h1
  obtain rfl:=aG h1
  exact⟨_,aO hi,by rw[← ack];exact h2⟩
 have hlivR:∀ r,Liv O r->r<L->r∉refs->Liv s.objs r:=by
  rintro r ⟨ob,h1,h2⟩ hr hno
  rw[hout r _ hr hno (aO hr)] at h1
  obtain rfl:=aG h1
  exact⟨_,aO hr,by rw[← ack];exact h2⟩
 have hrowI:∀ i n,gv an.obs n i->gv O n (eM refs L i):=by
  rintro i n ⟨ty,cs,h1,h2⟩
  exact⟨ty,cs,hat i _ h1,h2⟩
 have hrowR:∀ r n,gv s.objs n r->r<L->r∉refs->gv O n r:=by
  rintro r n ⟨ty,cs,h1,h2⟩ hr hno
  exact⟨ty,cs,hout r _ hr hno h1,h2⟩
 have hdeadR:∀ r,¬ Liv s.objs r->r<L->r∉refs->gv O 0 r:=by
  intro r hn hr hno
  have h1:s.objs[r]?=some s.objs[r]:=aO hr
  generalize s.objs[r]=ob at h1
  cases ob with
  | var ty xs=>exact absurd ⟨_,h1,rfl⟩ hn
  | map es=>exact absurd ⟨_,h1,rfl⟩ hn
  | row ty cs=>cases cs with
   | nil=>exact⟨ty,[],hout r _ hr hno h1,am _⟩
   | cons c cs=>exact absurd ⟨_,h1,rfl⟩ hn
 refine⟨us,kn,own,hend,hkle,hlen,?_,aV.tr renB _ _ hrs⟩
 exact {
  good:=hs.good
  below:=⟨hp'.below.os.trans hs.below.os,hp'.below.tape.trans hs.below.tape,hp'.below.output.trans hs.below.output,gU hs.below.size hp'.below.size,λb hb hm=>by
   have hb':b<w.heap.size:=cD hb hs.below.size
   refine (hp'.below.block b hb' λhg=>?_).trans (hs.below.block b hb hm)
   rcases (hgm b hg).1 with h1|h1
   .omega
   .exact hm h1⟩
  mem:=hp'.mem
  obj:=λr ob hob=>by
   rcases hobjs r ob hob with ⟨i,ob',h1,h2,rfl⟩|⟨h1,h2,ob',h3,rfl⟩
   .obtain⟨b,g1,g2,g3,g4,g5⟩:=hp'.obj i ob' h1
    exact⟨b,renB.μ i b r g1 (by rw[h2]),hmine b g2,g3,λhl=>g4 (by rw[← ack];exact hl),g5.tr renB⟩
   .obtain⟨b,g1,g2,g3,g4,g5⟩:=hs.obj r ob' h3
    cases hlb:ob'.live with
    | false =>
     refine⟨b,by rw[hknl r h1];exact g1,g2,cD g3 hp'.below.size,λ(hl:(Ob.tr some (dz refs ts) ob').live=true)=>(by rw[ack,hlb] at hl;cases hl),?_⟩
     cases ob' with
     | var ty xs=>cases hlb
     | map es=>cases hlb
     | row ty cs=>cases cs with
      | nil=>exact .inl rfl
      | cons c cs=>cases hlb
    | true =>
    have hng:=hngivo r b g1 h2 ⟨ob',h3,hlb⟩
    refine⟨b,by rw[hknl r h1];exact g1,g2,cD g3 hp'.below.size,λ_ o=>?_,(g5.keep (hp'.below.block b g3 hng)).tr renA⟩
    cases hm:k'.m b o with
    | none=>rfl
    | some u =>
     have:=hmnone b g3 hng o u hm
     rw[g4 hlb o] at this
     cases this
  dom:=λr b hb=>by
   show r<O.length
   rw[hOl]
   rcases av r L with g|g
   .omega
   .rw[hkng r aC] at hb
    have:=hp'.dom _ _ hb
    omega
  inj:=λr r' b hb hb' hl hl'=>by
   have hl:Liv O r:=hl
   have hl':Liv O r':=hl'
   have back:∀ r,¬ r<L->r=eM refs L (m+(r-L)):=λr g=>by rw[hsig2 _ aC];omega
   have inI:∀ r,r∈refs->∃ i,i<m/\i<an.obs.length/\eM refs L i=r/\refs[i]?=some r:=λr hm=>by
    obtain⟨i,hi⟩:=List.mem_iff_getElem?.1 hm
    have:=(List.getElem?_eq_some_iff.1 hi).1
    exact⟨i,this,cD this hlen,hsig1 i r hi,hi⟩
   have lI:∀ r i,Liv O r->eM refs L i=r->i<an.obs.length->Liv an.obs i:=λr i h e hi=>hlivI i (by rw[e];exact h) hi
   have lN:∀ r b,¬ r<L->Liv O r->k'.μ (m+(r-L))=some b->Liv an.obs (m+(r-L)):=λr b g h hb=>lI r _ h (back r g).symm (hp'.dom _ _ hb)
   rcases av r L with g|g
   .rw[hknl r g] at hb
    rcases av r' L with g'|g'
    .rw[hknl r' g'] at hb'
     by_cases hm:r∈refs
     .obtain⟨i,hi1,hi2,hi3,hi4⟩:=inI r hm
      by_cases hm':r'∈refs
      .obtain⟨j,hj1,hj2,hj3,hj4⟩:=inI r' hm'
       have:=hp'.inj i j b (by rw[hμi i r hi4];exact hb) (by rw[hμi j r' hj4];exact hb') (lI r i hl hi3 hi2) (lI r' j hl' hj3 hj2)
       subst this
       exact hi3.symm.trans hj3
      .exact hs.inj r r' b hb hb' (hlv r hm) (hlivR r' hl' g' hm')
     .by_cases hm':r'∈refs
      .exact hs.inj r r' b hb hb' (hlivR r hl g hm) (hlv r' hm')
      .exact hs.inj r r' b hb hb' (hlivR r hl g hm) (hlivR r' hl' g' hm')
    .rw[hkng r' aC] at hb'
     by_cases hmem:r∈refs
     .obtain⟨i,hi1,hi2,hi3,hi⟩:=inI r hmem
      have h1:k'.μ i=some b:=by rw[hμi i r hi];exact hb
      have:=hp'.inj _ _ b h1 hb' (lI r i hl hi3 hi2) (lN r' b aC hl' hb')
      omega
     .have:=(hp'.lt hb').1
      exact (hapart b (hs.lt hb).2.1 (hngivo r b hb hmem (hlivR r hl g hmem)) this).elim
   .rw[hkng r aC] at hb
    rcases av r' L with g'|g'
    .rw[hknl r' g'] at hb'
     by_cases hmem:r'∈refs
     .obtain⟨i,hi1,hi2,hi3,hi⟩:=inI r' hmem
      have h1:k'.μ i=some b:=by rw[hμi i r' hi];exact hb'
      have:=hp'.inj _ _ b h1 hb (lI r' i hl' hi3 hi2) (lN r b aC hl hb)
      omega
     .have:=(hp'.lt hb).1
      exact (hapart b (hs.lt hb').2.1 (hngivo r' b hb' hmem (hlivR r' hl' g' hmem)) this).elim
    .rw[hkng r' aC] at hb'
     have:=hp'.inj _ _ b hb hb' (lN r b aC hl hb) (lN r' b aC hl' hb')
     omega
  tok:=λt v e z n ht=>by
   rcases hsrc t _ ht with ⟨h1,h2,h3⟩|⟨t0,h1,h2⟩
   .obtain⟨⟨xs',g1⟩,g2⟩:=hs.tok t v e z n h1
    have hng:=hngiven t v e z n h1 h2 h3
    refine⟨⟨xs',acE (λg hg hlt=>hp'.below.block g hlt (hng g hg)) g1⟩,λg hg=>⟨(g2 g hg).1,λo ho=>?_,λr hb=>?_⟩⟩
    .have hlt:=(hs.tlt h1 hg).2
     cases hm:k'.m g o with
     | none=>rfl
     | some u =>
      have:=hmnone g hlt (hng g hg) o u hm
      rw[(g2 g hg).2.1 o ho] at this
      cases this
    .rcases av r L with g'|g'
     .rw[hknl r g'] at hb
      obtain⟨q1,q2⟩:=(g2 g hg).2.2 r hb
      have hno:r∉refs:=λhm=>by
       obtain rfl:=q2 (hlv r hm)
       exact h3 r _ rfl hm
      exact⟨hrowR r _ q1 g' hno,λhl=>q2 (hlivR r hl g' hno)⟩
     .rw[hkng r aC] at hb
      exact (hapart g (hs.tlt h1 hg).2 (hng g hg) (hp'.lt hb).1).elim
   .obtain⟨g1,g2⟩:=hp'.tok t0 v e z n h1
    refine⟨g1,λg hg=>⟨hmine g (g2 g hg).1,(g2 g hg).2.1,λr hb=>?_⟩⟩
    rcases av r L with g'|g'
    .rw[hknl r g'] at hb
     by_cases hmem:r∈refs
     .obtain⟨i,hi⟩:=List.mem_iff_getElem?.1 hmem
      obtain⟨q1,q2⟩:=(g2 g hg).2.2 i (by rw[hμi i r hi];exact hb)
      refine⟨by rw[← hsig1 i r hi];exact hrowI i _ q1,λhl=>?_⟩
      obtain rfl:=q2 (hlivI i (by rw[hsig1 i r hi];exact hl) (cD (List.getElem?_eq_some_iff.1 hi).1 hlen))
      simp only[eJ,hsig1 i r hi,ae] at h2
      exact h2.symm
     .have hnl:¬ Liv s.objs r:=λhl=>hapart g (hs.lt hb).2.1 (hngivo r g hb hmem hl) (g2 g hg).1
      exact⟨(hdeadR r hnl g' hmem).mono (bn _),λhl=>absurd (hlivR r hl g' hmem) hnl⟩
    .rw[hkng r aC] at hb
     obtain⟨q1,q2⟩:=(g2 g hg).2.2 _ hb
     have e1:eM refs L (m+(r-L))=r:=by rw[hsig2 _ aC];omega
     refine⟨by rw[← e1];exact hrowI _ _ q1,λhl=>?_⟩
     obtain rfl:=q2 (hlivI _ (by rw[e1];exact hl) (hp'.dom _ _ hb))
     simp only[eJ,e1,ae] at h2
     exact h2.symm
  tokne:=λt t' v e z n v' e' z' n' ht ht' hne g hg hg'=>by
   rcases hsrc t _ ht with ⟨h1,h2,h3⟩|⟨t0,h1,h2⟩
   .rcases hsrc t' _ ht' with ⟨h1',h2',h3'⟩|⟨t0',h1',h2'⟩
    .exact hs.tokne t t' v e z n v' e' z' n' h1 h1' hne g hg hg'
    .exact hapart g (hs.tlt h1 hg).2 (hngiven t v e z n h1 h2 h3 g hg) (hp'.tlt h1' hg').1
   .rcases hsrc t' _ ht' with ⟨h1',h2',h3'⟩|⟨t0',h1',h2'⟩
    .exact hapart g (hs.tlt h1' hg').2 (hngiven t' v' e' z' n' h1' h2' h3' g hg') (hp'.tlt h1 hg).1
    .exact hp'.tokne t0 t0' v e z n v' e' z' n' h1 h1' (λe=>hne (by subst e;rw[h2] at h2';exact aG h2')) g hg hg'
  m0:=λb o u hm hb hmd=>by
   have hb':b<w.heap.size:=cD hb hs.below.size
   refine hs.m0 b o u (hmnone b hb' (λhg=>?_) o u hm) hb hmd
   rcases (hgm b hg).1 with h1|h1
   .omega
   .exact hmd h1
  size:=hs.size
  fr:=λj=>aL.tr renA _ _ (hs.fr j)
  fresh:=λt p ht=>by
   rcases hsrc t p ht with ⟨h1,_,_⟩|⟨t0,h1,h2⟩
   .have:=hs.fresh t p h1
    cases t with
    | nm c ix' i=>exact this.imp id (fun⟨a,b⟩=>⟨a,.inl b⟩)
    | cell r off=>trivial
   .unfold eJ at h2
    split at h2
    .cases h2;exact .inr ⟨rfl,.inr rfl⟩
    .cases h2
    .cases h2;trivial
  cells:=λr off p ht=>by
   show r<O.length
   rw[hOl]
   rcases av r L with g|g
   .omega
   .have ht':ow' (.cell (m+(r-L)) off)=some p:=by
     have:(if r<L then (match pos refs r with
      | some i=>ow' (.cell i off)
      | none=>if Tk.cell r off∈ts then none else ow (.cell r off)) else ow' (.cell (m+(r-L)) off))=some p:=ht
     rwa [aA aC] at this
    have:=hcl _ _ _ ht'
    omega}
theorem X.tr_id:∀ x:X,x.tr some some=x :=
 X.rec (motive_1:=λx=>x.tr some some=x) (motive_2:=λxs=>X.trs some some xs=xs) (λ_=>rfl) rfl (λ_ _ _ _ _=>rfl) (λ_ _=>rfl) (λ_=>rfl)
  (λf xs ih=>by simp only[X.tr,ih]) (λxs ih=>by simp only[X.tr,ih]) (λxs ih=>by simp only[X.tr,ih]) (λo _ _=>by cases o <;> rfl) (λ_ _ _=>aE rfl) rfl (λx xs h1 h2=>by simp only[X.trs,h1,h2])
theorem X.trs_id(xs:List X):X.trs some some xs=xs:=by
 induction xs with
 | nil=>rfl
 | cons x xs ih=>simp only[X.trs,X.tr_id,ih]
theorem Ob.tr_id(o:Ob):o.tr some some=o:=by
 cases o with
 | var ty xs=>simp only[Ob.tr,X.trs_id]
 | map es=>rfl
 | row ty cs=>rfl
theorem aq1:dz [] []=some:=by
 funext t
 cases t <;> simp[dz]
theorem aDl(hs:Sim M0 k ow done w0 w N s tmps){f:Nat}{cs:List C}{rs:List X}{vs:List Value}{ix:Nat}(hsound:abu P M0.G f (cs.map .of) [] ⟨false,rs,[]⟩)(hc:fh P f=true)(hvs:bA k.m cs vs)(hd:¬ done ix) :
  Calls P f vs.toArray w λe w'=>∃ v kn own,e=.returned v/\k.le kn/\Sim M0 kn own (λj=>done j\/j=ix) w0 w' N s tmps/\aL kn own (agf (aht s.clk ix rs)) v:=by
 refine (atH (refs:=[]) (ts:=[]) (obs:=[]) hs abC abC (λ_ h=>by cases h) (λ_ h=>by cases h) rfl hsound hc (aV.of (by exact hvs)) hd).mono λe w' ⟨us,kn,own,h1,h2,_,h3,h4⟩=>?_
 simp only[agB] at h1
 refine⟨alX us,kn,own,h1,h2,?_,aws ?_⟩
 .have e1:(λj=>(s.fr j).tr some (dz [] []))=s.fr:=by funext j;rw[aq1,X.tr_id]
  have e2:s.objs.map (Ob.tr some (dz [] []))=s.objs:=by
   rw[aq1]
   have:Ob.tr some some=id:=by funext o;exact Ob.tr_id o
   rw[this,List.map_id]
  simp only[aa7,cq,List.drop_nil,cI,aU,e1,e2] at h3
  exact h3
 .have hren:Ren (λ_=>none) some kn kn own own:=⟨λ_ _ _ h=>h,λr b r' _ he=>(by cases he),λt p t' ht he=>(by cases he;exact ht)⟩
  have h5:=aV.tr hren _ _ h4
  have key:∀ x:X,(x.tr (λi=>some (eM [] s.objs.length i)) (eJ [] s.objs.length s.clk ix)).tr (λ_=>none) some=x.tr (λ_=>none) (eJ [] s.objs.length s.clk ix) :=
   X.rec (motive_1:=λx=>(x.tr (λi=>some (eM [] s.objs.length i)) (eJ [] s.objs.length s.clk ix)).tr (λ_=>none) some=x.tr (λ_=>none) (eJ [] s.objs.length s.clk ix))
    (motive_2:=λxs=>X.trs (λ_=>none) some (X.trs (λi=>some (eM [] s.objs.length i)) (eJ [] s.objs.length s.clk ix) xs)=X.trs (λ_=>none) (eJ [] s.objs.length s.clk ix) xs)
    (λ_=>rfl) rfl (λt e z cs n=>by simp only[X.tr];split <;> rfl) (λ_ _=>rfl) (λ_=>rfl)
    (λf xs ih=>by simp only[X.tr,ih]) (λxs ih=>by simp only[X.tr,ih]) (λxs ih=>by simp only[X.tr,ih]) (λo ty z=>by cases o with
     | none=>rfl
     | some t=>simp only[X.tr,dE];cases eJ [] s.objs.length s.clk ix t <;> rfl) (λr e z=>by simp only[X.tr];split <;> rfl) rfl (λx xs h1 h2=>by simp only[X.trs,h1,h2])
  have keys:∀ xs:List X,X.trs (λ_=>none) some (X.trs (λi=>some (eM [] s.objs.length i)) (eJ [] s.objs.length s.clk ix) xs)=X.trs (λ_=>none) (eJ [] s.objs.length s.clk ix) xs:=λxs=>by
   induction xs with
   | nil=>rfl
   | cons x xs ih=>simp only[X.trs,key,ih]
  rw[keys] at h5
  have hren2:Ren (λ_=>none) (λt=>match t with | .nm ..=>some t | .cell ..=>none) kn kn own own:=⟨λ_ _ _ h=>h,λr b r' _ he=>(by cases he),λt p t' ht he=>by
   cases t with
   | nm c ix' i=>cases he;exact ht
   | cell r off=>cases he⟩
  have h6:=aV.tr hren2 _ _ h5
  have key2:∀ x:X,(x.tr (λ_=>none) (eJ [] s.objs.length s.clk ix)).tr (λ_=>none) (λt=>match t with | .nm ..=>some t | .cell ..=>none)=x.tr (λ_=>none) (adv s.clk ix) :=
   X.rec (motive_1:=λx=>(x.tr (λ_=>none) (eJ [] s.objs.length s.clk ix)).tr (λ_=>none) (λt=>match t with | .nm ..=>some t | .cell ..=>none)=x.tr (λ_=>none) (adv s.clk ix))
    (motive_2:=λxs=>X.trs (λ_=>none) (λt=>match t with | .nm ..=>some t | .cell ..=>none) (X.trs (λ_=>none) (eJ [] s.objs.length s.clk ix) xs)=X.trs (λ_=>none) (adv s.clk ix) xs)
    (λ_=>rfl) rfl
    (λt e z cs n=>by
     cases t with
     | nm c ix' i =>
      match c,ix' with
      | 0,0=>rfl
      | 0,_+1=>rfl
      | _+1,_=>rfl
     | cell r off=>rfl) (λ_ _=>rfl) (λ_=>rfl)
    (λf xs ih=>by simp only[X.tr,ih]) (λxs ih=>by simp only[X.tr,ih]) (λxs ih=>by simp only[X.tr,ih]) (λo ty z=>by
     cases o with
     | none=>rfl
     | some t =>
      cases t with
      | nm c ix' i =>
       match c,ix' with
       | 0,0=>rfl
       | 0,_+1=>rfl
       | _+1,_=>rfl
      | cell r off=>rfl) (λ_ _ _=>rfl) rfl (λx xs h1 h2=>by simp only[X.trs,h1,h2])
  have keys2:∀ xs:List X,X.trs (λ_=>none) (λt=>match t with | .nm ..=>some t | .cell ..=>none) (X.trs (λ_=>none) (eJ [] s.objs.length s.clk ix) xs)=X.trs (λ_=>none) (adv s.clk ix) xs:=λxs=>by
   induction xs with
   | nil=>rfl
   | cons x xs ih=>simp only[X.trs,key2,ih]
  rw[keys2] at h6
  exact h6
theorem acQ{o:Oper}{a:Act}{K:Act->World->Prop}{Q:Exit->Act->World->Prop}{u:Value}{w':World}(hr:(execOp a.eval o).run P w=.ok (.value u) w')(hK:K (a.put o.dst u) w'):o.wp P a w K Q:=by
 unfold Oper.wp
 rw[hr]
 exact hK
theorem fj{x y:X}{e:Option Tk}(h:out x=some (y,e)):x=y/\e=none:=by
 simp only[out,bT] at h
 exact⟨h.1,h.2.symm⟩
theorem acR{x:Option X}{y:X}{e:Option Tk}(h:bX x=some (y,e)):x=some y/\e=none:=by
 simp only[bX,ay,bh] at h
 obtain⟨a,h1,rfl,h2⟩:=h
 exact⟨h1,h2.symm⟩
theorem Sim.known(h:Sim M0 k ow done w0 w N s tmps){w':World}(hb:Below w.heap.size w w'){us:List Value}(hc:∀ o u,us[o]?=some u->w'.cell? ⟨w.heap.size,o,none⟩=some u/\u.oneCell'=true) :
  ∃ k',k.le k'/\Sim M0 k' ow done w0 w' N s tmps/\∀ o u,us[o]?=some u->k'.m w.heap.size o=some u:=by
 have hg:=h.grow hb
 let k':Know:={m:=λb o=>if b=w.heap.size then us[o]? else k.m b o,μ:=k.μ}
 have hle:k.le k':=⟨λb o v hm=>by
  have:=agq h.mem hm
  show (if b=w.heap.size then us[o]? else k.m b o)=some v
  rw[aA aC];exact hm,λ_ _ h=>h⟩
 have hne:∀ b o,b<w.heap.size->k'.m b o=k.m b o:=λb o hb=>by
  show (if b=w.heap.size then us[o]? else k.m b o)=k.m b o
  rw[aA aC]
 refine⟨k',hle,{hg with
  fr:=λj=>aL.mono hle (λ_ _ h=>h) _ _ (hg.fr j)
  mem:=λb o v hm=>by
   by_cases hbe:b=w.heap.size
   .subst hbe
    simp only[k',ah] at hm
    exact hc o v hm
   .simp only[k',hbe,ap] at hm
    exact hg.mem b o v hm
  obj:=λr ob hr=>by
   obtain⟨b,g1,g2,g3,g4,g5⟩:=hg.obj r ob hr
   have hlt:=(h.lt g1).2.1
   exact⟨b,g1,g2,g3,λhl o=>by rw[hne b o hlt];exact g4 hl o,g5.mono hle (λ_ _ h=>h)⟩
  tok:=λt v e z n ht=>by
   obtain⟨g1,g2⟩:=hg.tok t v e z n ht
   exact⟨g1,λg hgo=>⟨(g2 g hgo).1,λo ho=>by rw[hne g o (h.tlt ht hgo).2];exact (g2 g hgo).2.1 o ho,(g2 g hgo).2.2⟩⟩
  m0:=λb o v hm hb0 hmd=>by
   rw[hne b o (cD hb0 h.below.size)] at hm
   exact hg.m0 b o v hm hb0 hmd},λo u hu=>by simp only[k',ah];exact hu⟩
theorem aD1(hs:Sim M0 k ow done w0 w N s tmps){E:En}(horc:∀ f xs obs an,E.orc f xs obs=some an->abu P M0.G f xs obs an){ix:Nat}(hd:¬ done ix){o:Oper}(hns:cZ o.op=false){x:X}{e:Option Tk}
  (h:val P (TT.of P) E s ix o=some (x,e)) (hek:∀ t,e=some t->t.isRow=false) {K:Act->World->Prop} {Q:Exit->Act->World->Prop}
  (hK:∀ u w' k' ow',k.le k'->Sim M0 k' ow' (λj=>done j\/j=ix) w0 w' N (s.drop e) tmps->aL k' ow' x u->K ((⟨tmps,ds⟩ : Act).put o.dst u) w'):o.wp P ⟨tmps,ds⟩ w K Q:=by
 have hs1:=hs.more (done':=λj=>done j\/j=ix) (λ_ h=>.inl h)
 have hnew:ow (.nm s.clk ix 0)=none:=hs.new hd
 have plain:∀ u,e=none->(execOp (⟨tmps,ds⟩ : Act).eval o).run P w=.ok (.value u) w->aL k ow x u->o.wp P ⟨tmps,ds⟩ w K Q:=by
  rintro u rfl hr hx
  exact acQ hr (hK u w k ow (Know.le_refl k) hs1 hx)
 have ev:=λx=>Sim.ev (ds:=ds) hs x
 unfold val at h
 split at h
 .-- move
  rename_i y ho
  obtain⟨rfl,rfl⟩:=fj h
  exact plain _ rfl (by simp[execOp,ho]) (ev y)
 .rename_i y ho
  obtain⟨rfl,rfl⟩:=fj h
  exact plain _ rfl (by simp[execOp,ho]) (ev y)
 .-- pick
  rename_i c a b ho
  split at h
  .rename_i b' hb
   have hc:=ajT hb (ev c)
   obtain⟨rfl,rfl⟩:=fj h
   cases b' with
   | true=>exact plain ((⟨tmps,ds⟩ : Act).eval a) rfl (by simp[execOp,ho,hc,asBool]) (by simpa using ev a)
   | false=>exact plain ((⟨tmps,ds⟩ : Act).eval b) rfl (by simp[execOp,ho,hc,asBool]) (by simpa using ev b)
  .cases h
 .-- binOp
  rename_i op t y z yt ho
  unfold gJ at h
  split at h
  .rename_i u v hu hv
   have h':=acR h;clear h;obtain⟨h,rfl⟩:=h'
   simp only[ay] at h
   obtain⟨r,hr,rfl⟩:=h
   have h1:=ag3 hu (ev y)
   have h2:=ag3 hv (ev z)
   obtain⟨g1,g2⟩:=axT (w:=w) y z hr
   refine plain r rfl ?_ (by simp[aL,Rep,g2])
   simp only[execOp,ho,h1,h2,Sem.run_bind,g1,Result.andThen_ok,Sem.run_pure]
  .cases hu:(s.ev y).rd with
   | none=>rw[hu] at h;cases h
   | some cu =>
    cases hv:(s.ev z).rd with
    | none=>rw[hu,hv] at h;unfold ae7 at h;split at h <;> simp_all
    | some cv =>
     obtain⟨b,rfl,rfl,g1⟩:=axU (w:=w) y z h hu hv (afW _ _ _ hu (ev y)) (afW _ _ _ hv (ev z))
     refine plain (.bool b) rfl ?_ (by simp[aL,Rep,Value.oneCell'])
     simp only[execOp,ho,g1,Sem.run_bind,Result.andThen_ok,Sem.run_pure]
 .-- unOp
  rename_i op t y ho
  split at h
  .rename_i u hu
   have h':=acR h;clear h;obtain⟨h,rfl⟩:=h'
   simp only[ay] at h
   obtain⟨r,hr,rfl⟩:=h
   have h1:=ev y
   rw[hu] at h1
   simp only[aL,Rep] at h1
   obtain⟨g1,g2⟩:=ayp (P:=P) (w:=w) hr
   exact plain r rfl (by simp[execOp,ho,h1.1,g1]) (by simp[aL,Rep,g2])
  .cases h
 .-- load
  rename_i t a ho
  obtain⟨rfl,u,hr,hx⟩:=aqT hs.toHp h (ev a)
  exact plain u rfl (by simp[execOp,ho,hr]) hx
 .rename_i t y f ho
  obtain⟨rfl,u,hr,hx⟩:=akF (w:=w) h (ev y)
  exact plain u rfl (by simp[execOp,ho,hr]) hx
 .rename_i t y f ho
  obtain⟨rfl,u,hr,hx⟩:=azl (w:=w) h (ev y)
  exact plain u rfl (by simp[execOp,ho,hr]) hx
 .rename_i t y i ho
  obtain⟨rfl,u,hr,hx⟩:=aq4 (w:=w) h (ev y) (ev i)
  exact plain u rfl (by simp[execOp,ho,hr]) hx
 .rename_i t y i ho
  obtain⟨rfl,u,hr,hx⟩:=azg (w:=w) h (ev y) (ev i)
  exact plain u rfl (by simp[execOp,ho,hr]) hx
 .-- slice
  rename_i t y lo hi ho
  have hlo:∀ z:Option Operand,aDO k ow (z.map s.ev) (z.map λx=>(⟨tmps,ds⟩ : Act).eval x):=λz=>by
   cases z with
   | none=>trivial
   | some z=>exact ev z
  obtain⟨rfl,u,hr,hx⟩:=ayw (w:=w) h (ev y) (hlo lo) (hlo hi)
  exact plain u rfl (by simp only[execOp,ho,Sem.run_bind,ahO,hr,Result.andThen_ok,Sem.run_pure]) hx
 .-- build
  rename_i t ps ho
  split at h
  .rename_i d qs hT hq
   have hp:=al3 (k:=k) (ow:=ow) ev ps.toList qs hq
   have hpe:ps.toList.map (λp=>(p.1,(⟨tmps,ds⟩ : Act).eval p.2))=(ps.map λ(i,x)=>(i,(⟨tmps,ds⟩ : Act).eval x)).toList:=by simp
   rw[hpe] at hp
   split at h
   .rename_i fs hu
    have h':=acR h;clear h;obtain⟨h,rfl⟩:=h'
    simp only[ay] at h
    obtain⟨xs,hx,rfl⟩:=h
    obtain⟨u,hr,hx⟩:=azw (w:=w) hT hu hp hx
    exact plain u rfl (by simp[execOp,ho,hr]) hx
   .rename_i n el hu
    split at h
    .rename_i de hE
     have h':=acR h;clear h;obtain⟨h,rfl⟩:=h'
     simp only[ay] at h
     obtain⟨xs,hx,rfl⟩:=h
     obtain⟨u,hr,hx⟩:=aoR (w:=w) hT hu hE hp hx
     exact plain u rfl (by simp[execOp,ho,hr]) hx
    .cases h
   .cases h
  .cases h
 .-- buildSlice
  rename_i t n ps ho
  split at h
  .rename_i el d qs he hq
   have hp:=al3 (k:=k) (ow:=ow) ev ps.toList qs hq
   have hpe:ps.toList.map (λp=>(p.1,(⟨tmps,ds⟩ : Act).eval p.2))=(ps.map λ(i,x)=>(i,(⟨tmps,ds⟩ : Act).eval x)).toList:=by simp
   rw[hpe] at hp
   split at h
   .rename_i hc
    split at h
    .rename_i xs hx
     split at h
     .rename_i cs hcs
      obtain⟨rfl,rfl⟩:=fj h
      obtain⟨u,w',k',ow',hr,g1,g2,g3⟩:=ap4 hs1 he hc.1 hc.2.1 hp hx hcs hnew (.inr ⟨rfl,.inr rfl⟩)
      exact acQ (by simp[execOp,ho,hr]) (hK u w' k' ow' g1 g2 g3)
     .cases h
    .cases h
   .cases h
  .cases h
 .-- extract
  rename_i y i ho
  have h1:=ev y
  split at h
  .rename_i xs hy
   have h':=acR h;clear h;obtain⟨h,rfl⟩:=h'
   rw[hy] at h1
   simp only[aL] at h1
   obtain⟨vs,hv,hl⟩:=h1
   obtain⟨u,hu,hx⟩:=hl.get i x h
   exact plain u rfl (by simp[execOp,ho,hv,Instr.extract,hu]) hx
  .rename_i cs hy
   have h':=acR h;clear h;obtain⟨h,rfl⟩:=h'
   simp only[ay] at h
   obtain⟨c,hc,rfl⟩:=h
   rw[hy] at h1
   simp only[aL,Rep] at h1
   obtain⟨vs,hv,hl⟩:=h1
   obtain⟨u,hu,hx⟩:=hl.get i c hc
   exact plain u rfl (by simp[execOp,ho,hv,Instr.extract,hu]) (by simpa only [aL] using hx)
  .cases h
 .-- nilCheck
  rename_i y ho
  have h1:=ev y
  split at h
  .rename_i r off hy
   obtain⟨rfl,rfl⟩:=fj h
   rw[hy] at h1
   have h2:=h1
   simp only[aL] at h1
   obtain⟨b,hb,hv⟩:=h1
   exact plain ((⟨tmps,ds⟩ : Act).eval y) rfl (by rw[hv];simp[execOp,ho,hv]) h2
  .rename_i cs hy
   obtain⟨rfl,rfl⟩:=fj h
   rw[hy] at h1
   have h2:=h1
   simp only[aL,Rep] at h1
   obtain⟨b,o',vs,hv,_⟩:=h1
   exact plain ((⟨tmps,ds⟩ : Act).eval y) rfl (by rw[hv];simp[execOp,ho,hv]) h2
  .cases h
 .-- makeFunc
  rename_i f first caps ho
  split at h
  .rename_i h0
   have h0':first=#[]:=Array.eq_empty_of_size_eq_zero h0
   subst h0'
   split at h
   .rename_i cs hcs
    obtain⟨rfl,rfl⟩:=fj h
    have hl:=am6 (ds:=ds) hs _ _ hcs
    refine plain (.func (.func f) #[] (caps.map λx=>(⟨tmps,ds⟩ : Act).eval x)) rfl ?_ ?_
    .simp[execOp,ho,Instr.makeFunc]
    .simp only[aL,Rep]
     exact⟨(caps.map λx=>(⟨tmps,ds⟩ : Act).eval x).toList,by rw[cN],by rw[ac7];exact hl⟩
   .unfold asy at h
    split at h
    .rename_i ys hys
     obtain⟨rfl,rfl⟩:=fj h
     refine plain (.func (.func f) #[] (caps.map λx=>(⟨tmps,ds⟩ : Act).eval x)) rfl ?_ ?_
     .simp[execOp,ho,Instr.makeFunc]
     .simp only[aL]
      refine⟨(caps.map λx=>(⟨tmps,ds⟩ : Act).eval x).toList,?_,?_⟩
      .rw[aE (aS3 f),aS2 f,cN]
      .rw[ac7]
       exact anK ev _ _ hys
    .cases h
  .split at h
   .rename_i h1
    have h1':caps=#[]:=Array.eq_empty_of_size_eq_zero h1
    subst h1'
    unfold asy at h
    split at h
    .rename_i ys hys
     obtain⟨rfl,rfl⟩:=fj h
     refine plain (.func (.func f) (first.map λx=>(⟨tmps,ds⟩ : Act).eval x) #[]) rfl ?_ ?_
     .simp[execOp,ho,Instr.makeFunc]
     .simp only[aL]
      refine⟨(first.map λx=>(⟨tmps,ds⟩ : Act).eval x).toList,?_,?_⟩
      .rw[aA (aS1 f),aS0 f,cN]
      .rw[ac7]
       exact anK ev _ _ hys
    .cases h
   .cases h
 .rename_i a b y ho
  unfold ad3 at h
  split at h
  rotate_left
  .obtain⟨rfl,u,hr,hx⟩:=aus (w:=w) (λb o v hm=>(hs.mem b o v hm).1) h (ev y)
   exact plain u rfl (by simp[execOp,ho,hr]) hx
  rename_i el st hb hy
  unfold au4 at h
  split at h
  rotate_left
  .cases h
  rename_i hc
  obtain⟨rfl,rfl⟩:=fj h
  rw[ar] at hc
  have h1:P.underlying a=some .string:=by
   cases hT:TT.of P a with
   | none=>rw[hT] at hc;cases hc.1
   | some dd=>rw[hT] at hc;rw[(TT.of_ok hT).und,← avI (u:=some dd.und) hc.1]
  have h2:P.underlying b=some (.slice el):=by
   cases hT:TT.of P b with
   | none=>simp[hT] at hb
   | some dd=>simp only[hT,aP,ae] at hb;rw[← hb];exact (TT.of_ok hT).und
  have h3:P.underlying el=some (.int .u8):=by
   obtain⟨dd,hT,hu,_⟩:=u8D hc.2
   rw[← hu]
   exact (TT.of_ok hT).und
  have hyv:=ev y
  rw[hy] at hyv
  simp only[aL,Rep] at hyv
  have hrun:=Go.Lib.run_convert_string_bytes (P:=P) w a b el st h1 h2 h3
  have hbel:Below w.heap.size w (Go.Lib.bytesWorld w el st):=⟨rfl,rfl,rfl,by rw[Go.Lib.bytesWorld_size];omega,λj hj=>Go.Lib.bytesWorld_at_old w el st j hj⟩
  have hcells:∀ o u,(Lib.strCells st)[o]?=some u->(Go.Lib.bytesWorld w el st).cell? ⟨w.heap.size,o,none⟩=some u/\u.oneCell'=true:=λo u hu=>by
   have hl:o<st.size:=by
    rcases av o st.size with g|g
    .exact g
    .rw[bc (by simpa [Lib.strCells] using g)] at hu;cases hu
   have he:u=.int .u8 (st.data.toList.getD o 0).toNat:=by
    have hl2:o<st.data.toList.length:=by simpa using hl
    simp only[Lib.strCells,cd,aO hl2,aP,ae] at hu
    rw[← hu,ba,aO hl2]
    rfl
   rw[he]
   exact⟨Go.Lib.bytesWorld_cell w el st o hl,rfl⟩
  obtain⟨k',g1,g2,g3⟩:=hs1.known hbel hcells
  refine acQ (u:=.slice (some ⟨w.heap.size,0,none⟩) st.size (grownCap w st.size 0 el)) (w':=Go.Lib.bytesWorld w el st) (by simp[execOp,ho,hyv.1,hrun]) (hK _ _ k' ow g1 g2 ?_)
  simp only[aL,Rep]
  refine⟨_,_,Lib.strCells st,rfl,?_,arr st,λ_=>⟨w.heap.size,0,rfl,λi u hu=>by rw[cB];exact g3 i u hu⟩⟩
  simp[grownCap,Question.cut]
 .rename_i t y i ok ho
  obtain⟨rfl,u,hr,hx⟩:=awP hs h (ev y) (ev i)
  exact plain u rfl (by simp[execOp,ho,hr]) hx
 .rename_i t y ho
  split at h
  .rename_i c hD hc
   obtain⟨rfl,rfl⟩:=fj h
   have hrep:=afW _ _ _ hc (ev y)
   refine plain (.iface t ((⟨tmps,ds⟩ : Act).eval y)) rfl ?_ (by simp only[aL,Rep];exact⟨_,rfl,hrep⟩)
   cases hT:TT.of P t with
   | none=>simp[hT,apQ] at hD
   | some d =>
    have hund:=(TT.of_ok hT).run_und w
    rw[hT] at hD
    simp only[aP] at hD
    have hmk:(Instr.makeInterface t ((⟨tmps,ds⟩ : Act).eval y)).run P w=.ok (.iface t ((⟨tmps,ds⟩ : Act).eval y)) w:=by
     simp only[Instr.makeInterface,Sem.run_bind,hund,Result.andThen_ok]
     split
     .rename_i ms e
      rw[e] at hD
      simp[apQ] at hD
     .rfl
    simp[execOp,ho,hmk]
  .cases h
 .rename_i y xt u ok ho
  unfold asX at h
  split at h
  .rename_i t c hy
   split at h
   .rename_i hc
    obtain⟨hD,rfl⟩:=hc
    obtain⟨rfl,rfl⟩:=fj h
    have hy':=ev y
    rw[hy] at hy'
    simp only[aL,Rep] at hy'
    obtain⟨v,hv,hr⟩:=hy'
    refine plain (.tuple #[v,.bool true]) rfl ?_ (by simp only[aL,Rep,bA];exact⟨[v,.bool true],rfl,v,_,rfl,hr,_,_,rfl,⟨rfl,rfl⟩,rfl⟩)
    cases hT:TT.of P t with
    | none=>simp[hT,apQ] at hD
    | some d =>
     have hund:=(TT.of_ok hT).run_und w
     rw[hT] at hD
     simp only[aP] at hD
     have hmk:(Instr.typeAssert (.iface t v) xt t true).run P w=.ok (.tuple #[v,.bool true]) w:=by
      simp only[Instr.typeAssert,Sem.run_bind,hund,Result.andThen_ok]
      cases hd:d.und with
      | interface ms=>rw[hd] at hD;simp[apQ] at hD
      | _=>simp
     simp[execOp,ho,hv,hmk]
   .cases h
  .cases h
 .rename_i cal args tys ho
  unfold ae8 at h
  split at h
  .-- len
   rename_i y t hargs htys
   obtain⟨rfl,u,hr,hx⟩:=aFn (w:=w) (ty:=o.type) h (ev y)
   have ha:args=#[y]:=by rw[← cN (xs:=args),hargs]
   have ht:tys=#[t]:=by rw[← cN (xs:=tys),htys]
   subst ha;subst ht
   exact plain u rfl (by simp[execOp,ho,resolve,invoke,builtin,hr]) hx
  .-- append
   rename_i a b st xt hargs htys
   obtain⟨u,w',k',ow',hr,g1,g2,g3⟩:=axV (ty:=o.type) hs1 h hek (ev a) (ev b) hnew (.inr ⟨rfl,.inr rfl⟩)
   have ha:args=#[a,b]:=by rw[← cN (xs:=args),hargs]
   have ht:tys=#[st,xt]:=by rw[← cN (xs:=tys),htys]
   subst ha;subst ht
   exact acQ (by simp[execOp,ho,resolve,invoke,builtin,hr]) (hK u w' k' ow' g1 g2 g3)
  .-- min
   rename_i a b hargs
   unfold awL at h
   split at h
   .rename_i m n hm hn
    obtain⟨rfl,rfl⟩:=fj h
    have ha:args=#[a,b]:=by rw[← cN (xs:=args),hargs]
    subst ha
    have e1:=af2 hm (ev a)
    have e2:=af2 hn (ev b)
    exact plain (.int .i64 (if n<m then n else m)) rfl (by simp[execOp,ho,resolve,invoke,builtin,e1,e2,Builtin.min_,Builtin.min2]) ⟨rfl,rfl⟩
   .cases h
  .-- max
   rename_i a b hargs
   unfold apG at h
   split at h
   .rename_i m n hm hn
    obtain⟨rfl,rfl⟩:=fj h
    have ha:args=#[a,b]:=by rw[← cN (xs:=args),hargs]
    subst ha
    have e1:=af2 hm (ev a)
    have e2:=af2 hn (ev b)
    exact plain (.int .i64 (if m<n then n else m)) rfl (by simp[execOp,ho,resolve,invoke,builtin,e1,e2,Builtin.max_,Builtin.max2]) ⟨rfl,rfl⟩
   .cases h
  .-- a call
   rename_i f
   split at h
   .rename_i g caps cs hf hcs
    unfold afs at h
    split at h
    .rename_i hc
     simp only[ar] at hc
     replace hc:=hc.1
     split at h
     .rename_i r hr
      obtain⟨rfl,rfl⟩:=fj h
      have hl:=am6 (ds:=ds) hs _ _ hcs
      have hfv:=ev f
      rw[hf] at hfv
      simp only[aL,Rep] at hfv
      obtain⟨cvs,hfv,hcl⟩:=hfv
      have hcall:=aDl (w:=w) hs (horc g _ _ _ hr) hc (hl.append hcl) hd
      have hrun:(execOp (⟨tmps,ds⟩ : Act).eval o).run P w=.ok (.enter g ((args.toList.map λx=>(⟨tmps,ds⟩ : Act).eval x)++cvs).toArray) w:=by
       unfold fh at hc
       split at hc
       .rename_i fn hfn
        simp only[ar,df,acl] at hc
        obtain⟨⟨b,hb⟩,hn⟩:=hc
        have hn':¬ fn.name= "runtime.NumGoroutine":=by simpa using hn
        have hargs:((args.toList.map λx=>(⟨tmps,ds⟩ : Act).eval x)++cvs).toArray=Array.map (λx=>(⟨tmps,ds⟩ : Act).eval x) args++cvs.toArray:=by
         apply af3
         simp
        rw[hargs]
        simp[execOp,ho,resolve,hfv,Deferred.ofValue,invoke,callFunc,hfn,hn',hb]
       .cases hc
      unfold Oper.wp
      rw[hrun]
      simp only[Oper.upon]
      refine hcall.mono λe w' ⟨v,k',ow',he,g1,g2,g3⟩=>?_
      subst he
      exact hK v w' k' ow' g1 g2 g3
     .cases h
    .cases h
   .cases h
  .cases h
 .-- alloc
  rename_i t ho
  split at h
  .rename_i d hT
   split at h
   .rename_i hz
    obtain⟨rfl,rfl⟩:=fj h
    have ok:=TT.of_ok hT
    obtain⟨z,hzr,hz2⟩:=ok.run_zero w
    have hown:(w.alloc (.cells d.zero.toArray t)).ownsRow 0 t d.size (.slice (some ⟨w.heap.size,0,none⟩) 0 1) 0 []:=World.ownsRow_made w _ 1 (bn _) (by simp[maxLen]) (by simp[ok.len])
    obtain⟨k',g1,g2,g3⟩:=hs1.row (row:=none) (cs:=[]) (c:=s.clk) (ix:=ix) (i:=0) (λg hg=>by cases hg) (World.grownBy_alloc w _ none) hown (.inr ⟨rfl,rfl⟩) (by simp[bA]) aT hnew (.inr ⟨rfl,.inr rfl⟩)
    refine acQ (u:=.pointer (some ⟨w.heap.size,0,none⟩)) (w':=w.alloc (.cells d.zero.toArray t)) ?_ (hK _ _ k' _ g1 g2 ?_)
    .simp[execOp,ho,Instr.alloc,hzr,newVar,newRow,← hz2]
    .simp only[aL];exact⟨_,rfl,by simp[Own.add]⟩
   .cases h
  .cases h
 .rename_i ho
  rw[ho] at hns
  cases hns
 .cases h
theorem Sim.refr(h:Sim M0 k ow done w0 w N s tmps){d:Nat}{x:X}(hx:aL k ow x (tmps.getD d undef)):Sim M0 k ow done w0 w N (s.put (some d) x) tmps:={h with
 fr:=λj=>by
  simp only[S.put,upd]
  split
  .rename_i e;subst e;exact hx
  .exact h.fr j}
theorem asn(w:World)(b:Nat)(c:Array Value):w.grownBy (w.setRow b c) (some b):=⟨rfl,rfl,rfl,by simp[World.setRow],λj _ hj=>setRow_other w b j c (λe=>hj (by rw[e]))⟩
theorem awy(hs:Sim M0 k ow done w0 w N s tmps){ix:Nat}(hd:¬ done ix){o:Oper}{t d z:Nat}{x:Operand}{td:TD}{tk:Tk}{xs:List X}(ho:o.op=.store t (.tmp d) x)(hT:TT.of P t=some td)(hz:z=td.size)
  (hf:s.fr d=.nw (some tk) t z) (hx:cJ (s.ev x)=some xs) (hl:xs.length=z) :
  ∃ b,tmps.getD d undef=.pointer (some ⟨b,0,none⟩)/\ow tk=some (.slice (some ⟨b,0,none⟩) 0 1,t,z,0)/\aV k ow xs ((⟨tmps,ds⟩ : Act).eval x).cells.toList/\(∀ u∈((⟨tmps,ds⟩ : Act).eval x).cells.toList,u.oneCell'=true) /\
   (∃ cur,w.heap[b]?=some (.cells cur t (0,0))/\cur.size=z) /\
   (execOp (⟨tmps,ds⟩ : Act).eval o).run P w=.ok .skip (w.setRow b ((⟨tmps,ds⟩ : Act).eval x).cells.toList.toArray):=by
 have hp:=hs.fr d
 rw[hf] at hp
 simp only[aL] at hp
 obtain⟨b,hv,hk⟩:=hp
 obtain⟨⟨ys,hown⟩,_⟩:=hs.tok _ _ _ _ _ hk
 obtain⟨hr,h1⟩:=aeJ hx (Sim.ev (ds:=ds) hs x)
 rcases hown.2 with ⟨h0,_⟩|⟨g,cap,cur,h0,_,hh,_,_,hc,_⟩
 .cases h0
 simp only[Value.slice.injEq,ae,Addr.mk.injEq] at h0
 obtain⟨⟨rfl,_,_⟩,_,rfl⟩:=h0
 have ok:=TT.of_ok hT
 have hlen:=hr.length
 have hcz:cur.size=z:=by omega
 have hfit:0+0+((⟨tmps,ds⟩ : Act).eval x).cells.toList.length<=cur.size:=by omega
 have hrun:=run_storeCells_at P b 0 t ((⟨tmps,ds⟩ : Act).eval x).cells.toList 0 cur w hh hfit h1
 have hsz:((⟨tmps,ds⟩ : Act).eval x).cells.size=td.size:=by
  have:((⟨tmps,ds⟩ : Act).eval x).cells.toList.length=td.size:=by omega
  simpa using this
 have he:cur.toList.take (0+0)++((⟨tmps,ds⟩ : Act).eval x).cells.toList++cur.toList.drop (0+0+((⟨tmps,ds⟩ : Act).eval x).cells.toList.length)=((⟨tmps,ds⟩ : Act).eval x).cells.toList:=by
  rw[bv (by rw[eL];omega)]
  simp
 have hav:(⟨tmps,ds⟩ : Act).eval (.tmp d)=.pointer (some ⟨b,0,none⟩):=by
  rw[← hv]
  rfl
 refine⟨b,hv,hk,hr,h1,⟨cur,hh,hcz⟩,?_⟩
 rw[he] at hrun
 simp[execOp,ho,Instr.storeAt,hav,Instr.sureAddr,storeVar,ok.run_size,hsz,hrun]
theorem aRe(hs:Sim M0 k ow done w0 w N s tmps){ix:Nat}(hd:¬ done ix){o:Oper}{t d z:Nat}{x:Operand}{td:TD}{tk:Tk}{cs:List C}(ho:o.op=.store t (.tmp d) x)(hT:TT.of P t=some td)(hz:z=td.size)
  (hf:s.fr d=.nw (some tk) t z) (hek:tk.isRow=false) (hx:fW (s.ev x)=some cs) (hl:cs.length=z) :
  ∃ w' k' ow',(execOp (⟨tmps,ds⟩ : Act).eval o).run P w=.ok .skip w'/\k.le k'/\Sim M0 k' ow' (λj=>done j\/j=ix) w0 w' N ((s.drop (some tk)).put (some d) (.of (.ref cs))) tmps:=by
 unfold fW at hx
 simp only[bE] at hx
 obtain⟨xs,hx,hrd⟩:=hx
 have hxl:xs.length=cs.length:=by
  clear hx hl
  induction xs generalizing cs with
  | nil=>simp only[X.rds,ae] at hrd;subst hrd;rfl
  | cons a r ih =>
   simp only[X.rds] at hrd
   split at hrd
   .rename_i c cs' _ h2
    simp only[ae] at hrd
    subst hrd
    simp[ih h2]
   .cases hrd
 obtain⟨b,hv,hk,hr,h1,⟨cur,hh,hcz⟩,hrun⟩:=awy (ds:=ds) hs hd ho hT hz hf hx aC
 have hcl:=ajK _ _ _ hrd hr
 have hs1:=hs.more (done':=λj=>done j\/j=ix) (λ_ h=>.inl h)
 have htok:=(hs.tok _ _ _ _ _ hk).2
 have hsd:=hs1.del tk hek
 have hnew:(ow.del tk) (.nm s.clk ix 0)=none:=by simp only[Own.del];split;rfl;exact hs.new hd
 have hlen:=hr.length
 have hown:(w.setRow b ((⟨tmps,ds⟩ : Act).eval x).cells.toList.toArray).ownsRow 0 t z (.slice (some ⟨b,0,none⟩) 1 1) 1 ((⟨tmps,ds⟩ : Act).eval x).cells.toList :=
  ⟨by omega,.inr ⟨b,1,_,rfl,bn _,setRow_heap w b cur _ t (0,0) hh,am _,by simp[maxLen],by simp only[dZ];omega,by rw[aa9];exact aaA aC⟩⟩
 obtain⟨k',g1,g2,g3⟩:=hsd.row (row:=some b) (cs:=cs) (c:=s.clk) (ix:=ix) (i:=0) (λg hg=>by
   obtain rfl:=aG hg
   obtain⟨q1,q2,q3⟩:=htok b rfl
   refine⟨q1,λr hr=>afy (λ_ _=>rfl) (by have:=(q3 r hr).1;rwa [abz] at this),λt' v' e' z' n' h'=>?_,λo' u hm=>by rw[q2 o' aC] at hm;cases hm⟩
   simp only[Own.del] at h'
   split at h'
   .cases h'
   .rename_i hne
    exact hs.tokne tk t' _ _ _ _ _ _ _ _ hk h' (bC hne) b rfl) (asn w b _) hown (.inl rfl) hcl h1 hnew (.inr ⟨rfl,.inr rfl⟩)
 refine⟨_,k',_,hrun,g1,g2.refr ?_⟩
 rw[hv]
 simp only[aL,Rep] at g3
 obtain⟨_,_,a,cap,vs,h5,_,h6,h7⟩:=g3
 simp only[Value.slice.injEq] at h5
 obtain⟨rfl,_,rfl⟩:=h5
 simp only[aL,Rep]
 by_cases hne:vs=[]
 .subst hne
  exact⟨b,0,[],rfl,h6,λi u hu=>by simp at hu⟩
 .obtain⟨b',o',h8,h9⟩:=h7 hne
  simp only[ae,Addr.mk.injEq] at h8
  obtain⟨rfl,rfl,_⟩:=h8
  exact⟨_,_,vs,rfl,h6,h9⟩
end

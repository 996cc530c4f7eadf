/- A part. Conditions: none. -/
import Derived.Test.YtghkmcffifpkeaaGreatPa22
set_option linter.all false
set_option maxRecDepth 100000
set_option maxHeartbeats 64000000
namespace Go.Pe
open RowKit
def frontC:Nat->Code->Code
 | n+1,.seq a b=>.seq a (frontC n b)
 | _,_=>.skip
def abh:Nat->Code->Code
 | n+1,.seq _ b=>abh n b
 | _,c=>c
section
variable {P:Program} {G:GP} {pr:Pr} {N:Nat} {Φ:Ex->S->Prop}
theorem bU.cutR(hm:P.follows .mixedOrders=true)(hpr:PrSound P G pr):∀ (n:Nat) (c:Code) (s:S),aar pr.mt N (frontC n c)=true->WC P pr (Go.Pe.frontC n c) s (aLB P G N (abh n c) Φ)->bU P G N c s Φ:=by
 intro n
 induction n with
 | zero=>intro c s _ h;exact (Z10 ..).1 h
 | succ n ih =>
  intro c s hok h
  cases c with
  | seq a b =>
   simp only[Go.Pe.frontC,aar,ar] at hok
   have h:=(Zz ..).1 h
   refine bU.seq (bU.of hm hpr hok.1 (WC.mono h λe s' q=>?_))
   cases e with
   | normal=>exact ih b s' hok.2 q
   | exit i=>exact q
   | ret=>exact q
   | pan x=>exact q
  | _=>exact (Z10 ..).1 h
theorem bU.sound{f:Nat}{fn:Func}{b:Code}{kp:Bool}(hf:P.funcs[f]?=some fn)(hb:fn.body=some b)(hN:fn.ntmps=N){xs:List X}(har:xs.length<=N){an:An}
  (h:bU P G N b (ael xs []) (endQ P kp f 0 an)):abu P G f xs [] an:=by
 intro fn' hf' k ow w vs hhp hold hcl hvs
 obtain rfl:fn=fn':=aG (hf.symm.trans hf')
 have hvl:vs.length<=N:=by rw[hvs.length];exact har
 have hsim:=aw2 (M0:=⟨G,k.m,abi k ow⟩) (N:=N) hhp hold hcl hvs hvl
 have hr:acJ P f=fn.results.toList:=by simp[acJ,hf]
 refine calls_of_wp hf hb ?_
 rw[hN]
 refine h _ _ _ _ _ _ _ _ rfl hsim λe s x tmps' w' k' ow' hΦ hle hs hx=>?_
 have ret:((acb (TT.of P) s (acJ P f)).bind λrs=>ad1 0 false (af9 kp rs) s.objs)=some an->bodyPost P fn (λe w'=>∃ k' ow' us,agB an.pan us e/\Hp ⟨G,k.m,abi k ow⟩ k' ow' w w' an.obs/\k.m.le k'.m/\([]:List Ob).length<=an.obs.length/\(∀ r,r<([]:List Ob).length->k'.μ r=k.μ r) /\
   (∀ t p,ow' t=some p->t.older 1 λ_=>False)/\(∀ r off p,ow' (.cell r off)=some p->r<an.obs.length)/\aV k' ow' an.rs us) .ret ⟨tmps',[]⟩ w':=λhl=>by
  rw[hr] at hl
  simp only[bE] at hl
  obtain⟨rs,hrs,hl⟩:=hl
  obtain⟨us,h1,h2⟩:=agm (P:=P) hs fn.results.toList rs hrs
  obtain⟨k2,ow2,g1,g2,g3,g4,g5,g6,g7,g8⟩:=aix hs.toHp hl (anN kp h2)
  exact⟨rfl,_,akP h1,k2,ow2,us,by rw[g1];rfl,g2,by rw[g3];exact hle.1,bn _,λr hr=>absurd hr (abk _),g6,g7,g8⟩
 cases e with
 | normal=>simp only[Ex.is] at hx;subst hx;exact ret hΦ
 | ret=>simp only[Ex.is] at hx;subst hx;exact ret hΦ
 | exit i=>exact hΦ.elim
 | pan y =>
  simp only[Ex.is] at hx
  obtain⟨v,rfl,hv⟩:=hx
  obtain⟨k2,ow2,g1,g2,g3,g4,g5,g6,g7,g8⟩:=aix hs.toHp hΦ (rs:=[y]) (us:=[v]) (by simp[aV,hv])
  exact⟨rfl,k2,ow2,[v],by rw[g1];exact⟨v,rfl,rfl⟩,g2,by rw[g3];exact hle.1,bn _,λr hr=>absurd hr (abk _),g6,g7,g8⟩
theorem bU.bytes{a b r:Code}{s s':S}{up j0 n:Nat}{W:List Nat}{cs:List C}{st:ByteArray}(h0:s.fr j0=.of (.lit (.string st)))(ho:s'.objs=s.objs)(hc:s'.clk=s.clk)
  (hf:∀ j,s'.fr j=.of .any\/(j∉W/\s'.fr j=s.fr j)\/(j=up/\s'.fr j=.of (.sl cs n)))
  (raw:∀ (tmps:Array Value) (ds:List Deferred) (w:World) (Q:Exit->Act->World->Prop),tmps.size=N->tmps.getD j0 undef=.string st ->
   (∀ (tmps':Array Value) (w':World) (cap:Nat) (us:List Value),tmps'.size=N->(∀ j,j∉W->tmps'.getD j undef=tmps.getD j undef)->tmps'.getD up undef=.slice (some ⟨w.heap.size,0,none⟩) n cap->n<=cap->Below w.heap.size w w' ->
    (∀ m,bA m cs us)->(∀ o u,us[o]?=some u->w'.cell? ⟨w.heap.size,o,none⟩=some u/\u.oneCell'=true)->Q .normal ⟨tmps',ds⟩ w')->a.wp P (Exit.then (λa' w'=>b.wp P Q a' w') Q) ⟨tmps,ds⟩ w)
  (h:bU P G N r s' Φ):bU P G N (.seq a (.seq b r)) s Φ:=by
 intro M0 k ow w0 w tmps ds Q hG hs hQ
 have e0:=hs.fr j0
 rw[h0] at e0
 simp only[aL,Rep] at e0
 refine wp_seq (Code.wp_mono (λe act w' q=>?_) (raw tmps ds w (Exit.then (λa' w'=>r.wp P Q a' w') Q) hs.size e0.1 λtmps' w' cap us hz hold hup hcap hb hrep hc'=>?_))
 .cases e with
  | normal=>exact wp_seq q
  | _=>exact q
 obtain⟨k',g1,g2,g3⟩:=hs.known hb hc'
 have key:∀ j,aL k' ow (s'.fr j) (tmps'.getD j undef):=λj=>by
  rcases hf j with q|⟨q1,q2⟩|⟨rfl,q⟩
  .rw[q];exact ajs _
  .rw[q2,hold j q1];exact g2.fr j
  .rw[q,hup]
   simp only[aL,Rep]
   exact⟨_,_,us,rfl,hcap,hrep _,λ_=>⟨w.heap.size,0,rfl,λi u hu=>by rw[cB];exact g3 i u hu⟩⟩
 exact h M0 k' ow w0 w' tmps' ds Q hG (g2.reslot s' ho hc hz key) λe s'' x tmps'' w'' k'' ow'' q1 q2 q3 q4=>hQ e s'' x tmps'' w'' k'' ow'' q1 (Know.le_trans g1 q2) q3 q4
def aBT(Φ:Ex->S->Prop)(K:S->Prop):Ex->S->Prop
 | .normal,s=>K s
 | e,s=>Φ e s
theorem eG(K:S->Prop)(s:S):aBT Φ K .normal s↔K s:=bO
theorem abx(K:S->Prop)(s:S):aBT Φ K .ret s↔Φ .ret s:=bO
theorem bU.parts(hm:P.follows .mixedOrders=true)(hpr:PrSound P G pr)(n:Nat){c:Code}{s:S}{K:S->Prop}(hok:aar pr.mt N (Go.Pe.frontC n c)=true)(h:WC P pr (Go.Pe.frontC n c) s (aBT Φ K))(hK:∀ s',K s'->bU P G N (abh n c) s' Φ):bU P G N c s Φ :=
 bU.cutR hm hpr n c s hok (WC.mono h λe s' q=>by
  cases e with
  | normal=>exact hK s' q
  | exit i=>exact q
  | ret=>exact q
  | pan x=>exact q)
theorem WC.parts:∀ (n:Nat) {c:Code} {s:S} {K:S->Prop},WC P pr (frontC n c) s (aBT Φ K)->(∀ s',K s'->WC P pr (abh n c) s' Φ)->WC P pr c s Φ:=by
 intro n
 induction n with
 | zero=>intro c s K h hK;exact hK s ((Z10 ..).1 h)
 | succ n ih =>
  intro c s K h hK
  cases c with
  | seq a b =>
   have h:=(Zz ..).1 h
   refine (Zz ..).2 (WC.mono h λe s' q=>?_)
   cases e with
   | normal=>exact ih q hK
   | exit i=>exact q
   | ret=>exact q
   | pan x=>exact q
  | _=>exact hK s ((Z10 ..).1 h)
end
end Go.Pe
namespace Go.Proofs.YtghkmcffifpkeaaGreat
open Pe Tab
def aiS{l:List Tn}{F:Fs}(hl:l.length<LB)(H:PD l F)(i:Nat)(r:Qy×Nat×Bool)(hi:i<=l.length)(hr:aaq F l i []=some r):GD 82 [tkX l,au i,abs,au 1] l qyE i r :=
 aEr hl (acs F l) (λi r h1 h2=>alS _ _ _ (ajM hl H _ _ h1 h2)) i [] (.sl [] 0) r hi (λr h=>alS _ _ _ (ajM hl H _ _ hi h)) hr
def ar1{l:List Tn}{F:Fs}(hl:l.length<LB)(H:PD l F)(i:Nat)(x:Qy)(cs:List C)(hx:cs=qyC x)(r:Qy×Nat×Bool)(hi:i<=l.length)(hr:aaq F l i [x]=some r):GD 82 [tkX l,au i,.of (.sl cs 1),au 1] l qyE i r :=
 aEr hl (acs F l) (λi r h1 h2=>alS _ _ _ (ajM hl H _ _ h1 h2)) i [x] (.sl cs 1) r hi (λr h=>alS _ _ _ (auc i x cs hx r hi h)) hr
def aPu{l:List Tn}{i:Nat}{ws:List (List UInt8)}(h:bF l i ws=true):i<l.length:=by
 induction ws with
 | nil=>cases h
 | cons w r ih=>rcases Bool.or_eq_true_iff.1 h with h|h <;> first|exact fe h|exact ih h
def aun:mtF "ref.go:401" (some 6)=false:=by decide
def aiT:mtF "ref.go:405" (some 6)=false:=by decide
def aum:mtF "ref.go:410" (some 6)=false:=by decide
def aul:mtF "ref.go:417" (some 6)=false:=by decide
def auk:mtF "ref.go:424" (some 6)=false:=by decide
def amI:mtF "ref.go:429" (some 6)=false:=by decide
structure QS (l:List Tn) (Q:Qy) (i:Nat) (s:S):Prop where
 f0:s.fr 0=tkX l
 f1:s.fr 1=au i
 f6:∃ c x b,c<s.clk/\s.fr 6=.nw (some (.nm c x b)) 38 12
 f9:s.fr 9=.ptr 0 0
 fo:s.objs=[.var 38 (aQB Q)]
def afe:=ai (hZ @Tryz.f40.eq_1 @zq @aWh @aWf @aYR @aYP @bi @cW) (hZ @aeg @aex @cO @fH @P3 @Q3 @zT0 (kf aSv))
def aLb{l:List Tn}(hl:l.length<LB)(Q:Qy)(i:Nat)(hi:i<=l.length)(r:Qy×Nat×Bool)(hr:agh l Q Q.od Q.li i=some r)(s:S)(hS:QS l Q i s) :
  WC Tryz.prog pr (abh 7 (wB Tryz.f40)) s (endQ Tryz.prog false 40 0 (ca l qyE r)):=by
 obtain⟨fr,obs,ck⟩:=s
 obtain⟨f0,f1,⟨c,x,b,hc,f6⟩,f9,fo⟩:=hS
 dsimp only at f0 f1 hc f6 f9 fo
 have hz0:(c=ck)=False:=aj aC
 have hz1:∀ n,(c=ck+n)=False:=λn=>aj aC
 have hz2:∀ n m,(c=ck+n+m)=False:=λn m=>aj aC
 have hw1:=aW i (by unfold LB at hl;omega)
 have hw2:IntKind.i64.wrap ((i:Int)+2)=((i+2:Nat):Int):=by rw[cj _ aC (by unfold LB at hl;omega)];rfl
 rcases gW l i [111,102,102,115,101,116] hl with ⟨c1,b1,t1⟩|⟨c1,t1⟩
 .rcases gK3 l (i+1) hl with ⟨c2,b2,t2⟩|⟨c2,t2⟩
  .have gx:=gL (l:=l) (i:=i+1) aC
   simp only[agh,c1,c2,ah,abA] at hr
   cases hr
   simp only[↓zA,sevalprocAttr,afe,ca,wB,abh,f0,f1,f6,f9,fo,t1,t2,gx,hw1,hw2,amI,bx]
   exact⟨okN _ _ aC _,by cases Q;rfl⟩
  .simp only[agh,c1,c2,ah,ap,ab] at hr
   cases hr
   simp only[↓zA,sevalprocAttr,afe,ca,wB,abh,f0,f1,f6,f9,fo,t1,t2,hw1,auk,acD,ce]
   exact⟨okN _ _ aC _,by cases Q;rfl⟩
 .simp only[agh,c1,ap,ab] at hr
  cases hr
  simp only[↓zA,sevalprocAttr,afe,ca,wB,abh,f0,f1,f6,f9,fo,t1,amI,bx]
  exact⟨okN _ _ aC _,by cases Q;rfl⟩
def aLc{l:List Tn}(hl:l.length<LB)(Q:Qy)(i:Nat)(hi:i<=l.length)(r:Qy×Nat×Bool)(hr:adM l Q Q.od i=some r)(s:S)(hS:QS l Q i s) :
  WC Tryz.prog pr (abh 6 (wB Tryz.f40)) s (endQ Tryz.prog false 40 0 (ca l qyE r)):=by
 obtain⟨fr,obs,ck⟩:=s
 obtain⟨f0,f1,⟨c,x,b,hc,f6⟩,f9,fo⟩:=hS
 dsimp only at f0 f1 hc f6 f9 fo
 have hz0:(c=ck)=False:=aj aC
 have hz1:∀ n,(c=ck+n)=False:=λn=>aj aC
 have hz2:∀ n m,(c=ck+n+m)=False:=λn m=>aj aC
 have hw1:=aW i (by unfold LB at hl;omega)
 have hw2:IntKind.i64.wrap ((i:Int)+2)=((i+2:Nat):Int):=by rw[cj _ aC (by unfold LB at hl;omega)];rfl
 rcases gW l i [108,105,109,105,116] hl with ⟨c1,b1,t1⟩|⟨c1,t1⟩
 .rcases gK3 l (i+1) hl with ⟨c2,b2,t2⟩|⟨c2,t2⟩
  .have gx:=gL (l:=l) (i:=i+1) aC
   simp only[adM,c1,c2,ah] at hr
   refine WC.parts 1 (K:=QS l (Q.endQ Q.od (nuT l (i+1)) Q.sk) (i+2)) ?_ λs' h=>by
    show WC _ _ (abh 7 (wB Tryz.f40)) _ _
    exact aLb hl _ _ aC r (by cases Q;exact hr) s' h
   simp only[↓zA,sevalprocAttr,afe,wB,frontC,abh,eG,abx,f0,f1,f9,fo,t1,t2,gx,hw1,hw2]
   refine⟨f0,rfl,⟨c,x,b,eN (eN (eN (eN hc))),f6⟩,f9,?_⟩
   rw[abA]
   rfl
  .simp only[adM,c1,c2,ah,ap,ab] at hr
   cases hr
   refine WC.parts 1 (K:=λ_=>False) ?_ λ_ h=>h.elim
   simp only[↓zA,sevalprocAttr,afe,ca,wB,frontC,abh,eG,abx,f0,f1,f6,f9,fo,t1,t2,hw1,aul,acD,ce]
   exact⟨okN _ _ aC _,by cases Q;rfl⟩
 .simp only[adM,c1,ap,ab] at hr
  refine WC.parts 1 (K:=QS l Q i) ?_ λs' h=>by
   show WC _ _ (abh 7 (wB Tryz.f40)) _ _
   exact aLb hl _ _ hi r hr s' h
  simp only[↓zA,sevalprocAttr,afe,wB,frontC,abh,eG,abx,f0,f1,fo,t1]
  exact⟨f0,f1,⟨c,x,b,eN hc,f6⟩,f9,rfl⟩
def aLa{l:List Tn}(hl:l.length<LB)(Q:Qy)(i:Nat)(hi:i<=l.length)(r:Qy×Nat×Bool)(hr:(if isT l i [111,114,100,101,114] then (aii l (i+1)).on (λ_=>Q) λo m=>adM l Q o m else adM l Q Q.od i)=some r)(s:S)(hS:QS l Q i s) :
  WC Tryz.prog pr (abh 5 (wB Tryz.f40)) s (endQ Tryz.prog false 40 0 (ca l qyE r)):=by
 obtain⟨fr,obs,ck⟩:=s
 obtain⟨f0,f1,⟨c,x,b,hc,f6⟩,f9,fo⟩:=hS
 dsimp only at f0 f1 hc f6 f9 fo
 have hz0:(c=ck)=False:=aj aC
 have hz1:∀ n,(c=ck+n)=False:=λn=>aj aC
 have hz2:∀ n m,(c=ck+n+m)=False:=λn m=>aj aC
 have hw1:=aW i (by unfold LB at hl;omega)
 rcases gW l i [111,114,100,101,114] hl with ⟨c1,b1,t1⟩|⟨c1,t1⟩
 .rcases gR (aii l (i+1)) λ_=>ar0 hl _ _ aC with e7|⟨a7,j7,e7,⟨u7,v7⟩,k7⟩|⟨a7,j7,e7,⟨u7,v7⟩,k7⟩
  .simp only[c1,e7,ah,Rz.on] at hr
   cases hr
  .simp only[c1,e7,ah,Rz.on] at hr
   cases hr
   refine WC.parts 1 (K:=λ_=>False) ?_ λ_ h=>h.elim
   simp only[↓zA,sevalprocAttr,afe,ca,wB,frontC,abh,eG,abx,f0,f1,f6,f9,fo,t1,k7,hw1,aum,cR,ce]
   exact okN _ _ aC _
  .simp only[c1,e7,ah,Rz.on] at hr
   refine WC.parts 1 (K:=QS l (Q.endQ a7 Q.li Q.sk) j7) ?_ λs' h=>by
    show WC _ _ (abh 6 (wB Tryz.f40)) _ _
    exact aLc hl _ _ aC r (by cases Q;exact hr) s' h
   simp only[↓zA,sevalprocAttr,afe,wB,frontC,abh,eG,abx,f0,f1,f9,fo,t1,k7,hw1]
   exact⟨f0,rfl,⟨c,x,b,eN (eN (eN (eN (eN hc)))),f6⟩,f9,rfl⟩
 .simp only[c1,ap,ab] at hr
  refine WC.parts 1 (K:=QS l Q i) ?_ λs' h=>by
   show WC _ _ (abh 6 (wB Tryz.f40)) _ _
   exact aLc hl _ _ hi r hr s' h
  simp only[↓zA,sevalprocAttr,afe,wB,frontC,abh,eG,abx,f0,f1,fo,t1]
  exact⟨f0,f1,⟨c,x,b,eN hc,f6⟩,f9,rfl⟩
def aLd{l:List Tn}{F:Fs}(hl:l.length<LB)(H:PD l F)(i:Nat)(p:List Qy)(pc:C)(r:Qy×Nat×Bool)(hi:i<=l.length)(hu:∀ r,ajC F l i p=some r->GD 82 [tkX l,au i,.of pc,au 0] l qyE i r)(hr:adV F l i p=some r):GD 40 [tkX l,au i,.of pc] l qyE i r:=by
 refine⟨Pl.at (akv H.fp hi) hr,?_⟩
 refine bB aSv ?_
 show WC _ _ (wB Tryz.f40) _ _
 rcases gR (ajC F l i p) hu with e1|⟨a1,j1,e1,⟨u1,v1⟩,k1⟩|⟨a1,j1,e1,⟨u1,v1⟩,k1⟩
 .simp only[adV,e1,Rz.on] at hr
  cases hr
 .simp only[adV,e1,Rz.on] at hr
  cases hr
  refine WC.parts 5 (K:=λ_=>False) ?_ λ_ h=>h.elim
  simp only[↓zA,sevalprocAttr,afe,ca,wB,frontC,eG,abx,k1,aun,cR,ce,id]
 have hz:∀ b,bF l j1 [[111,114,100,101,114],[108,105,109,105,116],[111,102,102,115,101,116]]=b->_:=λb=>dO3 l j1 [111,114,100,101,114] [108,105,109,105,116] [111,102,102,115,101,116] hl aC
 have hq1:((0:Int)<(a1.od.length:Int))=(0<a1.od.length):=aK 0 _
 cases hb:bF l j1 [[111,114,100,101,114],[108,105,109,105,116],[111,102,102,115,101,116]] with
 | true =>
  have z:=hz true hb
  have hm:adC l j1=2:=aA (by have:=aPu hb;omega)
  simp only[adV,e1,hb,Rz.on,ff] at hr
  rcases eP (0<a1.od.length) with ⟨c4,d4⟩|⟨c4,d4⟩
  .simp only[akX,eu,cf,dv,ah,d4] at hr
   cases hr
   refine WC.parts 5 (K:=λ_=>False) ?_ λ_ h=>h.elim
   simp only[↓zA,sevalprocAttr,afe,ca,wB,frontC,eG,abx,k1,z,zBS,hq1,d4,aiT,ce,hm]
  rcases bk (a1.li=-1) with d5|d5
  .rcases eP (0<a1.sk) with ⟨c6,d6⟩|⟨c6,d6⟩
   .simp only[akX,eu,ef,aY,dv,fP,ah,d4,d5,d6] at hr
    cases hr
    refine WC.parts 5 (K:=λ_=>False) ?_ λ_ h=>h.elim
    simp only[↓zA,sevalprocAttr,afe,ca,wB,frontC,eG,abx,k1,z,zBS,hq1,d4,d5,d6,aiT,ce,hm]
   .simp only[akX,ef,aH,dv,fP,ap,ab,d4,d5,d6] at hr
    refine WC.parts 5 (K:=QS l a1 j1) ?_ λs' h=>by
     show WC _ _ (abh 5 (wB Tryz.f40)) _ _
     exact aLa hl _ _ aC r hr s' h
    simp only[↓zA,sevalprocAttr,afe,ca,wB,frontC,eG,abx,k1,zBS,hq1,d4,d5,d6]
    exact⟨rfl,rfl,⟨1,0,0,cP rfl,rfl⟩,rfl,rfl⟩
  .simp only[akX,eu,ef,aY,cf,dv,aak,ah,d4,d5] at hr
   cases hr
   refine WC.parts 5 (K:=λ_=>False) ?_ λ_ h=>h.elim
   simp only[↓zA,sevalprocAttr,afe,ca,wB,frontC,eG,abx,k1,z,zBS,hq1,d4,d5,aiT,ce,hm]
 | false =>
  have z:=hz false hb
  simp only[adV,e1,hb,Rz.on,cy,ab,ap] at hr
  refine WC.parts 5 (K:=QS l a1 j1) ?_ λs' h=>by
   show WC _ _ (abh 5 (wB Tryz.f40)) _ _
   exact aLa hl _ _ aC r hr s' h
  rcases eP (0<a1.od.length) with ⟨c4,d4⟩|⟨c4,d4⟩
  .simp only[↓zA,sevalprocAttr,afe,ca,wB,frontC,eG,abx,k1,z,zBS,hq1,d4]
   exact⟨rfl,rfl,⟨1,0,0,cP rfl,rfl⟩,rfl,rfl⟩
  rcases bk (a1.li=-1) with d5|d5
  .rcases eP (0<a1.sk) with ⟨c6,d6⟩|⟨c6,d6⟩
   .simp only[↓zA,sevalprocAttr,afe,ca,wB,frontC,eG,abx,k1,z,zBS,hq1,d4,d5,d6]
    exact⟨rfl,rfl,⟨1,0,0,cP rfl,rfl⟩,rfl,rfl⟩
   .simp only[↓zA,sevalprocAttr,afe,ca,wB,frontC,eG,abx,k1,zBS,hq1,d4,d5,d6]
    exact⟨rfl,rfl,⟨1,0,0,cP rfl,rfl⟩,rfl,rfl⟩
  .simp only[↓zA,sevalprocAttr,afe,ca,wB,frontC,eG,abx,k1,z,zBS,hq1,d4,d5]
   exact⟨rfl,rfl,⟨1,0,0,cP rfl,rfl⟩,rfl,rfl⟩
def aua{l:List Tn}{F:Fs}(hl:l.length<LB)(H:PD l F)(i:Nat)(r:Qy×Nat×Bool)(hi:i<=l.length)(hr:adV F l i []=some r):GD 40 [tkX l,au i,abs] l qyE i r :=
 aLd hl H i [] _ r hi (λ_=>aEs hl (aaq F l) (λi r h1 h2=>aiS hl H _ _ h1 h2) i [] (.sl [] 0) _ hi (λr h=>aiS hl H _ _ hi h)) hr
def arZ{l:List Tn}{F:Fs}(hl:l.length<LB)(H:PD l F)(i:Nat)(x:Qy)(cs:List C)(hx:cs=qyC x)(r:Qy×Nat×Bool)(hi:i<=l.length)(hr:adV F l i [x]=some r):GD 40 [tkX l,au i,.of (.sl cs 1)] l qyE i r :=
 aLd hl H i [x] _ r hi (λ_=>aEs hl (aaq F l) (λi r h1 h2=>aiS hl H _ _ h1 h2) i [x] (.sl cs 1) _ hi (λr h=>ar1 hl H _ x cs hx _ hi h)) hr
def aTH:=ai (ib @zq @aVB @aVA @afk @anR @anQ @ahf @ahc @ahe) (hZ @ahb @ahd @aha @ag9 @ag8 @cW @zT0 (kf aLI))
def aku{l:List Tn}{F:Fs}(hl:l.length<LB)(H:PD l F)(i:Nat)(r:Th×Nat×Bool)(hi:i<=l.length)(h1:i+1<=l.length)(hr:ahL F l i=some r):GD 327 [tkX l,au i] l thE i r:=by
 refine⟨Pl.at (ap5 H.fp h1) hr,?_⟩
 have hw_i:IntKind.i64.wrap (((i:Nat):Int)+1)=((i+1:Nat):Int):=aW (i) (by unfold LB at hl;omega)
 rcases gR (F.so (i+1)) λ_=>H.so _ _ aC with e1|⟨a1,j1,e1,⟨u1,v1⟩,k1⟩|⟨a1,j1,e1,⟨u1,v1⟩,k1⟩
 rotate_left 2
 have hw_j1:IntKind.i64.wrap (((j1:Nat):Int)+1)=((j1+1:Nat):Int):=aW (j1) (by unfold LB at hl;omega)
 rcases gW l (j1) [41] hl with ⟨c2,b2,t2⟩|⟨c2,t2⟩
 rotate_left 2
 all_goals (simp only[ahL,zRZ,sevalprocAttr,↓reduceIte, *] at hr <;> cases hr <;> (refine bB aLI ?_;simp only[Tryz.f327,↓zA,sevalprocAttr,aTH,ca,cR,bx,ce,aQ,aZ,bi,bG,ahP, *];all_goals exact fz))
def aKl:=ai (hJ @Tryz.f328.eq_1 @zq @aVI @aVH @bi) (hJ @bG @cW @dm @zT0 (kf aCr))
def ale{l:List Tn}(hl:l.length<LB)(q:Qy)(i:Nat)(r:Fm×Nat×Bool)(hi:i<=l.length)(hr:acn l i q=some r):GD 328 [tkX l,au i,qyE q] l fmE i r:=by
 refine⟨Pl.at (amx hi) hr,?_⟩
 have da:=dA l i hl hi
 rcases ea:fq l i with ⟨s,j,b⟩
 rw[ea] at da
 dsimp only at da
 have hs:(aM s=({data:=#[]}:ByteArray))=(s=[]):=cQ s []
 cases b with
 | true =>
  simp only[acn,bJ,zRZ,sevalprocAttr,↓reduceIte, *] at hr
  cases hr
  refine bB aCr ?_
  simp only[↓zA,sevalprocAttr,aKl,ca,cR,ce,aQ,bi,bG, *]
  all_goals exact fz
 | false =>
  rcases bk (s=[]) with d1|d1
  rotate_left 2
  all_goals (simp only[acn,ct,zRZ,sevalprocAttr,↓reduceIte, *] at hr <;> cases hr <;> (refine bB aCr ?_;simp only[↓zA,sevalprocAttr,aKl,ca,acD,bx,ce,aQ,bi,bG, *];all_goals exact fz))
def aTI:=hC (hU @zq @aVG @aVF @bi @bG @afk @anR) (hU @anQ @ahf @ahc @ahe @ahb @ahd @aha) (hU @ag9 @ag8 @cW @P4 @Q4 @zT0 (kf aLK))
def aoX{l:List Tn}{F:Fs}(hl:l.length<LB)(H:PD l F)(i:Nat)(r:Fm×Nat×Bool)(hi:i<=l.length)(hr:ad6 F l i=some r):GD 320 [tkX l,au i] l fmE i r:=by
 refine⟨Pl.at (aok H.fp hi) hr,?_⟩
 have hw_i:IntKind.i64.wrap (((i:Nat):Int)+1)=((i+1:Nat):Int):=aW (i) (by unfold LB at hl;omega)
 rcases gWX l (i) [40] hl with ⟨c1,b1,t1,x1⟩|⟨c1,t1⟩
 rcases gR (ahL F l i) λ_=>aku hl H _ _ aC aC with e2|⟨a2,j2,e2,⟨u2,v2⟩,k2⟩|⟨a2,j2,e2,⟨u2,v2⟩,k2⟩
 rotate_left 2
 rcases c3:a2.q with _|_
 rotate_left
 rcases gR (acn l j2 a2.y) λ_=>ale hl _ _ _ aC with e4|⟨a4,j4,e4,⟨u4,v4⟩,k4⟩|⟨a4,j4,e4,⟨u4,v4⟩,k4⟩
 rotate_left 3
 rcases aCj l (i) hl with ⟨c5,b5,t5,x5⟩|⟨c5,t5⟩
 have gx:=gL (l:=l) (i:=i) aC
 have dn:=dN l i hl aC
 have da:=dA l (i+1) hl aC
 rotate_left
 have dn:=dN l i hl aC
 rotate_left
 all_goals (simp only[ad6,aot,eZ,zRZ,sevalprocAttr,↓reduceIte, *] at hr <;> cases hr <;> (refine bB aLK ?_;simp only[Tryz.f320,↓zA,sevalprocAttr,aTI,ca,cR,bx,ce,aQ,bi,bG,ahP,eZ, *];all_goals exact fz))
def aqb:=hU @Tryz.f321.eq_1 @zq @cW @cO @Q9 @zT0 (kf aLJ)
def at7(l:List Tn)(i:Nat)(ws:List (List UInt8))(hl:l.length<LB)(hi:i<=l.length)(hn:ws.length<=64):GN 321 [tkX l,au i,.of (slC cM ws)] [au (dU l i ws).1,au (adz l (dU l i ws).1 (dU l i ws).2)]:=by
 refine bB aLJ ?_
 simp only[↓zA,sevalprocAttr,aqb]
 refine ew ws.length (λk s=>∃ j:Nat,s.fr 0=tkX l/\s.fr 1=au j/\s.fr 2=.of (slC cM ws)/\s.fr 8=au k/\s.objs=[]/\j<=l.length/\dU l i ws=dU l j (ws.drop k)) ?_ ?_
 .simp only[↓zA,sevalprocAttr,aqb]
  exact⟨i,rfl,hi,rfl⟩
 rintro k ⟨frk,obk,ckk⟩ hk ⟨j,f0,f1,f2,f8,fo,hj,E⟩
 dsimp only at f0 f1 f2 f8 fo
 rcases av k ws.length with dk|dk
 .have hw:=aW k aC
  have gx:=bu dk
  rw[bI dk] at E
  simp only[dU] at E
  generalize ws[k]=x at *
  have kt:=λK=>aF.k (ajL l j x aC) K
  cases hc:isT l j x with
  | true =>
   rw[hc,aE rfl] at kt
   rw[hc,aE rfl] at E
   simp only[↓zA,sevalprocAttr,aqb,f0,f1,f2,f8,fo,aK,dk,gx,hw,kt]
   exact⟨j+1,rfl,aa5 hc,E⟩
  | false =>
   rw[hc,aA aI] at kt
   rw[hc,aA aI] at E
   rw[E]
   simp only[↓zA,sevalprocAttr,aqb,f0,f1,f2,f8,fo,aK,dk,gx,kt,cR,ce]
   try rfl
 have ek:k=ws.length:=by omega
 subst ek
 rw[bf] at E
 simp only[dU] at E
 rw[E]
 simp only[↓zA,sevalprocAttr,aqb,f1,f2,f8,fo,aK,bg,bx]
 try rfl
abbrev aZb(a:Fm):List X:=[.of (ci a.kd),.of (aJ (aM a.nm)),.of (aJ (aM a.az)),.of (slC qyC a.sb),.of (slC fmC a.ks),.of (slC xpC a.on)]
abbrev aZc:List X:=[.of (ci 0),.of (aJ {data:=#[]}),.of (aJ {data:=#[]}),.nil,.nil,.nil]
abbrev axd(r:Nat)(k:Int)(b c:Fm)(o:X):List X:=[.of (ci k),.of (aJ {data:=#[]}),.of (aJ {data:=#[]}),.nil,.own (.cell r 4) 140 6 (fl fmC [b,c]) 2,o]
def FmD(r:Nat)(K:List X)(f:Fm):Prop:=K=aZb f\/(∃ k b c,f=.mk k [] [] [] [b,c] []/\K=axd r k b c .nil)\/∃ k b c y,f=.mk k [] [] [] [b,c] [y]/\K=axd r k b c (.of (slC xpC [y]))
def awI:mtF "ref.go:622" (some 6)=false:=by decide
def awH:mtF "ref.go:626" (some 6)=false:=by decide
def awG:mtF "ref.go:630" (some 6)=false:=by decide
def awF:mtF "ref.go:635" (some 6)=false:=by decide
def awE:mtF "ref.go:643" (some 6)=false:=by decide
structure JS (l:List Tn) (q:Fm) (j:Nat) (b:Bool) (s:S):Prop where
 f0:s.fr 0=tkX l
 f1:s.fr 1=au j
 f6:s.fr 6=.nw (some (.nm 1 0 0)) 140 6
 f9:s.fr 9=.ptr 0 0
 f10:s.fr 10=au (adz l j b)
 fc:1<s.clk
 fo:∃ K J,FmD 0 K q/\s.objs=.var 140 K::J
structure JM (l:List Tn) (q:Fm) (j:Nat) (k:Int) (ws:List (List UInt8)) (s:S):Prop where
 f0:s.fr 0=tkX l
 f1:s.fr 1=au j
 f6:s.fr 6=.nw (some (.nm 1 0 0)) 140 6
 f9:s.fr 9=.ptr 0 0
 f11:s.fr 11=au k
 f12:∃ c x i,c<s.clk/\s.fr 12=.own (.nm c x i) 9 1 (fl cM ws) ws.length
 fc:1<s.clk
 fo:∃ K J,FmD 0 K q/\s.objs=.var 140 K::J
def aee:=ai (hU @Tryz.f314.eq_1 @zq @aVN @aVM @aVL @aVJ @aYK) (hM @bG @cW @gH @cO @zT0 (kf aCw))
def aFu{l:List Tn}{F:Fs}(hl:l.length<LB)(H:PD l F)(r:Fm×Nat×Bool)(q:Fm)(j:Nat)(b:Bool)(hj:j<=l.length)(E:if b=true then r=(q,j,true) else acw F l (l.length+1) q j=some r)(s:S)(hS:JS l q j b s) :
  WC Tryz.prog pr (abh 4 (wB Tryz.f314)) s (endQ Tryz.prog false 314 0 (ca l fmE r)):=by
 simp only[↓zA,sevalprocAttr,aee,wB,abh]
 refine eT _ _ (λn s=>∃ (q:Fm) (j:Nat) (b:Bool) (K:List X) (J:List Ob),s.fr 0=tkX l/\s.fr 1=au j/\s.fr 6=.nw (some (.nm 1 0 0)) 140 6/\s.fr 9=.ptr 0 0/\s.fr 10=au (adz l j b)/\1<s.clk/\FmD 0 K q/\s.objs=.var 140 K::J/\(if b=true then r=(q,j,true) else acw F l n q j=some r)/\j<=l.length) ?_ (l.length+1) _ ?_
 rotate_left
 .obtain⟨f0,f1,f6,f9,f10,fc,K,J,hK,fo⟩:=hS
  exact⟨q,j,b,K,J,f0,f1,f6,f9,f10,fc,hK,fo,E,hj⟩
 clear hS E hj q j b s
 rintro n ⟨frn,obn,ckn⟩ ⟨q,j,b,K,J,f0,f1,f6,f9,f10,fc,hK,fo,E,hj⟩
 dsimp only at f0 f1 f6 f9 f10 fc fo
 have hz0:(1=ckn)=False:=aj aC
 have hz1:∀ n,(1=ckn+n)=False:=λn=>aj aC
 have hz2:∀ n m,(1=ckn+n+m)=False:=λn m=>aj aC
 cases b with
 | true =>
  simp only[ah] at E
  subst E
  rcases hK with hK|⟨k',b',c',hq,hK⟩|⟨k',b',c',y',hq,hK⟩ <;> try subst hq
  all_goals
   subst hK
   simp only[↓zA,sevalprocAttr,aee,ca,f1,f6,f9,f10,fo,awE,cR,ce,aQ,bG]
   first|exact okN _ _ aC _|(refine⟨okN _ _ aC _,?_⟩;all_goals exact fz)
 | false =>
 simp only[ab,ap] at E
 cases n with
 | zero=>cases E
 | succ n =>
 refine WC.parts 1 (K:=λs=>s.fr 0=tkX l/\s.fr 1=au j/\s.fr 6=.nw (some (.nm 1 0 0)) 140 6/\s.fr 9=.ptr 0 0/\1<s.clk/\s.objs=.var 140 K::J) ?_ ?_
 .simp only[↓zA,sevalprocAttr,aee,frontC,eG,f0,f1,f6,f9,f10,fo,bx,bG]
  omega
 clear fo f0 f1 f6 f9 f10 fc hz0 hz1 hz2
 rintro⟨frn,obn,ckn⟩ ⟨f0,f1,f6,f9,fc,fo⟩
 dsimp only at f0 f1 f6 f9 fc fo
 simp only[abh]
 refine (Zt ..).2 ?_
 refine WC.parts 3 (K:=λs=>∃ k ws,ac9 l j=(if k=0 then none else some (k,ws))/\ws.length<=64/\JM l q j k ws s) ?_ ?_
 .rcases gWX l j [99,114,111,115,115] hl with ⟨c1,b1,t1,x1⟩|⟨c1,t1⟩
  .simp only[↓zA,sevalprocAttr,aee,frontC,eG,zBS,aQ,bG, *]
   exact⟨3,[[99,114,111,115,115],[106,111,105,110]],by simp[ac9, *],cP rfl,f0,f1,f6,f9,rfl,by refine⟨_,0,0,?_,rfl⟩;first|(show _<ckn+4;omega)|(show _<ckn+5;omega)|(show _<ckn+6;omega)|(show _<ckn+7;omega)|(show _<ckn+3;omega),by first|(show _<ckn+4;omega)|(show _<ckn+5;omega)|(show _<ckn+6;omega)|(show _<ckn+7;omega)|(show _<ckn+3;omega),K,J,hK,rfl⟩
  rcases gWX l j [105,110,110,101,114] hl with ⟨c2,b2,t2,x2⟩|⟨c2,t2⟩
  .simp only[↓zA,sevalprocAttr,aee,frontC,eG,zBS,aQ,bG, *]
   exact⟨4,[[105,110,110,101,114],[106,111,105,110]],by simp[ac9, *],cP rfl,f0,f1,f6,f9,rfl,by refine⟨_,0,0,?_,rfl⟩;first|(show _<ckn+4;omega)|(show _<ckn+5;omega)|(show _<ckn+6;omega)|(show _<ckn+7;omega)|(show _<ckn+3;omega),by first|(show _<ckn+4;omega)|(show _<ckn+5;omega)|(show _<ckn+6;omega)|(show _<ckn+7;omega)|(show _<ckn+3;omega),K,J,hK,rfl⟩
  rcases gWX l j [108,101,102,116] hl with ⟨c3,b3,t3,x3⟩|⟨c3,t3⟩
  .simp only[↓zA,sevalprocAttr,aee,frontC,eG,zBS,aQ,bG, *]
   exact⟨5,[[108,101,102,116],[106,111,105,110]],by simp[ac9, *],cP rfl,f0,f1,f6,f9,rfl,by refine⟨_,0,0,?_,rfl⟩;first|(show _<ckn+4;omega)|(show _<ckn+5;omega)|(show _<ckn+6;omega)|(show _<ckn+7;omega)|(show _<ckn+3;omega),by first|(show _<ckn+4;omega)|(show _<ckn+5;omega)|(show _<ckn+6;omega)|(show _<ckn+7;omega)|(show _<ckn+3;omega),K,J,hK,rfl⟩
  rcases gWX l j [106,111,105,110] hl with ⟨c4,b4,t4,x4⟩|⟨c4,t4⟩
  .simp only[↓zA,sevalprocAttr,aee,frontC,eG,zBS,aQ,bG, *]
   exact⟨4,[[106,111,105,110]],by simp[ac9, *],cP rfl,f0,f1,f6,f9,rfl,by refine⟨_,0,0,?_,rfl⟩;first|(show _<ckn+4;omega)|(show _<ckn+5;omega)|(show _<ckn+6;omega)|(show _<ckn+7;omega)|(show _<ckn+3;omega),by first|(show _<ckn+4;omega)|(show _<ckn+5;omega)|(show _<ckn+6;omega)|(show _<ckn+7;omega)|(show _<ckn+3;omega),K,J,hK,rfl⟩
  .simp only[↓zA,sevalprocAttr,aee,frontC,eG,zBS,aQ,bG, *]
   exact⟨0,[[106,111,105,110]],by simp[ac9, *],cP rfl,f0,f1,f6,f9,rfl,by refine⟨_,0,0,?_,rfl⟩;first|(show _<ckn+4;omega)|(show _<ckn+5;omega)|(show _<ckn+6;omega)|(show _<ckn+7;omega)|(show _<ckn+3;omega),by first|(show _<ckn+4;omega)|(show _<ckn+5;omega)|(show _<ckn+6;omega)|(show _<ckn+7;omega)|(show _<ckn+3;omega),K,J,hK,rfl⟩
 clear fo f0 f1 f6 f9 fc hK K J
 rintro⟨frn,obn,ckn⟩ ⟨k,ws,hk,hn,⟨f0,f1,f6,f9,f11,⟨c,x,i,hc,f12⟩,fc,K,J,hK,fo⟩⟩
 dsimp only at f0 f1 f6 f9 f11 f12 hc fc fo
 have hz0:(1=ckn)=False:=aj aC
 have hz1:∀ n,(1=ckn+n)=False:=λn=>aj aC
 have hz2:∀ n m,(1=ckn+n+m)=False:=λn m=>aj aC
 have hz3:(c=ckn)=False:=aj aC
 have hz4:∀ n,(c=ckn+n)=False:=λn=>aj aC
 have hz5:∀ n m,(c=ckn+n+m)=False:=λn m=>aj aC
 simp only[abh]
 simp only[acw,hk] at E
 rcases bk (k=0) with d0|d0
 .simp only[d0,ah] at E
  cases E
  rcases hK with hK|⟨k',b',c',hq,hK⟩|⟨k',b',c',y',hq,hK⟩ <;> try subst hq
  all_goals
   subst hK
   simp only[↓zA,sevalprocAttr,aee,ca,f1,f6,f9,f11,fo,d0,awI,bx,aQ,bG]
   first|exact okN _ _ aC _|(refine⟨okN _ _ aC _,?_⟩;all_goals exact fz)
 have kw:∀ K,cKp 321 [tkX l,au j,.of (slC cM ws)] [] K↔K ⟨false,[au (dU l j ws).1,au (adz l (dU l j ws).1 (dU l j ws).2)],[]⟩:=λK=>aF.k (at7 l j ws hl hj hn) K
 have pw:=amT ws hj
 simp only[d0,ap] at E
 generalize dU l j ws=p at E kw pw
 obtain⟨m,b⟩:=p
 cases b with
 | true =>
  cases E
  rcases hK with hK|⟨k',b',c',hq,hK⟩|⟨k',b',c',y',hq,hK⟩ <;> try subst hq
  all_goals
   subst hK
   simp only[↓zA,sevalprocAttr,aee,ca,f0,f1,f6,f9,f11,f12,fo,d0,kw,awH,cR,ce,aQ,aZ,bG]
   first|exact okN _ _ aC _|(refine⟨okN _ _ aC _,?_⟩;all_goals exact fz)
 | false =>
  simp only[wantR] at E
  dsimp only at pw kw
  rcases gR (ad6 F l m) λr=>aoX hl H _ r aC with e2|⟨a2,j2,e2,⟨u2,v2⟩,k2⟩|⟨a2,j2,e2,⟨u2,v2⟩,k2⟩ <;> simp only[e2,Rz.on] at E
  .cases E
  .cases E
   rcases hK with hK|⟨k',b',c',hq,hK⟩|⟨k',b',c',y',hq,hK⟩ <;> try subst hq
   all_goals
    subst hK
    simp only[↓zA,sevalprocAttr,aee,ca,f0,f1,f6,f9,f11,f12,fo,d0,kw,hz2,k2,awG,cR,bx,ce,aQ,aZ,bG]
    first|exact okN _ _ aC _|(refine⟨okN _ _ aC _,?_⟩;all_goals exact fz)
  rcases bk (k=3) with d3|d3 <;> simp only[d3,ah,ap] at E
  .rcases hK with hK|⟨k',b',c',hq,hK⟩|⟨k',b',c',y',hq,hK⟩ <;> try subst hq
   all_goals
    subst hK
    simp only[↓zA,sevalprocAttr,aee,f0,f1,f6,f9,f11,f12,fo,d0,kw,hz2,k2,d3,bx,zBS,aQ,aZ,bG]
    refine⟨n,aD n,.mk k [] [] [] [_,a2] [],j2,false,_,_,rfl,rfl,by omega,.inr (.inl ⟨k,_,_,rfl,?_⟩),rfl,E,v2⟩
    simp only[axd,zMk,fZ,eA,fJ,aba,ch,slC,aaW,aU]
    try rfl
  rcases gW l j2 [111,110] hl with ⟨c1,b1,t1⟩|⟨c1,t1⟩
  rotate_left
  .simp only[c1,ab,ap] at E
   cases E
   rcases hK with hK|⟨k',b',c',hq,hK⟩|⟨k',b',c',y',hq,hK⟩ <;> try subst hq
   all_goals
    subst hK
    simp only[↓zA,sevalprocAttr,aee,ca,f0,f1,f6,f9,f11,f12,fo,d0,kw,hz2,k2,d3,t1,awF,acD,bx,ce,zBS,aQ,aZ,bG]
    first|exact okN _ _ aC _|(refine⟨okN _ _ aC _,?_⟩;all_goals exact fz)
  simp only[c1,ah] at E
  have X:∃ y p b,p<=l.length/\(if b=true then r=(.mk k [] [] [] [q,a2] [y],p,true) else acw F l n (.mk k [] [] [] [q,a2] [y]) p=some r)/\∀ K,cKp 101 [tkX l,au j2,.of (.lit (.string (ByteArray.mk (List.toArray [111,110]))))] [] K↔K ⟨false,[xsE [y],au p,au (adz l p b)],[]⟩:=by
   have g:=λr=>cL hl H [111,110] j2 r v2
   simp only[eC,c1,ah] at g
   cases e:F.or (j2+1) [] with
   | none=>rw[e] at E;cases E
   | some p =>
    obtain⟨y,p,b⟩:=p
    rw[e] at E g
    have g:=g _ rfl
    cases b with
    | true=>cases E;exact⟨y,p,true,g.1.2,rfl,g.bad⟩
    | false=>exact⟨y,p,false,g.1.2,E,g.ok⟩
  clear E
  obtain⟨y,p,b,v3,E,k3⟩:=X
  rcases hK with hK|⟨k',b',c',hq,hK⟩|⟨k',b',c',y',hq,hK⟩ <;> try subst hq
  all_goals
   subst hK
   simp only[↓zA,sevalprocAttr,aee,f0,f1,f6,f9,f11,f12,fo,d0,kw,hz2,k2,d3,t1,k3,bx,zBS,aQ,aZ,bG]
   refine⟨n,aD n,.mk k [] [] [] [_,a2] [y],p,b,_,_,rfl,rfl,by omega,.inr (.inr ⟨k,_,_,y,rfl,?_⟩),rfl,E,v3⟩
   simp only[axd,zMk,fZ,eA,fJ,aba,ch,slC,aaW,aU]
   try rfl
def ajN{l:List Tn}{F:Fs}(hl:l.length<LB)(H:PD l F)(i:Nat)(r:Fm×Nat×Bool)(hi:i<=l.length)(hr:acO F l i []=some r):GD 314 [tkX l,au i,abs] l fmE i r:=by
 refine⟨Pl.at (aid H.fp hi) hr,?_⟩
 refine bB aCw ?_
 show WC _ _ (wB Tryz.f314) _ _
 have X:∃ a j b,j<=l.length/\(if b=true then r=(a,j,true) else acw F l (l.length+1) a j=some r)/\∀ K,cKp 320 [tkX l,au i] [] K↔K ⟨false,[fmE a,au j,au (adz l j b)],[]⟩:=by
  unfold acO at hr
  rcases gR (ad6 F l i) λr=>aoX hl H _ r hi with e|⟨a,j,e,⟨_,v⟩,k⟩|⟨a,j,e,⟨_,v⟩,k⟩ <;> rw[e] at hr
  .cases hr
  .cases hr
   exact⟨a,j,true,v,rfl,k⟩
  .exact⟨a,j,false,v,hr,k⟩
 obtain⟨a,j,b,v,E,k⟩:=X
 refine WC.parts 4 (K:=JS l a j b) ?_ (aFu hl H r a j b v E)
 simp only[↓zA,sevalprocAttr,aee,wB,frontC,eG,k,aQ,bG]
 exact⟨rfl,rfl,rfl,rfl,rfl,cP rfl,_,[],.inl rfl,rfl⟩
def aue{l:List Tn}{F:Fs}(hl:l.length<LB)(H:PD l F)(i:Nat)(x:Fm)(cs:List C)(hx:cs=fmC x)(r:Fm×Nat×Bool)(hi:i<=l.length)(hr:acO F l i [x]=some r):GD 314 [tkX l,au i,.of (.sl cs 1)] l fmE i r:=by
 refine⟨Pl.at (aid H.fp hi) hr,?_⟩
 subst hx
 rw[aba]
 refine bB aCw ?_
 show WC _ _ (wB Tryz.f314) _ _
 refine WC.parts 4 (K:=JS l x i false) ?_ (aFu hl H r x i false hi hr)
 simp only[↓zA,sevalprocAttr,aee,wB,frontC,eG,bG]
 exact⟨rfl,rfl,rfl,rfl,rfl,cP rfl,_,[],.inl rfl,rfl⟩
def aqc:=ai (hJ @Tryz.f299.eq_1 @zq @aVR @aVQ @aVP) (hJ @bG @cW @gH @zT0 (kf aLT))
def aoY{l:List Tn}{F:Fs}(hl:l.length<LB)(H:PD l F)(N:∀ i r,i<=l.length->acO F l i []=some r->GD 314 [tkX l,au i,abs] l fmE i r)(i:Nat)(p:List Fm)(pc:C)(r:Fm×Nat×Bool)(hi:i<=l.length)
  (Np:∀ r,acO F l i p=some r->GD 314 [tkX l,au i,.of pc] l fmE i r) (hr:ahE F l i p=some r):GD 299 [tkX l,au i,.of pc] l fmE i r:=by
 refine⟨Pl.at (aml H.fp hi) hr,?_⟩
 unfold ahE at hr
 refine bB aLT ?_
 have X:∃ a j b,j<=l.length/\(if b=true then r=(a,j,true) else ad2 F l (l.length+1) a j=some r)/\∀ K,cKp 314 [tkX l,au i,.of pc] [] K↔K ⟨false,[fmE a,au j,au (adz l j b)],[]⟩:=by
  rcases gR (acO F l i p) Np with e|⟨a,j,e,⟨_,v⟩,k⟩|⟨a,j,e,⟨_,v⟩,k⟩ <;> rw[e] at hr
  .cases hr
  .cases hr
   exact⟨a,j,true,v,rfl,k⟩
  .exact⟨a,j,false,v,hr,k⟩
 obtain⟨a,j,b,v,E,k⟩:=X
 simp only[↓zA,sevalprocAttr,aqc,k,aQ,bG]
 refine eT _ _ (λn s=>∃ (q:Fm) (j:Nat) (b:Bool) (K:List X) (J:List Ob),FmD 1 K q/\s.fr 0=tkX l/\s.fr 1=au j/\s.fr 6=.ptr 0 0/\s.fr 9=.ptr 1 0/\s.fr 10=au (adz l j b)/\s.objs=.var 140 aZc::.var 140 K::J/\(if b=true then r=(q,j,true) else ad2 F l n q j=some r)/\j<=l.length) ?_ (l.length+1) _ ?_
 .rintro n ⟨frn,obn,ckn⟩ ⟨q,j,b,K,J,hK,f0,f1,f6,f9,f10,fo,E,hj⟩
  dsimp only at f0 f1 f6 f9 f10 fo
  have hw:=aW j (by unfold LB at hl;omega)
  cases b with
  | true =>
   simp only[ah] at E
   subst E
   rcases hK with hK|⟨k',b',c',hq,hK⟩|⟨k',b',c',y',hq,hK⟩ <;> try subst hq
   all_goals
    subst hK
    simp only[↓zA,sevalprocAttr,aqc,ca,f1,f6,f9,f10,fo,cR,ce,aQ,bG]
    all_goals exact fz
  | false =>
  simp only[ab,ap] at E
  cases n with
  | zero=>cases E
  | succ n =>
  rcases gW l j [44] hl with ⟨c1,b1,t1⟩|⟨c1,t1⟩
  .have X:∃ y m b,m<=l.length/\(if b=true then r=(.mk 3 [] [] [] [q,y] [],m,true) else ad2 F l n (.mk 3 [] [] [] [q,y] []) m=some r)/\∀ K,cKp 314 [tkX l,au (j+1:Nat),abs] [] K↔K ⟨false,[fmE y,au m,au (adz l m b)],[]⟩:=by
    simp only[ad2,c1,ah] at E
    rcases gR (acO F l (j+1) []) λr=>N _ r aC with e|⟨a,m,e,⟨_,v⟩,k⟩|⟨a,m,e,⟨_,v⟩,k⟩ <;> rw[e] at E
    .cases E
    .cases E
     exact⟨a,m,true,v,rfl,k⟩
    .exact⟨a,m,false,v,E,k⟩
   obtain⟨y,m,b,v,E,k⟩:=X
   rcases hK with hK|⟨k',b',c',hq,hK⟩|⟨k',b',c',y',hq,hK⟩ <;> try subst hq
   all_goals
    subst hK
    simp only[↓zA,sevalprocAttr,aqc,f0,f1,f6,f9,f10,fo,t1,k,hw,bx,zBS,aQ,bG]
    refine⟨n,aD n,.mk 3 [] [] [] [_,y] [],m,b,_,_,.inr (.inl ⟨3,_,_,rfl,?_⟩),rfl,rfl,rfl,E,v⟩
    simp only[axd,zMk,fZ,eA,fJ,aba,slC,aaW,aU]
    try rfl
  .simp only[ad2,c1,ab,ap] at E
   cases E
   rcases hK with hK|⟨k',b',c',hq,hK⟩|⟨k',b',c',y',hq,hK⟩ <;> try subst hq
   all_goals
    subst hK
    simp only[↓zA,sevalprocAttr,aqc,ca,f0,f1,f6,f9,f10,fo,t1,bx,aQ,bG]
    all_goals exact fz
 .simp only[↓zA,sevalprocAttr,aqc]
  exact⟨a,j,b,_,[],.inl rfl,rfl,rfl,rfl,E,v⟩
def awc{l:List Tn}{F:Fs}(hl:l.length<LB)(H:PD l F)(i:Nat)(r:Fm×Nat×Bool)(hi:i<=l.length)(hr:ahE F l i []=some r):GD 299 [tkX l,au i,abs] l fmE i r :=
 aoY hl H (λi r=>ajN hl H i r) i [] _ r hi (λr=>ajN hl H i r hi) hr
def auf{l:List Tn}{F:Fs}(hl:l.length<LB)(H:PD l F)(i:Nat)(x:Fm)(cs:List C)(hx:cs=fmC x)(r:Fm×Nat×Bool)(hi:i<=l.length)(hr:ahE F l i [x]=some r):GD 299 [tkX l,au i,.of (.sl cs 1)] l fmE i r :=
 aoY hl H (λi r=>ajN hl H i r) i [x] _ r hi (λr=>aue hl H i x cs hx r hi) hr
def aAU:=hH (hZ @Tryz.f331.eq_1 @zq @aVz @aVy @aVx @aVu @aVt @aVs) (hZ @aVr @bi @bG @afk @anR @anQ @ahf @ahc) (hZ @ahe @ahb @ahd @aha @ag9 @ag8 @cW @dm) (hJ @gH @P4 @Q4 @zT0 (kf auY))
def aqz{l:List Tn}{F:Fs}(hl:l.length<LB)(H:PD l F)(i:Nat)(r:Th×Nat×Bool)(hi:i<=l.length)(hr:adO F l i=some r):GD 331 [tkX l,au i] l thE i r:=by
 refine⟨Pl.at (alP H.fp hi) hr,?_⟩
 have hw_i:IntKind.i64.wrap (((i:Nat):Int)+1)=((i+1:Nat):Int):=aW (i) (by unfold LB at hl;omega)
 rcases gWX l (i) [115,101,108,101,99,116] hl with ⟨c1,b1,t1,x1⟩|⟨c1,t1⟩
 rcases gR (F.qy i []) λ_=>H.qy _ _ aC with e2|⟨a2,j2,e2,⟨u2,v2⟩,k2⟩|⟨a2,j2,e2,⟨u2,v2⟩,k2⟩
 rotate_left 3
 rcases gWX l (i) [40] hl with ⟨c3,b3,t3,x3⟩|⟨c3,t3⟩
 rcases gR (ahL F l i) λ_=>aku hl H _ _ aC aC with e4|⟨a4,j4,e4,⟨u4,v4⟩,k4⟩|⟨a4,j4,e4,⟨u4,v4⟩,k4⟩
 rotate_left 2
 rcases c5:a4.q with _|_
 rcases e6:F.fr j4 [a4.f] with _|⟨a6,j6,_|_⟩
 rotate_left
 obtain⟨⟨u6,v6⟩,k6⟩:=(H.frp _ (a4.f) _ _ rfl aC e6).okA
 have l6:=(H.frp _ (a4.f) _ _ (aba _).symm aC e6).ok
 rotate_left
 obtain⟨⟨u6,v6⟩,k6⟩:=(H.frp _ (a4.f) _ _ rfl aC e6).badA
 have l6:=(H.frp _ (a4.f) _ _ (aba _).symm aC e6).bad
 rotate_left
 have hw_j4:IntKind.i64.wrap (((j4:Nat):Int)+1)=((j4+1:Nat):Int):=aW (j4) (by unfold LB at hl;omega)
 rcases gWX l (j4) [41] hl with ⟨c7,b7,t7,x7⟩|⟨c7,t7⟩
 .simp only[adO,zRZ,sevalprocAttr,↓reduceIte, *] at hr
  cases hr
  refine bB auY ?_
  simp only[↓zA,sevalprocAttr,aAU,ca,bx,aQ,aZ,bi,bG,ahP, *]
  and_intros
  all_goals first|exact ajr _|rfl|(simp only[zVW];done)|(simp only[zVW];rfl)|(simp only[thE,aeZ,c5];done)|(simp only[thE,aeZ,c1,c3,c5,c7];rfl)
 rcases c8:afo l (j4) with _|_
 have t8:=dG l (j4) hl aC c8
 rcases gR (acn l j4 a4.y) λ_=>ale hl _ _ _ aC with e9|⟨a9,j9,e9,⟨u9,v9⟩,k9⟩|⟨a9,j9,e9,⟨u9,v9⟩,k9⟩
 rotate_left
 .simp only[adO,zRZ,sevalprocAttr,↓reduceIte, *] at hr
  cases hr
  refine bB auY ?_
  simp only[↓zA,sevalprocAttr,aAU,ca,cR,ce,aQ,aZ,bi,bG,ahP, *]
  and_intros
  all_goals first|exact ajr _|rfl|(simp only[zVW];done)|(simp only[zVW];rfl)|(simp only[thE,aeZ,c5];done)|(simp only[thE,aeZ,c1,c3,c5,c7,c8];rfl)
 rcases e10:F.fr j9 [a9] with _|⟨a10,j10,_|_⟩
 rotate_left
 obtain⟨⟨u10,v10⟩,k10⟩:=(H.frp _ (a9) _ _ rfl aC e10).okA
 have l10:=(H.frp _ (a9) _ _ (aba _).symm aC e10).ok
 rotate_left
 obtain⟨⟨u10,v10⟩,k10⟩:=(H.frp _ (a9) _ _ rfl aC e10).badA
 have l10:=(H.frp _ (a9) _ _ (aba _).symm aC e10).bad
 rotate_left
 have t8:=dG l (j4) hl aC c8
 rcases e11:F.qy j4 [a4.y] with _|⟨a11,j11,_|_⟩
 rotate_left
 obtain⟨⟨u11,v11⟩,k11⟩:=(H.qyp _ (a4.y) _ _ rfl aC e11).okA
 have l11:=(H.qyp _ (a4.y) _ _ (ep _).symm aC e11).ok
 rotate_left
 obtain⟨⟨u11,v11⟩,k11⟩:=(H.qyp _ (a4.y) _ _ rfl aC e11).badA
 have l11:=(H.qyp _ (a4.y) _ _ (ep _).symm aC e11).bad
 rotate_left
 rcases gR (F.fr i []) λ_=>H.fr _ _ aC with e12|⟨a12,j12,e12,⟨u12,v12⟩,k12⟩|⟨a12,j12,e12,⟨u12,v12⟩,k12⟩
 rotate_left 3
 all_goals (simp only[adO,zRZ,sevalprocAttr,↓reduceIte, *] at hr <;> cases hr <;> (refine bB auY ?_;simp only[↓zA,sevalprocAttr,aAU,ca,cR,bx,ce,aQ,aZ,bi,bG,ahP, *];all_goals exact fz))
def aPD(l:List Tn)(T:TL l):PD l auQ where
 tl:=T
 fp:=aAI l
 or _ _ _ h:=by cases h
 orp _ _ _ _ _ _ h:=by cases h
 no _ _ _ h:=by cases h
 un _ _ _ h:=by cases h
 qy _ _ _ h:=by cases h
 qyp _ _ _ _ _ _ h:=by cases h
 ins _ _ _ h:=by cases h
 fr _ _ _ h:=by cases h
 frp _ _ _ _ _ _ h:=by cases h
 so _ _ _ h:=by cases h
def aPC{l:List Tn}{F:Fs}(hl:l.length<LB)(H:PD l F):PD l (auJ l F) where
 tl:=H.tl
 fp:=aAH H.fp
 or i r hi h:=aBr hl H i r hi h
 orp i x cs r hx hi h:=ayM hl H i x cs hx r hi h
 no i r hi h:=ais hl H i r hi h
 un i r hi h:=air hl H i r hi h
 qy i r hi h:=aua hl H i r hi h
 qyp i x cs r hx hi h:=arZ hl H i x cs hx r hi h
 ins i r hi h:=ar2 hl H i r hi h
 fr i r hi h:=awc hl H i r hi h
 frp i x cs r hx hi h:=auf hl H i x cs hx r hi h
 so i r hi h:=aqz hl H i r hi h
theorem ayb{l:List Tn}(hl:l.length<LB)(T:TL l):∀ n,PD l (aoA l n)
 | 0=>aPD l T
 | n+1=>aPC hl (ayb hl T n)
def aAZ:=hH @Tryz.f154.eq_1 @zq @zT0 (kf aM0)
def at6(c:UInt8):G1 154 [u8X c] (aN (cG c)):=by
 have e95:(((c.toNat:Nat):Int)=95)=(c=95):=dS c 95 95 rfl
 have e1:((97:Int)<=((c.toNat:Nat):Int))=(97<=c.toNat):=aof 97 c
 have e2:(((c.toNat:Nat):Int)<=122)=(c.toNat<=122):=aoe 122 c
 refine bB aM0 ?_
 by_cases a1:97<=c.toNat
 .by_cases a2:c.toNat<=122
  .simp only[↓zA,sevalprocAttr,aAZ,e1,e2,a1,a2,cG]
   try rfl
  .simp only[↓zA,sevalprocAttr,aAZ,e1,e2,a1,a2,e95,cG]
   try rfl
 .simp only[↓zA,sevalprocAttr,aAZ,e1,a1,e95,cG]
  try rfl
def aaf(c:UInt8)(K:An->Prop):cKp 154 [.of (.lit (.int .u8 (c.toNat:Nat)))] [] K↔K ⟨false,[aN (cG c)],[]⟩:=aF.k (at6 c) K
def aKH:=hH @Tryz.f157.eq_1 @zq @zT0 (kf aMX)
def avZ(c:UInt8):G1 157 [u8X c] (aN (bz c)):=by
 have e1:((48:Int)<=((c.toNat:Nat):Int))=(48<=c.toNat):=aof 48 c
 have e2:(((c.toNat:Nat):Int)<=57)=(c.toNat<=57):=aoe 57 c
 refine bB aMX ?_
 by_cases a1:48<=c.toNat
 .simp only[↓zA,sevalprocAttr,aKH,e1,e2,a1,bz]
  try rfl
 .simp only[↓zA,sevalprocAttr,aKH,e1,a1,bz]
  try rfl
def abd(c:UInt8)(K:An->Prop):cKp 157 [.of (.lit (.int .u8 (c.toNat:Nat)))] [] K↔K ⟨false,[aN (bz c)],[]⟩:=aF.k (avZ c) K
def aKI:=hH @Tryz.f155.eq_1 @zq @zT0 (kf aMZ)
def avY(c:UInt8):G1 155 [u8X c] (aN (abG c)):=by
 have e1:((65:Int)<=((c.toNat:Nat):Int))=(65<=c.toNat):=aof 65 c
 have e2:(((c.toNat:Nat):Int)<=90)=(c.toNat<=90):=aoe 90 c
 refine bB aMZ ?_
 by_cases a1:65<=c.toNat
 .simp only[↓zA,sevalprocAttr,aKI,e1,e2,a1,abG]
  try rfl
 .simp only[↓zA,sevalprocAttr,aKI,e1,a1,abG]
  try rfl
def acC(c:UInt8)(K:An->Prop):cKp 155 [.of (.lit (.int .u8 (c.toNat:Nat)))] [] K↔K ⟨false,[aN (abG c)],[]⟩:=aF.k (avY c) K
def ah7:Nat->List UInt8->Bool
 | _,[]=>true
 | k,c::r=>(cG c||(decide (k≠0)&&bz c))&&ah7 (k+1) r
def aEK(r:List UInt8):∀ k,ah7 (k+1) r=r.all (λc=>cG c||bz c):=by
 induction r with
 | nil=>intro k;rfl
 | cons x r ih=>intro k;simp[ah7,ih]
def aEI(l:List UInt8):ago l=(decide (l≠[])&&ah7 0 l):=by
 cases l with
 | nil=>rfl
 | cons c r=>simp[ago,ah7,aEK]
def akf:=hH @Tryz.f249.eq_1 @zq @zT0 (kf aMi)
def av1(s:List UInt8)(hl:s.length<LB):G1 249 [.of (aJ (aM s))] (aN (ago s)):=by
 rw[aEI]
 refine bB aMi ?_
 simp only[↓zA,sevalprocAttr,akf]
 refine ew s.length (λk t=>t.fr 0=.of (aJ (aM s))/\t.fr 3=au k/\t.objs=[]/\ah7 0 s=ah7 k (s.drop k)) ?_ ?_
 .simp only[↓zA,sevalprocAttr,akf]
  try exact rfl
 rintro k ⟨frk,obk,ckk⟩ hk ⟨f0,f3,fo,E⟩
 dsimp only at f0 f3 fo
 rcases av k s.length with dk|dk
 .have hw:=aW k (by unfold LB at hl;omega)
  have gx:=bu dk
  have hne:s≠[]:=by rintro rfl;simp at dk
  rw[bI dk,ah7] at E
  generalize s[k]=c at *
  by_cases a1:cG c=true
  .rw[a1,cf,bR] at E
   simp only[↓zA,sevalprocAttr,akf,f0,f3,fo,aK,dk,gx,hw,aaf,a1]
   exact E
  have a1:cG c=false:=by simpa using a1
  by_cases kz:k=0
  .have kz':((k:Int)=0)=True:=aa aC
   have E:ah7 0 s=false:=by rw[E,a1];simp[kz]
   rw[E,cy]
   simp only[↓zA,sevalprocAttr,akf,f0,f3,fo,aK,dk,gx,aaf,a1,kz']
   try rfl
  have kz':((k:Int)=0)=False:=aj aC
  cases a2:bz c with
  | true =>
   have E:ah7 0 s=ah7 (k+1) (s.drop (k+1)):=by rw[E,a1,a2];simp[kz]
   simp only[↓zA,sevalprocAttr,akf,f0,f3,fo,aK,dk,gx,hw,aaf,abd,a1,a2,kz']
   exact E
  | false =>
   have E:ah7 0 s=false:=by rw[E,a1,a2];simp
   rw[E,cy]
   simp only[↓zA,sevalprocAttr,akf,f0,f3,fo,aK,dk,gx,aaf,abd,a1,a2,kz']
   try rfl
 have ek:k=s.length:=by omega
 subst ek
 rw[bf] at E
 have E:ah7 0 s=true:=E
 rw[E,ff]
 by_cases hz:s=[]
 .have h0:((0:Int)<(s.length:Int))=False:=aj (by rw[hz];simp)
  simp only[↓zA,sevalprocAttr,akf,f0,f3,fo,aK,bg,h0]
  simp[hz]
 .have h0:((0:Int)<(s.length:Int))=True:=aa (by have:=List.length_pos_iff.2 hz;omega)
  simp only[↓zA,sevalprocAttr,akf,f0,f3,fo,aK,bg,h0]
  simp[hz]
def aEy(s:List UInt8)(hl:s.length<LB)(K:An->Prop):cKp 249 [.of (.lit (.string (aM s)))] [] K↔K ⟨false,[aN (ago s)],[]⟩:=aF.k (av1 s hl) K
def agE:=hH @Tryz.f153.eq_1 @zq @zT0 (kf aM1)
def ayK(s:List UInt8)(i:Nat)(hl:s.length<LB)(hi:i<=s.length):G1 153 [.of (aJ (aM s)),au i] (au (i+dY false (s.drop i):Nat)):=by
 refine bB aM1 ?_
 simp only[↓zA,sevalprocAttr,agE]
 refine eT _ _ (λn t=>∃ j:Nat,t.fr 0=.of (aJ (aM s))/\t.fr 1=au j/\t.objs=[]/\j+n=s.length+1/\j<=s.length/\i+dY false (s.drop i)=j+dY false (s.drop j)) ?_ (s.length+1-i) _ ?_
 .rintro n ⟨frn,obn,ckn⟩ ⟨j,f0,f1,fo,hn,hj,E⟩
  dsimp only at f0 f1 fo
  rcases av j s.length with dk|dk
  rotate_left
  .have e:j=s.length:=by omega
   subst e
   rw[bf] at E
   have E:i+dY false (s.drop i)=s.length:=E
   simp only[↓zA,sevalprocAttr,agE,f0,f1,fo,aK,bg,E]
   try rfl
  have hw:=aW j (by unfold LB at hl;omega)
  have gx:=bu dk
  have hd:=fu dk
  generalize hc:s[j]=c at *
  have e32:(((c.toNat:Nat):Int)=32)=(c=32):=dS c 32 32 rfl
  have e9:(((c.toNat:Nat):Int)=9)=(c=9):=dS c 9 9 rfl
  have e10:(((c.toNat:Nat):Int)=10)=(c=10):=dS c 10 10 rfl
  have e13:(((c.toNat:Nat):Int)=13)=(c=13):=dS c 13 13 rfl
  have e45:(((c.toNat:Nat):Int)=45)=(c=45):=dS c 45 45 rfl
  cases hb:ahM c with
  | true =>
   rw[hd,alR _ hb] at E
   have g:∃ m,m<n/\∃ q:Nat,au (j+1:Nat)=au q/\q+m=s.length+1/\q<=s.length/\i+dY false (s.drop i)=q+dY false (s.drop q):=⟨n-1,by omega,j+1,rfl,by omega,by omega,by omega⟩
   obtain⟨m,g1,q,g2,g3,g4,g5⟩:=g
   rcases (atJ c).1 hb with h|h|h|h
   all_goals
    subst h
    simp only[↓zA,sevalprocAttr,agE,f0,f1,fo,aK,dk,gx,hw]
    exact⟨m,g1,q,g2,g3,g4,g5⟩
  | false =>
   have n32:(c=32)=False:=aj λh=>by rw[h] at hb;cases hb
   have n9:(c=9)=False:=aj λh=>by rw[h] at hb;cases hb
   have n10:(c=10)=False:=aj λh=>by rw[h] at hb;cases hb
   have n13:(c=13)=False:=aj λh=>by rw[h] at hb;cases hb
   by_cases h45:c=45
   rotate_left
   .have h45':(c=45)=False:=aj h45
    have E0:dY false (s.drop j)=0:=by rw[hd];exact aiD _ hb λh=>absurd h h45
    rw[E0] at E
    simp only[↓zA,sevalprocAttr,agE,f0,f1,fo,aK,dk,gx,e32,e9,e10,e13,e45,n32,n9,n10,n13,h45']
    try rw[E];rfl
   subst h45
   rcases av (j+1) s.length with d2|d2
   rotate_left
   .have dl:(((s.length:Nat):Int)<=((j+1:Nat):Int))=True:=aa aC
    have E0:dY false (s.drop j)=0:=by
     rw[hd]
     refine aiD _ hb λ_ h=>?_
     rw[acS d2] at h
     cases h
    rw[E0] at E
    simp only[↓zA,sevalprocAttr,agE,f0,f1,fo,aK,dk,gx,hw,dl]
    try rw[E];rfl
   have dl:(((s.length:Nat):Int)<=((j+1:Nat):Int))=False:=aj aC
   have gx2:=bu d2
   have hd2:=fu d2
   generalize s[j+1]=c2 at *
   have e45b:(((c2.toNat:Nat):Int)=45)=(c2=45):=dS c2 45 45 rfl
   by_cases h2:c2=45
   rotate_left
   .have h2':(c2=45)=False:=aj h2
    have E0:dY false (s.drop j)=0:=by
     rw[hd]
     refine aiD _ hb λ_ h=>?_
     rw[hd2] at h
     simp only[List.head?_cons,ae] at h
     exact absurd h h2
    rw[E0] at E
    simp only[↓zA,sevalprocAttr,agE,f0,f1,fo,aK,dk,gx,hw,dl,gx2,e45b,h2']
    try rw[E];rfl
   subst h2
   have E2:i+dY false (s.drop i)=j+dY true (s.drop j):=by
    rw[E,hd,hd2]
    simp[dY,ahM]
   clear E
   simp only[↓zA,sevalprocAttr,agE,f0,f1,fo,aK,dk,gx,hw,dl,gx2]
   have hjj:aaJ s (j:Int)=some 45:=gx
   clear hd hd2 gx gx2 e32 e9 e10 e13 e45 e45b n32 n9 n10 n13 hb dl hw
   refine eT _ _ (λm t=>∃ q:Nat,t.fr 0=.of (aJ (aM s))/\t.fr 1=au q/\t.objs=[]/\j<=q/\q+m=s.length+1/\q<=s.length/\i+dY false (s.drop i)=q+dY true (s.drop q)) ?_ (s.length+1-j) _ ?_
   .rintro m ⟨frm,obm,ckm⟩ ⟨q,g0,g1,go,hq,hm,hqs,E⟩
    dsimp only at g0 g1 go
    have hw:=aW q (by unfold LB at hl;omega)
    rcases av q s.length with dq|dq
    rotate_left
    .have e:q=s.length:=by omega
     subst e
     rw[bf] at E
     have E:i+dY false (s.drop i)=s.length:=E
     simp only[↓zA,sevalprocAttr,agE,g0,g1,go,aK,bg]
     exact⟨m,by omega,s.length,rfl,by omega,am _,by rw[bf];exact E⟩
    have gq:=bu dq
    have hd:=fu dq
    generalize s[q]=c at *
    have e10:(((c.toNat:Nat):Int)=10)=(c=10):=dS c 10 10 rfl
    by_cases h10:c=10
    .subst h10
     have hne:q≠j:=by rintro rfl;rw[hjj] at gq;cases gq
     rw[hd,dY,aE rfl] at E
     simp only[↓zA,sevalprocAttr,agE,g0,g1,go,aK,dq,gq]
     exact⟨m,by omega,q,rfl,by omega,by omega,by rw[E,hd,alR _ aI]⟩
    .have h10':(c=10)=False:=aj h10
     rw[hd,dY,aA h10] at E
     simp only[↓zA,sevalprocAttr,agE,g0,g1,go,aK,dq,gq,e10,h10',hw]
     exact⟨m-1,by omega,q+1,rfl,by omega,by omega,by omega,by omega⟩
   .simp only[↓zA,sevalprocAttr,agE,f0,f1]
    exact⟨j,rfl,am _,by omega,by omega,E2⟩
 .simp only[↓zA,sevalprocAttr,agE]
  exact⟨i,rfl,by omega,hi,rfl⟩
end Go.Proofs.YtghkmcffifpkeaaGreat
namespace Go.Tab
open Pe
def acH(l:List UInt8):Nat:=l.foldl (λn c=>if n<=1000000000000000 then 10*n+(c.toNat-48) else n) 0
def atD(d:List UInt8)(c:UInt8):acH (d++[c])=if acH d<=1000000000000000 then 10*acH d+(c.toNat-48) else acH d:=by unfold acH;rw[List.foldl_append];rfl
theorem axx:∀ r:List UInt8,(∀ c∈r,bz c=true)->acH r.reverse<=10000000000000009/\acF r.reverse=if acH r.reverse<=1000000000000000 then acH r.reverse else 1000000000000001
 | [],_=>⟨by simp[acH],by simp[acH,acF]⟩
 | c::r,h=>by
  obtain⟨h1,h2⟩:=axx r λx hx=>h x (by simp[hx])
  have hc:=(anF c).1 (h c aT)
  rw[List.reverse_cons,atD,atk,h2]
  split
  .refine⟨by omega,?_⟩
   split <;> omega
  .rename_i g
   exact⟨h1,by omega⟩
def axy(d:List UInt8)(h:∀ c∈d,bz c=true):acH d<=10000000000000009/\acF d=if acH d<=1000000000000000 then acH d else 1000000000000001:=by
 have:=axx d.reverse λc hc=>h c (by simpa using hc)
 rwa [List.reverse_reverse] at this
end Go.Tab
namespace Go.Proofs.YtghkmcffifpkeaaGreat
open Pe Tab
def aT2:=hJ @zq @aVO @cW @zT0 (kf aMj)
def adj(i:Nat)(e:Int)(K:An->Prop):cKp 248 [au i,.of (.lit (.int .i64 e))] [] K↔K ⟨false,[.of (.agg (tnC (aew i))),au e],[]⟩:=by
 refine aF.k ?_ K
 refine bB aMj ?_
 simp only[Tryz.f248,↓zA,sevalprocAttr,aT2,be]
 try rfl
def akh:=hZ @Tryz.f158.eq_1 @zq @aXt @U3 @T5 @cW @zT0 (kf aMW)
def at5(s:List UInt8)(i:Nat)(hl:s.length<=4000)(hi:i<=s.length):GN 158 [.of (aJ (aM s)),au i] [.of (.agg (tnC (aeK i ((s.drop i).takeWhile bz)).1)),au (aeK i ((s.drop i).takeWhile bz)).2]:=by
 have hlen:=afR bz (s.drop i)
 rw[cU] at hlen
 have hall:∀ c∈(s.drop i).takeWhile bz,bz c=true:=λc hc=>by
  have:=aeb (p:=bz) (l:=s.drop i)
  exact bo.1 this c hc
 generalize hw:(s.drop i).takeWhile bz=w at *
 have hsub:IntKind.i64.wrap (((i+w.length:Nat):Int)-(i:Int))=(w.length:Int):=by rw[cj _ aC aC];omega
 obtain⟨hv0,hv1⟩:=axy w hall
 have hmx:((1000000000000000:Int)<(acH w:Int))=(1000000000000000<acF w):=propext (by rw[hv1];split <;> omega)
 refine bB aMW ?_
 simp only[↓zA,sevalprocAttr,akh]
 refine eT _ _ (λn t=>∃ d:List UInt8,t.fr 0=.of (aJ (aM s))/\t.fr 1=au i/\t.fr 4=.ptr 0 0/\t.fr 6=au (i+d.length:Nat)/\t.fr 7=au (acH d)/\t.objs=[tkZ]/\i+d.length+n=s.length+1/\i+d.length<=s.length/\w=d++(s.drop (i+d.length)).takeWhile bz) ?_ (s.length+1-i) _ ?_
 .rintro n ⟨frn,obn,ckn⟩ ⟨d,f0,f1,f4,f6,f7,fo,hn,hj,E⟩
  dsimp only at f0 f1 f4 f6 f7 fo
  have hwj:=aW (i+d.length) aC
  have hd:=axy d λc hc=>hall c (by rw[E];simp[hc])
  rcases av (i+d.length) s.length with dk|dk
  .have gx:=bu dk
   have dk':=aa dk
   rw[aGU bz s _ (fu dk)] at E
   generalize s[i+d.length]=c at *
   cases hc:bz c with
   | true =>
    rw[hc,aE rfl] at E
    have h48:=(anF c).1 hc
    have hlen2:(d++[c]).length=d.length+1:=by simp
    have E2:w=(d++[c])++(s.drop (i+(d++[c]).length)).takeWhile bz:=by rw[hlen2,E,eO];rfl
    have hs:=atD d c
    by_cases hv:acH d<=1000000000000000
    .have hv':((acH d:Int)<=1000000000000000)=True:=aa aC
     rw[aE hv] at hs
     have w2:IntKind.i64.wrap ((c.toNat:Nat):Int)=((c.toNat:Nat):Int):=cj _ aC aC
     have w3:IntKind.i64.wrap (10*(acH d:Int))=((10*acH d:Nat):Int):=by rw[cj _ aC aC];rfl
     have w4:IntKind.i64.wrap (((10*acH d:Nat):Int)+((c.toNat:Nat):Int))=((10*acH d+c.toNat:Nat):Int):=by rw[cj _ aC aC];rfl
     have w5:IntKind.i64.wrap (((10*acH d+c.toNat:Nat):Int)-48)=((acH (d++[c]):Nat):Int):=by rw[cj _ aC aC,hs];omega
     simp only[↓zA,sevalprocAttr,akh,f0,f1,f4,f6,f7,fo,aK,dk',gx,hwj,abd,hc,ao8 T5 U3,hv',w2,w3,w4,w5]
     exact⟨n-1,by omega,d++[c],by rw[hlen2,cE],rfl,by rw[hlen2];omega,by rw[hlen2];omega,E2⟩
    .have hv':((acH d:Int)<=1000000000000000)=False:=aj aC
     rw[aA hv] at hs
     simp only[↓zA,sevalprocAttr,akh,f0,f1,f4,f6,f7,fo,aK,dk',gx,hwj,abd,hc,hv']
     exact⟨n-1,by omega,d++[c],by rw[hlen2,cE],by rw[hs],by rw[hlen2];omega,by rw[hlen2];omega,E2⟩
   | false =>
    rw[hc,aA aI,aU] at E
    subst E
    by_cases hm:1000000000000000<acF w
    .simp only[aeK,hm,ah]
     simp only[↓zA,sevalprocAttr,akh,f0,f1,f4,f6,f7,fo,aK,dk',gx,abd,hc,hmx,hm,adj,be]
     try rfl
    .have hnv:(acF w:Int)=(acH w:Int):=by rw[hv1] at hm ⊢;split at hm <;> (try rw[aE (by assumption)]) <;> omega
     simp only[aeK,hm,ap]
     simp only[↓zA,sevalprocAttr,akh,f0,f1,f4,f6,f7,fo,aK,dk',gx,abd,hc,hmx,hm,hsub,be,hnv]
     try rfl
  .have dk':(i+d.length<s.length)=False:=aj aC
   rw[bv dk,abo,aU] at E
   subst E
   by_cases hm:1000000000000000<acF w
   .simp only[aeK,hm,ah]
    simp only[↓zA,sevalprocAttr,akh,f0,f1,f4,f6,f7,fo,aK,dk',hmx,hm,adj,be]
    try rfl
   .have hnv:(acF w:Int)=(acH w:Int):=by rw[hv1] at hm ⊢;split at hm <;> (try rw[aE (by assumption)]) <;> omega
    simp only[aeK,hm,ap]
    simp only[↓zA,sevalprocAttr,akh,f0,f1,f4,f6,f7,fo,aK,dk',hmx,hm,hsub,be,hnv]
    try rfl
 .simp only[↓zA,sevalprocAttr,akh]
  exact⟨[],rfl,rfl,by simp;omega,by simp;omega,hw.symm⟩
def aNI(p:UInt8->Bool)(r:List UInt8):r.take (r.takeWhile p).length=r.takeWhile p:=by
 induction r with
 | nil=>rfl
 | cons a r ih =>
  rw[dV]
  split
  .rw[aX,acc,ih]
  .rfl
def alD:=hM @Tryz.f159.eq_1 @zq @aVp @cW @zT0 (kf aMV)
def at4(s:List UInt8)(i:Nat)(hl:s.length<=4000)(hi:i<s.length):GN 159 [.of (aJ (aM s)),au i] [.of (.agg (tnC (ahp i (s.drop (i+1))).1)),au (ahp i (s.drop (i+1))).2]:=by
 have lr:(s.drop (i+1)).length=s.length-(i+1):=cU ..
 have tk:=aNI (λc=>decide (c≠34)) (s.drop (i+1))
 have hall:∀ c∈(s.drop (i+1)).takeWhile (λc=>decide (c≠34)),decide (c≠34)=true:=λc hc=>bo.1 (aeb (p:=λc=>decide (c≠34)) (l:=s.drop (i+1))) c hc
 have hlen:=afR (λc=>decide (c≠34)) (s.drop (i+1))
 rw[lr] at hlen
 unfold ahp
 generalize hw:(s.drop (i+1)).takeWhile (λc=>decide (c≠34))=w at *
 have hwi:=aW i aC
 have rec1:s.drop (i+1)=w++s.drop (i+1+w.length):=by
  conv=>lhs;rw[← ac3 w.length (s.drop (i+1))]
  rw[tk,ad0]
 have l20:((20:Int)<(w.length:Int))=(20<w.length):=propext aC
 refine bB aMV ?_
 simp only[↓zA,sevalprocAttr,alD,hwi]
 refine eT _ _ (λn t=>∃ d:List UInt8,t.fr 0=.of (aJ (aM s))/\t.fr 1=au i/\t.fr 4=.ptr 0 0/\t.fr 6=au (i+1+d.length:Nat)/\t.objs=[tkZ]/\i+1+d.length+n=s.length+1/\i+1+d.length<=s.length/\w=d++(s.drop (i+1+d.length)).takeWhile λc=>decide (c≠34)) ?_ (s.length-i) _ ?_
 .rintro n ⟨frn,obn,ckn⟩ ⟨d,f0,f1,f4,f6,fo,hn,hj,E⟩
  dsimp only at f0 f1 f4 f6 fo
  have hwj:=aW (i+1+d.length) aC
  rcases av (i+1+d.length) s.length with dk|dk
  rotate_left
  .have dk':(i+1+d.length<s.length)=False:=aj aC
   have dk2:(((s.length:Nat):Int)<=((i+1+d.length:Nat):Int))=True:=aa aC
   rw[bv dk,abo,aU] at E
   subst E
   have hc:(s.drop (i+1)).contains 34=false:=by
    rw[rec1,bv dk,aU]
    cases h:w.contains 34 with
    | false=>rfl
    | true =>
     have:=hall 34 (by simpa using h)
     simp at this
   simp only[hc,ab,ap]
   simp only[↓zA,sevalprocAttr,alD,f0,f1,f4,f6,fo,aK,dk',dk2,adj,be]
   try rfl
  have gx:=bu dk
  have dk':=aa dk
  have dk2:(((s.length:Nat):Int)<=((i+1+d.length:Nat):Int))=False:=aj aC
  have hdc:=fu dk
  rw[aGU _ s _ hdc] at E
  generalize s[i+1+d.length]=c at *
  have e34:(((c.toNat:Nat):Int)=34)=(c=34):=dS c 34 34 rfl
  by_cases h34:c=34
  rotate_left
  .have h34':=aj h34
   rw[aE (by simpa using h34)] at E
   have hlen2:(d++[c]).length=d.length+1:=by simp
   have E2:w=(d++[c])++(s.drop (i+1+(d++[c]).length)).takeWhile λc=>decide (c≠34):=by rw[hlen2,E,eO];rfl
   simp only[↓zA,sevalprocAttr,alD,f0,f1,f4,f6,fo,aK,dk',gx,e34,h34',hwj]
   exact⟨n-1,by omega,d++[c],by rw[hlen2,cE (i+1)],by rw[hlen2];omega,by rw[hlen2];omega,E2⟩
  subst h34
  rw[aA aI,aU] at E
  subst E
  have hc:(s.drop (i+1)).contains 34=true:=by rw[rec1,hdc];simp
  have sb:=afT s (i+1) (i+1+w.length) aC aC
  have et:(s.take (i+1+w.length)).drop (i+1)=w:=by rw[fX,aap];exact tk
  rw[et] at sb
  have hsub:IntKind.i64.wrap (((i+1+w.length+1:Nat):Int)-(i:Int))=((w.length+2:Nat):Int):=by rw[cj _ aC aC];omega
  have hP:=λK=>aEy w (by unfold LB;omega) K
  simp only[hc,ah]
  cases hp:ago w with
  | false =>
   rw[hp] at hP
   simp only[ct,ah]
   simp only[↓zA,sevalprocAttr,alD,f0,f1,f4,f6,fo,aK,dk',dk2,gx,hwi,sb,hP,adj,be]
   try rfl
  | true =>
   rw[hp] at hP
   by_cases h20:20<w.length
   .simp only[bJ,ab,ap,h20,ah]
    simp only[↓zA,sevalprocAttr,alD,f0,f1,f4,f6,fo,aK,dk',dk2,gx,hwi,sb,hP,l20,h20,adj,be]
    try rfl
   .simp only[bJ,ab,ap,h20]
    simp only[↓zA,sevalprocAttr,alD,f0,f1,f4,f6,fo,aK,dk',dk2,gx,hwi,hwj,sb,hP,l20,h20,hsub,be]
    try rfl
 .simp only[↓zA,sevalprocAttr,alD]
  exact⟨[],rfl,by simp;omega,by simp;omega,hw.symm⟩
end Go.Proofs.YtghkmcffifpkeaaGreat
namespace Go.Tab
open Pe
def adJ:List (List UInt8):=[[124,124],[60,62],[60,61],[62,61]]
def agN:List UInt8:=[40,41,44,46,59,43,45,42,47,37,61,60,62]
def aOx(i:Nat)(c d:UInt8)(r:List UInt8)(h:[c,d]∈adJ):lxG i c (c::d::r).tail.head?=(⟨5,i,2,0,[c,d]⟩,0):=by
 unfold lxG
 rw[aE]
 .rfl
 .simpa [adJ] using h
def aOy(i:Nat)(c:UInt8)(r:List UInt8)(h:∀ d r',r=d::r'->[c,d]∉adJ):lxG i c r.head?=if c∈agN then (⟨5,i,1,0,[c]⟩,0) else (aew i,2):=by
 unfold lxG
 rw[aA]
 .rfl
 .cases r with
  | nil=>simp
  | cons d r=>have:=h d r rfl;simpa [adJ] using this
end Go.Tab
namespace Go.Proofs.YtghkmcffifpkeaaGreat
open Pe Tab
def aTm(tk:Tk):dJ tk 4 (Pe.elemOf tP 43) (some [(0,[.of (.lit (.string {data:=#[124,124]}))]),(1,[.of (.lit (.string {data:=#[60,62]}))]),(2,[.of (.lit (.string {data:=#[60,61]}))]),(3,[.of (.lit (.string {data:=#[62,61]}))])])=out (.own tk 9 1 (fl cM adJ) 4):=by rw[E43];kernel_rfl
def ain:=ai (hJ @Tryz.f161.eq_1 @zq @aXc @aY3 @aY2) (hJ @cW @cO @Q9 @zT0 (kf aMT))
def ayJ(s:List UInt8)(i:Nat)(hl:s.length<=4000)(c:UInt8)(r:List UInt8)(hd:s.drop i=c::r):GN 161 [.of (aJ (aM s)),au i] [.of (.agg (tnC (lxG i c r.head?).1)),au (lxG i c r.head?).2]:=by
 have hi:i<s.length:=by
  rcases av i s.length with g|g
  .exact g
  .rw[bv g] at hd;cases hd
 have gc:aaJ s (i:Int)=some c:=by
  have:=bu hi
  rw[fu hi] at hd
  rw[this,(List.cons.inj hd).1]
 have hw2:IntKind.i64.wrap ((i:Int)+2)=((i+2:Nat):Int):=by rw[cj _ aC aC];rfl
 have lr:r.length+1=s.length-i:=by have:=congrArg List.length hd;simp at this;omega
 have hLL:adJ.length=4:=rfl
 refine bB aMT ?_
 simp only[↓zA,sevalprocAttr,ain,aTm]
 refine ew 4 (λk t=>t.fr 0=.of (aJ (aM s))/\t.fr 1=au i/\t.fr 4=.ptr 0 0/\(∃ a x b,t.fr 6=.own (.nm a x b) 9 1 (fl cM adJ) 4)/\t.fr 7=au k/\t.objs=[tkZ]/\∀ m,m<k->i+2<=s.length->some ((s.drop i).take 2)≠adJ[m]?) ?_ ?_
 .simp only[↓zA,sevalprocAttr,ain]
  exact⟨⟨_,_,_,rfl⟩,λm hm=>absurd hm (abk _)⟩
 rintro k ⟨frk,obk,ckk⟩ hk ⟨f0,f1,f4,⟨a6,x6,b6,f6⟩,f7,fo,H⟩
 dsimp only at f0 f1 f4 f6 f7 fo
 have ia:∀ n:Int,cn tP 43 (.own (.nm a6 x6 b6) 9 1 (fl cM adJ) 4) (.of (.lit (.int .i64 n)))=age (aaJ adJ n) λx=>.of (.ref (cM x++fl cM (adJ.drop (n.toNat+1)))):=λn=>by
  have e:cn tP 43 (.own (.nm a6 x6 b6) 9 1 (fl cM adJ) 4) (.of (.lit (.int .i64 n)))=cn tP 43 (.of (slC cM adJ)) (.of (.lit (.int .i64 n))):=by simp only[cn,aaR,slC,hLL,T43,T9]
  rw[e]
  exact amk adJ n
 rcases av k 4 with dk|dk
 .have hlt:((k:Int)<4)=True:=aa aC
  have hlt':((k:Int)<((4:Nat):Int))=True:=aa aC
  have hw:=aW k aC
  have gx:aaJ adJ (k:Int)=some (adJ[k]'dk):=bu dk
  have gm:adJ[k]?=some (adJ[k]'dk):=aO dk
  have hmem:adJ[k]'dk∈adJ:=bt dk
  generalize adJ[k]'dk=x at *
  by_cases d2:i+2<=s.length
  rotate_left
  .have hle:(((i+2:Nat):Int)<=(s.length:Int))=False:=aj aC
   simp only[↓zA,sevalprocAttr,ain,f0,f1,f4,f6,f7,fo,hlt,hw,hw2,hle]
   exact⟨dk,⟨_,_,_,rfl⟩,λm _ h=>absurd h d2⟩
  have hle:(((i+2:Nat):Int)<=(s.length:Int))=True:=aa aC
  have sb:=afT s i (i+2) aC d2
  have et:(s.take (i+2)).drop i=(s.drop i).take 2:=by rw[fX,aap]
  rw[et] at sb
  by_cases hx:(s.drop i).take 2=x
  .have cc:(aM ((s.drop i).take 2)=aM x)=True:=aa (by rw[hx])
   obtain⟨d,r',rfl⟩ : ∃ d r',r=d::r':=by
    cases r with
    | nil=>simp at lr;omega
    | cons d r'=>exact⟨d,r',rfl⟩
   have hx2:x=[c,d]:=by rw[← hx,hd];rfl
   have h2:=aOx i c d r' (hx2▸hmem)
   rw[show (c::d::r').tail.head?=(d::r').head? from rfl] at h2
   rw[h2]
   subst hx2
   simp only[↓zA,sevalprocAttr,ain,f0,f1,f4,f6,f7,fo,hlt,hw2,hle,sb,ia,gx,cc,be]
   try rfl
  .have cc:(aM ((s.drop i).take 2)=aM x)=False:=aj λq=>hx (apm q)
   simp only[↓zA,sevalprocAttr,ain,f0,f1,f4,f6,f7,fo,hlt,hw,hw2,hle,sb,ia,gx,cc]
   refine⟨dk,⟨_,_,_,rfl⟩,λm hm h=>?_⟩
   rcases av m k with g|g
   .exact H m g h
   .obtain rfl:m=k:=by omega
    rw[gm]
    exact λq=>hx (aG q)
 obtain rfl:k=4:=by omega
 have hlt:((4:Int)<4)=False:=aj aC
 have hlt':(((4:Nat):Int)<((4:Nat):Int))=False:=aj aC
 have hno:∀ d r',r=d::r'->[c,d]∉adJ:=λd r' hr hm=>by
  subst hr
  obtain⟨m,hm1,hm2⟩:=List.getElem_of_mem hm
  refine H m hm1 (by simp at lr;omega) ?_
  rw[aO hm1,hm2,hd]
  rfl
 rw[aOy i c r hno]
 simp only[↓zA,sevalprocAttr,ain,f6,f7,fo,hlt]
 refine ew 13 (λk t=>t.fr 0=.of (aJ (aM s))/\t.fr 1=au i/\t.fr 4=.ptr 0 0/\t.fr 8=.of (aJ (aM agN))/\t.fr 9=au k/\t.objs=[tkZ]/\∀ m,m<k->agN[m]?≠some c) ?_ ?_
 .simp only[↓zA,sevalprocAttr,ain,f0,f1,f4]
  exact⟨rfl,λm hm=>absurd hm (abk _)⟩
 rintro k ⟨frq,obq,ckq⟩ hk ⟨g0,g1,g4,g8,g9,go,G⟩
 dsimp only at g0 g1 g4 g8 g9 go
 have hoL:((agN.length:Nat):Int)=13:=rfl
 rcases av k 13 with dk|dk
 .have hlt:((k:Int)<13)=True:=aa aC
  have hw:=aW k aC
  have gx:aaJ agN (k:Int)=some (agN[k]'dk):=bu dk
  have gm:agN[k]?=some (agN[k]'dk):=aO dk
  have hmem:agN[k]'dk∈agN:=bt dk
  have sb:=afT agN k (k+1) aC dk
  have et:(agN.take (k+1)).drop k=[agN[k]'dk]:=by rw[fX,aap,fu dk];rfl
  rw[et] at sb
  generalize agN[k]'dk=x at *
  have ex:(((x.toNat:Nat):Int)=((c.toNat:Nat):Int))=(x=c):=propext ⟨λq=>UInt8.toNat_inj.1 aC,λq=>by rw[q]⟩
  by_cases hx:x=c
  .subst hx
   have hx':=aa (rfl:x=x)
   rw[aE hmem]
   simp only[↓zA,sevalprocAttr,ain,g0,g1,g4,g8,g9,go,hoL,hlt,hw,gx,gc,sb,be]
   try rfl
  .have hx':=aj hx
   simp only[↓zA,sevalprocAttr,ain,g0,g1,g4,g8,g9,go,hoL,hlt,hw,gx,gc,ex,hx']
   refine⟨by omega,λm hm=>?_⟩
   rcases av m k with g|g
   .exact G m g
   .obtain rfl:m=k:=by omega
    rw[gm]
    exact λq=>hx (aG q)
 obtain rfl:k=13:=by omega
 have hlt:((13:Int)<13)=False:=aj aC
 have hnm:c∉agN:=λhm=>by
  obtain⟨m,hm1,hm2⟩:=List.getElem_of_mem hm
  exact G m hm1 (by rw[aO hm1,hm2])
 rw[aA hnm]
 simp only[↓zA,sevalprocAttr,ain,g1,g4,g8,g9,go,hoL,hlt,adj,be]
 try rfl
def aTa(P:Program)(T:TT)(t:Nat)(u:Option TypeDesc)(o w:List UInt8)(h:o.length+w.length<=5000):gJ P T t u .add (.of (.lit (.string (aM o)))) (.of (.lit (.string (aM w))))=out (ahQ (aM (o++w))):=by
 rw[au6,aE (by unfold afM;omega)]
def aeF:=hM @Tryz.f160.eq_1 @zq @aXl @cW @zT0 (kf aMU)
def ayI(s:List UInt8)(i:Nat)(hl:s.length<=4000)(hi:i<s.length):GN 160 [.of (aJ (aM s)),au i] [.of (.agg (tnC (aiP i (s.drop (i+1))).1)),au (aiP i (s.drop (i+1))).2]:=by
 rw[aD8]
 have hw:=aW i aC
 refine bB aMU ?_
 simp only[↓zA,sevalprocAttr,aeF,hw]
 refine eT _ _ (λn t=>∃ (o:List UInt8) (m:Nat),t.fr 0=.of (aJ (aM s))/\t.fr 1=au i/\t.fr 4=.ptr 0 0/\t.fr 6=au (i+1+m:Nat)/\t.fr 7=.of (aJ (aM o))/\t.fr 8=aN (o.all aa3)/\t.objs=[tkZ]/\i+1+m+n=s.length+1/\i+1+m<=s.length/\o.length<=m/\aeo [] 0 (s.drop (i+1))=aeo o m (s.drop (i+1+m))) ?_ (s.length-i) _ ?_
 .rintro n ⟨frn,obn,ckn⟩ ⟨o,m,f0,f1,f4,f6,f7,f8,fo,hn,hj,ho,E⟩
  dsimp only at f0 f1 f4 f6 f7 f8 fo
  have hwj:=aW (i+1+m) aC
  have hwj2:=aW (i+1+m+1) aC
  rcases av (i+1+m) s.length with dk|dk
  rotate_left
  .have dk':(i+1+m<s.length)=False:=aj aC
   have dk2:((s.length:Int)<=((i+1+m:Nat):Int))=True:=aa aC
   rw[bv dk,avx] at E
   simp only[E]
   simp only[↓zA,sevalprocAttr,aeF,f0,f1,f4,f6,fo,aK,dk',dk2,adj,be]
   try rfl
  have gx:=bu dk
  have dk':=aa dk
  have ndk:((s.length:Int)<=((i+1+m:Nat):Int))=False:=aj aC
  have sb:=afT s (i+1+m) (i+1+m+1) aC dk
  have et:(s.take (i+1+m+1)).drop (i+1+m)=[s[i+1+m]]:=by rw[fX,aap,fu dk];rfl
  rw[et] at sb
  rw[fu dk] at E
  have e39:(((s[i+1+m].toNat:Nat):Int)=39)=(s[i+1+m]=39):=dS _ 39 39 rfl
  have e32:((32:Int)<=((s[i+1+m].toNat:Nat):Int))=(32<=s[i+1+m].toNat):=propext aC
  have e126:(((s[i+1+m].toNat:Nat):Int)<=126)=(s[i+1+m].toNat<=126):=propext aC
  generalize s[i+1+m]=c at *
  have z1:=λ(P:Program) (T:TT) (t':Nat) (v:Option TypeDesc)=>aTa P T t' v o [c] (by simp only[fZ];omega)
  by_cases hq:c=39
  rotate_left
  .have hq':=aj hq
   rw[aEb o m hq] at E
   have fin:∀ b:Bool,b=(o++[c]).all aa3->(∃ m',m'<n/\∃ (o':List UInt8) (m2:Nat),au (i+1+m+1:Nat)=au (i+1+m2:Nat)/\X.of (aJ (aM (o++[c])))=.of (aJ (aM o'))/\aN b=aN (o'.all aa3)/\i+1+m2+m'=s.length+1/\i+1+m2<=s.length/\o'.length<=m2/\aeo [] 0 (s.drop (i+1))=aeo o' m2 (s.drop (i+1+m2))):=λb hb =>
    ⟨n-1,by omega,o++[c],m+1,rfl,rfl,by rw[hb],by omega,by omega,by simp;omega,E⟩
   rw[aj6] at fin
   cases hb:o.all aa3 with
   | false =>
    have g:=fin false (by rw[hb,cm])
    simp only[↓zA,sevalprocAttr,aeF,f0,f1,f4,f6,f7,f8,fo,aK,dk',gx,e39,hq',hb,sb,z1,hwj]
    exact g
   | true =>
    by_cases a1:32<=c.toNat
    .by_cases a2:c.toNat<=126
     .have g:=fin true (by rw[hb];simp[aa3,a1,a2])
      simp only[↓zA,sevalprocAttr,aeF,f0,f1,f4,f6,f7,f8,fo,aK,dk',gx,e39,hq',hb,sb,z1,hwj,e32,e126,a1,a2]
      exact g
     .have g:=fin false (by rw[hb];simp[aa3,a2])
      simp only[↓zA,sevalprocAttr,aeF,f0,f1,f4,f6,f7,f8,fo,aK,dk',gx,e39,hq',hb,sb,z1,hwj,e32,e126,a1,a2]
      exact g
    .have g:=fin false (by rw[hb];simp[aa3,a1])
     simp only[↓zA,sevalprocAttr,aeF,f0,f1,f4,f6,f7,f8,fo,aK,dk',gx,e39,hq',hb,sb,z1,hwj,e32,a1]
     exact g
  subst hq
  have hsub:IntKind.i64.wrap (((i+1+m+1:Nat):Int)-(i:Int))=((m+2:Nat):Int):=by rw[cj _ aC aC];omega
  have l100:((100:Int)<(o.length:Int))=(100<o.length):=propext aC
  have stop:(s.drop (i+1+m+1)).head?≠some 39->aeo [] 0 (s.drop (i+1))=some (o,m+1):=λh=>by rw[E];exact aD9 o m _ h
  rcases av (i+1+m+1) s.length with d1|d1
  rotate_left
  .have neq:(((i+1+m+1:Nat):Int)<(s.length:Int))=False:=aj aC
   have E1:=stop (by rw[bv aC];simp)
   cases hb:o.all aa3 with
   | false =>
    simp only[E1,hb,ct,ah]
    simp only[↓zA,sevalprocAttr,aeF,f0,f1,f4,f6,f8,fo,dk',aeO,gx,hwj,neq,ndk,hb,adj,be]
    try rfl
   | true =>
    by_cases h100:100<o.length
    .simp only[E1,hb,bJ,ab,ap,h100,ah]
     simp only[↓zA,sevalprocAttr,aeF,f0,f1,f4,f6,f7,f8,fo,dk',aeO,gx,hwj,neq,ndk,hb,l100,h100,adj,be]
     try rfl
    .simp only[E1,hb,bJ,ab,ap,h100]
     simp only[↓zA,sevalprocAttr,aeF,f0,f1,f4,f6,f7,f8,fo,dk',aeO,gx,hwj,neq,ndk,hb,l100,h100,hsub,be]
     try rfl
  have gd:=bu d1
  have hd0:=fu d1
  have sb2:=afT s (i+1+m+1) (i+1+m+1+1) aC d1
  have et2:(s.take (i+1+m+1+1)).drop (i+1+m+1)=[s[i+1+m+1]]:=by rw[fX,aap,fu d1];rfl
  rw[et2] at sb2
  have e39d:(((s[i+1+m+1].toNat:Nat):Int)=39)=(s[i+1+m+1]=39):=dS _ 39 39 rfl
  generalize s[i+1+m+1]=d at *
  by_cases hd:d=39
  .subst hd
   rw[hd0,aEa] at E
   have hall:(o++[39]).all aa3=o.all aa3:=by rw[aj6];show (o.all aa3&&true)=_;rw[ff]
   cases hb:o.all aa3 with
   | false =>
    simp only[↓zA,sevalprocAttr,aeF,f0,f1,f4,f6,f7,f8,fo,aK,dk',d1,gx,gd,hwj,hwj2,hb,sb2,z1]
    exact⟨n-2,by omega,o++[39],m+2,rfl,rfl,by rw[hall,hb],by omega,by omega,by simp;omega,E⟩
   | true =>
    simp only[↓zA,sevalprocAttr,aeF,f0,f1,f4,f6,f7,f8,fo,aK,dk',d1,gx,gd,hwj,hwj2,hb,sb2,z1]
    exact⟨n-2,by omega,o++[39],m+2,rfl,rfl,by rw[hall,hb],by omega,by omega,by simp;omega,E⟩
  .have hd':=aj hd
   have E1:=stop (by rw[hd0];simpa using hd)
   cases hb:o.all aa3 with
   | false =>
    simp only[E1,hb,ct,ah]
    simp only[↓zA,sevalprocAttr,aeF,f0,f1,f4,f6,f8,fo,aK,dk',d1,gx,gd,e39d,hd',hwj,ndk,hb,adj,be]
    try rfl
   | true =>
    by_cases h100:100<o.length
    .simp only[E1,hb,bJ,ab,ap,h100,ah]
     simp only[↓zA,sevalprocAttr,aeF,f0,f1,f4,f6,f7,f8,fo,aK,dk',d1,gx,gd,e39d,hd',hwj,ndk,hb,l100,h100,adj,be]
     try rfl
    .simp only[E1,hb,bJ,ab,ap,h100]
     simp only[↓zA,sevalprocAttr,aeF,f0,f1,f4,f6,f7,f8,fo,aK,dk',d1,gx,gd,e39d,hd',hwj,ndk,hb,l100,h100,hsub,be]
     try rfl
 .simp only[↓zA,sevalprocAttr,aeF]
  exact⟨[],0,rfl,rfl,rfl,by omega,by omega,am _,rfl⟩
def aim:=hH @Tryz.f247.eq_1 @zq @zT0 (kf aMk)
def aqy(s:List UInt8)(hne:s≠[])(hl:s.length<=4000)(h:∀ c∈s,(cG c||bz c)=true):G1 247 [.of (aJ (aM s))] (aN (afz s)):=by
 have h0:0<s.length:=List.length_pos_iff.2 hne
 have h0':((0:Int)<(s.length:Int))=True:=aa aC
 have e32:=awR [32]
 have wl:aaN.length=379:=aDZ
 refine bB aMk ?_
 simp only[↓zA,sevalprocAttr,aim]
 refine ew s.length (λk t=>t.fr 0=.of (aJ (aM s))/\t.fr 3=.of (aJ (aM aaN))/\t.fr 4=au k/\t.objs=[]) ?_ ?_
 .simp only[↓zA,sevalprocAttr,aim]
  try exact rfl
 rintro k ⟨frk,obk,ckk⟩ hk ⟨f0,f2,f3,fo⟩
 dsimp only at f0 f2 f3 fo
 rcases av k s.length with dk|dk
 .have hw:=aW k aC
  have gx:=bu dk
  have hm:=bt dk
  have hsd:=az8 (h s[k] hm)
  have e1:(((s[k].toNat:Nat):Int)<97)=¬(97<=s[k].toNat):=propext aC
  have e2:((122:Int)<((s[k].toNat:Nat):Int))=¬(s[k].toNat<=122):=propext aC
  by_cases a1:97<=s[k].toNat
  .by_cases a2:s[k].toNat<=122
   .simp only[↓zA,sevalprocAttr,aim,f0,f2,f3,fo,aK,dk,gx,hw,e1,e2,a1,a2]
   .have hr:=aqv hm (λq=>a2 q.2) hsd
    simp only[↓zA,sevalprocAttr,aim,f0,f3,fo,aK,dk,gx,e1,e2,a1,a2,hr]
  .have hr:=aqv hm (λq=>a1 q.1) hsd
   simp only[↓zA,sevalprocAttr,aim,f0,f3,fo,aK,dk,gx,e1,a1,hr]
 have e:k=s.length:=by omega
 subst e
 simp only[↓zA,sevalprocAttr,aim,f0,f3,fo,aK,bg]
 refine ew (aaN.length-(s.length+2)+1) (λk t=>t.fr 0=.of (aJ (aM s))/\t.fr 3=.of (aJ (aM aaN))/\t.fr 5=au k/\t.objs=[]/\∀ j,j<k->(aaN.drop j).take (s.length+2)≠ajH s) ?_ ?_
 .simp only[↓zA,sevalprocAttr,aim,f0,f2]
  try exact λj hj=>absurd hj (abk _)
 rintro k ⟨frq,obq,ckq⟩ hk2 ⟨g0,g2,g3,go,E⟩
 dsimp only at g0 g2 g3 go
 have w1:IntKind.i64.wrap ((k:Int)+(s.length:Int))=((k+s.length:Nat):Int):=cj _ aC aC
 have w2:IntKind.i64.wrap (((k+s.length:Nat):Int)+2)=((k+s.length+2:Nat):Int):=cj _ aC aC
 have hw:=aW k aC
 have l1:1+s.length<=afM:=by unfold afM;omega
 have l2:(32::s).length+1<=afM:=by unfold afM;simp only[aX];omega
 have le:(((k+s.length+2:Nat):Int)<=(aaN.length:Int))=(k+s.length+2<=aaN.length):=propext Int.ofNat_le
 by_cases d:k+s.length+2<=aaN.length
 .have sb:=afT aaN k (k+s.length+2) aC d
  have et:(aaN.take (k+s.length+2)).drop k=(aaN.drop k).take (s.length+2):=by rw[fX];congr 1;omega
  rw[et] at sb
  by_cases c:(aaN.drop k).take (s.length+2)=ajH s
  .have hr:=aNZ c
   rw[c] at sb
   have cc:(aM (ajH s)=aM (32::(s++[32])))=True:=aa rfl
   simp only[↓zA,sevalprocAttr,aim,g0,g2,g3,go,w1,w2,le,d,h0',sb,e32,au6,l1,cc,hr]
   unfold afM
   omega
  .have cc:(aM ((aaN.drop k).take (s.length+2))=aM (32::(s++[32])))=False:=aj λq=>c (apm q)
   simp only[↓zA,sevalprocAttr,aim,g0,g2,g3,go,w1,w2,hw,le,d,h0',sb,e32,au6,l1,cc]
   refine⟨by unfold afM;omega,by omega,λj hj=>?_⟩
   rcases av j k with hj2|hj2
   .exact E j hj2
   .have:j=k:=by omega
    rw[this];exact c
 .have hr:afz s=false:=avO λj hj=>E j aC
  simp only[↓zA,sevalprocAttr,aim,g0,g2,g3,go,w1,w2,le,d,hr]
def av0(s:List UInt8)(hne:s≠[])(hl:s.length<=4000)(h:∀ c∈s,(cG c||bz c)=true)(K:An->Prop):cKp 247 [.of (.lit (.string (aM s)))] [] K↔K ⟨false,[aN (afz s)],[]⟩:=aF.k (aqy s hne hl h) K
def cv1(b:UInt8)(t:Tk):ad3 tP 64 9 (.own t 5 1 [.lit (.int .u8 (b.toNat:Nat))] 1)=out (ahQ (aM [b])):=aCZ t [b] 1 rfl
def ayv{c:UInt8}(h:cG c=true):abG c=false:=by
 cases hg:abG c with
 | false=>rfl
 | true =>
  have:=(afI c).1 hg
  simp only[cG,bD,ar,aR] at h
  rcases h with h|rfl
  .omega
  .exact absurd this aI
def ahi:=hZ @Tryz.f156.eq_1 @zq @aVK @U9 @T64 @cW @zT0 (kf aMY)
def ayH(s:List UInt8)(i:Nat)(hl:s.length<=4000)(c0:UInt8)(r0:List UInt8)(hd0:s.drop i=c0::r0)(hl0:abN c0=true):GN 156 [.of (aJ (aM s)),au i] [.of (.agg (tnC (lxW i ((s.drop i).takeWhile fV)).1)),au (lxW i ((s.drop i).takeWhile fV)).2]:=by
 have hlen:=afR fV (s.drop i)
 rw[cU] at hlen
 have hall:∀ c∈(s.drop i).takeWhile fV,fV c=true:=λc hc=>bo.1 (aeb (p:=fV) (l:=s.drop i)) c hc
 have hne:(s.drop i).takeWhile fV≠[]:=by
  rw[hd0,dV,aE (by unfold fV;rw[hl0];rfl)]
  exact ac5 _ _
 have hi:i<=s.length:=by
  rcases av s.length i with g|g
  .rw[bv aC] at hd0;cases hd0
  .exact g
 generalize hw:(s.drop i).takeWhile fV=w at *
 have kr:=av0 (w.map gD) (by simpa using hne) (by simp;omega) (ao2 hall)
 have lw:(w.map gD).length=w.length:=bM _
 have hsub:IntKind.i64.wrap (((i+w.length:Nat):Int)-(i:Int))=(w.length:Int):=by rw[cj _ aC aC];omega
 have l20:((20:Int)<(w.length:Int))=(20<w.length):=propext aC
 refine bB aMY ?_
 simp only[↓zA,sevalprocAttr,ahi]
 refine eT _ _ (λn t=>∃ d:List UInt8,t.fr 0=.of (aJ (aM s))/\t.fr 1=au i/\t.fr 4=.ptr 0 0/\t.fr 6=au (i+d.length:Nat)/\t.fr 7=.of (aJ (aM (d.map gD)))/\t.objs=[tkZ]/\i+d.length+n=s.length+1/\i+d.length<=s.length/\w=d++(s.drop (i+d.length)).takeWhile fV) ?_ (s.length+1-i) _ ?_
 .rintro n ⟨frn,obn,ckn⟩ ⟨d,f0,f1,f4,f6,f7,fo,hn,hj,E⟩
  dsimp only at f0 f1 f4 f6 f7 fo
  have hwj:=aW (i+d.length) aC
  rcases av (i+d.length) s.length with dk|dk
  rotate_left
  .have dk':(i+d.length<s.length)=False:=aj aC
   rw[bv dk,abo,aU] at E
   subst E
   cases hr:afz (w.map gD) with
   | true =>
    rw[hr] at kr
    simp only[lxW,hr,ah]
    simp only[↓zA,sevalprocAttr,ahi,f0,f1,f4,f6,f7,fo,aK,dk',hsub,kr,be]
    try rfl
   | false =>
    rw[hr] at kr
    by_cases h20:20<w.length
    .simp only[lxW,hr,ab,ap,h20,ah]
     simp only[↓zA,sevalprocAttr,ahi,f0,f1,f4,f6,f7,fo,aK,dk',kr,be,lw,l20,h20,adj]
     try rfl
    .simp only[lxW,hr,ab,ap,h20]
     simp only[↓zA,sevalprocAttr,ahi,f0,f1,f4,f6,f7,fo,aK,dk',hsub,kr,be,lw,l20,h20]
     try rfl
  have gx:=bu dk
  have dk':=aa dk
  rw[arE s _ (fu dk)] at E
  generalize s[i+d.length]=c at *
  have hlen2:(d++[c]).length=d.length+1:=by simp
  have hm:(d++[c]).map gD=d.map gD++[gD c]:=by simp
  have z1:=λ(P:Program) (T:TT) (t':Nat) (v:Option TypeDesc)=>aTa P T t' v (d.map gD) [gD c] (by simp only[bM,fZ];omega)
  have cv:=cv1 (gD c)
  cases hc:fV c with
  | true =>
   rw[hc,aE rfl] at E
   have E2:w=(d++[c])++(s.drop (i+(d++[c]).length)).takeWhile fV:=by rw[hlen2,E,eO];rfl
   have fin:∃ m',m'<n/\∃ d':List UInt8,au (i+d.length+1:Nat)=au (i+d'.length:Nat)/\ahQ (aM (d.map gD++[gD c]))=.of (aJ (aM (d'.map gD)))/\i+d'.length+m'=s.length+1/\i+d'.length<=s.length/\w=d'++(s.drop (i+d'.length)).takeWhile fV :=
    ⟨n-1,by omega,d++[c],by rw[hlen2,cE],by rw[hm],by rw[hlen2];omega,by rw[hlen2];omega,E2⟩
   cases h1:cG c with
   | true =>
    have h2:=ayv h1
    rw[anl h2] at z1 cv fin
    simp only[↓zA,sevalprocAttr,ahi,f0,f1,f4,f6,f7,fo,aK,dk',gx,hwj,aaf,acC,h1,h2,akJ,cv,z1]
    exact fin
   | false =>
    cases h2:abG c with
    | true =>
     have hn:=aov h2
     have hg:=(afI c).1 h2
     have w1:IntKind.u8.wrap (((c.toNat:Nat):Int)+32)=(((gD c).toNat:Nat):Int):=by rw[hn,IntWalk.u8_in _ aC];rfl
     simp only[↓zA,sevalprocAttr,ahi,f0,f1,f4,f6,f7,fo,aK,dk',gx,hwj,aaf,acC,h1,h2,w1,akJ,cv,z1]
     exact fin
    | false =>
     have h3:bz c=true:=by unfold fV abN at hc;rw[h1,h2] at hc;simpa using hc
     rw[anl h2] at z1 cv fin
     simp only[↓zA,sevalprocAttr,ahi,f0,f1,f4,f6,f7,fo,aK,dk',gx,hwj,aaf,acC,abd,h1,h2,h3,akJ,cv,z1]
     exact fin
  | false =>
   have h3:bz c=false:=by unfold fV at hc;cases h:bz c with|true=>rw[h,aY] at hc;cases hc|false=>rfl
   have h1:cG c=false:=by unfold fV abN at hc;cases h:cG c with|true=>rw[h] at hc;simp at hc|false=>rfl
   have h2:abG c=false:=by unfold fV abN at hc;cases h:abG c with|true=>rw[h] at hc;simp at hc|false=>rfl
   rw[hc,aA aI,aU] at E
   subst E
   cases hr:afz (w.map gD) with
   | true =>
    rw[hr] at kr
    simp only[lxW,hr,ah]
    simp only[↓zA,sevalprocAttr,ahi,f0,f1,f4,f6,f7,fo,aK,dk',gx,aaf,acC,abd,h1,h2,h3,hsub,kr,be]
    try rfl
   | false =>
    rw[hr] at kr
    by_cases h20:20<w.length
    .simp only[lxW,hr,ab,ap,h20,ah]
     simp only[↓zA,sevalprocAttr,ahi,f0,f1,f4,f6,f7,fo,aK,dk',gx,aaf,acC,abd,h1,h2,h3,kr,be,lw,l20,h20,adj]
     try rfl
    .simp only[lxW,hr,ab,ap,h20]
     simp only[↓zA,sevalprocAttr,ahi,f0,f1,f4,f6,f7,fo,aK,dk',gx,aaf,acC,abd,h1,h2,h3,hsub,kr,be,lw,l20,h20]
     try rfl
 .simp only[↓zA,sevalprocAttr,ahi]
  exact⟨[],rfl,rfl,by simp;omega,by simp;omega,hw.symm⟩
def apd:=hM @Tryz.f68.eq_1 @zq @aW7 @cW @zT0 (kf anw)
def ayL(s:List UInt8)(i:Nat)(hl:s.length<=4000)(hi:i<=s.length):GN 68 [.of (aJ (aM s)),au i] [.of (.agg (tnC (abX s i).1)),au (abX s i).2]:=by
 have hs:=ahW false (s.drop i)
 rw[cU] at hs
 have ks:=λK=>aF.k (ayK s i (by unfold LB;omega) hi) K
 unfold abX
 have h1:((i:Int)<0)=False:=aj aC
 have h2:((s.length:Int)<(i:Int))=False:=aj aC
 generalize hj:i+dY false (s.drop i)=j at *
 rcases av j s.length with dk|dk
 .have h3:((j:Int)=(s.length:Int))=False:=aj aC
  have gx:=bu dk
  have kw:=λh K=>aF.k (ayH s j hl _ _ (fu dk) h) K
  have kn:=λK=>aF.k (at5 s j hl aC) K
  have kq:=λK=>aF.k (at4 s j hl dk) K
  have kt:=λK=>aF.k (ayI s j hl dk) K
  have kg:=λK=>aF.k (ayJ s j hl _ _ (fu dk)) K
  have e34:(((s[j].toNat:Nat):Int)=34)=(s[j]=34):=dS _ 34 34 rfl
  have e39:(((s[j].toNat:Nat):Int)=39)=(s[j]=39):=dS _ 39 39 rfl
  have et:aiO j (s.drop j)=if abN s[j] then lxW j ((s.drop j).takeWhile fV) else if bz s[j] then aeK j ((s.drop j).takeWhile bz) else if s[j]=34 then ahp j (s.drop (j+1)) else if s[j]=39 then aiP j (s.drop (j+1)) else lxG j s[j] (s.drop (j+1)).head?:=by
   rw[fu dk];rfl
  rw[et]
  cases c1:abN s[j] with
  | true =>
   have kw:=kw c1
   simp only[ah]
   generalize lxW j ((s.drop j).takeWhile fV)=r at *
   cases c0:cG s[j] with
   | true =>
    refine bB anw ?_
    simp only[↓zA,sevalprocAttr,apd,h1,h2,h3,ks,gx,aaf,c0,kw,be]
    try rfl
   | false =>
    have c9:abG s[j]=true:=by unfold abN at c1;rw[c0] at c1;simpa using c1
    refine bB anw ?_
    simp only[↓zA,sevalprocAttr,apd,h1,h2,h3,ks,gx,aaf,acC,c0,c9,kw,be]
    try rfl
  | false =>
   simp only[ab,ap]
   have c0:cG s[j]=false:=by unfold abN at c1;cases h:cG s[j] with|true=>rw[h] at c1;cases c1|false=>rfl
   have c9:abG s[j]=false:=by unfold abN at c1;rw[c0] at c1;simpa using c1
   cases c2:bz s[j] with
   | true =>
    simp only[ah]
    generalize aeK j ((s.drop j).takeWhile bz)=r at *
    refine bB anw ?_
    simp only[↓zA,sevalprocAttr,apd,h1,h2,h3,ks,gx,aaf,acC,abd,c0,c9,c2,kn,be]
    try rfl
   | false =>
    simp only[ab,ap]
    by_cases c3:s[j]=34
    .rw[aE c3]
     have c3':=aa c3
     generalize ahp j (s.drop (j+1))=r at *
     refine bB anw ?_
     simp only[↓zA,sevalprocAttr,apd,h1,h2,h3,ks,gx,aaf,acC,abd,c0,c9,c2,e34,c3',kq,be]
     try rfl
    .rw[aA c3]
     have c3':=aj c3
     by_cases c4:s[j]=39
     .rw[aE c4]
      have c4':=aa c4
      generalize aiP j (s.drop (j+1))=r at *
      refine bB anw ?_
      simp only[↓zA,sevalprocAttr,apd,h1,h2,h3,ks,gx,aaf,acC,abd,c0,c9,c2,e34,c3',e39,c4',kt,be]
      try rfl
     .rw[aA c4]
      have c4':=aj c4
      generalize lxG j s[j] (s.drop (j+1)).head?=r at *
      refine bB anw ?_
      simp only[↓zA,sevalprocAttr,apd,h1,h2,h3,ks,gx,aaf,acC,abd,c0,c9,c2,e34,c3',e39,c4',kg,be]
      try rfl
 .have h3:((j:Int)=(s.length:Int))=True:=aa aC
  rw[bv dk]
  refine bB anw ?_
  simp only[↓zA,sevalprocAttr,apd,h1,h2,h3,ks,be,aiO]
  try rfl
def amP:=ai (hJ @Tryz.f32.eq_1 @zq @aWY @aYZ @cW) (hJ @fH @P3 @Q3 @zT0 (kf aJs))
def amF(s:List UInt8)(hs:s.length<LB)(r:List Tn×Int×Int)(hr:acq s=some r):GN 32 [.of (aJ (aM s))] [.of (slC tnC r.1),au r.2.1,au r.2.2]:=by
 unfold acq at hr
 by_cases hl:2000<s.length
 .rw[aE hl] at hr
  cases hr
  have h1:((2000:Int)<(s.length:Int))=True:=aa aC
  refine bB aJs ?_
  simp only[↓zA,sevalprocAttr,amP,h1]
  try rfl
 .rw[aA hl] at hr
  have h1:((2000:Int)<(s.length:Int))=False:=aj aC
  refine bB aJs ?_
  simp only[↓zA,sevalprocAttr,amP,h1]
  refine eT _ _ (λn t=>∃ (o:List Tn) (j:Nat),((t.fr 5=.nil/\o=[])\/∃ c x i,c<t.clk/\t.fr 5=.own (.nm c x i) 63 5 (fl tnC o) o.length)/\t.fr 0=.of (aJ (aM s))/\t.fr 6=au j/\t.objs=[]/\ahT s n o j=some r/\j<=s.length/\o.length<=j) ?_ (s.length+2) _ ?_
  .rintro n ⟨frn,obn,ckn⟩ ⟨o,j,hK,f0,f6,fo,E,hj,ho⟩
   dsimp only at hK f0 f6 fo
   have hos:(o.length+1<=LIM)=True:=aa (by unfold LIM;omega)
   have l1:(1<=LIM)=True:=aa aI
   cases n with
   | zero=>simp only[ahT] at E;cases E
   | succ n =>
   unfold ahT at E
   have kx:=λK=>aF.k (ayL s j aC hj) K
   have hok:=λh=>asc hj (t:=(abX s j).1) (by rw[← (show (abX s j).2=0 from h)])
   generalize abX s j=p at *
   obtain⟨t,e⟩:=p
   dsimp only at E kx hok
   by_cases he:e=0
   .have he':=aa he
    rw[aA (by simp[he])] at E
    by_cases hk:t.k=0
    .have hk':=aa hk
     rw[aE hk] at E
     cases E
     rcases hK with ⟨f5,rfl⟩|⟨c,x,i',hc,f5⟩
     .simp only[↓zA,sevalprocAttr,amP,f0,f5,f6,fo,kx,he',hk',be]
      try rfl
     .have hn0:(c=ckn)=False:=aj aC
      simp only[↓zA,sevalprocAttr,amP,f0,f5,f6,fo,kx,he',hk',be,hn0]
      try rfl
    .have hk':=aj hk
     rw[aA hk] at E
     rcases hok he with q|⟨a,ha,q⟩
     .exact absurd q hk
     have q1:=q.pl
     have q2:=q.sz
     have hw:IntKind.i64.wrap (t.pl+t.sz)=(((t.pl+t.sz).toNat:Nat):Int):=by rw[cj _ aC aC];omega
     have hb:(t.pl+t.sz).toNat<=s.length:=by omega
     have hb2:j+1<=(t.pl+t.sz).toNat:=by omega
     rcases hK with ⟨f5,rfl⟩|⟨c,x,i',hc,f5⟩
     .simp only[↓zA,sevalprocAttr,amP,f0,f5,f6,fo,kx,he',hk',be,l1,hw]
      exact⟨n,aD n,[t],(t.pl+t.sz).toNat,by first|exact anb (by rw[agu,be]) rfl (by omega)|exact .inr (anb (by rw[agu,be]) rfl aC),rfl,by simpa using E,hb,by simp only[fZ];omega⟩
     .have hne:(c=ckn+1)=False:=aj aC
      have hn0:(c=ckn)=False:=aj aC
      simp only[↓zA,sevalprocAttr,amP,f0,f5,f6,fo,kx,he',hk',be,hos,hn0,hw]
      and_intros
      all_goals first|exact okN _ _ aC _|exact⟨n,aD n,o++[t],(t.pl+t.sz).toNat,by first|exact akY (by rw[be]) rfl (by omega)|exact .inr (akY (by rw[be]) rfl aC),rfl,E,hb,by simp only[abQ];omega⟩|rfl|omega
   .have he':=aj he
    rw[aE (by simpa using he)] at E
    cases E
    rcases hK with ⟨f5,rfl⟩|⟨c,x,i',hc,f5⟩
    all_goals
     simp only[↓zA,sevalprocAttr,amP,f0,f6,fo,kx,he',be]
     try rfl
  .simp only[↓zA,sevalprocAttr,amP]
   first|exact⟨[],0,.inl rfl,rfl,hr,bn _,am _⟩|exact⟨[],0,rfl,rfl,hr,bn _,am _⟩
def nnP(a:Nat×Nat):Nn:=⟨a.1,a.2⟩
def anh(a:Nat×Nat):(nnP a).nd=a.1:=rfl
def ani(a:Nat×Nat):(nnP a).dp=a.2:=rfl
def aUz(a b:Nat)(h:a+b<=4611686018427387903):IntKind.i64.wrap ((a:Int)+(b:Int))=((a+b:Nat):Int):=by rw[cj _ aC aC];rfl
def aUj:=ib @zq @aWG @aWF @aWE @an7 @P3 @Q3 @zT0 (kf aMO)
def aBp(a b:Nat×Nat)(h:a.1+b.1<=4611686018427387903):G1 170 [.of (.agg (nnC (nnP a))),.of (.agg (nnC (nnP b)))] (.of (.agg (nnC (nnP (bm a b))))):=by
 have hw:=aUz a.1 b.1 h
 have hm:(if (a.2:Int)<b.2 then (b.2:Int) else a.2)=((max a.2 b.2:Nat):Int):=by split <;> omega
 have e:nnC (nnP (bm a b))=[ci ((a.1+b.1:Nat):Int),ci ((max a.2 b.2:Nat):Int)]:=rfl
 refine bB aMO ?_
 simp only[Tryz.f170,↓zA,sevalprocAttr,aUj,anh,ani,hw,hm,e]
def ald(a b:Nat×Nat)(K:An->Prop):cKp 170 [.of (.agg (nnC (nnP a))),.of (.agg (nnC (nnP b)))] [] K↔ifP (a.1+b.1<=4611686018427387903) (K ⟨false,[.of (.agg (nnC (nnP (bm a b))))],[]⟩) (agK Tryz.prog pr 170 [.of (.agg (nnC (nnP a))),.of (.agg (nnC (nnP b)))] K):=ajJ (aBp a b) K
def aUi:=hZ @zq @aWC @aWB @an7 @P3 @Q3 @zT0 (kf aMN)
def aDI(a:Nat×Nat)(h:a.1<=4611686018427387903/\a.2<=4611686018427387903):G1 171 [.of (.agg (nnC (nnP a)))] (.of (.agg (nnC (nnP (upN a))))):=by
 have hw:=aW a.1 aC
 have hw2:=aW a.2 aC
 have e:nnC (nnP (upN a))=[ci ((a.1+1:Nat):Int),ci ((a.2+1:Nat):Int)]:=rfl
 refine bB aMN ?_
 simp only[Tryz.f171,↓zA,sevalprocAttr,aUi,anh,ani,hw,hw2,e]
def asF(a:Nat×Nat)(K:An->Prop):cKp 171 [.of (.agg (nnC (nnP a)))] [] K↔ifP (a.1<=4611686018427387903/\a.2<=4611686018427387903) (K ⟨false,[.of (.agg (nnC (nnP (upN a))))],[]⟩) (agK Tryz.prog pr 171 [.of (.agg (nnC (nnP a)))] K):=ajJ (aDI a) K
def aPP:=hZ @Tryz.f71.eq_1 @zq @aWg @an7 @P3 @Q3 @zT0 (kf aSk)
def ayE(a:Nat×Nat):G1 71 [.of (.agg (nnC (nnP a)))] (aN (afp a)):=by
 have e1:((a.1:Int)<=400)=(a.1<=400):=propext aC
 have e2:((a.2:Int)<=40)=(a.2<=40):=propext aC
 refine bB aSk ?_
 by_cases c1:a.1<=400
 .simp only[↓zA,sevalprocAttr,aPP,anh,ani,e1,e2,afp,c1]
 .simp only[↓zA,sevalprocAttr,aPP,anh,ani,e1,afp,c1]
def avW(a:Nat×Nat)(K:An->Prop):cKp 71 [.of (.agg (nnC (nnP a)))] [] K↔K ⟨false,[aN (afp a)],[]⟩:=aF.k (ayE a) K
def amE(l:List Xp):Prop:=G1 72 [.of (slC xpC l)] (.of (.agg (nnC (nnP (bj cV l)))))
def asK(l:List Qy):Prop:=G1 89 [.of (slC qyC l)] (.of (.agg (nnC (nnP (bj fM l)))))
def ayd(l:List Fm):Prop:=G1 181 [.of (slC fmC l)] (.of (.agg (nnC (nnP (bj aay l)))))
def awJ{α:Type}(f:α->Nat×Nat)(w:α->Nat)(l:List α)(hs:leW (bj f l) (lsW w l))(hw:lsW w l<=WL)(a b:Nat×Nat)(h:bm (bm a b) (bj f [])=bj f l\/∃ r,bm (bm a b) (bj f r)=bj f l):a.1+b.1<=4611686018427387903:=by
 simp only[leW,WL] at hs hw
 rcases h with h|⟨r,h⟩ <;> (have:=congrArg Prod.fst h;simp only[bm] at this;omega)
def aAN:=ai (hM @Tryz.f72.eq_1 @zq @aWA @aWz @aYY @aZ) (hJ @an7 @bi @cX @zT0 (kf aSj))
def aDT(l:List Xp)(hw:lsW xpW l<=WL)(i1:∀ x∈l,amE x.ks)(i2:∀ x∈l,asK x.sb):amE l:=by
 have h1:=fL xpW l λx _=>adT x
 have h2:=sbX l
 have hw2:=hw
 simp only[WL] at hw2
 unfold amE
 refine bB aSj ?_
 simp only[↓zA,sevalprocAttr,aAN]
 refine ew l.length (λk s=>∃ a,s.fr 0=.of (slC xpC l)/\s.fr 2=.ptr 0 0/\s.fr 3=.ptr 1 0/\s.fr 4=au k/\s.objs=[.var 120 [au 0,au 0],.var 120 [.of (ci ((a:Nat×Nat).1:Int)),.of (ci (a.2:Int))]]/\bm a (bj cV (l.drop k))=bj cV l) ?_ ?_
 .refine⟨(0,0),?_⟩
  simp only[↓zA,sevalprocAttr,aAN,akc]
  try exact rfl
 .rintro k s hk ⟨a,f0,f2,f3,f4,ho,E⟩
  have ea:nnC (nnP a)=[ci (a.1:Int),ci (a.2:Int)]:=rfl
  rcases av k l.length with c1|c1
  .have hwk:=aW k aC
   have hm:l[k]∈l:=bt c1
   have kx:=λK=>aF.k (i1 l[k] hm) K
   have kq:=λK=>aF.k (i2 l[k] hm) K
   have b1:=sbX l[k].ks
   have b2:=sbQ l[k].sb
   have b3:=dK (w:=xpW) hm
   have b4:=aen l[k]
   simp only[leW] at b1 b2
   have p1:(bj cV l[k].ks).1+(bj fM l[k].sb).1<=4611686018427387903:=by omega
   have p2:(bm (bj cV l[k].ks) (bj fM l[k].sb)).1<=4611686018427387903/\(bm (bj cV l[k].ks) (bj fM l[k].sb)).2<=4611686018427387903:=by simp only[bm];omega
   rw[aan c1,alb,← ahN] at E
   have es:upN (bm (bj cV l[k].ks) (bj fM l[k].sb))=cV l[k]:=(arJ _).symm
   have p3:=awJ cV xpW l h2 hw a (cV l[k]) (.inr ⟨_,E⟩)
   have eb:nnC (nnP (bm a (cV l[k])))=[ci ((bm a (cV l[k])).1:Int),ci ((bm a (cV l[k])).2:Int)]:=rfl
   simp only[↓zA,sevalprocAttr,aAN,f0,f2,f3,f4,ho,aK,c1,bu c1,hwk,kx,kq,← ea,ald,asF,p1,p2,es,p3,eb]
   exact⟨_,rfl,E⟩
  .have e:k=l.length:=by omega
   subst e
   rw[bf,bj,ad4] at E
   subst E
   simp only[↓zA,sevalprocAttr,aAN,f0,f2,f3,f4,ho,aK,bg,ea]

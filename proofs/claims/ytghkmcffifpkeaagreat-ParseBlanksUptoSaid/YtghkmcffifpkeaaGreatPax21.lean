/- ParseBlanks: blanks do not count. Conditions: none. -/
import Derived.Test.YtghkmcffifpkeaaGreatPa12
set_option linter.all false
set_option maxRecDepth 100000
set_option maxHeartbeats 64000000
namespace Go.Proofs.YtghkmcffifpkeaaGreat
open Pe Tab
def upB(c:UInt8):UInt8:=if 97<=c.toNat/\c.toNat<=122 then c-32 else c
def af6(c:UInt8):abk (upB c)=abk c/\abg (upB c)=abg c/\bQ (upB c)=bQ c/\abe (upB c)=abe c/\(abg c=false->upB c=c)/\(bQ c=true->upB c=c) /\
  (∀ k∈([10,45,34,39,124,60,62,61]:List UInt8),(upB c=k)=(c=k)):=by
 have h:∀ n:Fin 256,abk (upB (UInt8.ofNat n))=abk (UInt8.ofNat n)/\abg (upB (UInt8.ofNat n))=abg (UInt8.ofNat n)/\bQ (upB (UInt8.ofNat n))=bQ (UInt8.ofNat n)/\abe (upB (UInt8.ofNat n))=abe (UInt8.ofNat n)/\(abg (UInt8.ofNat n)=false->upB (UInt8.ofNat n)=UInt8.ofNat n)/\(bQ (UInt8.ofNat n)=true->upB (UInt8.ofNat n)=UInt8.ofNat n) /\
  (∀ k∈([10,45,34,39,124,60,62,61]:List UInt8),decide (upB (UInt8.ofNat n)=k)=decide (UInt8.ofNat n=k)):=by decide +kernel
 have h:=h ⟨c.toNat,c.toNat_lt⟩
 simp only[UInt8.ofNat_toNat] at h
 obtain⟨h1,h2,h3,h4,h5,h6,h7⟩:=h
 exact⟨h1,h2,h3,h4,h5,h6,λk hk=>propext (by have:=h7 k hk;rw[ae8] at this;exact this)⟩
theorem ata:∀ (l:List UInt8) (b:Bool),bU b (l.map upB)=bU b l
 | [],_=>by simp[bU]
 | c::r,true=>by
  simp only[aU,bU,(af6 c).2.2.2.2.2.2 10 aI,ata r]
 | c::r,false=>by
  have hh:((r.map upB).head?=some 45)=(r.head?=some 45):=by
   cases r with
   | nil=>rfl
   | cons d r=>simp only[aU,afN,ab,(af6 d).2.2.2.2.2.2 45 aI]
  simp only[aU,bU,(af6 c).1,(af6 c).2.2.2.2.2.2 45 aI,hh,ata r]
theorem as9{p:UInt8->Bool}(hp:∀ c,p (upB c)=p c):∀ l:List UInt8,(l.map upB).takeWhile p=(l.takeWhile p).map upB
 | []=>rfl
 | c::r=>by
  simp only[aU,bu,hp c]
  split
  .rw[as9 hp r,aU]
  .rfl
def aW8(w:List UInt8):(w.map upB).map abe=w.map abe:=by
 rw[adO]
 exact dS λc _=>(af6 c).2.2.2.1
theorem aHf:∀ w:List UInt8,(∀ c∈w,bQ c=true)->w.map upB=w
 | [],_=>rfl
 | c::r,h=>by rw[aU,(af6 c).2.2.2.2.2.1 (h c aT),aHf r λd hd=>h d (by simp[hd])]
theorem axq{p:UInt8->Bool}:∀ (l:List UInt8),∀ c∈l.takeWhile p,p c=true
 | [],c,h=>by cases h
 | a::r,c,h=>by
  rw[bu] at h
  split at h
  .rename_i e
   rcases bp.1 h with rfl|h
   .exact e
   .exact axq r c h
  .cases h
def aSQ(i:Nat)(c:UInt8)(d:Option UInt8):lxG i c (d.map upB)=lxG i c d:=by
 cases d with
 | none=>rfl
 | some d =>
  have h:=(af6 d).2.2.2.2.2.2
  simp only[aG,lxG,ab,h 124 aI,h 62 aI,h 61 aI,abw]
  split
  .rename_i e
   rcases e with e|e|e|e
   all_goals (rw[show upB d=d from by rw[e.2];decide])
  .rfl
def aW7(i:Nat):∀ l:List UInt8,(∀ c∈l,c≠34/\c≠39)->eU i (l.map upB)=eU i l
 | [],_=>rfl
 | c::r,hq=>by
  have hc:=af6 c
  have e34:(upB c=34)=False:=by rw[hc.2.2.2.2.2.2 34 aI];exact aA (hq c aT).1
  have e39:(upB c=39)=False:=by rw[hc.2.2.2.2.2.2 39 aI];exact aA (hq c aT).2
  have f34:(c=34)=False:=aA (hq c aT).1
  have f39:(c=39)=False:=aA (hq c aT).2
  have w1:=as9 (p:=λc=>abg c||bQ c) (λc=>by simp only[(af6 c).2.1,(af6 c).2.2.1]) (c::r)
  have w2:=as9 (p:=bQ) (λc=>(af6 c).2.2.1) (c::r)
  rw[aU] at w1 w2
  simp only[aU,eU,hc.2.1,hc.2.2.1,e34,e39,f34,f39,av,w1,w2]
  split
  .simp only[lxW,aW8,bR]
  split
  .rw[aHf _ (axq _)]
  .rename_i h _
   rw[hc.2.2.2.2.1 (by simpa using h),List.head?_map,aSQ]
def aSR{s:List UInt8}(hq:∀ c∈s,c≠34/\c≠39)(i:Nat):dJ (s.map upB) i=dJ s i:=by
 unfold dJ
 rw[← abc,ata,← abc,aW7 _ _ λc hc=>hq c (dP hc)]
theorem aBU{s:List UInt8}(hq:∀ c∈s,c≠34/\c≠39):∀ (n:Nat) (o:List Tn) (i:Nat),aeA (s.map upB) n o i=aeA s n o i
 | 0,_,_=>rfl
 | n+1,o,i=>by unfold aeA;rw[aSR hq,aBU hq n]
def aSO{s:List UInt8}(hq:∀ c∈s,c≠34/\c≠39):fL (s.map upB)=fL s:=by
 unfold fL;rw[bR,aBU hq]
def aW6{α:Type}{z:α}{run:List Tn->Rz α}{right:α->Bool}{s:List UInt8}(hq:∀ c∈s,c≠34/\c≠39):abT z run right (s.map upB)=abT z run right s:=by
 unfold abT
 rw[aSO hq]
 cases fL s with
 | none=>rfl
 | some x =>
  obtain⟨l,p,e⟩:=x
  dsimp only
  have:∀ ok r,cH z (s.map upB) l ok r=cH z s l ok r:=λok r=>by
   obtain⟨a,j,b⟩:=r
   cases b <;> simp only[cH,plT,bR]
  simp only[this]
def aSP{s:List UInt8}(hq:∀ c∈s,c≠34/\c≠39):ado (s.map upB)=ado s:=aW6 hq
end Go.Proofs.YtghkmcffifpkeaaGreat
namespace Go.Pe
open RowKit
def frontC:Nat->Code->Code
 | n+1,.seq a b=>.seq a (frontC n b)
 | _,_=>.skip
def abL:Nat->Code->Code
 | n+1,.seq _ b=>abL n b
 | _,c=>c
section
variable {P:Program} {G:GP} {pr:Pr} {N:Nat} {Φ:Ex->S->Prop}
theorem bk.cutR(hm:P.follows .mixedOrders=true)(hpr:PrSound P G pr):∀ (n:Nat) (c:Code) (s:S),aaP pr.mt N (frontC n c)=true->WC P pr (Go.Pe.frontC n c) s (aQm P G N (abL n c) Φ)->bk P G N c s Φ:=by
 intro n
 induction n with
 | zero=>intro c s _ h;exact (Z10 ..).1 h
 | succ n ih =>
  intro c s hok h
  cases c with
  | seq a b =>
   simp only[Go.Pe.frontC,aaP,ap] at hok
   have h:=(Zz ..).1 h
   refine bk.seq (bk.of hm hpr hok.1 (WC.mono h λe s' q=>?_))
   cases e with
   | normal=>exact ih b s' hok.2 q
   | exit i=>exact q
   | ret=>exact q
   | pan x=>exact q
  | _=>exact (Z10 ..).1 h
theorem bk.sound{f:Nat}{fn:Func}{b:Code}{kp:Bool}(hf:P.funcs[f]?=some fn)(hb:fn.body=some b)(hN:fn.ntmps=N){xs:List X}(har:xs.length<=N){an:An}
  (h:bk P G N b (adz xs []) (endQ P kp f 0 an)):aa2 P G f xs [] an:=by
 intro fn' hf' k ow w vs hhp hold hcl hvs
 obtain rfl:fn=fn':=ay (hf.symm.trans hf')
 have hvl:vs.length<=N:=by rw[hvs.length];exact har
 have hsim:=ayH (M0:=⟨G,k.m,abM k ow⟩) (N:=N) hhp hold hcl hvs hvl
 have hr:ac3 P f=fn.results.toList:=by simp[ac3,hf]
 refine calls_of_wp hf hb ?_
 rw[hN]
 refine h _ _ _ _ _ _ _ _ rfl hsim λe s x tmps' w' k' ow' hΦ hle hs hx=>?_
 have ret:((acw (TT.of P) s (ac3 P f)).bind λrs=>aeb 0 false (agN kp rs) s.objs)=some an->bodyPost P fn (λe w'=>∃ k' ow' us,ahb an.pan us e/\Hp ⟨G,k.m,abM k ow⟩ k' ow' w w' an.obs/\k.m.le k'.m/\([]:List Ob).length<=an.obs.length/\(∀ r,r<([]:List Ob).length->k'.μ r=k.μ r) /\
   (∀ t p,ow' t=some p->t.older 1 λ_=>False)/\(∀ r off p,ow' (.cell r off)=some p->r<an.obs.length)/\aR k' ow' an.rs us) .ret ⟨tmps',[]⟩ w':=λhl=>by
  rw[hr] at hl
  simp only[bD] at hl
  obtain⟨rs,hrs,hl⟩:=hl
  obtain⟨us,h1,h2⟩:=ag1 (P:=P) hs fn.results.toList rs hrs
  obtain⟨k2,ow2,g1,g2,g3,g4,g5,g6,g7,g8⟩:=ajh hs.toHp hl (aoV kp h2)
  exact⟨rfl,_,alP h1,k2,ow2,us,by rw[g1];rfl,g2,by rw[g3];exact hle.1,aO _,λr hr=>absurd hr (adR _),g6,g7,g8⟩
 cases e with
 | normal=>simp only[Ex.is] at hx;subst hx;exact ret hΦ
 | ret=>simp only[Ex.is] at hx;subst hx;exact ret hΦ
 | exit i=>exact hΦ.elim
 | pan y =>
  simp only[Ex.is] at hx
  obtain⟨v,rfl,hv⟩:=hx
  obtain⟨k2,ow2,g1,g2,g3,g4,g5,g6,g7,g8⟩:=ajh hs.toHp hΦ (rs:=[y]) (us:=[v]) (by simp[aR,hv])
  exact⟨rfl,k2,ow2,[v],by rw[g1];exact⟨v,rfl,rfl⟩,g2,by rw[g3];exact hle.1,aO _,λr hr=>absurd hr (adR _),g6,g7,g8⟩
theorem bk.bytes{a b r:Code}{s s':S}{up j0 n:Nat}{W:List Nat}{cs:List C}{st:ByteArray}(h0:s.fr j0=.of (.lit (.string st)))(ho:s'.objs=s.objs)(hc:s'.clk=s.clk)
  (hf:∀ j,s'.fr j=.of .any\/(j∉W/\s'.fr j=s.fr j)\/(j=up/\s'.fr j=.of (.sl cs n)))
  (raw:∀ (tmps:Array Value) (ds:List Deferred) (w:World) (Q:Exit->Act->World->Prop),tmps.size=N->tmps.getD j0 undef=.string st ->
   (∀ (tmps':Array Value) (w':World) (cap:Nat) (us:List Value),tmps'.size=N->(∀ j,j∉W->tmps'.getD j undef=tmps.getD j undef)->tmps'.getD up undef=.slice (some ⟨w.heap.size,0,none⟩) n cap->n<=cap->Below w.heap.size w w' ->
    (∀ m,bv m cs us)->(∀ o u,us[o]?=some u->w'.cell? ⟨w.heap.size,o,none⟩=some u/\u.oneCell'=true)->Q .normal ⟨tmps',ds⟩ w')->a.wp P (Exit.then (λa' w'=>b.wp P Q a' w') Q) ⟨tmps,ds⟩ w)
  (h:bk P G N r s' Φ):bk P G N (.seq a (.seq b r)) s Φ:=by
 intro M0 k ow w0 w tmps ds Q hG hs hQ
 have e0:=hs.fr j0
 rw[h0] at e0
 simp only[aF,Rep] at e0
 refine wp_seq (Code.wp_mono (λe act w' q=>?_) (raw tmps ds w (Exit.then (λa' w'=>r.wp P Q a' w') Q) hs.size e0.1 λtmps' w' cap us hz hold hup hcap hb hrep hc'=>?_))
 .cases e with
  | normal=>exact wp_seq q
  | _=>exact q
 obtain⟨k',g1,g2,g3⟩:=hs.known hb hc'
 have key:∀ j,aF k' ow (s'.fr j) (tmps'.getD j undef):=λj=>by
  rcases hf j with q|⟨q1,q2⟩|⟨rfl,q⟩
  .rw[q];exact aiJ _
  .rw[q2,hold j q1];exact g2.fr j
  .rw[q,hup]
   simp only[aF,Rep]
   exact⟨_,_,us,rfl,hcap,hrep _,λ_=>⟨w.heap.size,0,rfl,λi u hu=>by rw[cf];exact g3 i u hu⟩⟩
 exact h M0 k' ow w0 w' tmps' ds Q hG (g2.reslot s' ho hc hz key) λe s'' x tmps'' w'' k'' ow'' q1 q2 q3 q4=>hQ e s'' x tmps'' w'' k'' ow'' q1 (Know.le_trans g1 q2) q3 q4
theorem bk.text{a r:Code}{s s':S}{d j0:Nat}{W:List Nat}{g:ByteArray}{v0:Value}(h0:s.fr j0=.of (.lit v0))(ho:s'.objs=s.objs)(hc:s'.clk=s.clk)
  (hf:∀ j,s'.fr j=.of .any\/(j∉W/\s'.fr j=s.fr j)\/(j=d/\s'.fr j=.of (.lit (.string g))))
  (raw:∀ (tmps:Array Value) (ds:List Deferred) (w:World) (Q:Exit->Act->World->Prop),tmps.size=N->tmps.getD j0 undef=v0 ->
   (∀ (tmps':Array Value) (w':World),tmps'.size=N->(∀ j,j∉W->tmps'.getD j undef=tmps.getD j undef)->tmps'.getD d undef=.string g->Below w.heap.size w w'->Q .normal ⟨tmps',ds⟩ w')->a.wp P Q ⟨tmps,ds⟩ w)
  (h:bk P G N r s' Φ):bk P G N (.seq a r) s Φ:=by
 intro M0 k ow w0 w tmps ds Q hG hs hQ
 have e0:=hs.fr j0
 rw[h0] at e0
 simp only[aF,Rep] at e0
 refine wp_seq (raw tmps ds w _ hs.size e0.1 λtmps' w' hz hold hd hb=>?_)
 have g2:=hs.grow hb
 have key:∀ j,aF k ow (s'.fr j) (tmps'.getD j undef):=λj=>by
  rcases hf j with q|⟨q1,q2⟩|⟨rfl,q⟩
  .rw[q];exact aiJ _
  .rw[q2,hold j q1];exact g2.fr j
  .rw[q,hd];simp[aF,Rep,Value.oneCell']
 exact h M0 k ow w0 w' tmps' ds Q hG (g2.reslot s' ho hc hz key) hQ
def ayq(Φ:Ex->S->Prop)(K:S->Prop):Ex->S->Prop
 | .normal,s=>K s
 | e,s=>Φ e s
theorem aje(K:S->Prop)(s:S):ayq Φ K .normal s↔K s:=bg
theorem aiV(K:S->Prop)(s:S):ayq Φ K .ret s↔Φ .ret s:=bg
theorem bk.parts(hm:P.follows .mixedOrders=true)(hpr:PrSound P G pr)(n:Nat){c:Code}{s:S}{K:S->Prop}(hok:aaP pr.mt N (Go.Pe.frontC n c)=true)(h:WC P pr (Go.Pe.frontC n c) s (ayq Φ K))(hK:∀ s',K s'->bk P G N (abL n c) s' Φ):bk P G N c s Φ :=
 bk.cutR hm hpr n c s hok (WC.mono h λe s' q=>by
  cases e with
  | normal=>exact hK s' q
  | exit i=>exact q
  | ret=>exact q
  | pan x=>exact q)
end
end Go.Pe
namespace Go.Proofs.YtghkmcffifpkeaaGreat
open Pe Tab RowKit
abbrev upW:List Nat:=[17,18,139,140,141,142,143,144,145,146,147,148,149,150,151,152,153,154,155,156,157,158,159,160,161,162,163,164]
def ari{P:Program}{ops:Array Oper}{Q:Exit->Act->World->Prop}{a:Act}{w:World}{rest:List Oper}{o:Oper}(hw:Region.wanted o (yielded ops a.tmps)=true)(h:∀ K:Act->World->Prop,(∀ a w,wpList P ops Q rest a w->K a w)->o.wp P a w K Q):wpList P ops Q (o::rest) a w :=
 wpList_step λK hK=>by rw[am hw];exact h K hK
structure UpI (st:ByteArray) (w:World) (cap i:Nat) (w':World) (cur:Array Value):Prop where
 bel:Below w.heap.size w w'
 blk:w'.heap[w.heap.size]?=some (.cells cur 5 (cur.size,cur.size+1))
 size:st.size<=cur.size
 at':∀ o (h:o<st.size),cur[o]?=some (.int .u8 (if o<i then upB st[o] else st[o]).toNat)
structure UpA (st:ByteArray) (tmps:Array Value) (w:World) (cap i:Nat) (t:Array Value):Prop where
 size:t.size=194
 keep:∀ j,j∉upW->t.getD j undef=tmps.getD j undef
 up:t.getD 17 undef=.slice (some ⟨w.heap.size,0,none⟩) st.size cap
 ix:t.getD 18 undef=.int .i64 i
theorem UpA.set{st:ByteArray}{tmps:Array Value}{w:World}{cap i:Nat}{t:Array Value}(h:UpA st tmps w cap i t){j:Nat}(v:Value)(hj:j∈upW)(h7:j≠17)(h8:j≠18):UpA st tmps w cap i (t.setIfInBounds j v):=by
 have g:∀ k,k≠j->(t.setIfInBounds j v).getD k undef=t.getD k undef:=λk hk=>by
  rw[bi,bi,be (bn hk)]
 exact⟨by rw[aaD];exact h.size,λk hk=>by rw[g k (λe=>hk (e▸hj))];exact h.keep k hk,by rw[g _ (bn h7)];exact h.up,by rw[g _ (bn h8)];exact h.ix⟩
theorem UpA.u{st:ByteArray}{tmps:Array Value}{w:World}{cap i:Nat}{t:Array Value}(h:UpA st tmps w cap i t):t.size=194/\(∀ hh,t[17]'hh=Value.slice (some ⟨w.heap.size,0,none⟩) st.size cap)/\∀ hh,t[18]'hh=Value.int .i64 i :=
 ⟨h.size,λhh=>by rw[← h.up];simp[Array.getD,h.size],λhh=>by rw[← h.ix];simp[Array.getD,h.size]⟩
def gen{α:Type}{p q:α->Prop}{a:α}(hq:q a)(h:∀ x,q x->p x):p a:=h a hq
theorem UpI.id{st:ByteArray}{w:World}{cap i:Nat}{w':World}{cur:Array Value}(h:UpI st w cap i w' cur)(hi:i<st.size)(hu:upB (st[i]'hi)=st[i]'hi):UpI st w cap (i+1) w' cur :=
 ⟨h.bel,h.blk,h.size,λo ho=>by
  rw[h.at' o ho]
  by_cases e:o=i
  .subst e;rw[aj (cO o),am (aP o),hu]
  .have:(o<i+1)=(o<i):=propext aC
   simp only[this]⟩
def axi(st:ByteArray)(tmps:Array Value)(w w':World)(cap i:Nat)(ds:List Deferred)(Q:Exit->Act->World->Prop)(T:Array Value)(hT:UpA st tmps w cap i T)(hi:st.size<=400)(hlt:i<st.size)
  (hN:∀ t',UpA st tmps w cap (i+1) t'->Q .normal ⟨t',ds⟩ w') :
 (match (fx (dY (abL 12 (wB Tryz.f7)))) with | .seq _ (.block _ (.loop (.seq _ (.seq _ c))))=>c|c=>c).wp Tryz.prog Q ⟨T,ds⟩ w':=by
 simp only[wB,Tryz.f7,abw,abL,fx,dY]
 have w1:IntKind.i64.wrap ((i:Int)+1)=(i:Int)+1:=by rw[d9 _ aC aC]
 obtain⟨a1,a3,a4⟩:=hT.u
 iterate 9 go_step
 rename_i K hK
 apply hK
 apply wpList_nil
 refine hN _ ?_
 have h1:UpA st tmps w cap i ((T.setIfInBounds 145 (.int .i64 i)).setIfInBounds 146 (.int .i64 ((i:Int)+1))):=by repeat first|refine UpA.set ?_ _ aI aI (by decide)|exact hT
 generalize (T.setIfInBounds 145 (.int .i64 i)).setIfInBounds 146 (.int .i64 ((i:Int)+1))=U at h1
 have g:∀ k,k≠18->∀ v,(U.setIfInBounds 18 v).getD k undef=U.getD k undef:=λk hk v=>by
  rw[bi,bi,be (bn hk)]
 exact⟨by rw[aaD];exact h1.size,λk hk=>by rw[g k (λe=>hk (by rw[e];decide))];exact h1.keep k hk,by rw[g _ aI];exact h1.up,by simp[Array.getD,h1.size]⟩
def aKS(st:ByteArray)(tmps t:Array Value)(w w':World)(cap i:Nat)(cur:Array Value)(ds:List Deferred)(Q:Exit->Act->World->Prop)(hi:i<=st.size)(h400:st.size<=400)(hA:UpA st tmps w cap i t)(hI:UpI st w cap i w' cur)
 (hN:∀ t' w' cur,i<st.size->UpA st tmps w cap (i+1) t'->UpI st w cap (i+1) w' cur->Q .normal ⟨t',ds⟩ w') (hE:∀ t',i=st.size->UpA st tmps w cap i t'->Q (.exit 2) ⟨t',ds⟩ w') :
 (match (fx (dY (abL 12 (wB Tryz.f7)))) with | .seq _ (.block _ (.loop c))=>c|c=>c).wp Tryz.prog Q ⟨t,ds⟩ w':=by
 simp only[wB,Tryz.f7,abw,abL,fx,dY]
 have hA0:=hA
 have hI0:=hI
 obtain⟨b1,b2,b3,b4⟩:=hI
 refine wp_seq (wp_seq ?_)
 by_cases h:i<st.size
 rotate_left
 .obtain rfl:i=st.size:=by omega
  obtain⟨a1,a3,a4⟩:=hA.u
  generalize hR:Exit.then _ _=R
  repeat go_step
  subst hR
  simp only[Exit.then]
  refine wp_cond_false (by simp[Act.eval,a1]) (wp_exit ?_)
  simp only[Exit.then]
  exact hE _ rfl (by repeat first|refine UpA.set ?_ _ aI aI (by decide)|exact hA0)
 have c1:=b4 i h
 rw[aj (cO i)] at c1
 obtain⟨c,hc⟩ : ∃ c,st[i]'h=c:=⟨_,rfl⟩
 rw[hc] at c1
 have c2:w'.cell? ⟨w.heap.size,i,none⟩=some (.int .u8 c.toNat):=by simp[World.cell?,b2,c1]
 obtain⟨a1,a3,a4⟩:=hA.u
 generalize hR:Exit.then _ _=R
 repeat go_step
 subst hR
 simp only[Exit.then]
 refine wp_cond_true (by simp[Act.eval,a1]) (wp_skip ?_)
 simp only[Exit.then]
 refine gen (p:=λT=>Code.wp _ _ _ ⟨T,ds⟩ w') (q:=UpA st tmps w cap i) (by repeat first|refine UpA.set ?_ _ aI aI (by decide)|exact hA0) λT hT=>?_
 clear hA0 hA a1 a3 a4
 obtain⟨a1,a3,a4⟩:=hT.u
 refine wp_seq (wp_block (wp_seq ?_))
 by_cases g1:(97:Int)<=(c.toNat:Int)
 rotate_left
 .have hu:upB c=c:=by unfold upB;rw[aj aC]
  have hI':=UpI.id hI0 h (by rw[hc];exact hu)
  generalize hR:Exit.then _ _=R
  iterate 18 go_step
  rename_i K hK
  refine gen (p:=λT=>K ⟨T,ds⟩ w') (q:=λT=>UpA st tmps w cap i T/\(∀ hh,T[151]'hh=.bool false)/\(∀ hh,T[152]'hh=.bool false)) ⟨by repeat first|refine UpA.set ?_ _ aI aI (by decide)|exact hT,by simp[a1],by simp[a1]⟩ λU hU=>?_
  apply hK
  obtain⟨hU,u1,u2⟩:=hU
  clear hK K hT a1 a3 a4 T
  obtain⟨a1,a3,a4⟩:=hU.u
  iterate 5 refine wpList_skip (by simp[Region.wanted,yielded,Act.put,a1,u2]) ?_
  iterate 3 go_step
  apply wpList_nil
  subst hR
  simp only[Exit.then]
  refine wp_cond_false (by simp[Act.eval,a1]) (wp_skip ?_)
  simp only[Exit.inBlock,Exit.then]
  exact axi _ _ _ _ _ _ _ _ _ (by repeat first|refine UpA.set ?_ _ aI aI (by decide)|exact hU) h400 h λt' ht=>hN t' w' cur h ht hI'
 have q97:97<=c.toNat:=by omega
 by_cases g2:(c.toNat:Int)<=122
 rotate_left
 .have hu:upB c=c:=by unfold upB;rw[aj aC]
  have hI':=UpI.id hI0 h (by rw[hc];exact hu)
  generalize hR:Exit.then _ _=R
  iterate 18 go_step
  rename_i K hK
  refine gen (p:=λT=>K ⟨T,ds⟩ w') (q:=λT=>UpA st tmps w cap i T/\(∀ hh,T[151]'hh=.bool true)/\(∀ hh,T[152]'hh=.bool true)) ⟨by repeat first|refine UpA.set ?_ _ aI aI (by decide)|exact hT,by simp[a1],by simp[a1]⟩ λU hU=>?_
  apply hK
  obtain⟨hU,u1,u2⟩:=hU
  clear hK K hT a1 a3 a4 T
  obtain⟨a1,a3,a4⟩:=hU.u
  iterate 5
   refine ari ?_ ?_
   .simp[Region.wanted,yielded,a1,u2]
   intro K hK
   go_step
   go_step
   try clear hK
  iterate 3 go_step
  apply wpList_nil
  subst hR
  simp only[Exit.then]
  refine wp_cond_false (by simp[Act.eval,a1]) (wp_skip ?_)
  simp only[Exit.inBlock,Exit.then]
  exact axi _ _ _ _ _ _ _ _ _ (by repeat first|refine UpA.set ?_ _ aI aI (by decide)|exact hU) h400 h λt' ht=>hN t' w' cur h ht hI'
 have hu:upB c=c-32:=by unfold upB;rw[am aC]
 have w2:IntKind.u8.wrap ((c.toNat:Int)-32)=((upB c).toNat:Int):=by
  have e:(c-32).toNat=c.toNat-32:=UInt8.toNat_sub_of_le _ _ (by show (32:UInt8).toNat<=c.toNat;have:(32:UInt8).toNat=32:=rfl;omega)
  rw[hu,e,IntWalk.u8_in _ aC];omega
 have fz:w'.frozen? ⟨w.heap.size,i,none⟩=false:=by simp[World.frozen?,b2];omega
 generalize hR:Exit.then _ _=R
 iterate 18 go_step
 rename_i K hK
 refine gen (p:=λT=>K ⟨T,ds⟩ w') (q:=λT=>UpA st tmps w cap i T/\(∀ hh,T[151]'hh=.bool true)/\(∀ hh,T[152]'hh=.bool true)) ⟨by repeat first|refine UpA.set ?_ _ aI aI (by decide)|exact hT,by simp[a1],by simp[a1]⟩ λU hU=>?_
 apply hK
 obtain⟨hU,u1,u2⟩:=hU
 clear hK K hT a1 a3 a4 T
 obtain⟨a1,a3,a4⟩:=hU.u
 iterate 5
  refine ari ?_ ?_
  .simp[Region.wanted,yielded,a1,u2]
  intro K hK
  go_step
  go_step
  try clear hK
 iterate 3 go_step
 apply wpList_nil
 subst hR
 simp only[Exit.then]
 refine wp_cond_true (by simp[Act.eval,a1]) ?_
 refine gen (p:=λT=>Code.wp _ _ _ ⟨T,ds⟩ w') (q:=UpA st tmps w cap i) (by repeat first|refine UpA.set ?_ _ aI aI (by decide)|exact hU) λT hT=>?_
 clear hU a1 a3 a4
 obtain⟨a1,a3,a4⟩:=hT.u
 generalize hR:Exit.inBlock _ _=R
 iterate 19 go_step
 iterate 3 go_step
 apply wpList_nil
 subst hR
 simp only[Exit.inBlock,Exit.then]
 refine axi _ _ _ _ _ _ _ _ _ (by repeat first|refine UpA.set ?_ _ aI aI (by decide)|exact hT) h400 h λt' ht=>hN t' _ (cur.setIfInBounds i (.int .u8 (c-32).toNat)) h ht ⟨b1.setCell (p:=⟨w.heap.size,i,none⟩) (ae _) _,?_,by simpa using b3,λo ho=>?_⟩
 .simp[World.setCell,fD,b2]
 .by_cases e:o=i
  .subst e
   rw[am (aP o),hc,hu,Array.getElem?_setIfInBounds_self_of_lt aC]
  .rw[be (bn e),b4 o ho]
   have:(o<i+1)=(o<i):=propext aC
   simp only[this]
def upM(st:ByteArray)(a:Act)(_:World):Nat:=match a.tmps.getD 18 undef with
 | .int _ n=>st.size-n.toNat
 | _=>0
def aSN(st:ByteArray)(h400:st.size<=400)(tmps:Array Value)(ds:List Deferred)(w:World)(Q:Exit->Act->World->Prop)(hz:tmps.size=194)(h0:tmps.getD 0 undef=.string st)
  (hQ:∀ (tmps':Array Value) (w':World) (cap:Nat) (us:List Value),tmps'.size=194->(∀ j,j∉upW->tmps'.getD j undef=tmps.getD j undef)->tmps'.getD 17 undef=.slice (some ⟨w.heap.size,0,none⟩) st.size cap->st.size<=cap->Below w.heap.size w w' ->
    (∀ m,bv m (aeP ⟨(st.data.toList.map upB).toArray⟩) us)->(∀ o u,us[o]?=some u->w'.cell? ⟨w.heap.size,o,none⟩=some u/\u.oneCell'=true)->Q .normal ⟨tmps',ds⟩ w') :
  (fx (abL 12 (wB Tryz.f7))).wp Tryz.prog (Exit.then (λa' w'=>(fx (dY (abL 12 (wB Tryz.f7)))).wp Tryz.prog Q a' w') Q) ⟨tmps,ds⟩ w:=by
 generalize hR:(Exit.then (λa' w'=>(fx (dY (abL 12 (wB Tryz.f7)))).wp Tryz.prog Q a' w') Q)=R
 simp only[wB,Tryz.f7,abw,abL,fx]
 have k:=Go.Lib.run_convert_string_bytes (P:=Tryz.prog) w 9 64 5 st (u:=.string) Tryz.underlying9 Tryz.underlying64 Tryz.underlying5
 go_wp2
 subst hR
 clear k
 simp only[Exit.then]
 obtain⟨cap,hcap⟩ : ∃ cap,grownCap w st.size 0 5=cap:=⟨_,rfl⟩
 have hA:∀ T:Array Value,T=((tmps.setIfInBounds 139 (Value.string st)).setIfInBounds 140 (Value.slice (some {block:=w.heap.size,off:=0}) st.size (grownCap w st.size 0 5))).setIfInBounds 17 (Value.slice (some {block:=w.heap.size,off:=0}) st.size (grownCap w st.size 0 5)) ->
   T.size=194/\(∀ j,j∉upW->T.getD j undef=tmps.getD j undef)/\T.getD 17 undef=.slice (some ⟨w.heap.size,0,none⟩) st.size cap:=by
  intro T hT
  subst hT
  refine⟨by simp[hz],λj hj=>?_,by simp[Array.getD,hz,hcap]⟩
  rw[bi,bi,be (λe=>hj (by rw[← e];decide)),be (λe=>hj (by rw[← e];decide)),be (λe=>hj (by rw[← e];decide))]
 refine gen (p:=λT=>Code.wp _ _ _ ⟨T,ds⟩ _) (q:=λT=>T.size=194/\(∀ j,j∉upW->T.getD j undef=tmps.getD j undef)/\T.getD 17 undef=.slice (some ⟨w.heap.size,0,none⟩) st.size cap) (hA _ rfl) λT hT=>?_
 clear hA
 obtain⟨t1,t2,t3⟩:=hT
 show (Code.seq (.region 23 _ false) (.block 2 (.loop _))).wp _ _ _ _
 refine wp_seq ?_
 generalize hR:Exit.then _ _=R
 repeat go_step
 subst hR
 simp only[Exit.then]
 refine wp_block (wp_loop (λa w'=>a.defers=ds/\∃ i cur,i<=st.size/\UpA st tmps w cap i a.tmps/\UpI st w cap i w' cur) (upM st) ⟨rfl,0,Lib.bytesCells w 5 st,aO _,?_,?_⟩ ?_)
 .refine⟨by simp[t1],λj hj=>?_,?_,by simp[Array.getD,t1]⟩
  .rw[bi,be (λe=>hj (by rw[← e];decide)),← bi];exact t2 j hj
  .rw[bi,be aI,← bi];exact t3
 .refine⟨⟨rfl,rfl,rfl,by rw[Lib.bytesWorld_size];omega,λj hj=>Lib.bytesWorld_at_old w 5 st j hj⟩,Lib.bytesWorld_at_new w 5 st,by simp[Lib.bytesCells],λo ho=>?_⟩
  rw[aj (adR o)]
  simp[Lib.bytesCells,Array.getElem?_append,ho,aaa]
 .rintro⟨t,d⟩ w' ⟨rfl,i,cur,hi,hA,hI⟩
  refine aKS st tmps t w w' cap i cur d _ hi h400 hA hI (λt' w'' cur' hlt h1 h2=>?_) λt' he h1=>?_
  .refine⟨⟨rfl,i+1,cur',hlt,h1,h2⟩,?_⟩
   simp only[upM,h1.ix,hA.ix]
   omega
  .subst he
   refine hQ t' w' cap (Lib.strCells ⟨(st.data.toList.map upB).toArray⟩) h1.size h1.keep h1.up (by rw[← hcap];simp[grownCap,Question.cut]) hI.bel ?_ ?_
   .intro m;exact anQ _
   .intro o u hu
    simp only[Lib.strCells,bo,ar] at hu
    obtain⟨b,hb,rfl⟩:=hu
    obtain⟨a,ha,rfl⟩:=hb
    obtain⟨ho,rfl⟩:=List.getElem?_eq_some_iff.1 ha
    have ho':o<st.size:=by simpa using ho
    have:=hI.at' o ho'
    rw[am ho'] at this
    refine⟨?_,rfl⟩
    simp only[World.cell?,hI.blk]
    simpa [aaa] using this
abbrev gpW:List Nat:=[8,38,39,40,41,42]
def aNL(n:Nat)(g:List UInt8)(hg:[[32],[10],[9,13,32],[32,45,45,59,39,10]][n % 4]?=some g)(tmps:Array Value)(ds:List Deferred)(w:World)(Q:Exit->Act->World->Prop)(hz:tmps.size=194)(h1:tmps.getD 1 undef=.int .u8 n)
  (hQ:∀ (tmps':Array Value) (w':World),tmps'.size=194->(∀ j,j∉gpW->tmps'.getD j undef=tmps.getD j undef)->tmps'.getD 8 undef=.string (aK g)->Below w.heap.size w w'->Q .normal ⟨tmps',ds⟩ w') :
  (fx (abL 4 (wB Tryz.f7))).wp Tryz.prog Q ⟨tmps,ds⟩ w:=by
 simp only[wB,Tryz.f7,abw,abL,fx]
 have h1':tmps[1]'(by omega)=Value.int .u8 n:=by rw[← h1];simp[Array.getD,hz]
 have hk:((n:Int).tmod 4)=((n % 4:Nat):Int):=rfl
 have hlt:n % 4<4:=aiW _ aI
 generalize n % 4=k at *
 iterate 16 go_step
 obtain rfl|rfl|rfl|rfl:k=0\/k=1\/k=2\/k=3:=by omega
 all_goals
  cases hg
  iterate 5 go_step
  apply wpList_nil
  refine hQ _ _ (by simp[hz]) (λj hj=>?_) (by simp[Array.getD,hz];rfl) ((Below.refl _ _).alloc (ae _) _)
  rw[bi,bi,be (λe=>hj (by rw[← e];decide)),be (λe=>hj (by rw[← e];decide)),be (λe=>hj (by rw[← e];decide)),be (λe=>hj (by rw[← e];decide)),be (λe=>hj (by rw[← e];decide)),be (λe=>hj (by rw[← e];decide))]
end Go.Proofs.YtghkmcffifpkeaaGreat
namespace Go.Proofs.YtghkmcffifpkeaaGreat
open Pe Tab
theorem aqk{α:Type}(p:α->Bool):∀ l:List α,l.take (l.takeWhile p).length=l.takeWhile p
 | []=>rfl
 | a::r=>by
  rw[bu]
  split
  .simp only[aN,dm,aqk p r]
  .rfl
def an8{α:Type}{p:α->Bool}{c:α}(hc:p c=false)(R:List α)(l:List α):(l.takeWhile p++c::R).takeWhile p=l.takeWhile p:=by
 induction l with
 | nil=>simp[hc]
 | cons a r ih =>
  rw[bu]
  split
  .rename_i h;rw[cD,bu,am h,ih]
  .simp[hc]
theorem amY:∀ (r:List UInt8) (w:List UInt8) (n:Nat),aa0 r=some (w,n)->aa0 (r.take n)=some (w,n)
 | [],_,_,h=>by cases h
 | [a],w,n,h=>by
  simp only[aa0] at h
  split at h
  .rename_i e;cases h;simp[aa0,e]
  .cases h
 | a::b::r,w,n,h=>by
  simp only[aa0] at h
  split at h
  .rename_i e
   split at h
   .rename_i e2
    obtain⟨⟨w',n'⟩,h1,h2⟩:=ar.1 h
    cases h2
    have:=amY r w' n' h1
    simp only[dm,aa0,am e,am e2,this,aG]
   .cases h
    simp[aa0,e]
  .rename_i e
   obtain⟨⟨w',n'⟩,h1,h2⟩:=ar.1 h
   cases h2
   have ih:=amY (b::r) w' n' h1
   have hn:1<=n':=by
    have:=apf _ _ _ h1;omega
   obtain⟨m,rfl⟩ : ∃ m,n'=m+1:=⟨n'-1,by omega⟩
   rw[dm] at ih
   rw[dm,dm]
   simp only[aa0,aj e,ih,aG]
def aSX{i:Nat}{l:List UInt8}{t:Tn}(h:eU i l=(t,0))(hk:t.k≠0){c:UInt8}(hc:abk c=true)(R:List UInt8):eU i (l.take t.sz.toNat++c::R)=(t,0):=by
 have hl:abg c=false:=by rcases agM hc with rfl|rfl|rfl|rfl <;> decide
 have hd:bQ c=false:=by rcases agM hc with rfl|rfl|rfl|rfl <;> decide
 have h39:c≠39:=by rcases agM hc with rfl|rfl|rfl|rfl <;> decide
 cases l with
 | nil=>simp only[eU,aX] at h;rw[← h.1] at hk;exact absurd rfl hk
 | cons a r =>
  simp only[eU] at h
  split at h
  .rename_i e1
   have hp:(λc=>abg c||bQ c) c=false:=by simp[hl,hd]
   have sz:t.sz.toNat=((a::r).takeWhile λc=>abg c||bQ c).length:=by
    unfold lxW at h
    split at h
    .cases h;rfl
    split at h
    .simp at h
    .cases h;rfl
   rw[sz,aqk]
   have hw:∃ r',(a::r).takeWhile (λc=>abg c||bQ c)=a::r':=by rw[bu,am (by simp[e1])];exact⟨_,rfl⟩
   have tm:=an8 (p:=λc=>abg c||bQ c) (c:=c) hp R (a::r)
   obtain⟨r',hr'⟩:=hw
   rw[hr'] at tm h ⊢
   show eU i (a::(r'++c::R))=_
   simp only[eU,e1,au]
   rw[show a::(r'++c::R)=(a::r')++c::R from rfl,tm]
   exact h
  split at h
  .rename_i e1 e2
   have sz:t.sz.toNat=((a::r).takeWhile bQ).length:=by
    unfold aif at h
    split at h
    .simp at h
    .cases h;rfl
   rw[sz,aqk]
   have hw:∃ r',(a::r).takeWhile bQ=a::r':=by rw[bu,am e2];exact⟨_,rfl⟩
   have tm:=an8 hd R (a::r)
   obtain⟨r',hr'⟩:=hw
   rw[hr'] at tm h ⊢
   show eU i (a::(r'++c::R))=_
   simp only[eU,aj e1,e2,au]
   rw[show a::(r'++c::R)=(a::r')++c::R from rfl,tm]
   exact h
  split at h
  .rename_i e1 e2 e3
   subst e3
   unfold aib at h
   split at h
   .rename_i hq
    have hm:(34:UInt8)∈r:=by simpa using hq
    have sz:t.sz.toNat=(r.takeWhile (·≠34)).length+2:=by
     split at h
     .simp at h
     split at h
     .simp at h
     .cases h;rfl
    have hr:r.take ((r.takeWhile (·≠34)).length+1)=r.takeWhile (·≠34)++[34]:=by
     clear h sz hq hk
     induction r with
     | nil=>cases hm
     | cons b r ih =>
      by_cases hb:b=34
      .subst hb;simp
      .have:(34:UInt8)∈r:=by rcases bp.1 hm with q|q;exact absurd q.symm hb;exact q
       rw[bu,am (by simpa using hb),aN,dm,ih this,cD]
    rw[sz,dm,hr]
    show eU i (34::((r.takeWhile (·≠34)++[34])++c::R))=_
    have tw:((r.takeWhile (·≠34)++[34])++c::R).takeWhile (·≠34)=r.takeWhile (·≠34):=by
     rw[fj]
     exact an8 (p:=λx=>decide (x≠34)) (c:=34) aI (c::R) r
    simp only[eU,aj e1,aj e2,au]
    unfold aib
    rw[am aT,tw]
    exact h
   .simp at h
  split at h
  .rename_i e1 e2 e3 e4
   subst e4
   unfold aiC at h
   split at h
   .simp at h
   .rename_i w n e
    have sz:t.sz.toNat=n+1:=by
     split at h
     .simp at h
     split at h
     .simp at h
     .cases h;rfl
    rw[sz,dm]
    show eU i (39::(r.take n++c::R))=_
    simp only[eU,aj e1,aj e2,aj e3,au]
    unfold aiC
    rw[alk h39 R _ _ (amY r w n e)]
    exact h
  .rename_i e1 e2 e3 e4
   unfold lxG at h
   split at h
   .rename_i e
    cases r with
    | nil=>simp at e
    | cons d r =>
     cases h
     show eU i (a::d::(c::R))=_
     simp only[eU]
     rw[aj e1,aj e2,aj e3,aj e4]
     unfold lxG
     rw[afN] at e ⊢
     rw[am e]
     rfl
   .rename_i e
    split at h
    .rename_i e5
     cases h
     show eU i (a::(c::R))=_
     simp only[eU]
     rw[aj e1,aj e2,aj e3,aj e4]
     unfold lxG
     rw[aj (by rcases agM hc with rfl|rfl|rfl|rfl <;> simp),am e5]
    .simp at h
def aK0{i:Nat}{l:List UInt8}{t:Tn}(h:eU i l=(t,0))(hk:t.k≠0):∃ a r,l=a::r/\abk a=false/\(a=45->t.sz.toNat=1):=by
 cases l with
 | nil=>simp only[eU,aX] at h;rw[← h.1] at hk;exact absurd rfl hk
 | cons a r =>
  refine⟨a,r,rfl,?_,?_⟩
  .cases hb:abk a with
   | false=>rfl
   | true =>
    exfalso
    rcases agM hb with rfl|rfl|rfl|rfl <;> simp[eU,abg,eF,aft,bQ,lxG] at h
  .rintro rfl
   simp[eU,abg,eF,aft,bQ,lxG] at h
   rw[← h];rfl
def aqT:List (List UInt8):=[[32],[10],[9,13,32],[32,45,45,59,39,10]]
def aZX{g:List UInt8}(h:g∈aqT):(∃ c g',g=c::g'/\abk c=true)/\∀ R,bU false (g++R)=g.length+bU false R:=by
 simp only[aqT,bp,cB,eV] at h
 rcases h with rfl|rfl|rfl|rfl
 .exact⟨⟨_,_,rfl,by decide⟩,λR=>by simp[bU,abk];omega⟩
 .exact⟨⟨_,_,rfl,by decide⟩,λR=>by simp[bU,abk];omega⟩
 .exact⟨⟨_,_,rfl,by decide⟩,λR=>by simp[bU,abk];omega⟩
 .exact⟨⟨_,_,rfl,by decide⟩,λR=>by simp[bU,abk];omega⟩
def aaK(s:List UInt8)(t:Tn):List UInt8:=(s.drop t.pl.toNat).take t.sz.toNat
def aar(s g:List UInt8):List Tn->List UInt8
 | []=>[]
 | t::r=>aaK s t++g++aar s g r
def aqN(t:Tn):Int×Int×List UInt8:=(t.k,t.n,t.s)
def aEJ{s:List UInt8}{i j:Nat}(h:i+bU false (s.drop i)=j+bU false (s.drop j)):dJ s i=dJ s j:=by
 unfold dJ;rw[h]
def aUl{s g:List UInt8}(hg:g∈aqT){i:Nat}{l:List Tn}(h:Lx s i l):i<=s.length->∃ N,Lx (aar s g l) 0 N/\N.map aqN=l.map aqN:=by
 induction h with
 | nil h hk=>intro _;exact⟨[],aIQ,rfl⟩
 | @cons i t L h hk hr ih =>
  intro hi
  obtain⟨⟨c,g',rfl,hc⟩,hsk⟩:=aZX hg
  have hpl:=ayj hi
  rw[h] at hpl
  dsimp only at hpl
  have hsz:1<=t.sz/\t.pl+t.sz<=s.length:=by
   rcases aiR hi h with q|⟨j,hj,q⟩
   .exact absurd q hk
   .have h1:=q.pl;have h2:=q.sz;omega
  obtain⟨N,hN,hk2⟩:=ih aC
  have hp:t.pl=((i+bU false (s.drop i):Nat):Int):=by
   have:=atd (i+bU false (s.drop i)) (s.drop (i+bU false (s.drop i)))
   unfold dJ at h
   rw[h] at this
   exact this
  have h':eU (i+bU false (s.drop i)) (s.drop t.pl.toNat)=(t,0):=by
   rw[hp,fR];exact h
  have hw:(aaK s t).length=t.sz.toNat:=by
   unfold aaK;rw[aag,ch];omega
  obtain⟨a,r,e1,e2,e3⟩:=aK0 h' hk
  have ho:=aSX h' hk hc (g'++aar s (c::g') L)
  have hX:aaK s t++c::(g'++aar s (c::g') L)=aar s (c::g') (t::L):=by simp[aar]
  have ho:eU (i+bU false (s.drop i)) (aar s (c::g') (t::L))=(t,0):=by rw[← hX];exact ho
  have hsh:=aB0 (i+bU false (s.drop i)) 0 (aar s (c::g') (t::L))
  rw[aao,ho] at hsh
  generalize hT:eU 0 (aar s (c::g') (t::L))=q at hsh
  obtain⟨t',e'⟩:=q
  simp only[aX] at hsh
  obtain⟨q1,rfl⟩:=hsh
  have hp0:=atd 0 (aar s (c::g') (t::L))
  rw[hT] at hp0
  dsimp only at hp0
  have hz:t.sz=t'.sz:=by rw[q1];rfl
  have hk':t.k=t'.k:=by rw[q1];rfl
  have hs0:bU false (aar s (c::g') (t::L))=0:=by
   rw[← hX]
   have:∃ r',aaK s t=a::r'/\(a=45->r'=[]):=by
    unfold aaK
    rw[e1]
    obtain⟨m,hm⟩ : ∃ m,t.sz.toNat=m+1:=⟨t.sz.toNat-1,by omega⟩
    rw[hm,dm]
    exact⟨_,rfl,λq=>by have:=e3 q;rw[show m=0 by omega];rfl⟩
   obtain⟨r',hr',h45⟩:=this
   rw[hr']
   show bU false (a::(r'++c::(g'++aar s (c::g') L)))=0
   simp only[bU,e2,ah,av]
   rw[aj]
   rintro⟨rfl,q⟩
   rw[h45 rfl] at q
   simp at q
   rw[q] at hc
   exact absurd hc aI
  refine⟨t'::N.map (shT (aaK s t++(c::g')).length),.cons ?_ (by rw[← hk'];exact hk) ?_,?_⟩
  .unfold dJ
   rw[aaO,hs0,aao,aaO]
   exact hT
  .rw[show (t'.pl+t'.sz).toNat=(aaK s t).length by rw[hw,← hz,hp0];simp]
   have L1:=aES (aaK s t++(c::g')) hN (aO _)
   rw[aao] at L1
   refine aCx L1 (aEJ ?_)
   have d1:(aar s (c::g') (t::L)).drop (aaK s t).length=(c::g')++aar s (c::g') L:=by simp[aar]
   have d2:(aaK s t++(c::g')++aar s (c::g') L).drop (aaK s t++(c::g')).length=aar s (c::g') L:=by simp
   show (aaK s t).length+bU false ((aar s (c::g') (t::L)).drop (aaK s t).length)=(aaK s t++(c::g')).length+bU false ((aaK s t++(c::g')++aar s (c::g') L).drop (aaK s t++(c::g')).length)
   rw[d1,d2,hsk,bc]
   omega
  .rw[aU,aU,adO,← hk2]
   refine congr (congrArg _ ?_) (dS λx _=>rfl)
   rw[q1];rfl
def aUo{l N:List Tn}(h:N.map aqN=l.map aqN):LocR 0 l N:=by
 have e:∀ i,(N[i]?).map aqN=(l[i]?).map aqN:=λi=>by rw[← bo,h,bo]
 have hl:N.length=l.length:=by have:=congrArg List.length h;simpa using this
 refine⟨by omega,λi w=>?_,λi k=>?_,λi=>?_,λi=>?_⟩
 all_goals
  have e:=e i
  rw[cf]
  first|unfold isT|unfold br|unfold txT|unfold nuT
  revert e
  cases N[i]? <;> cases l[i]? <;> intro e <;> simp[aqN] at e ⊢
  try simp[e]
def aI8{s g:List UInt8}(hg:g∈aqT){l:List Tn}(h:fL s=some (l,0,0))(ht:(aar s g l).length<=2000){c:Sm}{p e:Int}(hs:ado s=some (c,p,e)):∃ q,ado (aar s g l)=some (c,q,e):=by
 obtain⟨-,-,hl⟩:=aBZ h
 obtain⟨N,hN,hk⟩:=aUl hg hl (aO _)
 have h2:=aCv ht hN
 have L:=aUo hk
 have hlen:N.length=l.length:=by have:=congrArg List.length hk;simpa using this
 unfold ado abT at hs ⊢
 rw[h] at hs
 rw[h2]
 dsimp only at hs ⊢
 rw[am rfl] at hs ⊢
 cases hr:abq (pF l) l 0 with
 | none=>rw[hr] at hs;cases hs
 | some r =>
  obtain⟨a,j,b⟩:=r
  have s1:=aCd L (az2 L _ _ (ae (2*l.length+2))) (i:=0) _ _ _ hr
  simp only[cf] at s1
  rw[show pF N=ahh N (2*l.length+2) by unfold pF;rw[hlen],s1]
  rw[hr] at hs
  simp only[aG,ab] at hs ⊢
  cases b with
  | true=>simp only[cH,hlen,aX] at hs ⊢;exact⟨_,hs.1,rfl,hs.2.2⟩
  | false =>
   simp only[cH,hlen] at hs ⊢
   split at hs
   .rename_i q;rw[am q];cases hs;exact⟨_,rfl⟩
   .rename_i q
    rw[aj q]
    split at hs
    .rename_i q2;rw[am q2];cases hs;exact⟨_,rfl⟩
    .rename_i q2;rw[aj q2];cases hs;exact⟨_,rfl⟩
def aiL(c:UInt8):Bool:=decide (c=39)||decide (c=34)
def as5:=fV @Tryz.f26.eq_1 @zq @zT0 (kf a03)
def aAD(s:List UInt8)(hl:s.length<LB):G1 26 [.of (aJ (aK s))] (aL (s.any aiL)):=by
 refine bB a03 ?_
 simp only[↓zA,sevalprocAttr,as5]
 refine aas s.length (λk t=>t.fr 0=.of (aJ (aK s))/\t.fr 3=aQ k/\t.objs=[]/\s.any aiL=(s.drop k).any aiL) ?_ ?_
 .simp only[↓zA,sevalprocAttr,as5]
  try rfl
 rintro k ⟨frk,obk,ckk⟩ hk ⟨f0,f3,fo,E⟩
 dsimp only at f0 f3 fo
 rcases aD k s.length with dk|dk
 .have hw:=er k (by unfold LB at hl;omega)
  have gx:=dN dk
  rw[ce dk,agU] at E
  generalize s[k]=c at *
  have e39:(((c.toNat:Nat):Int)=39)=(c=39):=eH c 39 39 rfl
  have e34:(((c.toNat:Nat):Int)=34)=(c=34):=eH c 34 34 rfl
  by_cases h39:c=39
  .have h:=aa h39
   have E:s.any aiL=true:=by rw[E];simp[aiL,h39]
   simp only[↓zA,sevalprocAttr,as5,f0,f3,fo,aV,dk,gx,e39,h,E]
   try rfl
  have h:=aA h39
  by_cases h34:c=34
  .have h':=aa h34
   have E:s.any aiL=true:=by rw[E];simp[aiL,h34]
   simp only[↓zA,sevalprocAttr,as5,f0,f3,fo,aV,dk,gx,e39,e34,h,h',E]
   try rfl
  have h':=aA h34
  have E:s.any aiL=(s.drop (k+1)).any aiL:=by rw[E];simp[aiL,h39,h34]
  simp only[↓zA,sevalprocAttr,as5,f0,f3,fo,aV,dk,gx,hw,e39,e34,h,h']
  exact E
 have ek:k=s.length:=by omega
 subst ek
 rw[cY] at E
 have E:s.any aiL=false:=E
 simp only[↓zA,sevalprocAttr,as5,f0,f3,fo,aV,cO,E]
 try rfl
def axF{s:List UInt8}{r:Sm×Int×Int}(h:ado s=some r):smW r.1<=6000700:=by
 have z:smW Go.Tab.s0<=6000700:=by decide
 unfold ado abT at h
 split at h
 .cases h
 .rename_i l p e ht
  split at h
  .rename_i he
   obtain⟨hok,h20,hp⟩:=adH ht he
   obtain⟨q,hr,-,-,g1,g2⟩:=ama hok h20 (aO _)
   dsimp only at h
   rw[hr] at h
   obtain⟨a,j,b⟩:=q
   simp only[aG,ab] at h
   subst h
   cases b with
   | true=>exact z
   | false =>
    simp only[cH]
    split
    .exact z
    split
    .exact g2
    .exact z
  .cases h;exact z
theorem au6(s g:List UInt8):∀ (l:List Tn) (t:Tn),aar s g (l++[t])=aar s g l++(aaK s t++g)
 | [],t=>by simp[aar]
 | x::r,t=>by simp[aar,au6 s g r t]
theorem ayE{s g:List UInt8}(hs:s.length<=400)(hg:g.length<=6):∀ l:List Tn,(aar s g l).length<=406*l.length
 | []=>by simp[aar]
 | x::r=>by
  have:=ayE hs hg r
  have hp:(aaK s x).length<=400:=by unfold aaK;rw[aag,ch];omega
  simp only[aar,bc,aN]
  omega
def aPL(P:Program)(T:TT)(t:Nat)(u:Option TypeDesc)(a b:List UInt8)(h:a.length+b.length<=1000000):fE P T t u .add (.of (.lit (.string (aK a)))) (.of (.lit (.string (aK b))))=out (af4 (aK (a++b))):=by
 rw[Z1u,aeR,aeR,am (by unfold aj1;omega),axC]
def frP(a b c:X):Nat->X:=λj=>match j with
 | 0=>a
 | 5=>b
 | 8=>c
 | _=>.of .any
def a7C(a b c:X):frP a b c 0=a:=rfl
def a7B(a b c:X):frP a b c 5=b:=rfl
def a7A(a b c:X):frP a b c 8=c:=rfl
def frU(a b c d:X):Nat->X:=λj=>match j with
 | 0=>a
 | 11=>b
 | 13=>c
 | 17=>d
 | _=>.of .any
def a7z(a b c d:X):frU a b c d 0=a:=rfl
def aZ1(a b c d:X):frU a b c d 11=b:=rfl
def aZ0(a b c d:X):frU a b c d 13=c:=rfl
def aZZ(a b c d:X):frU a b c d 17=d:=rfl
abbrev aW4:An:=⟨false,[aL true],[]⟩
abbrev blE:Ex->S->Prop:=endQ Tryz.prog false 7 0 aW4
def zc7:=fV (fY @Tryz.f7.eq_1 @zq @a2q @azv @mp1 @mp2 @aOu) (fY @mt0 @mt1 @a2m @bd3 @U64 @T9 @U9) (fY @T64 @mt2 @mt3 @abE @ab7 @bO @acn) (fY @P9 @Q9 @P3 @Q3 @Q5 @zT0 (kf fi7))
def baX(s:List UInt8)(v:Value):WC Tryz.prog pr2 (frontC 4 (wB Tryz.f7)) (adz [.of (aJ (aK s)),.of (.lit v)] []) (ayq blE λt=>∃ l,(s.length<=400/\fL s=some (l,0,0))/\t.fr 0=.of (aJ (aK s))/\t.fr 1=.of (.lit v)/\t.fr 5=.of (slC tnC l)/\t.objs=[]):=by
 by_cases hs:s.length<=400
 rotate_left
 .have ds:((400:Int)<(s.length:Int))=True:=aa aC
  simp only[↓zA,sevalprocAttr,zc7,aaA,wB,frontC,aiV,ds,ai5]
  try rfl
 have ds:((400:Int)<(s.length:Int))=False:=aA aC
 obtain⟨l,p,e,he⟩ : ∃ l p e,fL s=some (l,p,e):=by
  obtain⟨l,p,e,⟨h,_⟩|h⟩:=atc s
  .exact⟨_,_,_,h⟩
  .exact⟨_,_,_,h⟩
 have kt:=λK=>aH.k (aex (abV s (by unfold LB;omega) _ he)) K
 dsimp only at kt
 by_cases h0:e=0
 .have hp:p=0:=(adH he h0).2.2
  subst h0 hp
  simp only[↓zA,sevalprocAttr,zc7,aaA,wB,frontC,aje,aiV,ds,kt]
  exact⟨l,⟨hs,he⟩,rfl⟩
 .have h0':=aA h0
  simp only[↓zA,sevalprocAttr,zc7,aaA,wB,frontC,aje,aiV,ds,kt,h0',ai5]
  try rfl
def aHo{s:List UInt8}(hs:s.length<=400){x:Tn}(h:∃ j,TnOk9 j (s.length-j) x) :
  (x.pl<0)=False/\(x.sz<1)=False/\((s.length:Int)<x.pl)=False/\IntKind.i64.wrap ((s.length:Int)-x.pl)=(s.length:Int)-x.pl/\((s.length:Int)-x.pl<x.sz)=False/\IntKind.i64.wrap (x.pl+x.sz)=x.pl+x.sz /\
  acA tP 9 (.of (.lit (.string (aK s)))) (some (.of (.lit (.int .i64 x.pl)))) (some (.of (.lit (.int .i64 (x.pl+x.sz)))))=out (af4 (aK (aaK s x)))/\(aaK s x).length<=400:=by
 obtain⟨j,h⟩:=h
 have h1:=h.pl
 have h2:=h.sz
 refine⟨aA aC,aA aC,aA aC,d9 _ aC aC,aA aC,d9 _ aC aC,?_,?_⟩
 .have e1:x.pl=((j:Nat):Int):=h1
  have e2:x.pl+x.sz=((j+x.sz.toNat:Nat):Int):=by omega
  rw[e2,e1,api s j (j+x.sz.toNat) aC aC]
  unfold aaK
  rw[acZ,e1,fR,aaN]
 .unfold aaK;rw[aag,ch];omega
def aZm(s:List UInt8)(t:S):Prop:=∃ c p e,(ado s=some (c,p,e)/\∀ x∈s,x≠34/\x≠39)/\t.fr 0=.of (aJ (aK s))/\t.fr 11=.of (.ref (smC c))/\t.fr 13=aQ e/\t.objs=[]
def baW(s g:List UInt8)(hg:g∈aqT)(l:List Tn)(hs:s.length<=400)(ht:fL s=some (l,0,0))(ck:Nat):WC Tryz.prog pr2 (frontC 7 (abL 5 (wB Tryz.f7))) ⟨frP (.of (aJ (aK s))) (.of (slC tnC l)) (.of (aJ (aK g))),[],ck⟩ (ayq blE (aZm s)):=by
 have hok:=(adH ht rfl).1
 have hl:=hok.len
 have hg6:g.length<=6:=(by decide:∀ x∈aqT,x.length<=6) _ hg
 obtain⟨⟨c,p,e⟩,h1⟩:=arC s
 have w:=axF h1
 have k1:=λK=>aH.k (aiO s (by unfold LB;omega) h1) K
 have kS:=λK=>aH.k (aex (alS c w)) K
 have kq:=λK=>aH.k (aex (aAD s (by unfold LB;omega))) K
 dsimp only at k1
 simp only[↓zA,sevalprocAttr,zc7,wB,frontC,abL]
 refine aas l.length (λk t=>t.fr 0=.of (aJ (aK s))/\t.fr 5=.of (slC tnC l)/\t.fr 8=.of (aJ (aK g))/\t.fr 9=.of (aJ (aK (aar s g (l.take k))))/\t.fr 10=aQ k/\t.objs=[]) ?_ ?_
 .simp only[↓zA,sevalprocAttr,zc7,a7C,a7B,a7A]
  try rfl
 rintro k ⟨frk,obk,ckk⟩ hk ⟨f0,f5,f8,f9,f10,fo⟩
 dsimp only at f0 f5 f8 f9 f10 fo
 rcases aD k l.length with dk|dk
 .have hw:=er k aC
  have gx:=dN dk
  have tk:l.take (k+1)=l.take k++[l[k]]:=by rw[List.take_succ_eq_append_getElem dk]
  obtain⟨t1,t2,t3,t4,t5,t6,t7,t8⟩:=aHo hs (hok.all _ (cC dk))
  have hj:=ayE hs hg6 (l.take k)
  rw[aag] at hj
  have ej:=au6 s g (l.take k) l[k]
  rw[← tk] at ej
  generalize l[k]=x at *
  have z1:=λ(P:Program) (T:TT) (t':Nat) (v:Option TypeDesc)=>aPL P T t' v (aaK s x) g aC
  have z2:=λ(P:Program) (T:TT) (t':Nat) (v:Option TypeDesc)=>aPL P T t' v (aar s g (l.take k)) (aaK s x++g) (by rw[bc];omega)
  simp only[↓zA,sevalprocAttr,zc7,acW,adI,f0,f5,f8,f9,f10,fo,aV,dk,gx,hw,bE,t1,t2,t3,t4,t5,t6,t7,z1,z2,ej]
  try rfl
 have ek:k=l.length:=by omega
 subst ek
 rw[afb] at f9
 by_cases hT:(aar s g l).length<=2000
 rotate_left
 .have dT:((2000:Int)<((aar s g l).length:Int))=True:=aa aC
  simp only[↓zA,sevalprocAttr,zc7,aaA,aiV,f5,f9,f10,fo,aV,cO,dT,ai5]
  try rfl
 have dT:((2000:Int)<((aar s g l).length:Int))=False:=aA aC
 obtain⟨q,h2⟩:=aI8 hg ht hT h1
 have k2:=λK=>aH.k (aiO (aar s g l) (by unfold LB;omega) h2) K
 dsimp only at k2
 cases hq:s.any aiL with
 | true =>
  rw[hq] at kq
  simp only[↓zA,sevalprocAttr,zc7,aaA,acW,aje,aiV,f0,f5,f9,f10,fo,aV,cO,dT,k1,k2,kS,kq,ai5]
  try rfl
 | false =>
  rw[hq] at kq
  simp only[↓zA,sevalprocAttr,zc7,aaA,acW,aje,aiV,f0,f5,f9,f10,fo,aV,cO,dT,k1,k2,kS,kq,aZm]
  have hq':∀ x∈s,x≠34/\x≠39:=λx hx=>by
   have:=List.any_eq_false.1 hq x hx
   simp[aiL] at this
   exact⟨this.2,this.1⟩
  exact⟨c,p,e,⟨h1,hq'⟩,rfl,rfl⟩
def aOn(l:List UInt8)(n:Nat)(hn:l.length=n):adU tP 64 9 (.of (.sl (aeP ⟨l.toArray⟩) n))=out (af4 (aK l)):=by
 subst hn
 have hb:((tP 9).map (·.und))=some .string:=by rw[T9];rfl
 have h8:alB (tP 5)=true:=by rw[T5];rfl
 have hu:=amV l
 simp only[adU,adf,ajm,T64,hb,aaY,h8,aeP,bR,bM,au,hu,aG,bJ]
 rfl
def baV(s:List UInt8)(c:Sm)(p e:Int)(hs:s.length<=400)(h1:ado s=some (c,p,e))(hq:∀ x∈s,x≠34/\x≠39)(ck:Nat):WC Tryz.prog pr2 (abL 2 (abL 7 (abL 5 (wB Tryz.f7)))) ⟨frU (.of (aJ (aK s))) (.of (.ref (smC c))) (aQ e) (.of (.sl (aeP ⟨(s.map upB).toArray⟩) s.length)),[],ck⟩ blE:=by
 have w:=axF h1
 have h2:=aSP hq
 rw[h1] at h2
 have k1:=λK=>aH.k (aiO s (by unfold LB;omega) h1) K
 have k2:=λK=>aH.k (aiO (s.map upB) (by rw[bR];unfold LB;omega) h2) K
 have kS:=λK=>aH.k (aex (alS c w)) K
 dsimp only at k1 k2
 have cv:=aOn (s.map upB) s.length (bR ..)
 simp only[↓zA,sevalprocAttr,zc7,aaA,acW,wB,abL,a7z,aZ1,aZ0,aZZ,cv,k1,k2,kS,ai5]
 try rfl
def apS{G:Go.Pe.GP}(hpr:PrSound Tryz.prog G pr2)(s:List UInt8)(n:Nat):aa2 Tryz.prog G 7 [.of (aJ (aK s)),.of (.lit (.int .u8 n))] [] aW4:=by
 refine bk.sound (kp:=false) Tryz.func7 rfl Tryz.ntmps7 (adr rfl) ?_
 refine bk.parts cw hpr 4 aS (baX s _) ?_
 rintro t1 ⟨l,⟨hs,ht⟩,e0,e1,e5,eo⟩
 obtain⟨g,hg⟩ : ∃ g:List UInt8,[[32],[10],[9,13,32],[32,45,45,59,39,10]][n % 4]?=some g:=⟨_,aM (aiW _ aI)⟩
 have hgm:g∈aqT:=bT hg
 show bk _ _ _ (.seq (fx (abL 4 (wB Tryz.f7))) (abL 5 (wB Tryz.f7))) _ _
 refine bk.text (s':=⟨frP (.of (aJ (aK s))) (.of (slC tnC l)) (.of (aJ (aK g))),[],t1.clk⟩) (d:=8) (W:=gpW) e1 eo.symm rfl (λj=>?_) (λtmps ds w Q hz h1 hQ=>aNL n g hg tmps ds w Q hz h1 hQ) ?_
 .show frP _ _ _ j=_\/(_/\frP _ _ _ j=_)\/(_/\frP _ _ _ j=_)
  unfold frP
  split
  .exact .inr (.inl ⟨by decide,e0.symm⟩)
  .exact .inr (.inl ⟨by decide,e5.symm⟩)
  .exact .inr (.inr ⟨rfl,rfl⟩)
  .exact .inl rfl
 refine bk.parts cw hpr 7 aS (baW s g hgm l hs ht _) ?_
 rintro t2 ⟨c,p,e,⟨h1,hq⟩,f0,f11,f13,fo⟩
 show bk _ _ _ (.seq (fx (abL 12 (wB Tryz.f7))) (.seq (fx (dY (abL 12 (wB Tryz.f7)))) (abL 2 (abL 7 (abL 5 (wB Tryz.f7)))))) _ _
 have h4:(aK s).size<=400:=by rw[ad5];exact hs
 have hlen:s.length=(aK s).size:=by rw[ad5]
 refine bk.bytes (s':=⟨frU (.of (aJ (aK s))) (.of (.ref (smC c))) (aQ e) (.of (.sl (aeP ⟨(s.map upB).toArray⟩) (aK s).size)),[],t2.clk⟩) (up:=17) (n:=(aK s).size) (cs:=aeP ⟨(s.map upB).toArray⟩) (W:=upW) f0 fo.symm rfl (λj=>?_) (λtmps ds w Q hz h1 hQ=>aSN (aK s) h4 tmps ds w Q hz h1 hQ) ?_
 .show frU _ _ _ _ j=_\/(_/\frU _ _ _ _ j=_)\/(_/\frU _ _ _ _ j=_)
  unfold frU
  split
  .exact .inr (.inl ⟨by decide,f0.symm⟩)
  .exact .inr (.inl ⟨by decide,f11.symm⟩)
  .exact .inr (.inl ⟨by decide,f13.symm⟩)
  .exact .inr (.inr ⟨rfl,rfl⟩)
  .exact .inl rfl
 rw[← hlen]
 exact bk.of cw hpr aS (baV s c p e hs h1 hq _)
end Go.Proofs.YtghkmcffifpkeaaGreat
namespace Go.Proofs.YtghkmcffifpkeaaGreat.parseBlanks
open Pe Tab RowKit ChangeShapes WideShapes ChangeAt card
def aq0(H:Type)(enc:TypeId×Value->H)(W:World)(base:Nat)(args:Array Value)(ds gs:List (DataW H))(before:List MemPlace)
  (hval:∀ (j:Nat) t v,Tryz.f7.params[j]?=some t->args[j]?=some v->Value.okWide Tryz.prog W .any base t v)
  (hW:DataW.Whole enc Tryz.prog Tryz.f7.params.toList Rows.parseBlanksSpec.vars false W args.toList ds gs before)
  (hsh:W.ShapedOpen Tryz.prog) :
  Calls Tryz.prog 7 args W λe W'=>∃ v,e=.returned v/\Rows.parseBlanksSpec.post enc Tryz.prog Tryz.f7 false true false false W args v W':=by
 have hW':=hW
 obtain⟨p,q,hA0,hV,rfl,hfz,hnd⟩:=hW
 have hA:DataW.TrodAll enc Tryz.prog W 0 (λ_=>true) true Tryz.f7.params.toList args.toList ds p:=hA0
 rw[Tryz.params7] at hA hval
 have hAk:=hA
 obtain⟨v0,v1,d0,d1,p0,p1,rfl,rfl,rfl,h0,h1⟩:=trodAll_two hA
 obtain⟨rfl,rfl⟩:=trodVars_none hV
 obtain⟨s,rfl,rfl,rfl,_⟩:=Go.ChangeMaps.open_string Tryz.underlying9 (hval 0 _ v0 rfl rfl) h0
 obtain⟨n,rfl,rfl,rfl,hn⟩:=open_int Tryz.underlying5 (hval 1 _ v1 rfl rfl) h1
 have hn2:0<=n/\n<256:=by
  simp only[Lit.wf,IntKind.min,IntKind.max,IntKind.signed,IntKind.bits,ap,bf] at hn
  simp at hn
  omega
 obtain⟨m,rfl⟩ : ∃ m:Nat,n=m:=⟨n.toNat,by omega⟩
 have hcall:=apS (aHI axY) s.data.toList m
 rw[auy] at hcall
 refine (apX hcall Tryz.func7 (table hsh) (λ_ _ _ hv=>auY hv) (vs:=[.string s,.int .u8 m]) ⟨_,_,rfl,⟨rfl,rfl⟩,_,_,rfl,⟨rfl,rfl⟩,rfl⟩).mono ?_
 rintro e W' ⟨rfl,hB⟩
 exact⟨_,rfl,⟨_,_,_,[],_,[],hW',trodAll_mk1 (shut_bool Tryz.underlying4 _),ajM (aXe aPH baG) hAk (λx hx=>by cases hx) (λx hx=>by cases hx),rfl,hB.frame _,λh=>by cases h⟩⟩
def aqM(os:Os):laidMet Tryz.prog Rows.parseBlanksUptoRow.laid ((ahQ os).forCall (λ_ _=>0) ⟨#[],#[.string ⟨#[]⟩,.int .u8 0],[]⟩).memory :=
 laidMet_of_run' 8 aS aS
def aEk(os:Os){H:Type}(enc:TypeId×Value->H):∃ places,DataW.whole enc Tryz.prog ((ahQ os).forCall (λ_ _=>0) ⟨#[],#[.string ⟨#[]⟩,.int .u8 0],[]⟩).memory Tryz.f7.params.toList Rows.parseBlanksSpec.vars false (#[.string ⟨#[]⟩,.int .u8 0]:Array Value).toList 8=some ([.lit (.string []),.lit (.int .u8 0)],[],places) :=
 ⟨[],by kernel_rfl⟩
def anw(os:Os)(started:os.Started)(H:Type)(enc:TypeId×Value->H)(F:Stop.Interp) :
  ReturnsInHanded {} Tryz.checked os 7 .any ((Rows.OpenSpec.upto Rows.parseBlanksSpec).preRow enc Tryz.prog Tryz.f7 Rows.parseBlanksUptoRow.domain false Rows.parseBlanksUptoRow.laid) (((Rows.OpenSpec.upto Rows.parseBlanksSpec).at F).post enc Tryz.prog Tryz.f7 false true false false):=by
 obtain⟨places,hx⟩:=aEk os enc
 refine returnsInHanded_of_row (C:=Tryz.checked) (s:=Rows.OpenSpec.upto Rows.parseBlanksSpec) own started aS Tryz.func7
  (witness_row_at (enc:=enc) (C:=Tryz.checked) false (ahQ os) #[.string ⟨#[]⟩,.int .u8 0] rfl aS aS aS
   (OpenSpec.preRow_of_cond 8 hx aS (λk hk=>by cases hk;kernel_rfl) aS (aqM os))) ?_
 intro W base args ds gs before hval hW _ hcond _ hL hsh _
 exact aq0 H enc W base args ds gs before hval hW hsh
end Go.Proofs.YtghkmcffifpkeaaGreat.parseBlanks

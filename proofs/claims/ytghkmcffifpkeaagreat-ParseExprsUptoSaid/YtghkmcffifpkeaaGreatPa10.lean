/- A part. Conditions: none. -/
import Derived.Test.YtghkmcffifpkeaaGreatPa9
import Derived.Lib.AppendIntMem
set_option linter.all false
set_option maxRecDepth 100000
set_option maxHeartbeats 64000000
namespace Go.Proofs.YtghkmcffifpkeaaGreat
open Pe Tab RowKit
theorem avQ(m:Mem):∀ (l:List UInt8) (vs:List Value),bA m (byC l) vs->vs=Lib.byteCells l
 | [],vs,h=>by simpa [byC,bA,Lib.byteCells] using h
 | b::l,vs,h=>by
  simp only[byC,bd,bA,Rep] at h
  obtain⟨v,r,rfl,⟨rfl,_⟩,h2⟩:=h
  rw[avQ m l r h2]
  rfl
theorem axO(m:Mem):∀ l:List UInt8,bA m (byC l) (Lib.byteCells l)
 | []=>rfl
 | b::l=>⟨_,_,rfl,⟨rfl,rfl⟩,axO m l⟩
def aGg(l:List UInt8)(u:Value)(h:u∈Lib.byteCells l):u.oneCell'=true:=by
 simp only[Lib.byteCells,List.mem_map] at h
 obtain⟨b,_,rfl⟩:=h
 rfl
def auK{ty:Nat}{xs:List X}{n:Nat}(h:gv [.var ty xs] n 0):False:=by
 obtain⟨_,_,h,_⟩:=h;cases h
def asv{k:Know}{ob:Ob}(hd:∀ r b,k.μ r=some b->r<[ob].length){r c:Nat}(h:k.μ r=some c):r=0:=by
 have:=hd r c h;simpa using this
def aGo{G:GP}{k:Know}{ow:Own}{w:World}{xs0:List X}{l:List UInt8}(hp:Hp ⟨G,k.m,abi k ow⟩ k ow w w [.var 245 xs0])(hl:akK [.var 245 xs0]=some l) :
  ∃ b p v,k.μ 0=some b/\(p=.pointer none\/p=.pointer (some ⟨b,0,none⟩))/\BAt b p v (Lib.byteCells l) w/\(v.ownBlock=none\/ow (.cell 0 1)=some (v,5,1,l.length)):=by
 obtain⟨b,hb,_,_,hbm,vs,hh,_,hvs⟩:=hp.obj 0 _ rfl
 unfold akK at hl
 split at hl
 .rename_i e
  simp only[gp,Ob.var.injEq,dg,aaZ] at e
  subst e
  simp only[ae] at hl
  subst hl
  simp only[aV,aL,Rep] at hvs
  obtain⟨v1,r1,rfl,⟨rfl,_⟩,v2,r2,rfl,rfl,rfl⟩:=hvs
  exact⟨b,_,_,hb,.inl rfl,⟨hh,World.ownsRow_nil w 0 _ 1,by simp[Value.ownBlock]⟩,.inl rfl⟩
 .rename_i cs n e
  simp only[gp,Ob.var.injEq,dg,aaZ] at e
  subst e
  obtain rfl:=azV cs l hl
  simp only[aV,aL] at hvs
  obtain⟨v1,r1,rfl,⟨b',hb',rfl⟩,v2,r2,rfl,⟨ho,hcl,hrep⟩,rfl⟩:=hvs
  obtain rfl:=aG (hb.symm.trans hb')
  obtain rfl:n=l.length:=by rw[ars] at hcl;omega
  obtain⟨⟨xs,hown⟩,htok⟩:=hp.tok _ _ _ _ _ ho
  have hxs:xs=Lib.byteCells l:=by
   simp only[Rep] at hrep
   obtain⟨a,cp,us,rfl,_,hul,hum⟩:=hrep
   rw[← avQ _ _ _ hul]
   have e1:us.length=xs.length:=by rw[hul.length,hown.1,hcl]
   apply abD
   intro i
   by_cases hi:i<us.length
   .have hne:us≠[]:=by rintro rfl;simp at hi
    obtain⟨b1,o,rfl,hc⟩:=hum hne
    rcases hown.2 with ⟨h0,_⟩|⟨g,cap2,cur,hv,_⟩
    .cases h0
    .simp only[Value.slice.injEq,ae,Addr.mk.injEq] at hv
     obtain⟨⟨rfl,rfl,_⟩,_,rfl⟩:=hv
     have hu:us[i]?=some us[i]:=by simp[hi]
     have hc1:=(hp.mem _ _ _ (hc i _ hu)).1
     have hx2:xs[i]?=some (xs[i]'(by omega)):=by simp[show i<xs.length by omega]
     have hc2:=hown.cells (g:=b1) rfl i _ hx2
     rw[Addr.add_lit] at hc2
     rw[hu,hx2,aG (hc2.symm.trans hc1)]
   .rw[bc aC,bc aC]
  subst hxs
  refine⟨b,_,_,hb,.inr rfl,⟨hh,by rw[Lib.byteCells_length];exact hown,λe=>auK ((htok b e).2.2 0 hb).1⟩,.inr ho⟩
 .cases hl
def owB(ow:Own)(v:Value)(n:Nat):Own:=λt=>if t=.cell 0 1 then some (v,5,1,n) else ow t
def aGp{G:GP}{k:Know}{ow:Own}{w w':World}{xs0:List X}{l l':List UInt8}{b:Nat}{v v':Value}{p:Value}(hp:Hp ⟨G,k.m,abi k ow⟩ k ow w w [.var 245 xs0])(hb:k.μ 0=some b)
  (hB:BAt b p v (Lib.byteCells l) w) (hv:v.ownBlock=none\/ow (.cell 0 1)=some (v,5,1,l.length)) (h:BPost b v w w' v' (Lib.byteCells (l++l'))) :
  ∃ k',Hp ⟨G,k.m,abi k ow⟩ k' (owB ow v' (l++l').length) w w' [.var 245 (bld (l++l'))]/\k.m.le k'.m/\k'.μ=k.μ:=by
 have hbl:=Lib.byteCells_length (l++l')
 obtain⟨_,hb',_,hblt,hbm',_⟩:=hp.obj 0 _ rfl
 obtain rfl:=aG (hb.symm.trans hb')
 have hbm:=hbm' rfl
 let m':Mem:=λc o=>if some c=v'.ownBlock/\o<(l++l').length then (Lib.byteCells (l++l'))[o]? else k.m c o
 have hdom:∀ r c,k.μ r=some c->r=0/\c=b:=λr c hr=>by
  have:=hp.dom r c hr
  simp only[ft,Nat.lt_one_iff] at this
  subst this
  exact⟨rfl,aG (hr.symm.trans hb)⟩
 have hold:∀ g,v.ownBlock=some g->abi k ow g/\(∀ o,l.length<=o->k.m g o=none)/\∀ t u e z n,t≠.cell 0 1->ow t=some (u,e,z,n)->u.ownBlock≠some g:=λg hg=>by
  rcases hv with h0|h0
  .rw[h0] at hg;cases hg
  .obtain⟨_,ht⟩:=hp.tok _ _ _ _ _ h0
   exact⟨.inr ⟨_,_,_,_,_,h0,hg⟩,by simpa using (ht g hg).2.1,λt u e z n hne h1=>hp.tokne _ _ _ _ _ _ _ _ _ _ h0 h1 (bC hne) g hg⟩
 have hnew:∀ g,v'.ownBlock=some g->v.ownBlock=some g\/w.heap.size<=g:=λg hg=>by
  rcases h.row with ⟨h1,_⟩|⟨⟨g',h1,h2⟩,_⟩
  .exact .inl (h1▸hg)
  .rw[h1] at hg;exact .inr (aG hg▸h2)
 have hsame:∀ c,c<w.heap.size->c≠b->(some c≠v.ownBlock\/some c≠v'.ownBlock)->w'.heap[c]?=w.heap[c]?:=λc hc hcb hcv=>by
  rcases h.row with ⟨h1,h2⟩|⟨_,h2⟩
  .exact h2 c hc hcb (by rw[h1] at hcv;exact hcv.elim id id)
  .exact h2 c hc hcb
 have hrow:∀ c o u,v'.ownBlock=some c->(Lib.byteCells (l++l'))[o]?=some u->w'.cell? ⟨c,o,none⟩=some u:=λc o u hc hu=>by
  have:=h.at'.own.cells (g:=c) hc o u hu
  rwa [Addr.add_lit,cB] at this
 have hle:k.m.le m':=λc o u hu=>by
  simp only[m']
  split
  .rename_i hc
   rcases hnew c hc.1.symm with h1|h1
   .have ho:o<l.length:=by
     rcases av o l.length with h2|h2
     .exact h2
     .rw[(hold c h1).2.1 o h2] at hu;cases hu
    have hx:(Lib.byteCells l)[o]?=some ((Lib.byteCells l)[o]'(by rw[Lib.byteCells_length];exact ho)):=by simp[Lib.byteCells_length,ho]
    have h2:=hB.own.cells (g:=c) h1 o _ hx
    rw[Addr.add_lit,cB] at h2
    have h3:=(hp.mem c o u hu).1
    have e:=aG (h2.symm.trans h3)
    simp only[Lib.byteCells,aae]
    rw[bq (by simpa using ho)]
    rw[← e]
    exact hx
   .have:=agq hp.mem hu
    omega
  .exact hu
 refine⟨⟨m',k.μ⟩,?_,hle,rfl⟩
 exact {
  good:=hp.good
  below:=⟨h.os,h.tape,h.output,h.size,λc hc hm=>hsame c hc (λe=>hm (.inl ⟨0,by rw[e];exact hb⟩)) (.inl λe=>hm (hold c e.symm).1)⟩
  mem:=λc o u hu=>by
   simp only[m'] at hu
   split at hu
   .rename_i hc
    exact⟨hrow c o u hc.1.symm hu,aGg _ u (co hu)⟩
   .rename_i hc
    obtain⟨h1,h2⟩:=hp.mem c o u hu
    have hlt:=agq hp.mem hu
    refine⟨(World.cell?_of_block (a:=⟨c,o,none⟩) (hsame c hlt ?_ ?_)).trans h1,h2⟩
    .rintro rfl;rw[hbm o] at hu;cases hu
    .by_cases e:some c=v'.ownBlock
     .left
      intro e2
      have:¬ o<(l++l').length:=λh3=>hc ⟨e,h3⟩
      rw[(hold c e2.symm).2.1 o (by simp at this;omega)] at hu
      cases hu
     .exact .inr e
  obj:=λr ob hr=>by
   match r,hr with
   | 0,hr =>
    simp only[dI,ae] at hr
    subst hr
    refine⟨b,hb,.inr (.inl ⟨0,hb⟩),h.at'.lt,λ_ o=>?_,[.pointer (some ⟨b,0,none⟩),v'],h.at'.blk,?_,?_⟩
    .simp only[m']
     rw[aA λe=>h.at'.ne e.1.symm]
     exact hbm o
    .intro u hu
     simp only[bQ,dH,aaj] at hu
     rcases hu with rfl|rfl
     .rfl
     .rcases h.at'.own.2 with ⟨rfl,_⟩|⟨g,cap,cur,rfl,_⟩ <;> rfl
    .refine⟨_,_,rfl,⟨b,hb,rfl⟩,_,_,rfl,⟨?_,?_,?_⟩,rfl⟩
     .simp[owB]
     .rw[ars];omega
     .have hown:=h.at'.own
      rw[hbl] at hown
      rcases hown.2 with ⟨e1,e2⟩|⟨g,cap,cur,e1,_,_,hnc,_⟩
      .have:l++l'=[]:=cr e2
       rw[this,e1]
       exact⟨none,0,[],rfl,am _,rfl,λh=>absurd rfl h⟩
      .refine⟨_,cap,Lib.byteCells (l++l'),e1,hnc,axO _ _,λ_=>⟨g,0,rfl,λi u hu=>?_⟩⟩
       simp only[m',cB]
       rw[aE ⟨by rw[e1];rfl,by rw[← hbl];exact (List.getElem?_eq_some_iff.1 hu).1⟩]
       exact hu
  dom:=hp.dom
  inj:=λr r' c h1 h2 _ _=>(asv hp.dom h1).trans (asv hp.dom h2).symm
  tok:=λt u e z n ht=>by
   simp only[owB] at ht
   split at ht
   .simp only[bT] at ht
    obtain⟨rfl,rfl,rfl,rfl⟩:=ht
    refine⟨⟨_,by have:=h.at'.own;rw[hbl] at this;exact this⟩,λg hg=>⟨?_,λo ho=>?_,λr hr=>?_⟩⟩
    .rcases hnew g hg with h1|h1
     .exact .inr (hold g h1).1
     .exact .inl h1
    .simp only[m']
     rw[aA λe=>by have:=e.2;omega]
     rcases hnew g hg with h1|h1
     .exact (hold g h1).2.1 o (by simp at ho;omega)
     .cases hm:k.m g o with
      | none=>rfl
      | some u=>have:=agq hp.mem hm;omega
    .obtain⟨_,rfl⟩:=hdom r g hr
     exact (h.at'.ne hg).elim
   .rename_i hne
    obtain⟨⟨xs,h1⟩,h2⟩:=hp.tok t u e z n ht
    refine⟨⟨xs,acE (λg hg hlt=>hsame g hlt (λe=>auK ((h2 g hg).2.2 0 (by rw[e];exact hb)).1) (.inl λe=>(hold g e.symm).2.2 t u _ _ _ hne ht hg)) h1⟩,λg hg=>⟨(h2 g hg).1,λo ho=>?_,λr hr=>by
     obtain rfl:=asv hp.dom hr
     exact (auK ((h2 g hg).2.2 0 hr).1).elim⟩⟩
    simp only[m']
    rw[aA]
    .exact (h2 g hg).2.1 o ho
    .rintro⟨e,_⟩
     rcases hnew g e.symm with h3|h3
     .exact (hold g h3).2.2 t u _ _ _ hne ht hg
     .have:=(hp.tlt ht hg).2;omega
  tokne:=λt t' u e z n u' e' z' n' ht ht' hne g hg hg'=>by
   have key:∀ t u e z n,t≠.cell 0 1->ow t=some (u,e,z,n)->u.ownBlock=some g->v'.ownBlock=some g->False:=λt u e z n h0 h1 h2 h3=>by
    rcases hnew g h3 with h4|h4
    .exact (hold g h4).2.2 t u _ _ _ h0 h1 h2
    .have:=(hp.tlt h1 h2).2;omega
   simp only[owB] at ht ht'
   split at ht
   .rename_i e1
    simp only[bT] at ht
    obtain⟨rfl,rfl,rfl,rfl⟩:=ht
    split at ht'
    .rename_i e2
     exact hne (e1.trans e2.symm)
    .rename_i e2
     exact key t' u' _ _ _ e2 ht' hg' hg
   .rename_i e1
    split at ht'
    .simp only[bT] at ht'
     obtain⟨rfl,rfl,rfl,rfl⟩:=ht'
     exact key t u _ _ _ e1 ht hg hg'
    .exact hp.tokne t t' _ _ _ _ _ _ _ _ ht ht' hne g hg hg'
  m0:=λc o u hu hc hm=>by
   simp only[m'] at hu
   split at hu
   .rename_i e
    rcases hnew c e.1.symm with h3|h3
    .exact absurd (hold c h3).1 hm
    .omega
   .exact hu}
def GT:GP where
 holds w:=∃ m,w.cell? ⟨0,0,none⟩=some (.int .i64 m)
 blk b:=b=0
 keep w w' h hk:=by
  obtain⟨m,hm⟩:=h
  exact⟨m,(World.cell?_of_block (a:=⟨0,0,none⟩) (hk 0 rfl)).trans hm⟩
def aAE{obs:List Ob}{l:List UInt8}(h:akK obs=some l):∃ xs0,obs=[.var 245 xs0]:=by
 unfold akK at h
 split at h
 .exact⟨_,rfl⟩
 .exact⟨_,rfl⟩
 .cases h
def aOd{ow:Own}(hold:∀ t p,ow t=some p->t.older 1 λ_=>False)(v:Value)(n:Nat):∀ t p,owB ow v n t=some p->t.older 1 λ_=>False:=λt p ht=>by
 simp only[owB] at ht
 split at ht
 .rename_i e;subst e;trivial
 .exact hold t p ht
def aQI{ow:Own}{m:Nat}(hm:0<m)(hcl:∀ r off p,ow (.cell r off)=some p->r<m)(v:Value)(n:Nat):∀ r off p,owB ow v n (.cell r off)=some p->r<m:=λr off p ht=>by
 simp only[owB] at ht
 split at ht
 .rename_i e;cases e;exact hm
 .exact hcl r off p ht
def aGM(xs:List X)(obs:List Ob)(an:An)(h:wbP xs obs=some an):abu Tryz.prog GT 241 xs obs an:=by
 unfold wbP at h
 split at h
 .rename_i n
  simp only[bE] at h
  obtain⟨l,hl,h⟩:=h
  split at h
  .rename_i hlen
   simp only[ae] at h
   subst h
   obtain⟨hlen,hn0,hn1⟩:=hlen
   obtain⟨xs0,rfl⟩:=aAE hl
   intro fn hf k ow w vs hp hold hcl hvs
   obtain⟨b,p,v,hb,hpp,hB,hv⟩:=aGo hp hl
   simp only[aV,aL,Rep] at hvs
   obtain⟨v1,r1,rfl,⟨b',hb',rfl⟩,v2,r2,rfl,⟨rfl,_⟩,rfl⟩:=hvs
   obtain rfl:=aG (hb.symm.trans hb')
   refine (aDY b p v (Lib.byteCells l) n w hpp hB (by rw[Lib.byteCells_length];exact hlen)).mono ?_
   rintro e w' ⟨rfl,v',hpost⟩
   have hpost':BPost b v w w' v' (Lib.byteCells (l++[UInt8.ofNat n.toNat])):=by
    have:Lib.byteCells (l++[UInt8.ofNat n.toNat])=Lib.byteCells l++[.int .u8 n]:=by
     have:((UInt8.ofNat n.toNat).toNat:Int)=n:=by simp;omega
     simp only[Lib.byteCells,aae,bd,cI,this]
    rw[this];exact hpost
   obtain⟨k',g1,g2,g3⟩:=aGp hp hb hB hv hpost'
   exact⟨k',_,[.nilIface],rfl,g1,g2,am _,λr _=>by rw[g3],aOd hold _ _,aQI Nat.zero_lt_one hcl _ _,_,_,rfl,⟨rfl,rfl⟩,rfl⟩
  .cases h
 .cases h
def aJR(xs:List X)(obs:List Ob)(an:An)(h:bsP xs obs=some an):abu Tryz.prog GT 242 xs obs an:=by
 unfold bsP at h
 split at h
 .simp only[ay] at h
  obtain⟨l,hl,rfl⟩:=h
  obtain⟨xs0,rfl⟩:=aAE hl
  intro fn hf k ow w vs hp hold hcl hvs
  obtain⟨b,p,v,hb,hpp,hB,hv⟩:=aGo hp hl
  simp only[aV,aL] at hvs
  obtain⟨v1,r1,rfl,⟨b',hb',rfl⟩,rfl⟩:=hvs
  obtain rfl:=aG (hb.symm.trans hb')
  refine (aG4 b p v l w hB).mono ?_
  rintro e w' ⟨rfl,hpost⟩
  obtain⟨_,hb',_,hblt,hbm,_⟩:=hp.obj 0 _ rfl
  obtain rfl:=aG (hb.symm.trans hb')
  have hgiven:∀ g,v.ownBlock=some g->abi k ow g:=λg hg=>by
   rcases hv with h0|h0
   .rw[h0] at hg;cases hg
   .exact .inr ⟨_,_,_,_,_,h0,hg⟩
  refine⟨k,ow.del (.cell 0 1),[_],rfl,?_,Mem.le_refl _,am _,λ_ _=>rfl,λt p ht=>?_,λr off p ht=>?_,_,_,rfl,⟨rfl,rfl⟩,rfl⟩
  .exact {
    good:=hp.good
    below:=⟨hpost.os,hpost.tape,hpost.output,hpost.size,λc hc hm=>hpost.grown c hc λe=>hm (hgiven c e.symm)⟩
    mem:=λc o u hu=>⟨(hpost.cell c o (agq hp.mem hu)).trans (hp.mem c o u hu).1,(hp.mem c o u hu).2⟩
    obj:=λr ob hr=>by
     match r,hr with
     | 0,hr =>
      simp only[dI,ae] at hr
      subst hr
      refine⟨b,hb,.inr (.inl ⟨0,hb⟩),cD hblt hpost.size,hbm,[p,v],?_,?_,?_⟩
      .rw[hpost.grown b hblt λe=>hB.ne e.symm]
       exact hB.blk
      .intro u hu
       simp only[bQ,dH,aaj] at hu
       rcases hu with rfl|rfl
       .rcases hpp with rfl|rfl <;> rfl
       .rcases hB.own.2 with ⟨rfl,_⟩|⟨g,cap,cur,rfl,_⟩ <;> rfl
      .exact⟨_,_,rfl,trivial,_,_,rfl,trivial,rfl⟩
    dom:=hp.dom
    inj:=λr r' c h1 h2 _ _=>(asv hp.dom h1).trans (asv hp.dom h2).symm
    tok:=λt u e z n ht=>by
     simp only[Own.del] at ht
     split at ht
     .cases ht
     .rename_i hne
      obtain⟨⟨xs,h1⟩,h2⟩:=hp.tok t u e z n ht
      refine⟨⟨xs,acE (λg hg hlt=>hpost.grown g hlt λe=>?_) h1⟩,λg hg=>⟨(h2 g hg).1,(h2 g hg).2.1,λr hr=>by
       obtain rfl:=asv hp.dom hr
       exact (auK ((h2 g hg).2.2 0 hr).1).elim⟩⟩
      rcases hv with h0|h0
      .rw[h0] at e;cases e
      .exact hp.tokne _ _ _ _ _ _ _ _ _ _ h0 ht (bC hne) g e.symm hg
    tokne:=λt t' u e z n u' e' z' n' ht ht'=>by
     simp only[Own.del] at ht ht'
     split at ht
     .cases ht
     .split at ht'
      .cases ht'
      .exact hp.tokne t t' _ _ _ _ _ _ _ _ ht ht'
    m0:=hp.m0}
  .simp only[Own.del] at ht
   split at ht
   .cases ht
   .exact hold t p ht
  .simp only[Own.del] at ht
   split at ht
   .cases ht
   .exact hcl r off p ht
 .cases h
def aC2(xs:List X)(obs:List Ob)(an:An)(h:arn xs obs=some an):abu Tryz.prog GT 283 xs obs an:=by
 unfold arn at h
 split at h
 .rename_i s a
  split at h
  .rename_i hc
   simp only[ae] at h
   subst h
   intro fn hf k ow w vs hp hold hcl hvs
   simp only[aV,aL,Rep] at hvs
   obtain⟨v,r,rfl,⟨rfl,_⟩,v2,r2,rfl,⟨rfl,_⟩,rfl⟩:=hvs
   obtain⟨m,hm⟩:=hp.table
   refine (Tryz.strings_Contains s a m w hc hm).mono ?_
   rintro e w' ⟨rfl,rfl⟩
   exact⟨k,ow,[_],rfl,hp,Mem.le_refl _,am _,λ_ _=>rfl,hold,hcl,_,_,rfl,⟨rfl,rfl⟩,rfl⟩
  .cases h
 .cases h
def aH6(r:Nat)(w:World):Calls Tryz.prog 202 #[.int .i32 (r:Int)] w λe w'=>e=.returned (.bool (aia r))/\Below w.heap.size w w':=by
 unfold aia
 by_cases h1:(r:Int)<32
 .have h2:r<32:=by omega
  go_enter Tryz.func202,Tryz.ntmps202
  go_wp2
  go_ret
  exact⟨by simp[h2],.refl _ _⟩
 .have h2:¬ r<32:=by omega
  by_cases h3:(126:Int)<r
  .have h4:126<r:=by omega
   go_enter Tryz.func202,Tryz.ntmps202
   go_wp2
   go_ret
   exact⟨by simp[],.refl _ _⟩
  .have h4:¬ 126<r:=by omega
   go_enter Tryz.func202,Tryz.ntmps202
   go_wp2
   go_ret
   exact⟨by simp[],.refl _ _⟩
def aIX(xs:List X)(obs:List Ob)(an:An)(h:ixP xs obs=some an):abu Tryz.prog GT 201 xs obs an:=by
 unfold ixP at h
 split at h
 .rename_i s f
  split at h
  .rename_i hf
   subst hf
   simp only[ae] at h
   subst h
   intro fn hf k ow w vs hp hold hcl hvs
   simp only[aV,aL,Rep,bA] at hvs
   obtain⟨v,r,rfl,⟨rfl,_⟩,v2,r2,rfl,⟨us,rfl,rfl⟩,rfl⟩:=hvs
   refine (Tryz.strings_IndexFunc_grows 202 #[] (enters_of Tryz.func202 aS rfl) aia s w λW x _ _=>aH6 x W).mono ?_
   rintro e w' ⟨rfl,hB⟩
   exact⟨k,ow,[_],rfl,hp.grow hB,Mem.le_refl _,am _,λ_ _=>rfl,hold,hcl,_,_,rfl,⟨rfl,rfl⟩,rfl⟩
  .cases h
 .cases h
def aI6(xs:List X)(obs:List Ob)(an:An)(h:hpP xs obs=some an):abu Tryz.prog GT 238 xs obs an:=by
 unfold hpP at h
 split at h
 .rename_i s a
  simp only[ae] at h
  subst h
  intro fn hf k ow w vs hp hold hcl hvs
  simp only[aV,aL,Rep] at hvs
  obtain⟨v,r,rfl,⟨rfl,_⟩,v2,r2,rfl,⟨rfl,_⟩,rfl⟩:=hvs
  refine (Tryz.strings_HasPrefix s a w).mono ?_
  rintro e w' ⟨rfl,rfl⟩
  exact⟨k,ow,[_],rfl,hp,Mem.le_refl _,am _,λ_ _=>rfl,hold,hcl,_,_,rfl,⟨rfl,rfl⟩,rfl⟩
 .cases h
def aI2(xs:List X)(obs:List Ob)(an:An)(h:ibP xs obs=some an):abu Tryz.prog GT 239 xs obs an:=by
 unfold ibP at h
 split at h
 .rename_i s n
  simp only[ae] at h
  subst h
  intro fn hf k ow w vs hp hold hcl hvs
  simp only[aV,aL,Rep] at hvs
  obtain⟨v,r,rfl,⟨rfl,_⟩,v2,r2,rfl,⟨rfl,_⟩,rfl⟩:=hvs
  refine (Tryz.strings_IndexByte s n w).mono ?_
  rintro e w' ⟨rfl,rfl⟩
  exact⟨k,ow,[_],rfl,hp,Mem.le_refl _,am _,λ_ _=>rfl,hold,hcl,_,_,rfl,⟨rfl,rfl⟩,rfl⟩
 .cases h
def aIQ(xs:List X)(obs:List Ob)(an:An)(h:lxP xs obs=some an):abu Tryz.prog GT 244 xs obs an:=by
 unfold lxP at h
 split at h
 .rename_i s
  simp only[ae] at h
  subst h
  intro fn hf k ow w vs hp hold hcl hvs
  simp only[aV,aL,Rep] at hvs
  obtain⟨v,r,rfl,⟨rfl,_⟩,rfl⟩:=hvs
  refine (aBB s w).mono ?_
  rintro e w' ⟨rfl,hB⟩
  exact⟨k,ow,[_],rfl,hp.grow hB,Mem.le_refl _,am _,λ_ _=>rfl,hold,hcl,_,_,rfl,⟨rfl,rfl⟩,rfl⟩
 .cases h
def aHn:PrSound Tryz.prog GT pr where
 prim f xs obs an h:=by
  replace h:ahr f xs obs=some an:=h
  unfold ahr at h
  split at h
  .rename_i e;subst e;exact aIX xs obs an h
  split at h
  .rename_i e;subst e;exact aC2 xs obs an h
  split at h
  .rename_i e;subst e;exact aI6 xs obs an h
  split at h
  .rename_i e;subst e;exact aI2 xs obs an h
  split at h
  .rename_i e;subst e;exact aGM xs obs an h
  split at h
  .rename_i e;subst e;exact aJR xs obs an h
  split at h
  .rename_i e;subst e;exact aIQ xs obs an h
  cases h
end Go.Proofs.YtghkmcffifpkeaaGreat
namespace Go.Pe
open RowKit
section
variable {P:Program} {G:GP} {pr:Pr} {M0:Base} {k:Know} {ow:Own} {w0 w:World} {N:Nat} {s:S} {tmps:Array Value} {ds:List Deferred} {Q:Exit->Act->World->Prop}
theorem avh(hm:P.follows .mixedOrders=true)(hpr:PrSound P G pr){c:Code}(hok:aar pr.mt N c=true){Φ:Ex->S->Prop}(h:WC P pr c s Φ)(hG:M0.G=G)(hs:Sim M0 k ow (λ_=>False) w0 w N s tmps)
  (hQ:∀ e s' x tmps' w' k' ow',Φ e s'->k.le k'->Sim M0 k' ow' (λ_=>False) w0 w' N s' tmps'->e.is k' ow' x->Q x ⟨tmps',ds⟩ w'):c.wp P Q ⟨tmps,ds⟩ w:=by
 obtain⟨n,e,s',h1,h2⟩:=h
 exact (ajn hm hpr n M0 w0 N c s e s' hG h1 hok k ow w tmps ds Q hs λx tmps' w' k' ow' g1 g2 g3=>hQ e s' x tmps' w' k' ow' h2 g1 g2 g3).wp
theorem alJ(hm:P.follows .mixedOrders=true)(hpr:PrSound P G pr){a X:Code}(hok:aar pr.mt N a=true){Φ:Ex->S->Prop}(h:WC P pr a s Φ)(hG:M0.G=G)(hs:Sim M0 k ow (λ_=>False) w0 w N s tmps)
  (hN:∀ s' tmps' w' k' ow',Φ .normal s'->k.le k'->Sim M0 k' ow' (λ_=>False) w0 w' N s' tmps'->X.wp P Q ⟨tmps',ds⟩ w')
  (hX:∀ e s' x tmps' w' k' ow',e≠.normal->Φ e s'->k.le k'->Sim M0 k' ow' (λ_=>False) w0 w' N s' tmps'->e.is k' ow' x->Q x ⟨tmps',ds⟩ w'):(Code.seq a X).wp P Q ⟨tmps,ds⟩ w:=by
 refine wp_seq (avh hm hpr hok h hG hs λe s' x tmps' w' k' ow' g1 g2 g3 g4=>?_)
 cases e with
 | normal=>simp only[Ex.is] at g4;subst g4;exact hN s' tmps' w' k' ow' g1 g2 g3
 | exit i =>
  have h:=hX (.exit i) s' x tmps' w' k' ow' aT g1 g2 g3 g4
  simp only[Ex.is] at g4;subst g4;exact h
 | ret =>
  have h:=hX .ret s' x tmps' w' k' ow' aT g1 g2 g3 g4
  simp only[Ex.is] at g4;subst g4;exact h
 | pan y =>
  have h:=hX (.pan y) s' x tmps' w' k' ow' aT g1 g2 g3 g4
  simp only[Ex.is] at g4;obtain⟨v,rfl,_⟩:=g4;exact h
theorem Sim.reslot{done:Nat->Prop}(h:Sim M0 k ow done w0 w N s tmps)(s2:S)(ho:s2.objs=s.objs)(hc:s2.clk=s.clk){tmps2:Array Value}{N2:Nat}(hz:tmps2.size=N2)(hf:∀ j,aL k ow (s2.fr j) (tmps2.getD j undef)):Sim M0 k ow done w0 w N2 s2 tmps2 :=
 {(show Hp M0 k ow w0 w s2.objs from ho▸h.toHp) with size:=hz,fr:=hf,fresh:=λt p q=>by rw[hc];exact h.fresh t p q,cells:=λr o p q=>by rw[ho];exact h.cells r o p q}
theorem ajs(v:Value):aL k ow (.of .any) v:=by simp[aL,Rep]
theorem apI{objs:List Ob}{r:Nat}{a b:Ob}(ha:objs[r]?=some a)(hl:a.live=b.live){q:Nat}:Liv (objs.set r b) q↔Liv objs q:=by
 have hr:r<objs.length:=(List.getElem?_eq_some_iff.1 ha).1
 unfold Liv
 by_cases e:r=q
 .subst e
  rw[dh hr,ha]
  simp[hl]
 .rw[fa e]
theorem aBm{objs:List Ob}{r:Nat}{ty ty':Nat}{xs ys:List X}(ha:objs[r]?=some (.var ty xs)){n q:Nat}:gv (objs.set r (.var ty' ys)) n q↔gv objs n q:=by
 have hr:r<objs.length:=(List.getElem?_eq_some_iff.1 ha).1
 unfold gv
 by_cases e:r=q
 .subst e
  rw[dh hr,ha]
  simp
 .rw[fa e]
theorem Sim.nilOwn{done:Nat->Prop}(h:Sim M0 k ow done w0 w N s tmps){r ty:Nat}{A B:List X}(hr:s.objs[r]?=some (.var ty (A++.nil::B)))(e z:Nat)(ht:ow (.cell r A.length)=none) :
  ∃ ow',Sim M0 k ow' done w0 w N {s with objs:=s.objs.set r (.var ty (A++.own (.cell r A.length) e z [] 0::B))} tmps/\∀ t,t≠.cell r A.length->ow' t=ow t:=by
 have hrl:r<s.objs.length:=(List.getElem?_eq_some_iff.1 hr).1
 let ow':Own:=λt=>if t=.cell r A.length then some (.slice none 0 0,e,z,0) else ow t
 have hself:ow' (.cell r A.length)=some (.slice none 0 0,e,z,0):=by simp[ow']
 have hoth:∀ t,t≠.cell r A.length->ow' t=ow t:=λt q=>by simp[ow',q]
 have hsub:ow.sub ow':=λt p q=>by
  have:t≠.cell r A.length:=by rintro rfl;rw[ht] at q;cases q
  rw[hoth t this];exact q
 have hk:=Know.le_refl k
 refine⟨ow',{good:=h.good,below:=h.below,mem:=h.mem,obj:=?_,dom:=?_,inj:=?_,tok:=?_,tokne:=?_,m0:=h.m0,size:=h.size,fr:=λj=>aL.mono hk hsub _ _ (h.fr j),fresh:=?_,cells:=?_},hoth⟩
 .intro q ob hq
  by_cases e1:r=q
  .subst e1
   simp only[dh hrl,ae] at hq
   subst hq
   obtain⟨b,h1,h2,h3,h4,vs,h5,h6,h7⟩:=h.obj r _ hr
   refine⟨b,h1,h2,h3,λ_=>h4 rfl,vs,h5,h6,?_⟩
   have h7:=aV.mono hk hsub _ _ h7
   clear h5 h6 hr
   have key:∀ (A':List X) (vs':List Value),aV k ow' (A'++.nil::B) vs'->aV k ow' (A'++.own (.cell r A.length) e z [] 0::B) vs':=by
    intro A'
    induction A' with
    | nil =>
     intro vs' hh
     simp only[db,aV,aL] at hh ⊢
     obtain⟨v,l,rfl,rfl,h8⟩:=hh
     exact⟨_,_,rfl,⟨hself,by simp,by simp only[Rep,bA];exact⟨none,0,[],rfl,am _,rfl,λq=>absurd rfl q⟩⟩,h8⟩
    | cons x A' ih =>
     intro vs' hh
     simp only[eI,aV] at hh ⊢
     obtain⟨v,l,rfl,h8,h9⟩:=hh
     exact⟨v,l,rfl,h8,ih _ h9⟩
   exact key A vs h7
  .rw[fa e1] at hq
   obtain⟨b,h1,h2,h3,h4,h5⟩:=h.obj q ob hq
   exact⟨b,h1,h2,h3,h4,h5.mono hk hsub⟩
 .intro q b hq
  simp only[List.length_set]
  exact h.dom q b hq
 .intro q q' b h1 h2 h3 h4
  exact h.inj q q' b h1 h2 ((apI hr (by rfl)).1 h3) ((apI hr (by rfl)).1 h4)
 .intro t v e' z' n hq
  by_cases e1:t=.cell r A.length
  .subst e1
   rw[hself] at hq
   simp only[bT] at hq
   obtain⟨rfl,rfl,rfl,rfl⟩:=hq
   exact⟨⟨[],World.ownsRow_nil w 0 e z⟩,λg hg=>by simp[Value.ownBlock] at hg⟩
  .rw[hoth t e1] at hq
   obtain⟨h1,h2⟩:=h.tok t v e' z' n hq
   exact⟨h1,λg hg=>⟨(h2 g hg).1,(h2 g hg).2.1,λq hq2=>⟨(aBm hr).2 ((h2 g hg).2.2 q hq2).1,λhl=>((h2 g hg).2.2 q hq2).2 ((apI hr (by rfl)).1 hl)⟩⟩⟩
 .intro t t' v e1 z1 n1 v' e2 z2 n2 h1 h2 hne g hg
  by_cases q:t=.cell r A.length
  .subst q
   rw[hself] at h1
   simp only[bT] at h1
   obtain⟨rfl,_⟩:=h1
   simp[Value.ownBlock] at hg
  by_cases q':t'=.cell r A.length
  .subst q'
   rw[hself] at h2
   simp only[bT] at h2
   obtain⟨rfl,_⟩:=h2
   simp[Value.ownBlock]
  rw[hoth _ q] at h1
  rw[hoth _ q'] at h2
  exact h.tokne t t' v e1 z1 n1 v' e2 z2 n2 h1 h2 hne g hg
 .intro t p hq
  by_cases q:t=.cell r A.length
  .subst q;trivial
  .rw[hoth _ q] at hq;exact h.fresh t p hq
 .intro q off p hq
  simp only[List.length_set]
  by_cases e1:(Tk.cell q off)=.cell r A.length
  .cases e1;exact hrl
  .rw[hoth _ e1] at hq;exact h.cells q off p hq
theorem aw2{xs:List X}{obs:List Ob}{vs:List Value}(hhp:Hp M0 k ow w0 w obs)(hold:∀ t p,ow t=some p->t.older 1 λ_=>False)(hcl:∀ r off p,ow (.cell r off)=some p->r<obs.length)(hvs:aV k ow xs vs)(hvl:vs.length<=N) :
  Sim M0 k ow (λ_=>False) w0 w N (ael xs obs) (vs.toArray++Array.replicate (N-vs.toArray.size) undef):={hhp with
 size:=by simp;omega
 fresh:=hold
 cells:=hcl
 fr:=λj=>by
  simp only[ael]
  have hg:(vs.toArray++Array.replicate (N-vs.toArray.size) undef).getD j undef=vs.getD j undef:=by
   rw[eU,ba]
   rcases av j vs.length with g|g
   .rw[Array.getElem?_append_left (by simpa using g)]
    simp
   .rw[Array.getElem?_append_right (by simpa using g)]
    rw[bc g]
    simp only[dZ,Array.getElem?_replicate]
    split <;> rfl
  rw[hg]
  cases hc:xs[j]? with
  | none =>
   have:vs[j]?=none:=by
    rw[List.getElem?_eq_none_iff] at hc ⊢
    rw[hvs.length];exact hc
   rw[ba,ba,this,hc]
   simp[aL,Rep]
  | some c =>
   obtain⟨v,hv,hr⟩:=hvs.get j c hc
   rw[ba,ba,hv,hc]
   exact hr}
def ahJ(x:X)(objs:List Ob)(clk:Nat):S:=⟨λj=>match j with
 | 0=>.ptr 0 0
 | 1=>.ptr 1 0
 | 2=>.ptr 2 0
 | 3=>x
 | _=>.of .any,objs,clk⟩
def akQ(objs:List Ob)(clk:Nat):S:=⟨λj=>match j with
 | 6=>.ptr 0 0
 | 7=>.ptr 1 0
 | 8=>.ptr 2 0
 | _=>.of .any,objs,clk⟩
def acI(P:Program)(b:Bool)(fn:Func)(s:S):Option An:=(acb (TT.of P) s fn.results.toList).bind λrs=>ad1 0 false (af9 b rs) s.objs
def amC(s s1:S):Prop:=∀ (M0:Base) (k:Know) (ow:Own) (w0 w:World) (N:Nat) (tmps:Array Value),Sim M0 k ow (λ_=>False) w0 w N s tmps->∃ ow',Sim M0 k ow' (λ_=>False) w0 w N s1 tmps
end
theorem amC.of{s4:S}{objs:List Ob}(fr5:Nat->X)(ho:s4.objs=objs)(hfr:∀ j,fr5 j=.of .any\/(fr5 j=s4.fr j/\∀ t,(fr5 j).drop t=fr5 j))(hd:∀ t:Tk,objs.map (Ob.drop t)=objs){r ty:Nat}{A:List X}
  (hr:objs[r]?=some (.var ty (A++[.nil,.nil,.nil]))) (e1 z1 e2 z2 e3 z3:Nat) (h0:∀ o,(A.length=o\/A.length+1=o\/A.length+2=o)->(o == 1099511627776)=false) :
  amC s4 ⟨fr5,objs.set r (.var ty (A++[.own (.cell r A.length) e1 z1 [] 0,.own (.cell r (A.length+1)) e2 z2 [] 0,.own (.cell r (A.length+2)) e3 z3 [] 0])),s4.clk⟩:=by
 intro M0 k ow w0 w N tmps hs
 have h1:Sim M0 k ow (λ_=>False) w0 w N ⟨fr5,objs,s4.clk⟩ tmps:=hs.reslot ⟨fr5,objs,s4.clk⟩ ho.symm rfl hs.size λj=>by
  rcases hfr j with q|q
  .show aL k ow (fr5 j) _;rw[q];exact ajs _
  .show aL k ow (fr5 j) _;rw[q.1];exact hs.fr j
 have del:∀ (t:Tk) (ow:Own),t.isRow=false->Sim M0 k ow (λ_=>False) w0 w N ⟨fr5,objs,s4.clk⟩ tmps->Sim M0 k (ow.del t) (λ_=>False) w0 w N ⟨fr5,objs,s4.clk⟩ tmps:=by
  intro t ow ht h
  have g:=h.del t ht
  refine g.reslot ⟨fr5,objs,s4.clk⟩ (by show objs=objs.map (Ob.drop t);exact (hd t).symm) rfl g.size λj=>?_
  have q:aL k (ow.del t) ((fr5 j).drop t) (tmps.getD j undef):=g.fr j
  rcases hfr j with e|e
  .show aL k _ (fr5 j) _;rw[e];exact ajs _
  .rw[e.2 t] at q;exact q
 have g:=del (.cell r (A.length+2)) _ (by exact h0 _ (.inr (.inr rfl))) (del (.cell r (A.length+1)) _ (by exact h0 _ (.inr (.inl rfl))) (del (.cell r A.length) _ (by exact h0 _ (.inl rfl)) h1))
 have hrl:r<objs.length:=(List.getElem?_eq_some_iff.1 hr).1
 obtain⟨ow1,k1,f1⟩:=g.nilOwn (A:=A) (B:=[.nil,.nil]) (by exact hr) e1 z1 (by simp[Own.del])
 obtain⟨ow2,k2,f2⟩:=k1.nilOwn (r:=r) (ty:=ty) (A:=A++[.own (.cell r A.length) e1 z1 [] 0]) (B:=[.nil]) (by simp[dh hrl]) e2 z2 (by
  have q:(Tk.cell r (A++[X.own (.cell r A.length) e1 z1 [] 0]).length)≠.cell r A.length:=by simp
  rw[f1 _ q];simp[Own.del])
 obtain⟨ow3,k3,f3⟩:=k2.nilOwn (r:=r) (ty:=ty) (A:=A++[.own (.cell r A.length) e1 z1 [] 0,.own (.cell r (A.length+1)) e2 z2 [] 0]) (B:=[]) (by simp[hrl]) e3 z3 (by
  have q:(Tk.cell r (A++[X.own (.cell r A.length) e1 z1 [] 0,X.own (.cell r (A.length+1)) e2 z2 [] 0]).length)≠.cell r A.length:=by simp
  have q2:(Tk.cell r (A++[X.own (.cell r A.length) e1 z1 [] 0,X.own (.cell r (A.length+1)) e2 z2 [] 0]).length)≠.cell r (A++[X.own (.cell r A.length) e1 z1 [] 0]).length:=by simp
  rw[f2 _ q2,f1 _ q];simp[Own.del])
 refine⟨ow3,?_⟩
 have e:∀ (x y z:Ob),((objs.set r x).set r y).set r z=objs.set r z:=λx y z=>by simp
 simp only[e,abQ,eO,aaW] at k3
 exact k3
def alv(o:Oper):List Nat:=(o.after.toList.filter λe=>Region.binds .any e).map (·.on)
def avT(E:List (List Nat))(l:List Bool):List Nat:=(List.range E.length).filter λi=>!(l.getD i true)&&(E.getD i []).all λd=>l.getD d false
def aBN(ops:List Oper)(i:Nat)(K:Oper->Prop):Prop:=match ops[i]? with
 | some o=>K o
 | none=>False
def WF(P:Program)(pr:Pr)(ops:List Oper)(E:List (List Nat))(Q:S->Prop):Nat->List Bool->S->Prop
 | 0,_,s=>Q s
 | n+1,l,s=>∀ i∈avT E l,aBN ops i λo=>o.guard=none/\SO P pr false i o s λe s'=>e=none/\WF P pr ops E Q n (l.set i true) s'
section
variable {P:Program} {G:GP} {pr:Pr} {M0:Base} {w0:World} {N:Nat} {ds:List Deferred}
theorem aIN{E:List (List Nat)}{l:List Bool}{i:Nat}(h1:i<E.length)(h2:l.getD i true=false)(h3:∀ d∈E.getD i [],l.getD d false=true):i∈avT E l:=by
 unfold avT
 rw[List.mem_filter,List.mem_range]
 refine⟨h1,?_⟩
 rw[h2,ct,bR,bo]
 exact h3
theorem afw(l:List Bool)(i:Nat)(b:Bool):l.toArray.getD i b=l.getD i b:=by
 rw[eU,ba,ac4]
theorem aFX{l:List Bool}{i:Nat}(h:l.getD i true=false):(l.set i true).count false+1=l.count false:=by
 induction l generalizing i with
 | nil=>simp at h
 | cons b r ih =>
  cases i with
  | zero=>simp only[List.getD_cons_zero] at h;subst h;simp
  | succ i =>
   simp only[List.getD_cons_succ] at h
   have:=ih h
   simp only[ags,List.count_cons]
   omega
theorem aIh{l:List Bool}(h:l.count false=0)(i:Nat):l.getD i true=true:=by
 rw[List.count_eq_zero] at h
 rw[ba]
 cases e:l[i]? with
 | none=>rfl
 | some b =>
  cases b with
  | true=>rfl
  | false=>exact absurd (co e) h
theorem ax5(hm:P.follows .mixedOrders=true)(hpr:PrSound P G pr)(hG:M0.G=G){ops:Array Oper}(hdst:∀ (j:Nat) (o:Oper),ops[j]?=some o->ab2 N o=true){E:List (List Nat)}(hE:ops.toList.map alv=E)(hlt:∀ i d,d∈E.getD i []->d<i)
  {Q:Exit->Act->World->Prop} {Qs:S->Prop} {k0:Know} (hQ:∀ s' tmps' w' k' ow' done',k0.le k'->Qs s'->Sim M0 k' ow' done' w0 w' N s' tmps'->Q .normal ⟨tmps',ds⟩ w') :
  ∀ (n:Nat) (l:List Bool) (s:S) (w:World) (tmps:Array Value) (k:Know) (ow:Own),l.count false=n->l.length=ops.size->k0.le k->Sim M0 k ow (λj=>l.getD j true=true) w0 w N s tmps->WF P pr ops.toList E Qs n l s->wpAny P .any ops Q n l.toArray ⟨tmps,ds⟩ w
 | 0,l,s,w,tmps,k,ow,hn,hz,hk,hs,h=>by
  have:Region.ready .any ops l.toArray=[]:=List.eq_nil_iff_forall_not_mem.2 λi hi=>by
   have:=(mem_ready.1 hi).1
   rw[afw,aIh hn] at this
   cases this
  exact⟨this,hQ s tmps w k ow _ hk h hs⟩
 | n+1,l,s,w,tmps,k,ow,hn,hz,hk,hs,h=>by
  have hEl:E.length=ops.size:=by rw[← hE];simp
  have hEi:∀ i o,ops[i]?=some o->E.getD i []=alv o:=λi o ho=>by
   rw[← hE,ba,cd,ac8,ho];rfl
  refine⟨λh0=>?_,λi hi=>?_⟩
  .-- the first that is not done is ready
   exfalso
   have:∃ i,l.getD i true=false:=by
    by_cases q:∃ i,l.getD i true=false
    .exact q
    .exfalso
     have:false∈l:=by
      rcases aaE (l.count false) with z|z
      .omega
      .exact List.count_pos_iff.1 z
     obtain⟨i,hi⟩:=List.mem_iff_getElem?.1 this
     exact q ⟨i,by rw[ba,hi];rfl⟩
   obtain⟨i,hi⟩:=this
   have key:∀ n i,i<=n->l.getD i true=false->∃ j,l.getD j true=false/\∀ d,d<j->l.getD d true=true:=by
    intro n
    induction n with
    | zero=>intro i hi h;exact⟨i,h,λd hd=>by omega⟩
    | succ n ih =>
     intro i hi h
     by_cases q:∃ d,d<i/\l.getD d true=false
     .obtain⟨d,h1,h2⟩:=q
      exact ih d aC h2
     .exact⟨i,h,λd hd=>by
       cases e:l.getD d true with
       | true=>rfl
       | false=>exact absurd ⟨d,hd,e⟩ q⟩
   obtain⟨j,hj,hd⟩:=key i i (am _) hi
   have hjl:j<l.length:=by
    rcases av j l.length with g|g
    .exact g
    .rw[ba,bc g] at hj;cases hj
   have hjo:j<ops.size:=by omega
   have:j∈Region.ready .any ops l.toArray:=by
    refine mem_ready.2 ⟨by rw[afw];exact hj,ops[j],Array.getElem?_eq_getElem hjo,λe he hb=>?_⟩
    have h1:e.on∈E.getD j []:=by
     rw[hEi j _ (Array.getElem?_eq_getElem hjo)]
     unfold alv
     exact List.mem_map.2 ⟨e,List.mem_filter.2 ⟨by simpa using he,hb⟩,rfl⟩
    have h2:=hlt j _ h1
    have h3:=hd _ h2
    rw[afw]
    have:e.on<l.length:=by omega
    rw[ba,aO this] at h3 ⊢
    exact h3
   rw[h0] at this
   cases this
  .obtain⟨hun,o,ho,hdep⟩:=mem_ready.1 hi
   rw[afw] at hun
   have hil:i<E.length:=by rw[hEl];exact (Array.getElem?_eq_some_iff.1 ho).1
   have hmem:i∈avT E l:=aIN hil hun λd hd=>by
    rw[hEi i o ho] at hd
    unfold alv at hd
    obtain⟨e,h1,rfl⟩:=List.mem_map.1 hd
    obtain⟨h1,h2⟩:=List.mem_filter.1 h1
    have:=hdep e (by simpa using h1) h2
    rw[afw] at this
    exact this
   have h2:=h i hmem
   unfold aBN at h2
   rw[ac8,ho] at h2
   obtain⟨hg,m,e,s',hst,rfl,H⟩:=h2
   have horc:EnSound P M0.G (enN P pr m):=by rw[hG];exact amv hpr (ajn hm hpr m)
   have hstG:bH P (TT.of P) (enN P pr m) false ops s i o=some (none,s'):=by
    unfold bH eV
    rw[hg]
    exact hst
   have hun':¬ (l.getD i true=true):=by rw[hun];simp
   refine aao hs horc hun' ho (hdst i o ho) hstG (λ_ tmps' w' k' ow' g1 g2=>?_) (λx hx=>by cases hx)
   have hset:(l.toArray.setIfInBounds i true)=(l.set i true).toArray:=by simp
   rw[hset]
   have hc:=aFX hun
   refine ax5 hm hpr hG hdst hE hlt hQ n (l.set i true) s' w' tmps' k' ow' aC (by simpa using hz) (Know.le_trans hk g1) (g2.more λj hj=>?_) H
   rcases hj with hj|rfl
   .by_cases hij:i=j
    .subst hij;exact absurd hj hun'
    .rw[ba,fa hij,← ba];exact hj
   .rcases av j l.length with g|g
    .rw[ba,dh g];rfl
    .rw[ba,bc (by simpa using g)];rfl
end
def bU(P:Program)(G:GP)(N:Nat)(c:Code)(s:S)(Φ:Ex->S->Prop):Prop :=
 ∀ (M0:Base) (k:Know) (ow:Own) (w0 w:World) (tmps:Array Value) (ds:List Deferred) (Q:Exit->Act->World->Prop),M0.G=G->Sim M0 k ow (λ_=>False) w0 w N s tmps ->
  (∀ e s' x tmps' w' k' ow',Φ e s'->k.le k'->Sim M0 k' ow' (λ_=>False) w0 w' N s' tmps'->e.is k' ow' x->Q x ⟨tmps',ds⟩ w')->c.wp P Q ⟨tmps,ds⟩ w
section
variable {P:Program} {G:GP} {pr:Pr} {N:Nat} {s:S} {Φ:Ex->S->Prop}
theorem bU.of(hm:P.follows .mixedOrders=true)(hpr:PrSound P G pr){c:Code}(hok:aar pr.mt N c=true)(h:WC P pr c s Φ):bU P G N c s Φ :=
 λ_ _ _ _ _ _ _ _ hG hs hQ=>avh hm hpr hok h hG hs hQ
def aLB(P:Program)(G:GP)(N:Nat)(b:Code)(Φ:Ex->S->Prop):Ex->S->Prop
 | .normal,s=>bU P G N b s Φ
 | e,s=>Φ e s
theorem bU.seq{a b:Code}(h:bU P G N a s (aLB P G N b Φ)):bU P G N (.seq a b) s Φ:=by
 intro M0 k ow w0 w tmps ds Q hG hs hQ
 refine wp_seq (h M0 k ow w0 w tmps ds _ hG hs λe s' x tmps' w' k' ow' g1 g2 g3 g4=>?_)
 cases e with
 | normal =>
  simp only[Ex.is] at g4;subst g4
  exact g1 M0 k' ow' w0 w' tmps' ds Q hG g3 λe s'' x tmps'' w'' k'' ow'' q1 q2 q3 q4=>hQ e s'' x tmps'' w'' k'' ow'' q1 (Know.le_trans g2 q2) q3 q4
 | exit i =>
  have h:=hQ (.exit i) s' x tmps' w' k' ow' g1 g2 g3 g4
  simp only[Ex.is] at g4;subst g4;exact h
 | ret =>
  have h:=hQ .ret s' x tmps' w' k' ow' g1 g2 g3 g4
  simp only[Ex.is] at g4;subst g4;exact h
 | pan y =>
  have h:=hQ (.pan y) s' x tmps' w' k' ow' g1 g2 g3 g4
  simp only[Ex.is] at g4;obtain⟨v,rfl,_⟩:=g4;exact h
theorem bU.cond{c:Operand}{a b:Code}{t:Bool}(hc:adk (s.ev c)=some t)(h:bU P G N (if t then a else b) s Φ):bU P G N (.cond c a b) s Φ:=by
 intro M0 k ow w0 w tmps ds Q hG hs hQ
 cases t with
 | true=>exact wp_cond_true (ajT hc (Sim.ev (ds:=ds) hs c)) (h M0 k ow w0 w tmps ds Q hG hs hQ)
 | false=>exact wp_cond_false (ajT hc (Sim.ev (ds:=ds) hs c)) (h M0 k ow w0 w tmps ds Q hG hs hQ)
theorem bU.any(hm:P.follows .mixedOrders=true)(hpr:PrSound P G pr){id:Nat}{ops:Array Oper}(hdst:ops.all (ab2 N)=true){E:List (List Nat)}(hE:ops.toList.map alv=E)(hlt:((List.range E.length).all λi=>(E.getD i []).all λd=>decide (d<i))=true)
  (h:WF P pr ops.toList E (λs'=>Φ .normal {s' with clk:=s'.clk+1}) ops.size (List.replicate ops.size false) s):bU P G N (.region id ops true) s Φ:=by
 intro M0 k ow w0 w tmps ds Q hG hs hQ
 have hb:Below w.heap.size w {w with drawn:=w.drawn+1}:=⟨rfl,rfl,rfl,am _,λ_ _=>rfl⟩
 have hd':∀ (j:Nat) (o:Oper),ops[j]?=some o->ab2 N o=true:=λj o ho=>by
  rw[Array.all_eq_true_iff_forall_mem] at hdst
  exact hdst o (Array.mem_of_getElem? ho)
 have hlt':∀ i d,d∈E.getD i []->d<i:=λi d hd=>by
  rcases av i E.length with g|g
  .have:=bo.1 hlt i (List.mem_range.2 g)
   exact abB (bo.1 this d hd)
  .rw[ba,bc g] at hd;cases hd
 refine wp_region_any hm ?_
 have h2:=(hs.grow hb).more (done':=λj=>(List.replicate ops.size false).getD j true=true) (λ_ h=>h.elim)
 have:=ax5 (Q:=Q) (ds:=ds) hm hpr hG hd' hE hlt' (k0:=k) (λs' tmps' w' k' ow' done' g1 g2 g3=>hQ .normal _ .normal tmps' w' k' ow' g2 g1 g3.tick rfl) ops.size (List.replicate ops.size false) s _ tmps k ow aT aT (Know.le_refl k) h2 h
 simpa using this
end
section
variable (P:Program) (pr:Pr) (ops:List Oper) (E:List (List Nat)) (Q:S->Prop) (n:Nat) (l:List Bool) (s:S)
def WFk(e:Option X)(s':S):Prop:=e=none/\WF P pr ops E Q n l s'
def WFo(i:Nat):Option Oper->Prop
 | some o=>o.guard=none/\SO P pr false i o s (WFk P pr ops E Q n (l.set i true))
 | none=>False
def WFs:List Nat->Prop
 | []=>True
 | i::r=>WFo P pr ops E Q n l s i ops[i]?/\WFs r
theorem aoN:WFs P pr ops E Q n l s []↔True:=bO
theorem aj8(i:Nat)(r:List Nat):WFs P pr ops E Q n l s (i::r)↔WFo P pr ops E Q n l s i ops[i]?/\WFs P pr ops E Q n l s r:=bO
theorem amA(i:Nat)(d:Option Nat)(op:Op)(ty:Nat)(po:String)(af:Array Edge):WFo P pr ops E Q n l s i (some ⟨d,op,ty,po,af,none⟩)↔SO P pr false i ⟨d,op,ty,po,af,none⟩ s (WFk P pr ops E Q n (l.set i true)):=by simp[WFo]
theorem amB(s':S):WFk P pr ops E Q n l none s'↔WF P pr ops E Q n l s':=by simp[WFk]
theorem aoO:WF P pr ops E Q 0 l s↔Q s:=bO
theorem aPy(L:List Nat):WFs P pr ops E Q n l s L↔∀ i∈L,aBN ops i λo=>o.guard=none/\SO P pr false i o s λe s'=>e=none/\WF P pr ops E Q n (l.set i true) s':=by
 induction L with
 | nil=>simp[WFs]
 | cons i r ih =>
  rw[aj8,ih,List.forall_mem_cons]
  refine and_congr ?_ bO
  unfold aBN
  cases ops[i]? with
  | none=>exact bO
  | some o=>exact bO
theorem aoP:WF P pr ops E Q (n+1) l s↔WFs P pr ops E Q n l s (avT E l):=(aPy P pr ops E Q n l s _).symm
end
def aem(P:Program)(G:GP)(pr:Pr)(f:Nat)(fn:Func)(N Ng:Nat)(B D:Code)(an:An)(s5:S):Prop :=
 bU P G N B s5 λe s6=>(e=.ret/\acI P (pr.keep f) fn s6=some an)\/(∃ t c,e=.pan (.of (.ifc t c))/\s6.fr 6=.ptr 0 0/\s6.fr 7=.ptr 1 0/\s6.fr 8=.ptr 2 0 /\
  bU P G Ng D (ahJ (.of (.ifc t c)) s6.objs s6.clk) λe s7=>e=.normal/\acI P (pr.keep f) fn (akQ s7.objs s7.clk)=some an)
def anV(P:Program)(pr:Pr)(f:Nat)(fn:Func)(an:An)(K:S->Prop)(e:Ex)(s2:S):Prop:=(e=.ret/\acI P (pr.keep f) fn s2=some an)\/(e=.normal/\K s2)
def aTD(K:S->Prop)(e:Ex)(s4:S):Prop:=e=.normal/\s4.fr 6=.ptr 0 0/\s4.fr 7=.ptr 1 0/\s4.fr 8=.ptr 2 0/\∃ s5,s5.fr 6=.ptr 0 0/\s5.fr 7=.ptr 1 0/\s5.fr 8=.ptr 2 0/\s5.fr 30=.of .any/\amC s4 s5/\K s5
def adm{P:Program}{G:GP}{pr:Pr}(hm:P.follows .mixedOrders=true)(hpr:PrSound P G pr){f g N Ng:Nat}{fn fg:Func}(hf:P.funcs[f]?=some fn)(hN:fn.ntmps=N){r0 r1 r2 r4 r5 B D:Code}
  (hb:fn.body=some (.seq r0 (.seq r1 (.seq r2 (.seq r4 (.seq r5 B)))))) (hg0:fg.results=#[])
  (ok0:aar pr.mt N r0=true) (ok1:aar pr.mt N r1=true) (ok2:aar pr.mt N r2=true) (ok4:aar pr.mt N r4=true)
  (h5:∀ (tmps:Array Value) (w:World) (X:Act->World->Prop) (Q:Exit->Act->World->Prop),tmps.size=N->(∀ cap,cap=#[tmps.getD 6 undef,tmps.getD 7 undef,tmps.getD 8 undef]->X ⟨tmps.setIfInBounds 30 (.func (.func g) #[] cap),[⟨.fn (.func g) cap,#[]⟩]⟩ w)->r5.wp P (Exit.then X Q) ⟨tmps,[]⟩ w)
  (hinv:∀ cap w,(invoke (.fn (.func g) cap) #[]).run P w=.ok (.enter g cap) w)
  (hidle:∀ p6 p7 p8 w,CallsD P g #[p6,p7,p8] .returning w λe u' w'=>e=.returned (.tuple #[])/\u'=.returning/\w'=w)
  (hcat:∀ t u p6 p7 p8 w R,(∀ (c₀:Frame) (cs:List Frame) (T:Array Value),T.size=Ng->T.getD 0 undef=p6->T.getD 1 undef=p7->T.getD 2 undef=p8->T.getD 3 undef=.iface t u ->
    D.wp P (λe a w'=>bodyPostS P fg c₀ cs R e a ({c₀ with mode:=.panicking [{v:=.iface t u,recovered:=true}]}::cs) w') ⟨T,[]⟩ w)->CallsD P g #[p6,p7,p8] (.panicking [{v:=.iface t u,recovered:=false}]) w R)
  {xs:List X} (har:xs.length<=N) {an:An}
  (hA:WC P pr r0 (ael xs []) λe s0=>e=.normal/\WC P pr r1 s0 λe s1=>e=.normal/\WC P pr r2 s1 (anV P pr f fn an λs2=>WC P pr r4 s2 (aTD (aem P G pr f fn N Ng B D an)))) :
  abu P G f xs [] an:=by
 unfold anV aTD aem at hA
 intro fn' hf' k ow w vs hhp hold hcl hvs
 obtain rfl:fn=fn':=aG (hf.symm.trans hf')
 let M0:Base:=⟨G,k.m,abi k ow⟩
 have hvl:vs.length<=N:=by rw[hvs.length];exact har
 have hsim:=aw2 (M0:=M0) (N:=N) hhp hold hcl hvs hvl
 have fin:∀ (s:S) (tmps':Array Value) (w':World) (k':Know) (ow':Own) (N':Nat),acI P (pr.keep f) fn s=some an->k.le k'->Sim M0 k' ow' (λ_=>False) w w' N' s tmps' ->
   ∃ v,(results fn tmps').run P w'=.ok v w'/\∃ k' ow' us,agB an.pan us (.returned v)/\Hp M0 k' ow' w w' an.obs/\k.m.le k'.m/\([]:List Ob).length<=an.obs.length/\(∀ r,r<([]:List Ob).length->k'.μ r=k.μ r) /\
    (∀ t p,ow' t=some p->t.older 1 λ_=>False)/\(∀ r off p,ow' (.cell r off)=some p->r<an.obs.length)/\aV k' ow' an.rs us:=by
  intro s tmps' w' k' ow' N' hl hle hs
  unfold acI at hl
  simp only[bE] at hl
  obtain⟨rs,hrs,hl⟩:=hl
  obtain⟨us,h1,h2⟩:=agm (P:=P) hs fn.results.toList rs hrs
  obtain⟨k2,ow2,g1,g2,g3,g4,g5,g6,g7,g8⟩:=aix hs.toHp hl (anN (pr.keep f) h2)
  exact⟨_,akP h1,k2,ow2,us,by rw[g1];rfl,g2,by rw[g3];exact hle.1,bn _,λr hr=>absurd hr (abk _),g6,g7,g8⟩
 have rep6:∀ {k:Know} {ow:Own} {r:Nat} {v:Value},aL k ow (.ptr r 0) v->aL k ow (.ptr r 0) v:=λh=>h
 refine calls_of_wp_defers hf hb ?_
 rw[hN]
 refine alJ hm hpr ok0 hA rfl hsim ?_ (λe s' x tmps' w' k' ow' hne h=>absurd h.1 hne)
 rintro s0 t0 w1 k1 ow1 ⟨_,h1⟩ l1 hs1
 refine alJ hm hpr ok1 h1 rfl hs1 ?_ (λe s' x tmps' w' k' ow' hne h=>absurd h.1 hne)
 rintro s1 t1 w2 k2 ow2 ⟨_,h2⟩ l2 hs2
 have l2:=Know.le_trans l1 l2
 refine alJ hm hpr ok2 h2 rfl hs2 ?_ ?_
 rotate_left
 .intro e s' x tmps' w' k' ow' hne h g2 g3 g4
  rcases h with ⟨rfl,h⟩|h
  .simp only[Ex.is] at g4
   subst g4
   obtain⟨v,g5,g6⟩:=fin s' tmps' w' k' ow' N h (Know.le_trans l2 g2) g3
   exact⟨v,g5,g6⟩
  .exact absurd h.1 hne
 rintro s2 t2 w3 k3 ow3 h3 l3 hs3
 rcases h3 with h3|⟨_,h3⟩
 .cases h3.1
 have l3:=Know.le_trans l2 l3
 refine alJ hm hpr ok4 h3 rfl hs3 ?_ (λe s' x tmps' w' k' ow' hne h=>absurd h.1 hne)
 rintro s4 t4 w4 k4 ow4 ⟨_,e6,e7,e8,s5,q6,q7,q8,q30,turn,hB⟩ l4 hs4
 have l4:=Know.le_trans l3 l4
 obtain⟨ow5,hs5⟩:=turn _ _ _ _ _ _ _ hs4
 refine wp_seq (h5 t4 w4 _ _ hs4.size λcap hcap=>?_)
 have c6:=hs5.fr 6;rw[q6] at c6
 have c7:=hs5.fr 7;rw[q7] at c7
 have c8:=hs5.fr 8;rw[q8] at c8
 have hs5':Sim M0 k4 ow5 (λ_=>False) w w4 N s5 (t4.setIfInBounds 30 (.func (.func g) #[] cap)):=hs5.reslot s5 rfl rfl (by rw[acm];exact hs5.size) λj=>by
  by_cases hj:j=30
  .subst hj;rw[q30];exact ajs _
  .have:(t4.setIfInBounds 30 (.func (.func g) #[] cap)).getD j undef=t4.getD j undef:=by
    rw[eU,eU,aaa (λh=>hj h.symm)]
   rw[this];exact hs5.fr j
 refine hB _ _ _ _ _ _ _ _ rfl hs5' λe s6 x t6 w6 k6 ow6 hΦ l6 hs6 hx=>?_
 have l6':=Know.le_trans l4 l6
 rcases hΦ with ⟨rfl,h⟩|⟨t,c,rfl,p6,p7,p8,hD⟩
 .simp only[Ex.is] at hx
  subst hx
  show Leaves P fn t6 _ _ .returning w6
  subst hcap
  refine leaves_cons aT (hinv _ _) ((hidle _ _ _ _).mono ?_)
  rintro e u' w' ⟨rfl,rfl,rfl⟩
  obtain⟨v,g5,g6⟩:=fin s6 t6 _ k6 ow6 N h l6' hs6
  exact⟨v,g5,g6⟩
 .simp only[Ex.is,aL,Rep] at hx
  obtain⟨v,rfl,u,rfl,hu⟩:=hx
  show Leaves P fn t6 _ _ (.panicking _) w6
  subst hcap
  refine leaves_cons aT (hinv _ _) (hcat _ _ _ _ _ _ _ λc₀ cs T hT a0 a1 a2 a3=>?_)
  have hsD:Sim M0 k6 ow6 (λ_=>False) w w6 Ng (ahJ (.of (.ifc t c)) s6.objs s6.clk) T:=hs6.reslot (ahJ (.of (.ifc t c)) s6.objs s6.clk) rfl rfl hT λj=>by
   match j with
   | 0=>rw[a0];simpa only [ahJ,aL] using (show ∃ b,k6.μ 0=some b/\t4.getD 6 undef=.pointer (some ⟨b,0,none⟩) by
     simp only[aL] at c6;obtain⟨b,hb1,hb2⟩:=c6;exact⟨b,l6.2 _ _ hb1,hb2⟩)
   | 1=>rw[a1];simpa only [ahJ,aL] using (show ∃ b,k6.μ 1=some b/\t4.getD 7 undef=.pointer (some ⟨b,0,none⟩) by
     simp only[aL] at c7;obtain⟨b,hb1,hb2⟩:=c7;exact⟨b,l6.2 _ _ hb1,hb2⟩)
   | 2=>rw[a2];simpa only [ahJ,aL] using (show ∃ b,k6.μ 2=some b/\t4.getD 8 undef=.pointer (some ⟨b,0,none⟩) by
     simp only[aL] at c8;obtain⟨b,hb1,hb2⟩:=c8;exact⟨b,l6.2 _ _ hb1,hb2⟩)
   | 3=>rw[a3];simp only[ahJ,aL,Rep];exact⟨u,rfl,hu⟩
   | j+4=>exact ajs _
  refine hD _ _ _ _ _ _ _ _ rfl hsD λe s7 x t7 w7 k7 ow7 hΦ l7 hs7 hx=>?_
  obtain⟨rfl,h⟩:=hΦ
  simp only[Ex.is] at hx
  subst hx
  refine⟨rfl,_,rfl,.tuple #[],by simp[results,hg0],?_⟩
  have d6:=hs6.fr 6;rw[p6] at d6;simp only[aL] at d6
  have d7:=hs6.fr 7;rw[p7] at d7;simp only[aL] at d7
  have d8:=hs6.fr 8;rw[p8] at d8;simp only[aL] at d8
  have hsR:Sim M0 k7 ow7 (λ_=>False) w w7 N (akQ s7.objs s7.clk) t6:=hs7.reslot (akQ s7.objs s7.clk) rfl rfl hs6.size λj=>by
   by_cases h6:j=6
   .subst h6;obtain⟨b,hb1,hb2⟩:=d6;simp only[akQ,aL];exact⟨b,l7.2 _ _ hb1,hb2⟩
   by_cases h7:j=7
   .subst h7;obtain⟨b,hb1,hb2⟩:=d7;simp only[akQ,aL];exact⟨b,l7.2 _ _ hb1,hb2⟩
   by_cases h8:j=8
   .subst h8;obtain⟨b,hb1,hb2⟩:=d8;simp only[akQ,aL];exact⟨b,l7.2 _ _ hb1,hb2⟩
   have:(akQ s7.objs s7.clk).fr j=.of .any:=by
    unfold akQ
    simp only
   rw[this]
   exact ajs (t6.getD j undef)
  obtain⟨v,g5,g6⟩:=fin _ t6 _ k7 ow7 N h (Know.le_trans l6' l7) hsR
  exact⟨v,g5,g6⟩
end Go.Pe
namespace Go.Pe
open Tab
def aBL{α:Type}(o:Option α)(A:α->Prop)(B:Prop):Prop:=match o with
 | some a=>A a
 | none=>B
def atd{α:Type}(a:α)(A:α->Prop)(B:Prop):aBL (some a) A B↔A a:=bO
def aOh{α:Type}{o o':Option α}(A:α->Prop)(B:Prop)(h:Unit->o=o'):aBL o A B=aBL o' A B:=by rw[h ()]
attribute [congr] aOh
def ifP(p:Prop)(A B:Prop):Prop:=(p/\A)\/(¬p/\B)
def asm{p A B:Prop}(h:p):ifP p A B↔A:=by simp[ifP,h]
def aw7(A B:Prop):ifP True A B↔A:=by simp[ifP]
def aRB{p p':Prop}(A B:Prop)(h:Unit->p=p'):ifP p A B=ifP p' A B:=by rw[h ()]
attribute [congr] aRB
def agK(P:Program)(pr:Pr)(f:Nat)(xs:List X)(K:An->Prop):Prop:=afu P pr f xs [] K
def ajJ{P:Program}{pr:Pr}{f:Nat}{xs:List X}{p:Prop}{an:An}(h:p->aF P pr f xs [] an)(K:An->Prop):afu P pr f xs [] K↔ifP p (K an) (agK P pr f xs K):=by
 by_cases hp:p
 .rw[asm hp];exact aF.k (h hp) K
 .simp only[ifP,hp,fY,aak,dg,ahu];exact bO
def aUE{α:Type}(f:α->List C)(l:List α):C.sl (fl f l) l.length=slC f l:=rfl
def fJ{α:Type}(f:α->List C):fl f []=[]:=rfl
def alt{α:Type}(f:α->List C)(a b:List α):fl f (a++b)=fl f a++fl f b:=by simp[fl]
def agu{α:Type}(f:α->List C)(a:α):fl f [a]=f a:=by simp[fl]
def eA{α:Type}(f:α->List C)(a:α)(l:List α):fl f (a::l)=f a++fl f l:=by simp[fl]
theorem aFL{α:Type}{f:α->List C}{z:Nat}(hf:∀ x,(f x).length=z):∀ l:List α,(fl f l).length=l.length*z
 | []=>by simp[fl]
 | a::l=>by rw[eA,bp,hf,aFL hf l,aX,Nat.succ_mul,fw]
theorem aAu{α:Type}{f:α->List C}{z:Nat}(hf:∀ x,(f x).length=z):∀ (l:List α) (k:Nat),(fl f l).drop (k*z)=fl f (l.drop k)
 | l,0=>by simp
 | [],k+1=>by simp[fl]
 | a::l,k+1=>by
  rw[eA,aga,← aAu hf l k,Nat.succ_mul,fw,← ad0,List.drop_append_of_le_length (by rw[hf];exact am _),(show (f a).drop z=[] from bv (by rw[hf];exact am _)),db]
def aaJ{α:Type}(l:List α)(i:Int):Option α:=if 0<=i then l[i.toNat]? else none
def apR{α:Type}(l:List α)(k:Nat):aaJ l (k:Int)=l[k]?:=by simp[aaJ]
def bu{α:Type}{l:List α}{k:Nat}(h:k<l.length):aaJ l (k:Int)=some l[k]:=by rw[apR,aO h]
def age{α:Type}(o:Option α)(g:α->X):Out:=match o with
 | some a=>out (g a)
 | none=>none
def aER{α:Type}(s:S)(d:Option Nat)(af:Array Edge)(K:S->Prop)(o:Option α)(g:α->X):ab8 s d af K (age o g)↔aBL o (λa=>K (s.put d (g a))) False:=by
 cases o <;> exact bO
def ahC{T:TT}{t e:Nat}{d:TD}(h:elemOf T t=some (e,d)){α:Type}{f:α->List C}(hf:∀ x,(f x).length=d.size)(hz:0<d.size)(l:List α)(i:Int) :
  cn T t (.of (slC f l)) (.of (.lit (.int .i64 i)))=age (aaJ l i) λx=>.of (.ref (f x++fl f (l.drop (i.toNat+1)))):=by
 rw[afH h (fl f l) l.length i _ rfl]
 unfold aaJ
 by_cases h0:0<=i
 .obtain⟨k,rfl⟩:=abg h0
  rw[aE (acu k)]
  simp only[aaT]
  by_cases h1:k<l.length
  .rw[aE ⟨acu k,by omega,aFL hf l,hz⟩,aO h1,aAu hf,bI h1,eA]
   rfl
  .rw[aA (λh=>h1 aC),bc aC]
   rfl
 .rw[aA (λh=>h0 h.1),aA h0]
  rfl
def ag5{u:Option TypeDesc}{α:Type}(f:α->List C)(l:List α)(h:ajj u=true):aaI u (.of (slC f l))=out (au l.length):=by
 simp only[aaI,slC,aaR,h,ah]
def aN1{α:Type}(f:α->List C)(l:List α):fW (.of (slC f l))=some [slC f l]:=rfl
def aF5{α:Type}(f:α->List C)(l:List α):cJ (.of (slC f l))=some [.of (slC f l)]:=rfl
def anO{T:TT}{t e:Nat}{d:TD}(h:elemOf T t=some (e,d))(hz:0<d.size)(hb:d.bytes<=32768)(tk tk':Tk)(cs0:List C)(n:Nat)(y:X)(cs:List C)(m:Nat)(hy:aaR y=some (cs,m)) :
  aaG T tk t t (.own tk' e d.size cs0 n) y=if cs.length=m*d.size/\n+m<=LIM then some (.own tk e d.size (cs0++cs) (n+m),some tk') else none:=by
 simp only[aaG,aiK,h,hy,ah]
 by_cases h1:cs.length=m*d.size
 .by_cases h2:n+m<=LIM
  .simp only[h1,h2,hz,hb,cz,ah]
  .simp only[h1,h2,hz,cz,ah,fY,cY,ap]
 .simp only[h1,fY,ap]
def aly{T:TT}{t e:Nat}{d:TD}(h:elemOf T t=some (e,d))(hz:0<d.size)(hb:d.bytes<=32768)(tk:Tk)(y:X)(cs:List C)(m:Nat)(hy:aaR y=some (cs,m)) :
  aaG T tk t t .nil y=if cs.length=m*d.size/\m<=LIM then some (.own tk e d.size cs m,none) else none:=by
 simp only[aaG,aiK,h,hy,ah]
 by_cases h1:cs.length=m*d.size
 .by_cases h2:m<=LIM
  .simp only[h1,h2,hz,hb,cz,ah]
  .rw[aE ⟨h1,hz⟩,aA (λh=>h2 h.1),aA (λh=>h2 h.2)]
 .simp only[h1,fY,ap]
def ahK{T:TT}{t e:Nat}{d:TD}(h:elemOf T t=some (e,d))(hz:0<d.size)(hd:d.size<=1000)(hl:d.zero.length=d.size)(tk:Tk)(xs:List X) :
  dJ tk 1 (elemOf T t) (some [(0,xs)])=if xs.length=d.size then bX ((X.rds xs).map λcs=>.own tk e d.size cs 1) else none:=by
 have h1:(fU d).length=d.size:=by simp[fU,hl]
 simp only[dJ,h,abY,List.replicate_one,List.flatten_singleton,hz,hl,cz,aaZ]
 rw[aE aC]
 simp only[aah,abz,cB,h1]
 by_cases hx:xs.length=d.size
 .rw[aE ⟨hx,am _⟩,aE hx]
  simp only[List.take_zero,db]
  rw[bv aC,aU]
  cases X.rds xs <;> rfl
 .rw[aA (λh=>hx h.1),aA hx]
def aez(l:List UInt8):(aM l).size=l.length:=by simp[aM,ByteArray.size]
def aRv{T:TT}{t:Nat}(hT:(T t).map (·.und)=some .string)(s:List UInt8)(i:Int):afG T t (.of (.lit (.string (aM s)))) (.of (.lit (.int .i64 i)))=age (aaJ s i) λc=>.of (.lit (.int .u8 (c.toNat:Nat))):=by
 rw[aFz hT,aez]
 unfold aaJ
 by_cases h0:0<=i
 .obtain⟨k,rfl⟩:=abg h0
  simp only[aaT,acu,dg,ah]
  by_cases h1:k<s.length
  .rw[aE h1,aO h1]
   simp only[age,at8]
   congr 5
   show ((aM s).data.toList.getD k 0).toNat=_
   simp[aM,ba,aO h1]
  .rw[aA h1,bc aC]
   rfl
 .rw[aA (λh=>h0 h.1),aA h0]
  rfl
def zE:=ai @atd @aw7
def zB:=hZ (ib @abz @List.length_map.{0,0} @fY @cY @aeM @am @aH @fC @ff) (ib @bR @cm @cf @aY @Option.isNone_none.{0} @Option.isNone_some.{0} @List.any_cons.{0} @List.any_nil.{0} @cy) (ib @Int.cast_ofNat_Int @List.drop_succ_cons.{0} @List.take_succ_cons.{0} @List.singleton_append.{0} @cB @List.set_cons_zero.{0} @List.set_cons_succ.{0} @List.drop_nil.{0} @List.take_nil.{0}) (ib @Option.map_some.{0,0} @Option.map_none.{0,0} @Option.getD_some.{0} @Option.getD_none.{0} @Option.bind_some.{0,0} @List.cons_append.{0} @List.nil_append.{0} @List.append_nil.{0} @List.map_cons.{0,0}) (ib @List.map_nil.{0,0} @List.range_zero @List.take_zero.{0} @List.flatten_nil.{0} @List.filter_nil.{0} @List.length_nil.{0} @List.length_cons.{0} @List.drop_zero.{0} @List.not_mem_nil.{0}) (ib @List.mem_cons.{0} @acv @ab @List.getElem?_toArray.{0} @List.toList_toArray.{0} @List.getElem?_cons_zero.{0} @List.getElem?_cons_succ.{0} @aR @beq_self_eq_true.{0}) (ib @beq_true @beq_false @eu @ef @bJ @ct @dg @aaZ @aaj) (hU @ahu @ar @aak @List.append_assoc.{0} @List.length_append.{0} @Tk.nm.injEq @Tk.cell.injEq)
end Go.Pe
namespace Go.Tab
open Pe
structure Nn where
 nd:Int
 dp:Int
 deriving DecidableEq
def nnC(x:Nn):List C:=[ci x.nd,ci x.dp]
def awB(x:Nn):nnC x=[ci x.nd,ci x.dp]:=rfl
def aOs(x:Nn):(nnC x).length=2:=rfl
structure Sz where
 nd:Int
 dp:Int
 deriving DecidableEq
def szC(x:Sz):List C:=[ci x.nd,ci x.dp]
structure Sh where
 le:Int
 mo:Int
 su:Int
 deriving DecidableEq
def shC(x:Sh):List C:=[ci x.le,ci x.mo,ci x.su]
end Go.Tab
namespace Go.Proofs.YtghkmcffifpkeaaGreat
open Pe Tab
def aUQ(x:Od)(r:List C):C.ref (odC x++r)=C.ref (aJ (aM x.nm)::ci x.pl::cb x.dn::r):=by rw[ane];rfl
def aXQ(anm:List UInt8)(apl:Int)(adn:Bool):C.agg [aJ (aM anm),ci apl,cb adn]=C.agg (odC ⟨anm,apl,adn⟩):=by rw[ane]
def aXW(x:Od):Od.mk x.nm x.pl x.dn=x:=rfl
def aUH(x:Xp):C.ref (xpC x)=C.ref [ci x.op,ci x.v.k,ci x.v.n,aJ x.v.s,aJ (aM x.tb),aJ (aM x.nm),cb x.di,slC xpC x.ks,slC qyC x.sb]:=by rw[ch]
def aUM(x:Xp)(r:List C):C.ref (xpC x++r)=C.ref (ci x.op::ci x.v.k::ci x.v.n::aJ x.v.s::aJ (aM x.tb)::aJ (aM x.nm)::cb x.di::slC xpC x.ks::slC qyC x.sb::r):=by rw[ch];rfl
def aX7(x:Xp):(xpC x).map X.of=[.of (ci x.op),.of (ci x.v.k),.of (ci x.v.n),.of (aJ x.v.s),.of (aJ (aM x.tb)),.of (aJ (aM x.nm)),.of (cb x.di),.of (slC xpC x.ks),.of (slC qyC x.sb)]:=by rw[ch];rfl
def aXN(aop:Int)(avk avn:Int)(avs:ByteArray)(atb:List UInt8)(anm:List UInt8)(adi:Bool)(aks:List Xp)(asb:List Qy):C.agg [ci aop,ci avk,ci avn,aJ avs,aJ (aM atb),aJ (aM anm),cb adi,slC xpC aks,slC qyC asb]=C.agg (xpC (.mk aop ⟨avk,avn,avs⟩ atb anm adi aks asb)):=by rw[ch];rfl
def aNx(x:Xp):Xp.mk x.op x.v x.tb x.nm x.di x.ks x.sb=x:=by cases x;rfl
section
variable (op:Int) (v:V) (tb:List UInt8) (nm:List UInt8) (di:Bool) (ks:List Xp) (sb:List Qy)
theorem aHs:(Xp.mk op v tb nm di ks sb).op=op:=rfl
theorem aN9:(Xp.mk op v tb nm di ks sb).v=v:=rfl
theorem aHq:(Xp.mk op v tb nm di ks sb).tb=tb:=rfl
theorem aHt:(Xp.mk op v tb nm di ks sb).nm=nm:=rfl
theorem aHv:(Xp.mk op v tb nm di ks sb).di=di:=rfl
theorem aHu:(Xp.mk op v tb nm di ks sb).ks=ks:=rfl
theorem aHr:(Xp.mk op v tb nm di ks sb).sb=sb:=rfl
end
def aUI(x:Qy):C.ref (qyC x)=C.ref [ci x.op,cb x.al,slC qyC x.ks,cb x.di,slC imC x.its,slC fmC x.fr,slC xpC x.wh,slC xpC x.gr,slC xpC x.hv,slC odC x.od,ci x.li,ci x.sk]:=by rw[ep]
def aUP(x:Qy)(r:List C):C.ref (qyC x++r)=C.ref (ci x.op::cb x.al::slC qyC x.ks::cb x.di::slC imC x.its::slC fmC x.fr::slC xpC x.wh::slC xpC x.gr::slC xpC x.hv::slC odC x.od::ci x.li::ci x.sk::r):=by rw[ep];rfl
def aX8(x:Qy):(qyC x).map X.of=[.of (ci x.op),.of (cb x.al),.of (slC qyC x.ks),.of (cb x.di),.of (slC imC x.its),.of (slC fmC x.fr),.of (slC xpC x.wh),.of (slC xpC x.gr),.of (slC xpC x.hv),.of (slC odC x.od),.of (ci x.li),.of (ci x.sk)]:=by rw[ep];rfl
def aXP(aop:Int)(aal:Bool)(aks:List Qy)(adi:Bool)(aits:List Im)(afr:List Fm)(awh:List Xp)(agr:List Xp)(ahv:List Xp)(aod:List Od)(ali:Int)(ask:Int):C.agg [ci aop,cb aal,slC qyC aks,cb adi,slC imC aits,slC fmC afr,slC xpC awh,slC xpC agr,slC xpC ahv,slC odC aod,ci ali,ci ask]=C.agg (qyC (.mk aop aal aks adi aits afr awh agr ahv aod ali ask)):=by rw[ep];rfl
def aXV(x:Qy):Qy.mk x.op x.al x.ks x.di x.its x.fr x.wh x.gr x.hv x.od x.li x.sk=x:=by cases x;rfl
section
variable (op:Int) (al:Bool) (ks:List Qy) (di:Bool) (its:List Im) (fr:List Fm) (wh:List Xp) (gr:List Xp) (hv:List Xp) (od:List Od) (li:Int) (sk:Int)
theorem aHy:(Qy.mk op al ks di its fr wh gr hv od li sk).op=op:=rfl
theorem aHG:(Qy.mk op al ks di its fr wh gr hv od li sk).al=al:=rfl
theorem aHB:(Qy.mk op al ks di its fr wh gr hv od li sk).ks=ks:=rfl
theorem aHF:(Qy.mk op al ks di its fr wh gr hv od li sk).di=di:=rfl
theorem aEM:(Qy.mk op al ks di its fr wh gr hv od li sk).its=its:=rfl
theorem aHE:(Qy.mk op al ks di its fr wh gr hv od li sk).fr=fr:=rfl
theorem aHw:(Qy.mk op al ks di its fr wh gr hv od li sk).wh=wh:=rfl
theorem aHD:(Qy.mk op al ks di its fr wh gr hv od li sk).gr=gr:=rfl
theorem aHC:(Qy.mk op al ks di its fr wh gr hv od li sk).hv=hv:=rfl
theorem aHz:(Qy.mk op al ks di its fr wh gr hv od li sk).od=od:=rfl
theorem aHA:(Qy.mk op al ks di its fr wh gr hv od li sk).li=li:=rfl
theorem aHx:(Qy.mk op al ks di its fr wh gr hv od li sk).sk=sk:=rfl
end
def aUK(x:Im):C.ref (imC x)=C.ref [cb x.st,aJ (aM x.tb),ci x.e.op,ci x.e.v.k,ci x.e.v.n,aJ x.e.v.s,aJ (aM x.e.tb),aJ (aM x.e.nm),cb x.e.di,slC xpC x.e.ks,slC qyC x.e.sb,aJ (aM x.az)]:=by rw[aeu]
def aUR(x:Im)(r:List C):C.ref (imC x++r)=C.ref (cb x.st::aJ (aM x.tb)::ci x.e.op::ci x.e.v.k::ci x.e.v.n::aJ x.e.v.s::aJ (aM x.e.tb)::aJ (aM x.e.nm)::cb x.e.di::slC xpC x.e.ks::slC qyC x.e.sb::aJ (aM x.az)::r):=by rw[aeu];rfl
def aXS(ast:Bool)(atb:List UInt8)(aeop:Int)(aevk aevn:Int)(aevs:ByteArray)(aetb:List UInt8)(aenm:List UInt8)(aedi:Bool)(aeks:List Xp)(aesb:List Qy)(aaz:List UInt8):C.agg [cb ast,aJ (aM atb),ci aeop,ci aevk,ci aevn,aJ aevs,aJ (aM aetb),aJ (aM aenm),cb aedi,slC xpC aeks,slC qyC aesb,aJ (aM aaz)]=C.agg (imC (.mk ast atb (.mk aeop ⟨aevk,aevn,aevs⟩ aetb aenm aedi aeks aesb) aaz)):=by rw[aeu];rfl
def aXX(x:Im):Im.mk x.st x.tb x.e x.az=x:=by cases x;rfl
section
variable (st:Bool) (tb:List UInt8) (e:Xp) (az:List UInt8)
theorem aHI:(Im.mk st tb e az).st=st:=rfl
theorem aHH:(Im.mk st tb e az).tb=tb:=rfl
theorem aOa:(Im.mk st tb e az).e=e:=rfl
theorem aHJ:(Im.mk st tb e az).az=az:=rfl
end
def aUL(x:Fm):C.ref (fmC x)=C.ref [ci x.kd,aJ (aM x.nm),aJ (aM x.az),slC qyC x.sb,slC fmC x.ks,slC xpC x.on]:=by rw[aba]
def aUS(x:Fm)(r:List C):C.ref (fmC x++r)=C.ref (ci x.kd::aJ (aM x.nm)::aJ (aM x.az)::slC qyC x.sb::slC fmC x.ks::slC xpC x.on::r):=by rw[aba];rfl
def aYa(x:Fm):(fmC x).map X.of=[.of (ci x.kd),.of (aJ (aM x.nm)),.of (aJ (aM x.az)),.of (slC qyC x.sb),.of (slC fmC x.ks),.of (slC xpC x.on)]:=by rw[aba];rfl
def aXT(akd:Int)(anm:List UInt8)(aaz:List UInt8)(asb:List Qy)(aks:List Fm)(aon:List Xp):C.agg [ci akd,aJ (aM anm),aJ (aM aaz),slC qyC asb,slC fmC aks,slC xpC aon]=C.agg (fmC (.mk akd anm aaz asb aks aon)):=by rw[aba];rfl
def aXY(x:Fm):Fm.mk x.kd x.nm x.az x.sb x.ks x.on=x:=by cases x;rfl
section
variable (kd:Int) (nm:List UInt8) (az:List UInt8) (sb:List Qy) (ks:List Fm) (on:List Xp)
theorem aHO:(Fm.mk kd nm az sb ks on).kd=kd:=rfl
theorem aHM:(Fm.mk kd nm az sb ks on).nm=nm:=rfl
theorem aHP:(Fm.mk kd nm az sb ks on).az=az:=rfl
theorem aHK:(Fm.mk kd nm az sb ks on).sb=sb:=rfl
theorem aHN:(Fm.mk kd nm az sb ks on).ks=ks:=rfl
theorem aHL:(Fm.mk kd nm az sb ks on).on=on:=rfl
end
def aUO(x:Tn)(r:List C):C.ref (tnC x++r)=C.ref (ci x.k::ci x.pl::ci x.sz::ci x.n::aJ (aM x.s)::r):=by rw[be];rfl
def aXO(ak:Int)(apl:Int)(asz:Int)(an:Int)(a_s:List UInt8):C.agg [ci ak,ci apl,ci asz,ci an,aJ (aM a_s)]=C.agg (tnC ⟨ak,apl,asz,an,a_s⟩):=by rw[be]
def aXU(x:Tn):Tn.mk x.k x.pl x.sz x.n x.s=x:=rfl
def aK9(x:Th):C.ref (thC x)=C.ref [cb x.q,cb x.w,ci x.y.op,cb x.y.al,slC qyC x.y.ks,cb x.y.di,slC imC x.y.its,slC fmC x.y.fr,slC xpC x.y.wh,slC xpC x.y.gr,slC xpC x.y.hv,slC odC x.y.od,ci x.y.li,ci x.y.sk,ci x.e.op,ci x.e.v.k,ci x.e.v.n,aJ x.e.v.s,aJ (aM x.e.tb),aJ (aM x.e.nm),cb x.e.di,slC xpC x.e.ks,slC qyC x.e.sb,ci x.f.kd,aJ (aM x.f.nm),aJ (aM x.f.az),slC qyC x.f.sb,slC fmC x.f.ks,slC xpC x.f.on]:=by rw[aeZ]
def aNC(x:Th):(thC x).map X.of=[.of (cb x.q),.of (cb x.w),.of (ci x.y.op),.of (cb x.y.al),.of (slC qyC x.y.ks),.of (cb x.y.di),.of (slC imC x.y.its),.of (slC fmC x.y.fr),.of (slC xpC x.y.wh),.of (slC xpC x.y.gr),.of (slC xpC x.y.hv),.of (slC odC x.y.od),.of (ci x.y.li),.of (ci x.y.sk),.of (ci x.e.op),.of (ci x.e.v.k),.of (ci x.e.v.n),.of (aJ x.e.v.s),.of (aJ (aM x.e.tb)),.of (aJ (aM x.e.nm)),.of (cb x.e.di),.of (slC xpC x.e.ks),.of (slC qyC x.e.sb),.of (ci x.f.kd),.of (aJ (aM x.f.nm)),.of (aJ (aM x.f.az)),.of (slC qyC x.f.sb),.of (slC fmC x.f.ks),.of (slC xpC x.f.on)]:=by rw[aeZ];rfl
def aNw(aq:Bool)(aw:Bool)(ayop:Int)(ayal:Bool)(ayks:List Qy)(aydi:Bool)(ayits:List Im)(ayfr:List Fm)(aywh:List Xp)(aygr:List Xp)(ayhv:List Xp)(ayod:List Od)(ayli:Int)(aysk:Int)(aeop:Int)(aevk aevn:Int)(aevs:ByteArray)(aetb:List UInt8)(aenm:List UInt8)(aedi:Bool)(aeks:List Xp)(aesb:List Qy)(afkd:Int)(afnm:List UInt8)(afaz:List UInt8)(afsb:List Qy)(afks:List Fm)(afon:List Xp):C.agg [cb aq,cb aw,ci ayop,cb ayal,slC qyC ayks,cb aydi,slC imC ayits,slC fmC ayfr,slC xpC aywh,slC xpC aygr,slC xpC ayhv,slC odC ayod,ci ayli,ci aysk,ci aeop,ci aevk,ci aevn,aJ aevs,aJ (aM aetb),aJ (aM aenm),cb aedi,slC xpC aeks,slC qyC aesb,ci afkd,aJ (aM afnm),aJ (aM afaz),slC qyC afsb,slC fmC afks,slC xpC afon]=C.agg (thC ⟨aq,aw,(.mk ayop ayal ayks aydi ayits ayfr aywh aygr ayhv ayod ayli aysk),(.mk aeop ⟨aevk,aevn,aevs⟩ aetb aenm aedi aeks aesb),(.mk afkd afnm afaz afsb afks afon)⟩):=by rw[aeZ] <;> rfl
def aNz(x:Th):Th.mk x.q x.w x.y x.e x.f=x:=rfl
def aUJ(x:Nn):C.ref (nnC x)=C.ref [ci x.nd,ci x.dp]:=by rw[awB]
def aX9(x:Nn):(nnC x).map X.of=[.of (ci x.nd),.of (ci x.dp)]:=by rw[awB];rfl
def aXR(and:Int)(adp:Int):C.agg [ci and,ci adp]=C.agg (nnC ⟨and,adp⟩):=by rw[awB]
def aQw(x:V):C.ref (aeG x)=C.ref [ci x.k,ci x.n,aJ x.s]:=rfl
def aTp(x:V):(aeG x).map X.of=[.of (ci x.k),.of (ci x.n),.of (aJ x.s)]:=rfl
def axn(k n:Int)(s:ByteArray):C.agg [ci k,ci n,aJ s]=C.agg (aeG ⟨k,n,s⟩):=rfl
def axu(x:V):V.mk x.k x.n x.s=x:=rfl
def aQA(x:Int)(r:List C):C.ref (aaB x++r)=C.ref (ci x::r):=rfl
def aQz(x:List UInt8)(r:List C):C.ref (cM x++r)=C.ref (aJ (aM x)::r):=rfl
def aFC(l)(i:Int):cn tP 36 (.of (slC odC l)) (.of (.lit (.int .i64 i)))=age (aaJ l i) λx=>.of (.ref (odC x++fl odC (l.drop (i.toNat+1)))):=ahC E36 aAh aI l i
def aFl(l):aaI (some (.slice 126)) (.of (slC odC l))=out (au l.length):=ag5 odC l rfl
def aGt(tk tk' tk2:Tk)(cs0 cs:List C)(n m e2 z2:Nat):aaG tP tk 36 36 (.own tk' 126 3 cs0 n) (.own tk2 e2 z2 cs m)=if cs.length=m*3/\n+m<=LIM then some (.own tk 126 3 (cs0++cs) (n+m),some tk') else none:=anO E36 aI aI tk tk' cs0 n _ cs m rfl
def aDG(tk tk2:Tk)(cs:List C)(m e2 z2:Nat):aaG tP tk 36 36 .nil (.own tk2 e2 z2 cs m)=if cs.length=m*3/\m<=LIM then some (.own tk 126 3 cs m,none) else none:=aly E36 aI aI tk _ cs m rfl
def aDq(tk:Tk)(xs:List X):dJ tk 1 (Pe.elemOf tP 36) (some [(0,xs)])=if xs.length=3 then bX ((X.rds xs).map λcs=>.own tk 126 3 cs 1) else none:=ahK E36 aI aI rfl tk xs
def aI5(l)(i:Int):cn tP 25 (.of (slC xpC l)) (.of (.lit (.int .i64 i)))=age (aaJ l i) λx=>.of (.ref (xpC x++fl xpC (l.drop (i.toNat+1)))):=ahC E25 azR aI l i
def aIT(l):aaI (some (.slice 28)) (.of (slC xpC l))=out (au l.length):=ag5 xpC l rfl
def aJY(tk tk' tk2:Tk)(cs0 cs:List C)(n m e2 z2:Nat):aaG tP tk 25 25 (.own tk' 28 9 cs0 n) (.own tk2 e2 z2 cs m)=if cs.length=m*9/\n+m<=LIM then some (.own tk 28 9 (cs0++cs) (n+m),some tk') else none:=anO E25 aI aI tk tk' cs0 n _ cs m rfl
def aGw(tk tk2:Tk)(cs:List C)(m e2 z2:Nat):aaG tP tk 25 25 .nil (.own tk2 e2 z2 cs m)=if cs.length=m*9/\m<=LIM then some (.own tk 28 9 cs m,none) else none:=aly E25 aI aI tk _ cs m rfl
def aGm(tk:Tk)(xs:List X):dJ tk 1 (Pe.elemOf tP 25) (some [(0,xs)])=if xs.length=9 then bX ((X.rds xs).map λcs=>.own tk 28 9 cs 1) else none:=ahK E25 aI aI rfl tk xs
def aCg(l)(i:Int):cn tP 26 (.of (slC qyC l)) (.of (.lit (.int .i64 i)))=age (aaJ l i) λx=>.of (.ref (qyC x++fl qyC (l.drop (i.toNat+1)))):=ahC E26 aAa aI l i
def aBZ(l):aaI (some (.slice 38)) (.of (slC qyC l))=out (au l.length):=ag5 qyC l rfl
def azC(tk:Tk)(xs:List X):dJ tk 1 (Pe.elemOf tP 26) (some [(0,xs)])=if xs.length=12 then bX ((X.rds xs).map λcs=>.own tk 38 12 cs 1) else none:=ahK E26 aI aI rfl tk xs
def aI3(l)(i:Int):cn tP 34 (.of (slC imC l)) (.of (.lit (.int .i64 i)))=age (aaJ l i) λx=>.of (.ref (imC x++fl imC (l.drop (i.toNat+1)))):=ahC E34 aAq aI l i
def aIR(l):aaI (some (.slice 138)) (.of (slC imC l))=out (au l.length):=ag5 imC l rfl
def aJX(tk tk' tk2:Tk)(cs0 cs:List C)(n m e2 z2:Nat):aaG tP tk 34 34 (.own tk' 138 12 cs0 n) (.own tk2 e2 z2 cs m)=if cs.length=m*12/\n+m<=LIM then some (.own tk 138 12 (cs0++cs) (n+m),some tk') else none:=anO E34 aI aI tk tk' cs0 n _ cs m rfl
def aGv(tk tk2:Tk)(cs:List C)(m e2 z2:Nat):aaG tP tk 34 34 .nil (.own tk2 e2 z2 cs m)=if cs.length=m*12/\m<=LIM then some (.own tk 138 12 cs m,none) else none:=aly E34 aI aI tk _ cs m rfl
def aGk(tk:Tk)(xs:List X):dJ tk 1 (Pe.elemOf tP 34) (some [(0,xs)])=if xs.length=12 then bX ((X.rds xs).map λcs=>.own tk 138 12 cs 1) else none:=ahK E34 aI aI rfl tk xs
def aI4(l)(i:Int):cn tP 35 (.of (slC fmC l)) (.of (.lit (.int .i64 i)))=age (aaJ l i) λx=>.of (.ref (fmC x++fl fmC (l.drop (i.toNat+1)))):=ahC E35 aAt aI l i
def aIS(l):aaI (some (.slice 140)) (.of (slC fmC l))=out (au l.length):=ag5 fmC l rfl
def aGl(tk:Tk)(xs:List X):dJ tk 1 (Pe.elemOf tP 35) (some [(0,xs)])=if xs.length=6 then bX ((X.rds xs).map λcs=>.own tk 140 6 cs 1) else none:=ahK E35 aI aI rfl tk xs
def aFB(l)(i:Int):cn tP 59 (.of (slC tnC l)) (.of (.lit (.int .i64 i)))=age (aaJ l i) λx=>.of (.ref (tnC x++fl tnC (l.drop (i.toNat+1)))):=ahC E59 az1 aI l i
def aFk(l):aaI (some (.slice 63)) (.of (slC tnC l))=out (au l.length):=ag5 tnC l rfl
def aGs(tk tk' tk2:Tk)(cs0 cs:List C)(n m e2 z2:Nat):aaG tP tk 59 59 (.own tk' 63 5 cs0 n) (.own tk2 e2 z2 cs m)=if cs.length=m*5/\n+m<=LIM then some (.own tk 63 5 (cs0++cs) (n+m),some tk') else none:=anO E59 aI aI tk tk' cs0 n _ cs m rfl
def aDF(tk tk2:Tk)(cs:List C)(m e2 z2:Nat):aaG tP tk 59 59 .nil (.own tk2 e2 z2 cs m)=if cs.length=m*5/\m<=LIM then some (.own tk 63 5 cs m,none) else none:=aly E59 aI aI tk _ cs m rfl
def aDp(tk:Tk)(xs:List X):dJ tk 1 (Pe.elemOf tP 59) (some [(0,xs)])=if xs.length=5 then bX ((X.rds xs).map λcs=>.own tk 63 5 cs 1) else none:=ahK E59 aI aI rfl tk xs
def amk(l)(i:Int):cn tP 43 (.of (slC cM l)) (.of (.lit (.int .i64 i)))=age (aaJ l i) λx=>.of (.ref (cM x++fl cM (l.drop (i.toNat+1)))):=ahC E43 (λ_=>rfl) aI l i
def aBY(l):aaI (some (.slice 9)) (.of (slC cM l))=out (au l.length):=ag5 cM l rfl
def azB(tk:Tk)(xs:List X):dJ tk 1 (Pe.elemOf tP 43) (some [(0,xs)])=if xs.length=1 then bX ((X.rds xs).map λcs=>.own tk 9 1 cs 1) else none:=ahK E43 aI aI rfl tk xs
def aOF(l)(i:Int):cn tP 66 (.of (slC aaB l)) (.of (.lit (.int .i64 i)))=age (aaJ l i) λx=>.of (.ref (aaB x++fl aaB (l.drop (i.toNat+1)))):=ahC E66 (λ_=>rfl) aI l i
def aJU(tk:Tk)(xs:List X):dJ tk 1 (Pe.elemOf tP 66) (some [(0,xs)])=if xs.length=1 then bX ((X.rds xs).map λcs=>.own tk 3 1 cs 1) else none:=ahK E66 aI aI rfl tk xs
def aRu(s:List UInt8)(i:Int):afG tP 9 (.of (.lit (.string (aM s)))) (.of (.lit (.int .i64 i)))=age (aaJ s i) λc=>.of (.lit (.int .u8 (c.toNat:Nat))):=aRv (T:=TT.of Tryz.prog) (t:=9) U9 s i
def aeg:=ai (hZ @aUQ @aXQ @aXW @aAh @ak5 @aZp @aZm @aO7) (hU @aOX @aO6 @aOW @aO5 @T36 @P36 @Q36)
def aZ:=hH (hZ @aUH @aUM @aX7 @aXN @aNx @aHs @aN9 @aHq) (hZ @aHt @aHv @aHu @aHr @azR @T28 @P28 @Q28) (hZ @aSP @aR7 @aR6 @aR5 @aR4 @aSO @aR3 @aSN) (hU @aR2 @aR1 @T25 @P25 @Q25 @axu @axn)
def bi:=hM (hZ @aUI @aUP @aX8 @aXP @aXV @aHy @aHG @aHB) (hZ @aHF @aEM @aHE @aHw @aHD @aHC @aHz @aHA) (hZ @aHx @aAa @T38 @P38 @Q38 @aSM @aR0 @aSL) (hZ @aRZ @aSK @aRY @aSJ @aRX @aSI @aRW @aSH) (hZ @aRV @aSG @aRU @aSF @aRT @aSE @aRS @aSD) (hU @aRR @aO3 @aOL @aO2 @aOK @T26 @Q26)
def gF:=hC (hZ @aUK @aUR @aXS @aXX @aHI @aHH @aOa @aHJ) (hZ @aAq @anP @aZo @aZl @aOV @aOU @aOT @aOS) (hM @T34 @P34 @Q34 @aNx @axu @axn)
def bG:=hC (hZ @aUL @aUS @aYa @aXT @aXY @aHO @aHM @aHP) (hZ @aHK @aHN @aHL @aAt @ai0 @aZn @aTz @aOR) (hZ @aOQ @aOP @aOO @aON @aO4 @aOM @T35 @Q35)
def cW:=ai (hU @aUO @aXO @aXU @az1 @T63 @P63 @Q63) (hM @aRQ @aRP @aRO @aRN @aRM @T59)
def an6:=hJ @aK9 @aNC @aNw @aNz @ajr
def an7:=hZ @aUJ @aX9 @aXR @aOs @aDL @aZq @aOZ @aOY
def adS:=ai (hJ @aQw @aTp @axn @axu @T24) (hJ @P24 @Q24 @aSa @aR9 @aR8)
def aex:=hJ @aFC @aFl @aGt @aDG @aDq
def cX:=hJ @aI5 @aIT @aJY @aGw @aGm
def dm:=hC @aCg @aBZ @azC
def ado:=hJ @aI3 @aIR @aJX @aGv @aGk
def gH:=hC @aI4 @aIS @aGl
def fH:=hJ @aFB @aFk @aGs @aDF @aDp
def cO:=hH @amk @aBY @azB @T43
def afQ:=hC @aOF @aJU @T66
def zT0:=ai (hZ @aQA @aQz @aRu @T3 @P3 @Q3 @U3 @T4) (hU @P4 @Q4 @T9 @Q9 @U9 @T5 @T29)
end Go.Proofs.YtghkmcffifpkeaaGreat
namespace Go.Tab
open Pe
def aan{α:Type}{l:List α}{k:Nat}(h:k<l.length):l.drop k=l[k]::l.drop (k+1):=bI h
def aiV{α:Type}(p:α->Bool):Nat->List α->Int
 | _,[]=>-1
 | k,x::r=>if p x then k else aiV p (k+1) r
def amj{α:Type}(p:α->Bool)(l:List α):Int:=aiV p 0 l
end Go.Tab
namespace Go.Pe
def aQF(mt:String->Option Nat->Bool)(d:Option Nat)(op:Op)(ty:Nat)(po:String)(af:Array Edge)(g:Option (Nat×Bool))(l:List Oper):plB mt (⟨d,op,ty,po,af,g⟩::l)=mt po none:=rfl
def aOc(Q:Option X->S->Prop)(s:S):aQH Q none s↔Q none s:=bO
def aw1:Option Ob->Bool
 | some (.row _ (_::_))=>true
 | _=>false
def aw9{T:TT}{t e n b:Nat}{a:Bool}{zr:List Value}{fl:List (Nat×Nat)}{d:TD}(hT:T t=some ⟨.slice e,n,b,a,zr,fl⟩)(hd:T e=some d)(r e' z:Nat)(i:Int):cn T t (.top r e' z) (.of (.lit (.int .i64 i)))=if e'=e/\z=d.size/\i=0/\0<d.size then out (.ptr r 0) else none:=by
 simp only[cn,aa8,hT,hd,aaR,ahS]
def ann(T:TT)(t off ty:Nat)(c:C)(cs:List C):al7 T t off (some (.row ty (c::cs)))=(dQ T t ((c::cs).drop off)).map .of:=rfl
def aQE(Q:Pn->Prop){p p':Option Pn}(h:Unit->p=p'):plQ Q p=plQ Q p':=by rw[h ()]
def aQK(Q:Oper->Prop){p p':Option Oper}(h:Unit->p=p'):opQ Q p=opQ Q p':=by rw[h ()]
def aRr(Q:List Nat->Prop){p p':Option (List Nat)}(h:Unit->p=p'):ldQ Q p=ldQ Q p':=by rw[h ()]
def aHk(Q:S->Prop){p p':Option S}(h:Unit->p=p'):aLf Q p=aLf Q p':=by rw[h ()]
def aNU(A:Prop)(B:Nat->Nat->Nat->Option S)(Q:S->Prop){x x':X}(h:Unit->x=x'):aQr A B Q x=aQr A B Q x':=by rw[h ()]
def aNV{b b':Bool}(A B:Prop)(h:Unit->b=b'):aQs b A B=aQs b' A B:=by rw[h ()]
attribute [congr] aQE aQK aRr aHk aNU aNV
def zD3:=@aOc
def zU3:=@aQF
def ew{P:Program}{pr:Pr}{c:Code}{s:S}{Q:Ex->S->Prop}(n:Nat)(I:Nat->S->Prop)(h0:I 0 s)
  (h:∀ k s,k<=n->I k s->WC P pr c s (λe s'=>match e with
   | .normal=>k<n/\I (k+1) s'
   | e=>Q e s')):WC P pr (.loop c) s Q:=by
 refine eT c Q (λm s=>∃ k,k<=n/\m=n-k/\I k s) ?_ n s ⟨0,bn _,rfl,h0⟩
 rintro m s ⟨k,hk,rfl,hI⟩
 refine WC.mono (h k s hk hI) λe s' hq=>?_
 cases e with
 | normal=>exact⟨n-(k+1),by omega,k+1,by omega,rfl,hq.2⟩
 | _=>exact hq
end Go.Pe
namespace Go.Proofs.YtghkmcffifpkeaaGreat
open Pe Tab
def aW(n:Nat)(h:n<4611686018427387904):IntKind.i64.wrap ((n:Int)+1)=((n+1:Nat):Int):=by rw[cj _ aC aC];rfl
def aG6(a b:List UInt8):aM a++aM b=aM (a++b):=by
 apply alM.1
 simp[aM]
def au6{P:Program}{T:TT}{t:Nat}{u:Option TypeDesc}(a b:List UInt8):gJ P T t u .add (.of (.lit (.string (aM a)))) (.of (.lit (.string (aM b))))=if a.length+b.length<=afM then out (ahQ (aM (a++b))) else none:=by
 rw[Z1u,aez,aez,aG6]
def aGI(u:TypeDesc)(n b:Nat)(a:Bool)(z:List Value)(f:List (Nat×Nat)):fU ⟨u,n,b,a,z,f⟩=z.map abK:=rfl
def cQ(a b:List UInt8):(aM a=aM b)=(a=b):=propext ⟨apm,λh=>h▸rfl⟩
def aQm(a:List UInt8):(aM a=({data:=#[]}:ByteArray))=(a=[]):=cQ a []
def aK(a b:Nat):((a:Int)<(b:Int))=(a<b):=propext aeO
def aJQ(P:Program)(t n b:Nat)(a:Bool)(fs:Array Field)(z:List Value)(fl:List (Nat×Nat))(qs:List (Nat×List X)):axP P t (some ⟨.struct fs,n,b,a,z,fl⟩) (some qs)=bX ((aah (λi=>fl[i]?) (fU ⟨.struct fs,n,b,a,z,fl⟩) qs).map .agg):=rfl
def aYC(x:X):Option.map (λp:X×Option Tk=>p.1) (out x)=some x:=rfl
def zG:=ai (hZ @atd @aER @aN1 @aF5 @aGI @aJQ @aYC @aQm) (hZ @Z2x @aUE @fJ @aw7 @aez @aQC @aAc @aUU)
def zH:=ai (hM @fP @aak @eu @ef @bJ @ct) (hJ @bR @cm @ff @cy @agj)
def zq:=hM @zU @zU2 @zU3 @zB @zG @zH
def zA:=hH @zD @zD2 @zD3 @zE
end Go.Proofs.YtghkmcffifpkeaaGreat
namespace Go.Tab
open Pe
def isT(l:List Tn)(i:Nat)(w:List UInt8):Bool:=match l[i]? with
 | some t=>(decide (t.k=1)||decide (t.k=5))&&decide (t.s=w)
 | none=>false
def bF(l:List Tn)(i:Nat):List (List UInt8)->Bool
 | []=>false
 | w::r=>isT l i w||bF l i r
def br(l:List Tn)(i:Nat)(k:Int):Bool:=match l[i]? with
 | some t=>decide (t.k=k)
 | none=>false
def txT(l:List Tn)(i:Nat):List UInt8:=match l[i]? with
 | some t=>t.s
 | none=>[]
def nuT(l:List Tn)(i:Nat):Int:=match l[i]? with
 | some t=>t.n
 | none=>0
def eE(l:List Tn)(i:Nat)(w:List UInt8):Nat×Bool:=if isT l i w then (i+1,false) else (i,true)
def dU(l:List Tn):Nat->List (List UInt8)->Nat×Bool
 | i,[]=>(i,false)
 | i,w::r=>if isT l i w then dU l (i+1) r else (i,true)
def eZ(l:List Tn)(i:Nat):List UInt8×Nat×Bool:=if br l i 2 then (txT l i,i+1,false) else ([],i,true)
def v0:V:=⟨0,0,ByteArray.empty⟩
def x0:Xp:=.mk 0 v0 [] [] false [] []
def y0:Qy:=.mk 0 false [] false [] [] [] [] [] [] 0 0
def f0:Fm:=.mk 0 [] [] [] [] []
def eF(o:Int)(ks:List Xp):Xp:=.mk o v0 [] [] false ks []
def ak3(t s:List UInt8):Xp:=.mk 2 v0 t s false [] []
def adK(o:Int)(ks:List Xp)(q:Qy):Xp:=.mk o v0 [] [] false ks [q]
def agP(no:Bool)(a:Xp):Xp:=if no then eF 4 [a] else a
def Th.ofE(a:Xp):Th:=⟨false,false,y0,a,f0⟩
def Th.ofQ(a:Qy):Th:=⟨true,false,a,x0,f0⟩
def Th.ofF(a:Fm):Th:=⟨false,false,y0,x0,a⟩
def Th.val(t:Th):Xp:=if t.q then adK 26 [] t.y else t.e
abbrev Rz(α:Type):=Option (α×Nat×Bool)
def Rz.on{α β:Type}(r:Rz α)(g:α->β)(f:α->Nat->Rz β):Rz β:=match r with
 | none=>none
 | some (a,i,true)=>some (g a,i,true)
 | some (a,i,false)=>f a i
def Rz.to{α β:Type}(r:Rz α)(g:α->β):Rz β:=match r with
 | none=>none
 | some (a,i,b)=>some (g a,i,b)
def wantR{β:Type}(r:Nat×Bool)(x:β)(f:Nat->Rz β):Rz β:=match r with
 | (i,true)=>some (x,i,true)
 | (i,false)=>f i
def wantE{β:Type}(r:Nat×Bool)(x:β):Rz β:=some (x,r.1,r.2)
def aot{β:Type}(r:List UInt8×Nat×Bool)(g:List UInt8->β)(f:List UInt8->Nat->Rz β):Rz β:=match r with
 | (s,i,true)=>some (g s,i,true)
 | (s,i,false)=>f s i
structure Fs where
 or:Nat->List Xp->Rz Xp
 no:Nat->Rz Xp
 un:Nat->Rz Xp
 qy:Nat->List Qy->Rz Qy
 ins:Nat->Rz Th
 fr:Nat->List Fm->Rz Fm
 so:Nat->Rz Th
def opT(l:List Tn)(i:Nat):List (List UInt8×Int)->Option Int
 | []=>none
 | (w,o)::r=>if isT l i w then some o else opT l i r
def afj(nx:Nat->List Xp->Rz Xp)(l:List Tn)(so:List (List UInt8×Int)):Nat->Xp->Nat->Rz Xp
 | 0,_,_=>none
 | n+1,a,i=>match opT l i so with
  | none=>some (a,i,false)
  | some o=>(nx (i+1) []).on (λy=>eF o [a,y]) λy j=>afj nx l so n (eF o [a,y]) j
def agT(nx:Nat->List Xp->Rz Xp)(l:List Tn)(so:List (List UInt8×Int))(i:Nat)(pre:List Xp):Rz Xp :=
 (nx i pre).on id λa j=>afj nx l so (l.length+1) a j
def ab4(l:List Tn)(i:Nat):Option V :=
 if br l i 3 then some ⟨2,nuT l i,ByteArray.empty⟩
 else if br l i 4 then some ⟨3,0,aM (txT l i)⟩
 else if isT l i [116,114,117,101] then some ⟨1,1,ByteArray.empty⟩
 else if isT l i [102,97,108,115,101] then some ⟨1,0,ByteArray.empty⟩
 else if isT l i [110,117,108,108] then some v0
 else none
def ah9(F:Fs)(l:List Tn)(i:Nat):Rz Th:=(F.ins (i+1)).on id λt j=>wantE (eE l j [41]) t
def ac0(F:Fs)(l:List Tn):Nat->List Xp->Nat->Rz (List Xp)
 | 0,_,_=>none
 | n+1,ks,i=>if isT l i [44] then (F.or (i+1) []).on (λy=>ks++[y]) λy j=>ac0 F l n (ks++[y]) j else some (ks,i,false)
def aag(F:Fs)(l:List Tn)(i:Nat):Rz (List Xp):=(F.or i []).on (λy=>[y]) λy j=>ac0 F l (l.length+1) [y] j
def aeW(l:List Tn)(ks:List Xp)(i:Nat):Rz Xp:=wantE (eE l i [101,110,100]) (eF 23 ks)
def af8(F:Fs)(l:List Tn)(ks:List Xp)(i:Nat):Rz Xp :=
 if isT l i [101,108,115,101] then (F.or (i+1) []).on (λ_=>eF 23 ks) λy j=>aeW l (ks++[y]) j else aeW l ks i
def abM(F:Fs)(l:List Tn):Nat->List Xp->Nat->Rz Xp
 | 0,_,_=>none
 | n+1,ks,i=>if isT l i [119,104,101,110] then
   (F.or (i+1) []).on (λ_=>eF 23 ks) λa j=>wantR (eE l j [116,104,101,110]) (eF 23 ks) λj' =>
    (F.or j' []).on (λ_=>eF 23 ks) λb m=>abM F l n (ks++[a,b]) m
  else af8 F l ks i
def af7(F:Fs)(l:List Tn)(i:Nat):Rz Xp:=if isT l i [119,104,101,110] then abM F l (l.length+1) [] i else some (eF 23 [],i,true)
def aJ2(f:List UInt8):Bool:=decide (f=[99,111,117,110,116])||decide (f=[115,117,109])||decide (f=[109,105,110])||decide (f=[109,97,120])
def aiW(o:Int)(f:List UInt8)(di:Bool)(ks:List Xp):Xp:=.mk o v0 [] f di ks []
def ap8(F:Fs)(l:List Tn)(i:Nat)(f:List UInt8)(di:Bool):Rz Xp :=
 (F.or i []).on (λa=>aiW 25 f di [a]) λa j=>wantE (eE l j [41]) (aiW 25 f di [a])
def callS(F:Fs)(l:List Tn)(i:Nat)(f:List UInt8):Rz Xp :=
 if aJ2 f then
  if decide (f=[99,111,117,110,116])&&isT l i [42] then wantE (eE l (i+1) [41]) (aiW 25 f false [])
  else if isT l i [100,105,115,116,105,110,99,116] then ap8 F l (i+1) f true else ap8 F l i f false
 else if isT l i [41] then some (aiW 24 f false [],i+1,false)
 else (aag F l i).on (aiW 24 f false) λks j=>wantE (eE l j [41]) (aiW 24 f false ks)
def aiH(F:Fs)(l:List Tn)(i:Nat):Rz Xp:=wantR (eE l (i+1) [40]) x0 λj =>
 (F.qy j []).on (adK 27 []) λq m=>wantE (eE l m [41]) (adK 27 [] q)
def aei(F:Fs)(l:List Tn)(i:Nat):Rz Xp:=match ab4 l i with
 | some v=>some (.mk 1 v [] [] false [] [],i+1,false)
 | none =>
  if isT l i [40] then (ah9 F l i).to Th.val
  else if isT l i [99,97,115,101] then af7 F l (i+1)
  else if isT l i [101,120,105,115,116,115] then aiH F l i
  else if br l i 2 then
   if isT l (i+1) [40] then callS F l (i+2) (txT l i)
   else if isT l (i+1) [46] then some (ak3 (txT l i) (eZ l (i+2)).1,(eZ l (i+2)).2.1,(eZ l (i+2)).2.2)
   else some (ak3 [] (txT l i),i+1,false)
  else some (x0,i,true)
def agc(F:Fs)(l:List Tn)(i:Nat):List Xp->Rz Xp
 | x::_=>some (x,i,false)
 | []=>if isT l i [45] then (F.un (i+1)).to λa=>eF 3 [a] else aei F l i
def ajS(F:Fs)(l:List Tn):Nat->List Xp->Rz Xp:=agT (agc F l) l [([42],7),([47],8),([37],9)]
def aj7(F:Fs)(l:List Tn):Nat->List Xp->Rz Xp:=agT (ajS F l) l [([43],5),([45],6)]
def aaL(F:Fs)(l:List Tn):Nat->List Xp->Rz Xp:=agT (aj7 F l) l [([124,124],10)]
def inL(F:Fs)(l:List Tn)(a:Xp):Nat->List Xp->Nat->Rz Xp
 | 0,_,_=>none
 | n+1,ks,i=>if isT l i [44] then (F.or (i+1) []).on (λ_=>a) λy j=>inL F l a n (ks++[y]) j else wantE (eE l i [41]) (eF 21 ks)
def inS(F:Fs)(l:List Tn)(i:Nat)(a:Xp):Rz Xp:=wantR (eE l i [40]) a λi'=>(F.ins i').on (λ_=>a) λt j =>
 if t.q&&!t.w then wantE (eE l j [41]) (adK 28 [a] t.y) else inL F l a (l.length+1) [a,t.val] j
def aec:List (List UInt8×Int):=[([61],11),([60,62],12),([60],13),([60,61],14),([62],15),([62,61],16)]
def ac1(F:Fs)(l:List Tn)(no:Bool)(i:Nat)(a:Xp):Rz Xp :=
 if isT l i [108,105,107,101] then (aaL F l (i+1) []).to λb=>agP no (eF 20 [a,b])
 else if isT l i [98,101,116,119,101,101,110] then (aaL F l (i+1) []).on (λ_=>a) λb j=>wantR (eE l j [97,110,100]) a λj'=>(aaL F l j' []).to λc=>agP no (eF 22 [a,b,c])
 else if isT l i [105,110] then (inS F l (i+1) a).to (agP no)
 else some (a,i,no)
def isS(l:List Tn)(no:Bool)(i:Nat)(a:Xp):Rz Xp:=wantE (eE l i [110,117,108,108]) (agP no (eF 19 [a]))
def acU(F:Fs)(l:List Tn)(i:Nat)(a:Xp):Rz Xp:=match opT l i aec with
 | some o=>(aaL F l (i+1) []).to λb=>eF o [a,b]
 | none =>
  if isT l i [105,115] then (if isT l (i+1) [110,111,116] then isS l true (i+2) a else isS l false (i+1) a)
  else if isT l i [110,111,116] then ac1 F l true (i+1) a else ac1 F l false i a
def adL(F:Fs)(l:List Tn)(i:Nat)(pre:List Xp):Rz Xp :=
 if decide (pre=[])&&isT l i [110,111,116] then (F.no (i+1)).to λa=>eF 4 [a]
 else (aaL F l i pre).on id λa j=>acU F l j a
def aj5(F:Fs)(l:List Tn):Nat->List Xp->Rz Xp:=agT (adL F l) l [([97,110,100],17)]
def orS(F:Fs)(l:List Tn):Nat->List Xp->Rz Xp:=agT (aj5 F l) l [([111,114],18)]
def afo(l:List Tn)(i:Nat):Bool:=bF l i [[117,110,105,111,110],[101,120,99,101,112,116],[105,110,116,101,114,115,101,99,116],[111,114,100,101,114],[108,105,109,105,116],[111,102,102,115,101,116]]
def ami(F:Fs)(l:List Tn)(i:Nat):Rz Th :=
 if isT l i [115,101,108,101,99,116] then (F.qy i []).to Th.ofQ
 else if isT l i [40] then (ah9 F l i).on id λt j =>
  if t.q&&afo l j then (F.qy j [t.y]).to Th.ofQ
  else if t.q&&isT l j [41] then some ({t with w:=true},j,false)
  else (F.or j [t.val]).to Th.ofE
 else (F.or i []).to Th.ofE
def aYB:Qy:=.mk 1 false [] false [] [] [] [] [] [] (-1) 0
def fv(o:Int)(al:Bool)(a b:Qy):Qy:=.mk o al [a,b] false [] [] [] [] [] [] (-1) 0
def fq(l:List Tn)(i:Nat):List UInt8×Nat×Bool:=if isT l i [97,115] then eZ l (i+1) else if br l i 2 then (txT l i,i+1,false) else ([],i,false)
def im0:Im:=.mk false [] x0 []
def adF(F:Fs)(l:List Tn)(i:Nat):Rz Im :=
 if isT l i [42] then some (.mk true [] x0 [],i+1,false)
 else if br l i 2&&(isT l (i+1) [46]&&isT l (i+2) [42]) then some (.mk true (txT l i) x0 [],i+3,false)
 else (F.or i []).on (λ_=>im0) λa j=>some (.mk false [] a (fq l j).1,(fq l j).2.1,(fq l j).2.2)
def eC(F:Fs)(l:List Tn)(i:Nat)(w:List UInt8):Rz (List Xp):=if isT l i w then (F.or (i+1) []).to λa=>[a] else some ([],i,false)
def Qy.set(q:Qy)(di:Bool)(its:List Im)(fr:List Fm)(wh gr hv:List Xp):Qy:=.mk q.op q.al q.ks di its fr wh gr hv q.od q.li q.sk
def ah1(di:Bool)(its:List Im)(fr:List Fm)(wh gr hv:List Xp):Qy:=.mk 1 false [] di its fr wh gr hv [] (-1) 0
def ah2(F:Fs)(l:List Tn)(di:Bool)(its:List Im)(fr:List Fm)(wh gr:List Xp)(i:Nat):Rz Qy:=(eC F l i [104,97,118,105,110,103]).to (ah1 di its fr wh gr)
def ah3(F:Fs)(l:List Tn)(di:Bool)(its:List Im)(fr:List Fm)(wh:List Xp)(i:Nat):Rz Qy :=
 if isT l i [103,114,111,117,112] then wantR (eE l (i+1) [98,121]) (ah1 di its fr wh [] []) λj=>(aag F l j).on (λ_=>ah1 di its fr wh [] []) λg m=>ah2 F l di its fr wh g m
 else ah2 F l di its fr wh [] i
def ah0(F:Fs)(l:List Tn)(di:Bool)(its:List Im)(fr:List Fm)(i:Nat):Rz Qy :=
 (eC F l i [119,104,101,114,101]).on (λ_=>ah1 di its fr [] [] []) λw j=>ah3 F l di its fr w j
def ahm(F:Fs)(l:List Tn)(di:Bool)(its:List Im)(i:Nat):Rz Qy :=
 if isT l i [102,114,111,109] then (F.fr (i+1) []).on (λ_=>ah1 di its [] [] [] []) λf j=>ah0 F l di its [f] j else ah0 F l di its [] i
def aer(F:Fs)(l:List Tn)(di:Bool):Nat->List Im->Nat->Rz Qy
 | 0,_,_=>none
 | n+1,its,i=>(adF F l i).on (λ_=>ah1 di its [] [] [] []) λx j=>if isT l j [44] then aer F l di n (its++[x]) (j+1) else ahm F l di (its++[x]) j
def ajI(F:Fs)(l:List Tn)(i:Nat):Rz Qy:=if isT l i [100,105,115,116,105,110,99,116] then aer F l true (l.length+1) [] (i+1) else aer F l false (l.length+1) [] i
def acs(F:Fs)(l:List Tn)(i:Nat):List Qy->Rz Qy
 | q::_=>some (q,i,false)
 | []=>if isT l i [40] then (F.qy (i+1) []).on id λq j=>wantE (eE l j [41]) q
  else wantR (eE l i [115,101,108,101,99,116]) y0 λj=>ajI F l j
def aai(nx:Nat->List Qy->Rz Qy)(l:List Tn)(so:List (List UInt8×Int)):Nat->Qy->Nat->Rz Qy
 | 0,_,_=>none
 | n+1,a,i=>match opT l i so with
  | none=>some (a,i,false)
  | some o=>(nx (if isT l (i+1) [97,108,108] then i+2 else i+1) []).on (λy=>fv o (isT l (i+1) [97,108,108]) a y) λy j=>aai nx l so n (fv o (isT l (i+1) [97,108,108]) a y) j
def ahZ(nx:Nat->List Qy->Rz Qy)(l:List Tn)(so:List (List UInt8×Int))(i:Nat)(pre:List Qy):Rz Qy :=
 (nx i pre).on id λa j=>aai nx l so (l.length+1) a j
def aaq(F:Fs)(l:List Tn):Nat->List Qy->Rz Qy:=ahZ (acs F l) l [([105,110,116,101,114,115,101,99,116],3)]
def ajC(F:Fs)(l:List Tn):Nat->List Qy->Rz Qy:=ahZ (aaq F l) l [([117,110,105,111,110],2),([101,120,99,101,112,116],4)]
def Qy.endQ(q:Qy)(od:List Od)(li sk:Int):Qy:=.mk q.op q.al q.ks q.di q.its q.fr q.wh q.gr q.hv od li sk
def byL(l:List Tn):Nat->List Od->Nat->Rz (List Od)
 | 0,_,_=>none
 | n+1,os,i =>
  if br l i 2||(br l i 3&&decide (0<nuT l i)) then
   let o:Od:=⟨if br l i 2 then txT l i else [],if br l i 2 then 0 else nuT l i,isT l (i+1) [100,101,115,99]⟩
   let j:=if bF l (i+1) [[97,115,99],[100,101,115,99]] then i+2 else i+1
   if isT l j [44] then byL l n (os++[o]) (j+1) else some (os++[o],j,false)
  else some ([],i,true)
def aii(l:List Tn)(i:Nat):Rz (List Od):=wantR (eE l i [98,121]) [] λj=>byL l (l.length+1) [] j
def agh(l:List Tn)(q:Qy)(od:List Od)(li:Int)(i:Nat):Rz Qy :=
 if isT l i [111,102,102,115,101,116] then (if br l (i+1) 3 then some (q.endQ od li (nuT l (i+1)),i+2,false) else some (q.endQ od li q.sk,i+1,true))
 else some (q.endQ od li q.sk,i,false)
def adM(l:List Tn)(q:Qy)(od:List Od)(i:Nat):Rz Qy :=
 if isT l i [108,105,109,105,116] then (if br l (i+1) 3 then agh l q od (nuT l (i+1)) (i+2) else some (q.endQ od q.li q.sk,i+1,true))
 else agh l q od q.li i
def akX(q:Qy):Bool:=decide (0<q.od.length)||(decide (q.li≠-1)||decide (0<q.sk))
def adV(F:Fs)(l:List Tn)(i:Nat)(pre:List Qy):Rz Qy:=(ajC F l i pre).on id λq j =>
 if akX q&&bF l j [[111,114,100,101,114],[108,105,109,105,116],[111,102,102,115,101,116]] then some (q,j,true)
 else if isT l j [111,114,100,101,114] then (aii l (j+1)).on (λ_=>q) λo m=>adM l q o m
 else adM l q q.od j
def acn(l:List Tn)(i:Nat)(q:Qy):Rz Fm:=match fq l i with
 | (s,j,b)=>if !b&&decide (s=[]) then some (f0,j,true) else some (.mk 2 [] s [q] [] [],j,b)
def ahL(F:Fs)(l:List Tn)(i:Nat):Rz Th:=(F.so (i+1)).on id λt j=>wantE (eE l j [41]) t
def ad6(F:Fs)(l:List Tn)(i:Nat):Rz Fm :=
 if isT l i [40] then (ahL F l i).on Th.f λt j=>if t.q then acn l j t.y else some (t.f,j,false)
 else aot (eZ l i) (λ_=>f0) λs j=>some (.mk 1 s (fq l j).1 [] [] [],(fq l j).2.1,(fq l j).2.2)
def ac9(l:List Tn)(i:Nat):Option (Int×List (List UInt8)) :=
 if isT l i [99,114,111,115,115] then some (3,[[99,114,111,115,115],[106,111,105,110]])
 else if isT l i [105,110,110,101,114] then some (4,[[105,110,110,101,114],[106,111,105,110]])
 else if isT l i [108,101,102,116] then some (5,[[108,101,102,116],[106,111,105,110]])
 else if isT l i [106,111,105,110] then some (4,[[106,111,105,110]])
 else none
def acw(F:Fs)(l:List Tn):Nat->Fm->Nat->Rz Fm
 | 0,_,_=>none
 | n+1,a,i=>match ac9 l i with
  | none=>some (a,i,false)
  | some (k,ws)=>wantR (dU l i ws) a λj=>(ad6 F l j).on (λ_=>a) λb m =>
   if k=3 then acw F l n (.mk k [] [] [] [a,b] []) m
   else if isT l m [111,110] then (F.or (m+1) []).on (λy=>.mk k [] [] [] [a,b] [y]) λy p=>acw F l n (.mk k [] [] [] [a,b] [y]) p
   else some (a,m,true)
def acO(F:Fs)(l:List Tn)(i:Nat):List Fm->Rz Fm
 | a::_=>acw F l (l.length+1) a i
 | []=>(ad6 F l i).on id λa j=>acw F l (l.length+1) a j
def ad2(F:Fs)(l:List Tn):Nat->Fm->Nat->Rz Fm
 | 0,_,_=>none
 | n+1,a,i=>if isT l i [44] then (acO F l (i+1) []).on (λy=>.mk 3 [] [] [] [a,y] []) λy j=>ad2 F l n (.mk 3 [] [] [] [a,y] []) j else some (a,i,false)
def ahE(F:Fs)(l:List Tn)(i:Nat)(pre:List Fm):Rz Fm:=(acO F l i pre).on id λa j=>ad2 F l (l.length+1) a j
def adO(F:Fs)(l:List Tn)(i:Nat):Rz Th :=
 if isT l i [115,101,108,101,99,116] then (F.qy i []).to Th.ofQ
 else if isT l i [40] then (ahL F l i).on id λt j =>
  if t.q&&isT l j [41] then some (t,j,false)
  else if t.q&&afo l j then (F.qy j [t.y]).to Th.ofQ
  else if t.q then (acn l j t.y).on (λ_=>t) λf m=>(F.fr m [f]).to Th.ofF
  else (F.fr j [t.f]).to Th.ofF
 else (F.fr i []).to Th.ofF
def auJ(l:List Tn)(F:Fs):Fs where
 or:=orS F l
 no i:=adL F l i []
 un i:=agc F l i []
 qy:=adV F l
 ins:=ami F l
 fr:=ahE F l
 so:=adO F l
def auQ:Fs:=⟨λ_ _=>none,λ_=>none,λ_=>none,λ_ _=>none,λ_=>none,λ_ _=>none,λ_=>none⟩
def aoA(l:List Tn):Nat->Fs
 | 0=>auQ
 | n+1=>auJ l (aoA l n)
end Go.Tab
namespace Go.Proofs.YtghkmcffifpkeaaGreat
open Pe Tab
abbrev pT(l:List Tn)(i:Nat)(e:Int):Ob:=.var 112 [.of (slC tnC l),.of (ci i),.of (ci e),.own (.cell 0 3) 28 9 [] 0,.own (.cell 0 4) 38 12 [] 0,.own (.cell 0 5) 140 6 [] 0]
def tn0:Tn:=⟨0,0,0,0,[]⟩
def bN(l:List Tn)(i:Nat):Tn:=(l[i]?).getD tn0
def ahU{l:List Tn}{i:Nat}(h:i<l.length):l[i]?=some (bN l i):=by
 unfold bN
 rw[aO h]
 rfl
def agW{l:List Tn}{i:Nat}(h:l.length<=i):bN l i=tn0:=by
 unfold bN
 rw[bc h]
 rfl
def ajx(l:List Tn)(i:Nat)(w:List UInt8):isT l i w=((decide ((bN l i).k=1)||decide ((bN l i).k=5))&&decide ((bN l i).s=w)):=by
 unfold isT bN
 cases l[i]? with
 | none=>rfl
 | some t=>rfl
def afE(l:List Tn)(i:Nat)(k:Int)(hk:k≠0):br l i k=decide ((bN l i).k=k):=by
 unfold br bN
 cases l[i]? with
 | none=>exact (bK (λh=>hk h.symm)).symm
 | some t=>rfl
def LB:Nat:=4294967296
def gL{l:List Tn}{i:Nat}(h:i<l.length):aaJ l (i:Int)=some (bN l i):=by
 unfold aaJ
 rw[aE aC]
 simpa using ahU h
def aDW(P:Program)(pr:Pr)(f:Nat)(xs:List X)(obs:List Ob)(K:An->Prop):Prop:=afu P pr f xs obs K
def aK8{P:Program}{pr:Pr}{f:Nat}{xs:List X}{obs:List Ob}{p:Prop}{an:An}(h:p->aF P pr f xs obs an)(K:An->Prop):afu P pr f xs obs K↔ifP p (K an) (aDW P pr f xs obs K):=by
 by_cases hp:p
 .rw[asm hp];exact aF.k (h hp) K
 .simp only[ifP,hp,fY,aak,dg,ahu];exact bO
def aRA{p A B:Prop}(h:p)(a:A):ifP p A B:=(asm h).2 a
def aKD:=hZ @Tryz.f173.eq_1 @zq @cW @fH @P3 @Q3 @zT0 (kf aMM)
def am9(l:List Tn)(i j:Nat)(e:Int)(hl:l.length<LB)(hi:i<=l.length)(hj:j<=2):aF Tryz.prog pr 173 [.ptr 0 0,.of (ci j)] [pT l i e] ⟨false,[.of (.agg (tnC (bN l (i+j))))],[pT l i e]⟩:=by
 have hw:IntKind.i64.wrap ((i:Int)+(j:Int))=((i+j:Nat):Int):=by
  unfold LB at hl
  rw[cj _ aC aC];rfl
 refine bB aMM ?_
 by_cases h:l.length<=i+j
 .have h1:(((l.length:Nat):Int)<=((i+j:Nat):Int))=True:=aa aC
  have h2:=agW h
  simp only[↓zA,sevalprocAttr,aKD,pT,hw,h1,h2]
  try rfl
 .have h1:(((l.length:Nat):Int)<=((i+j:Nat):Int))=False:=aj aC
  have h2:=gL (l:=l) (i:=i+j) aC
  simp only[↓zA,sevalprocAttr,aKD,pT,hw,h1,h2]
  try rfl
def ajc(l:List Tn)(i:Nat)(e:Int)(hl:l.length<LB)(hi:i<=l.length):aF Tryz.prog pr 173 [.ptr 0 0,.of (.lit (.int .i64 0))] [pT l i e] ⟨false,[.of (.agg (tnC (bN l i)))],[pT l i e]⟩:=am9 l i 0 e hl hi aC
def aBH(l:List Tn)(i:Nat)(e:Int)(hl:l.length<LB)(hi:i<=l.length):aF Tryz.prog pr 173 [.ptr 0 0,.of (.lit (.int .i64 1))] [pT l i e] ⟨false,[.of (.agg (tnC (bN l (i+1))))],[pT l i e]⟩:=am9 l i 1 e hl hi aC
def aBG(l:List Tn)(i:Nat)(e:Int)(hl:l.length<LB)(hi:i<=l.length):aF Tryz.prog pr 173 [.ptr 0 0,.of (.lit (.int .i64 2))] [pT l i e] ⟨false,[.of (.agg (tnC (bN l (i+2))))],[pT l i e]⟩:=am9 l i 2 e hl hi aC
def avd:=hZ @Tryz.f76.eq_1 @zq @cW @P3 @Q3 @Q9 @zT0 (kf aSh)
def alr(l:List Tn)(i:Nat)(e:Int)(w:List UInt8)(hl:l.length<LB)(hi:i<=l.length):aF Tryz.prog pr 76 [.ptr 0 0,.of (aJ (aM w))] [pT l i e] ⟨false,[aN (isT l i w)],[pT l i e]⟩:=by
 have kp:=λK=>aF.k (ajc l i e hl hi) K
 unfold pT at kp
 rw[ajx]
 generalize bN l i=t at kp
 refine bB aSh ?_
 by_cases h1:t.k=1
 .have h1':=aa h1
  by_cases h3:t.s=w
  .have h3':=aa h3
   simp only[↓zA,sevalprocAttr,avd,kp,pT,h1',h3',cQ]
   try rfl
  .have h3':=aj h3
   simp only[↓zA,sevalprocAttr,avd,kp,pT,h1',h3',cQ]
   try rfl
 .have h1':=aj h1
  by_cases h2:t.k=5
  .have h2':=aa h2
   by_cases h3:t.s=w
   .have h3':=aa h3
    simp only[↓zA,sevalprocAttr,avd,kp,pT,h1',h2',h3',cQ]
    try rfl
   .have h3':=aj h3
    simp only[↓zA,sevalprocAttr,avd,kp,pT,h1',h2',h3',cQ]
    try rfl
  .have h2':=aj h2
   simp only[↓zA,sevalprocAttr,avd,kp,pT,h1',h2']
   try rfl
def aPO:=hM @Tryz.f78.eq_1 @zq @P3 @Q3 @zT0 (kf aJj)
def adU(l:List Tn)(i:Nat)(e:Int)(w:List UInt8)(hl:l.length<LB)(hi:i<=l.length):aF Tryz.prog pr 78 [.ptr 0 0,.of (aJ (aM w))] [pT l i e] ⟨false,[aN (isT l i w)],[pT l (if isT l i w=true then i+1 else i) e]⟩:=by
 have kp:=λK=>aF.k (alr l i e w hl hi) K
 unfold pT at kp
 have hw:IntKind.i64.wrap ((i:Int)+1)=((i+1:Nat):Int):=aW i (by unfold LB at hl;omega)
 cases hc:isT l i w with
 | false =>
  rw[hc] at kp
  refine bB aJj ?_
  simp only[↓zA,sevalprocAttr,aPO,kp,pT]
  try rfl
 | true =>
  rw[hc] at kp
  refine bB aJj ?_
  simp only[↓zA,sevalprocAttr,aPO,kp,pT,hw]
  try rfl
def acT(l:List Tn)(i:Nat)(e:Int):X:=if l.length<=i then .of (.ifc 114 (.agg [ci e,ci 3])) else .of (.ifc 114 (.agg [ci (bN l i).pl,ci 2]))
def aPR:=hZ @Tryz.f65.eq_1 @zq @cW @fH @P3 @Q3 @zT0 (kf aJm)
def ag7(l:List Tn)(i:Nat)(e:Int)(hl:l.length<LB)(hi:i<=l.length):aF Tryz.prog pr 65 [.ptr 0 0] [pT l i e] ⟨true,[acT l i e],[pT l i e]⟩:=by
 unfold acT
 by_cases h:l.length<=i
 .have h1:((l.length:Int)<=(i:Int))=True:=aa aC
  rw[aE h]
  refine bB aJm ?_
  simp only[↓zA,sevalprocAttr,aPR,pT,h1]
  try rfl
 .have h1:((l.length:Int)<=(i:Int))=False:=aj aC
  have h2:=gL (l:=l) (i:=i) aC
  rw[aA h]
  refine bB aJm ?_
  simp only[↓zA,sevalprocAttr,aPR,pT,h1,h2]
  try rfl

/-
  Rules for typed data on the abstract machine: lists, texts, answers that may lack. Conditions: none.
-/
import Derived.Test.YtjajlmjfddohfaaGreatDoorPa8
import Derived.Test.YtjajlmjfddohfaaGreatDoorCards
import Derived.Test.YtjajlmjfddohfaaGreatDoorTie
import Derived.WalkKit
import Derived.ProofKit
import Derived.OpenShut
import Derived.Deep.DeepHandedRow
import Derived.Lib.LaidTab
import Derived.Shelf.Vars
set_option linter.defProp false
set_option linter.unusedSectionVars false
set_option maxRecDepth 100000
set_option maxHeartbeats 32000000
namespace Go.Tab
open Go Go.Pe
structure Right (c:Ct):Prop where
 nt:c.tbs.length≤32
 ni:c.ixs.length≤64
 lo:1≤c.nx
 hi:c.nx≤ee
 un:(c.tbs.map Tb.nm).Nodup
 ui:(c.ixs.map Ix.nm).Nodup
 uid:(c.tbs.map Tb.id++c.ixs.map Ix.id).Nodup
 rt:dE 0 c.nx (c.tbs.map Tb.id)=true
 ri:dE 0 c.nx (c.ixs.map Ix.id)=true
 tb:∀ t∈c.tbs,dJ c t=true
 ix:∀ x∈c.ixs,dC c x=true
theorem fd (c:Ct):bz c=true↔Right c:=by
 unfold bz
 simp only[Bool.and_eq_true,decide_eq_true_eq,List.all_eq_true]
 constructor
 .rintro⟨⟨⟨⟨⟨⟨a,b⟩,d⟩,e⟩,⟨⟨⟨f,g⟩,h⟩,i⟩,j⟩,k⟩,l⟩
  exact⟨a,b,d,e,f,g,h,i,j,k,l⟩
 .rintro⟨a,b,d,e,f,g,h,i,j,k,l⟩
  exact⟨⟨⟨⟨⟨⟨a,b⟩,d⟩,e⟩,⟨⟨⟨f,g⟩,h⟩,i⟩,j⟩,k⟩,l⟩
theorem ir (n:Int):∀ (l:List Int) (p:Int),dE p n l=true↔(∀ x∈l,p<x∧x<n)∧l.Pairwise (·<·)
 | [],p=>by simp[dE]
 | x::r,p=>by
  rw[dE,Bool.and_eq_true,Bool.and_eq_true,decide_eq_true_eq,decide_eq_true_eq,ir n r x,List.pairwise_cons]
  constructor
  .rintro⟨⟨a,b⟩,c,d⟩
   refine⟨fun y hy=>?_,fun y hy=>(c y hy).1,d⟩
   rcases List.mem_cons.1 hy with rfl|hy
   .exact⟨a,b⟩
   .have:=c y hy
    exact⟨by omega,this.2⟩
  .rintro⟨a,b,d⟩
   exact⟨a x (List.mem_cons_self ..),fun y hy=>⟨b y hy,(a y (List.mem_cons_of_mem _ hy)).2⟩,d⟩
theorem ahp {n m p:Int} {l r:List Int} (h:dE p n l=true) (hn:n≤m) (hp:p<n) (hr:dE (n-1) m r=true):dE p m (l++r)=true:=by
 rw[ir] at h hr ⊢
 refine⟨fun x hx=>?_,List.pairwise_append.2 ⟨h.2,hr.2,fun x hx y hy=>?_⟩⟩
 .rcases List.mem_append.1 hx with hx|hx
  .have:=h.1 x hx
   exact⟨this.1,by omega⟩
  .have:=hr.1 x hx
   exact⟨by omega,this.2⟩
 .have h1:=h.1 x hx
  have h2:=hr.1 y hy
  omega
theorem ayH {n m p:Int} {l:List Int} (h:dE p n l=true) (hn:n≤m):dE p m l=true:=by
 rw[ir] at h ⊢
 exact⟨fun x hx=>⟨(h.1 x hx).1,by have:=(h.1 x hx).2;omega⟩,h.2⟩
theorem aho {n p:Int} {l r:List Int} (h:dE p n l=true) (hs:r.Sublist l):dE p n r=true:=by
 rw[ir] at h ⊢
 exact⟨fun x hx=>h.1 x (hs.subset hx),h.2.sublist hs⟩
def ad0 (id:Int):Nat→List Int
 | 0=>[]
 | n+1=>id::ad0 (id+1) n
theorem ajR {x:Int}:∀ {n:Nat} {id:Int},x∈ad0 id n→id≤x∧x<id+n
 | 0,_,h=>by cases h
 | n+1,id,h=>by
  rcases List.mem_cons.1 h with rfl|h
  .omega
  .have:=ajR h
   omega
theorem aga:∀ (n:Nat) (id m:Int),id+n≤m→dE (id-1) m (ad0 id n)=true
 | 0,_,_,_=>rfl
 | n+1,id,m,h=>by
  have h1:=aga n (id+1) m (by omega)
  rw[show id+1-1=id by omega] at h1
  rw[ad0,dE,h1,decide_eq_true (by omega),decide_eq_true (by omega)]
  rfl
theorem akC (n:Nat) (id:Int):(ad0 id n).Nodup:=by
 have:=(ir _ _ _).1 (aga n id (id+n) (Int.le_refl _))
 exact this.2.imp fun h=>by omega
theorem arW {l:List Cd} {s:List UInt8} {k:Nat} (h:agO l s=some k):∃ hk:k<l.length,l[k].nm=s:=by
 unfold agO at h
 rw[List.findIdx?_eq_some_iff_getElem] at h
 obtain⟨hk,h1,_⟩:=h
 exact⟨hk,of_decide_eq_true h1⟩
theorem eJ {l:List Cd}:∀ {ns:List (List UInt8)} {q:List Int},bC l ns=some q→q.length=ns.length
 | [],q,h=>by cases h;rfl
 | s::r,q,h=>by
  unfold bC at h
  split at h
  .rename_i k p hk hp
   cases h
   rw[List.length_cons,List.length_cons,eJ hp]
  .cases h
theorem adA {l:List Cd}:∀ {ns:List (List UInt8)} {q:List Int},bC l ns=some q→∀ x∈q,∃ (k:Nat) (hk:k<l.length),x=k∧l[k].nm∈ns
 | [],q,h=>by cases h;intro x hx;cases hx
 | s::r,q,h=>by
  unfold bC at h
  split at h
  .rename_i k p hk hp
   cases h
   intro x hx
   rcases List.mem_cons.1 hx with rfl|hx
   .obtain⟨h1,h2⟩:=arW hk
    exact⟨k,h1,rfl,by rw[h2];exact List.mem_cons_self ..⟩
   .obtain⟨k',h1,h2,h3⟩:=adA hp x hx
    exact⟨k',h1,h2,List.mem_cons_of_mem _ h3⟩
  .cases h
theorem ahz {l:List Cd}:∀ {ns:List (List UInt8)} {q:List Int},bC l ns=some q→ns.Nodup→q.Nodup
 | [],q,h,_=>by cases h;exact List.nodup_nil
 | s::r,q,h,hn=>by
  unfold bC at h
  split at h
  .rename_i k p hk hp
   cases h
   rw[List.nodup_cons] at hn ⊢
   refine⟨fun hm=>?_,ahz hp hn.2⟩
   obtain⟨k',h1,h2,h3⟩:=adA hp _ hm
   obtain⟨h4,h5⟩:=arW hk
   obtain rfl:k=k':=by omega
   rw[h5] at h3
   exact hn.1 h3
  .cases h
theorem abB {l:List Cd} {ns:List (List UInt8)} {q:List Int} (h:bC l ns=some q) (hn:ns.Nodup) (h0:ns≠[]):bN q l.length=true:=by
 unfold bN
 simp only[Bool.and_eq_true,decide_eq_true_eq,List.all_eq_true]
 refine⟨⟨fun e=>h0 ?_,ahz h hn⟩,fun x hx=>?_⟩
 .have:=eJ h
  rw[e] at this
  exact List.eq_nil_of_length_eq_zero this.symm
 .obtain⟨k,h1,rfl,_⟩:=adA h x hx
  omega
theorem ach {tb:List UInt8} {cs:List Cd}:∀ {ks:List Kd} {n:Nat} {id:Int} {a:List Ky} {b:List Ix},kJ tb cs n id ks=some (a,b) →
  b.map Ix.id=ad0 id ks.length∧a.map Ky.ix=ad0 id ks.length∧b.map Ix.nm=(List.range ks.length).map (fun i=>cy tb (n+i+1))∧a.map Ky.pr=ks.map Kd.pr∧(∀ x∈b,x.tb=tb∧x.un=true)
 | [],n,id,a,b,h=>by
  cases h
  exact⟨rfl,rfl,rfl,rfl,fun x hx=>by cases hx⟩
 | k::r,n,id,a,b,h=>by
  unfold kJ at h
  split at h
  .rename_i l a' b' hl hr
   cases h
   obtain⟨h1,h2,h3,h4,h5⟩:=ach hr
   refine⟨by simp[ad0,h1],by simp[ad0,h2],?_,by simp[h4],fun x hx=>?_⟩
   .rw[List.map_cons,h3,List.length_cons,List.range_succ_eq_map,List.map_cons,List.map_map]
    congr 1
    apply List.map_congr_left
    intro i _
    show cy tb (n+1+i+1)=cy tb (n+(i+1)+1)
    rw[show n+1+i=n+(i+1) by omega]
   .rcases List.mem_cons.1 hx with rfl|hx
    .exact⟨rfl,rfl⟩
    .exact h5 x hx
  .cases h
theorem ahL {tb:List UInt8} {cs:List Cd} {c:Ct} {t:Tb} (ht:t.nm=tb) (hc:t.cs=cs):∀ {ks:List Kd} {n:Nat} {id:Int} {a:List Ky} {b:List Ix},kJ tb cs n id ks=some (a,b) →
  (∀ k∈ks,k.ns.Nodup∧k.ns≠[])→(∀ x∈b,iy c x.id=some x)→gZ c t n a=true
 | [],n,id,a,b,h,_,_=>by
  cases h
  rfl
 | k::r,n,id,a,b,h,hk,hb=>by
  unfold kJ at h
  split at h
  .rename_i l a' b' hl hr
   cases h
   have h1:=hb _ (List.mem_cons_self ..)
   have h2:=ahL (c:=c) ht hc hr (fun k hk'=>hk k (List.mem_cons_of_mem _ hk')) (fun x hx=>hb x (List.mem_cons_of_mem _ hx))
   obtain⟨h3,h4⟩:=hk k (List.mem_cons_self ..)
   rw[gZ,h2,Bool.and_true,hJ]
   simp only at h1 ⊢
   rw[h1]
   simp[abB hl h3 h4,ht,hc]
  .cases h
theorem ajE {tb:List UInt8} {cs:List Cd}:∀ {ks:List Kd} {n:Nat} {id:Int} {a:List Ky} {b:List Ix},kJ tb cs n id ks=some (a,b) →
  (∀ k∈ks,k.ns.Nodup∧k.ns≠[])→(∀ x∈b,bN x.cs cs.length=true∧∃ k∈a,k.ix=x.id)
 | [],n,id,a,b,h,_,x,hx=>by
  cases h
  cases hx
 | k::r,n,id,a,b,h,hk,x,hx=>by
  unfold kJ at h
  split at h
  .rename_i l a' b' hl hr
   cases h
   obtain⟨h3,h4⟩:=hk k (List.mem_cons_self ..)
   rcases List.mem_cons.1 hx with rfl|hx
   .exact⟨abB hl h3 h4,_,List.mem_cons_self ..,rfl⟩
   .obtain⟨h5,k',h6,h7⟩:=ajE hr (fun k hk'=>hk k (List.mem_cons_of_mem _ hk')) x hx
    exact⟨h5,k',List.mem_cons_of_mem _ h6,h7⟩
  .cases h
theorem aAa {tb:List UInt8} {n m:Nat} (h:cy tb n=cy tb m):n=m:=by
 unfold cy at h
 have:=aGC (List.append_cancel_left h)
 omega
theorem Right.old_t {c:Ct} (h:Right c) {t:Tb} (ht:t∈c.tbs):0<t.id∧t.id<c.nx:=((ir _ _ _).1 h.rt).1 _ (List.mem_map_of_mem ht)
theorem Right.old_x {c:Ct} (h:Right c) {x:Ix} (hx:x∈c.ixs):0<x.id∧x.id<c.nx:=((ir _ _ _).1 h.ri).1 _ (List.mem_map_of_mem hx)
theorem aa1 {c:Ct} {nm:List UInt8} {t:Tb} (h:bx c nm=some t):t∈c.tbs∧t.nm=nm :=
 ⟨List.mem_of_find?_eq_some h,of_decide_eq_true (List.find?_some (p:=fun t:Tb=>decide (t.nm=nm)) h)⟩
theorem alJ {c:Ct} {nm:List UInt8} (h:bx c nm=none):∀ t∈c.tbs,t.nm≠nm:=fun t ht e=>by
 have:=List.find?_eq_none.1 h t ht
 simp[e] at this
theorem aeZ {c:Ct} {id:Int} {x:Ix} (h:iy c id=some x):x∈c.ixs∧x.id=id :=
 ⟨List.mem_of_find?_eq_some h,of_decide_eq_true (List.find?_some (p:=fun t:Ix=>decide (t.id=id)) h)⟩
theorem arq {c c':Ct} {t:Tb}:∀ {l:List Ky} {n:Nat},(∀ k∈l,∀ x,iy c k.ix=some x→x.tb=t.nm→iy c' k.ix=some x)→gZ c t n l=true→gZ c' t n l=true
 | [],_,_,_=>rfl
 | k::r,n,h,hk=>by
  rw[gZ,Bool.and_eq_true] at hk ⊢
  refine⟨?_,arq (fun k' hk'=>h k' (List.mem_cons_of_mem _ hk')) hk.2⟩
  have h1:=hk.1
  unfold hJ at h1 ⊢
  split at h1
  .cases h1
  .rename_i x hx
   have h2:=h1
   simp only[Bool.and_eq_true,decide_eq_true_eq] at h2
   rw[h k (List.mem_cons_self ..) x hx h2.1.1.1.2]
   exact h1
theorem an0 {c:Ct} {t:Tb}:∀ {l:List Ky} {n:Nat},gZ c t n l=true→∀ k∈l,∃ x,iy c k.ix=some x∧x.tb=t.nm
 | [],_,_,_,h=>by cases h
 | k::r,n,hk,k',hk'=>by
  rw[gZ,Bool.and_eq_true] at hk
  rcases List.mem_cons.1 hk' with rfl|hk'
  .have h1:=hk.1
   unfold hJ at h1
   split at h1
   .cases h1
   .rename_i x hx
    simp only[Bool.and_eq_true,decide_eq_true_eq] at h1
    exact⟨x,hx,h1.1.1.1.2⟩
  .exact an0 hk.2 k' hk'
theorem ayI {c c':Ct} {t:Tb} {f:Rf} (h:∀ o,bx c f.tb=some o→bx c' f.tb=some o) (hf:d5 c t f=true):d5 c' t f=true:=by
 unfold d5 at hf ⊢
 split at hf
 .cases hf
 .rename_i o ho
  rw[h o ho]
  exact hf
theorem aqA {c:Ct} {t:Tb} {f:Rf} (hf:d5 c t f=true):∃ o,bx c f.tb=some o:=by
 unfold d5 at hf
 split at hf
 .cases hf
 .exact⟨_,by assumption⟩
theorem aeH {c c':Ct} {t:Tb} (hk:∀ k∈t.kys,∀ x,iy c k.ix=some x→x.tb=t.nm→iy c' k.ix=some x) (hf:∀ f∈t.rfs,∀ o,bx c f.tb=some o→bx c' f.tb=some o) (h:dJ c t=true):dJ c' t=true:=by
 unfold dJ at h ⊢
 simp only[Bool.and_eq_true,List.all_eq_true] at h ⊢
 exact⟨⟨⟨h.1.1.1,arq hk h.1.1.2⟩,fun f hf'=>ayI (hf f hf') (h.1.2 f hf')⟩,h.2⟩
theorem aeV {c c':Ct} {x:Ix} (hf:∀ t,bx c x.tb=some t→bx c' x.tb=some t) (hs:df c x.id=true→df c' x.id=true) (h:dC c x=true):dC c' x=true:=by
 unfold dC at h ⊢
 split at h
 .cases h
 .rename_i t ht
  rw[hf t ht]
  simp only[Bool.and_eq_true,Bool.or_eq_true] at h ⊢
  exact⟨h.1,h.2.imp id hs⟩
theorem ajF {c:Ct} {x:Ix} (h:dC c x=true):∃ t,bx c x.tb=some t:=by
 unfold dC at h
 split at h
 .cases h
 .exact⟨_,by assumption⟩
theorem iZ {c:Ct} {id:Int}:df c id=true↔∃ t∈c.tbs,∃ k∈t.kys,k.ix=id:=by
 simp[df,List.any_eq_true]
theorem aeQ {c:Ct} {s:List UInt8} (h:gg c s=false):∀ x∈c.ixs,x.nm≠s:=fun x hx e=>by
 have:gg c s=true:=List.any_eq_true.2 ⟨x,hx,decide_eq_true e⟩
 rw[h] at this
 cases this
theorem ahc {c:Ct} {tb:List UInt8}:∀ {l:List Kd} {n:Nat},eW c tb n l=false→(∀ k∈l,k.ns.Nodup)∧∀ i<l.length,gg c (cy tb (n+i+1))=false
 | [],_,_=>⟨fun _ h=>absurd h List.not_mem_nil,fun _ h=>absurd h (Nat.not_lt_zero _)⟩
 | k::r,n,h=>by
  rw[eW,Bool.or_eq_false_iff,Bool.or_eq_false_iff] at h
  obtain⟨h1,h2⟩:=ahc h.2
  refine⟨fun k' hk'=>?_,fun i hi=>?_⟩
  .rcases List.mem_cons.1 hk' with rfl|hk'
   .exact of_decide_eq_true (by simpa using h.1.1)
   .exact h1 k' hk'
  .cases i with
   | zero=>exact h.1.2
   | succ i =>
    have:=h2 i (by simpa using hi)
    rw[show n+1+i=n+(i+1) by omega] at this
    exact this
theorem agy {c:Ct} {tb:List UInt8} {cs:List Cd} {kys:List Ky}:∀ {l:List Rd} {q:List Rf},eE c tb cs kys l=.inl q→∀ x∈q,∃ f∈l,cq c tb cs kys f=.inl x
 | [],q,h,x,hx=>by cases h;cases hx
 | f::r,q,h,x,hx=>by
  unfold eE at h
  split at h
  .cases h
  .rename_i y hy
   split at h
   .cases h
   .rename_i p hp
    cases h
    rcases List.mem_cons.1 hx with rfl|hx
    .exact⟨f,List.mem_cons_self ..,hy⟩
    .obtain⟨g,h1,h2⟩:=agy hp x hx
     exact⟨g,List.mem_cons_of_mem _ h1,h2⟩
theorem atq {c c':Ct} {t:Tb} {f:Rd} {x:Rf} (h:cq c t.nm t.cs t.kys f=.inl x) (h0:f.ns≠[]) (hn:f.ns.Nodup) (hs:bx c' t.nm=some t) (ho:∀ o,bx c f.tb=some o→bx c' f.tb=some o):d5 c' t x=true:=by
 unfold cq at h
 split at h
 .cases h
 .rename_i l hl
  split at h
  .cases h
  .rename_i ocs okys ho'
   split at h
   .cases h
   .rename_i q hq
    split at h
    .cases h
    .rename_i hlen
     split at h
     .cases h
     .rename_i hk
      split at h
      .cases h
      .rename_i ht
       cases h
       have hw:=abB hl hn h0
       have hfind:∃ o,bx c' f.tb=some o∧o.cs=ocs∧o.kys=okys:=by
        split at ho'
        .rename_i e
         cases ho'
         exact⟨t,by rw[e];exact hs,rfl,rfl⟩
        .obtain⟨o,h1,h2⟩:=Option.map_eq_some_iff.1 ho'
         cases h2
         exact⟨o,ho o h1,rfl,rfl⟩
       obtain⟨o,h1,rfl,rfl⟩:=hfind
       unfold d5
       simp only
       rw[h1]
       simp only[Bool.and_eq_true,decide_eq_true_eq]
       exact⟨⟨⟨hw,by omega⟩,by simpa using hk⟩,by simpa using ht⟩
theorem ac8 {c:Ct} {tb:List UInt8} {cs:List Cd} {kys:List Ky} {f:Rd} {e:Int} (h:cq c tb cs kys f=.inr e):e≠0:=by
 unfold cq at h
 split at h
 .cases h;decide
 .split at h
  .cases h;decide
  .split at h
   .cases h;decide
   .split at h
    .cases h;decide
    .split at h
     .cases h;decide
     .split at h
      .cases h;decide
      .cases h
theorem agx {c:Ct} {tb:List UInt8} {cs:List Cd} {kys:List Ky}:∀ {l:List Rd} {e:Int},eE c tb cs kys l=.inr e→e≠0
 | [],_,h=>by cases h
 | f::r,e,h=>by
  unfold eE at h
  split at h
  .rename_i e' he
   cases h
   exact ac8 he
  .split at h
   .rename_i e' he
    cases h
    exact agx he
   .cases h
def acj (c:Ct) (s:Sm) (kys:List Ky) (rfs:List Rf):Tb:=⟨s.tb,c.nx,s.cs,kys,rfs,s.chs⟩
def gu (c:Ct) (s:Sm) (kys:List Ky) (ixs:List Ix) (rfs:List Rf):Ct:=⟨c.tbs++[acj c s kys rfs],c.ixs++ixs,c.nx+1+(s.kys.length:Int)⟩
structure Creates (c:Ct) (s:Sm) (kys:List Ky) (ixs:List Ix) (rfs:List Rf):Prop where
 kd:s.kd=1
 sm:cd s=true
 tw:dc c s=false
 b1:s.cs.length≤16
 b2:c.tbs.length<32
 b3:c.ixs.length+s.kys.length≤64
 b4:c.nx+1+(s.kys.length:Int)≤ee
 kk:kJ s.tb s.cs 0 (c.nx+1) s.kys=some (kys,ixs)
 mr:eE c s.tb s.cs kys s.rfs=.inl rfs
theorem abG (c:Ct) (s:Sm):(∃ e,e≠0∧fC c s=(c,e))∨∃ kys ixs rfs,fC c s=(gu c s kys ixs rfs,0)∧Creates c s kys ixs rfs:=by
 unfold fC
 split
 .exact .inl ⟨1,by decide,rfl⟩
 rename_i h1
 split
 .exact .inl ⟨7,by decide,rfl⟩
 rename_i h2
 split
 .exact .inl ⟨18,by decide,rfl⟩
 rename_i h3
 split
 .exact .inl ⟨6,by decide,rfl⟩
 rename_i kys ixs hk
 split
 .rename_i e he
  exact .inl ⟨e,agx he,rfl⟩
 rename_i rfs hr
 simp only[Bool.or_eq_true,Bool.not_eq_true',decide_eq_true_eq,not_or,Bool.not_eq_false,ne_eq,Decidable.not_not] at h1
 simp only[not_or,Nat.not_lt,Nat.not_le,Int.not_lt] at h3
 exact .inr ⟨kys,ixs,rfs,rfl,h1.1.2,h1.2,by simpa using h2,h3.1,h3.2.1,h3.2.2.1,h3.2.2.2,hk,hr⟩
theorem afb {s:Sm} (hk:s.kd=1) (h:cd s=true):aA s.tb=true∧aE s.cs.length 1 16=true∧s.cs.all bR=true∧(∀ k∈s.kys,k.ns≠[])∧(∀ f∈s.rfs,f.ns≠[])∧s.chs.all aK=true∧iB (ky s)=true:=by
 unfold cd bO at h
 rw[if_pos hk] at h
 simp only[Bool.and_eq_true,bL,List.all_eq_true] at h ⊢
 obtain⟨h0,⟨⟨⟨⟨h1,h2,h3⟩,h4,h5⟩,h6,h7⟩,h8,h9⟩,_⟩:=h
 refine⟨h1,h2,h3,fun k hk e=>?_,fun f hf e=>?_,h9,h0⟩
 .have:=h5 k hk
  rw[cK,bt,e] at this
  cases this
 .have:=h7 f hf
  rw[cz,bt,e] at this
  cases this
theorem aMV {a b:Nat×Nat} (h1:a.1≤b.1) (h2:a.2≤b.2) (h:iB b=true):iB a=true:=by
 simp only[iB,Bool.and_eq_true,decide_eq_true_eq] at h ⊢
 omega
theorem aqd {α:Type} {f:α→Nat×Nat}:∀ {l:List α} {x:α},x∈l→(f x).1≤(aH f l).1∧(f x).2≤(aH f l).2
 | y::l,x,h=>by
  rcases List.mem_cons.1 h with rfl|h
  .simp only[aH,aM]
   omega
  .have:=aqd (f:=f) h
   simp only[aH,aM]
   omega
theorem aFJ (s:Sm):(aH bk s.chs).1≤(ky s).1∧(aH bk s.chs).2≤(ky s).2:=by
 simp only[ky,aM]
 omega
theorem atl {s:Sm} (hk:s.kd=1) (h:cd s=true):s.chs.all dZ=true:=by
 obtain⟨_,_,_,_,_,h1,h2⟩:=afb hk h
 rw[List.all_eq_true] at h1 ⊢
 intro x hx
 have h3:=aqd (f:=bk) hx
 have h4:=aFJ s
 rw[dZ,h1 x hx,aMV (Nat.le_trans h3.1 h4.1) (Nat.le_trans h3.2 h4.2) h2]
 rfl
theorem ahd {c:Ct} {s:Sm} (h:dc c s=false):bx c s.tb=none∧(s.cs.map Cd.nm).Nodup∧(s.kys.filter Kd.pr).length≤1∧(∀ k∈s.kys,k.ns.Nodup)∧(∀ i<s.kys.length,gg c (cy s.tb (i+1))=false)∧∀ f∈s.rfs,f.ns.Nodup:=by
 unfold dc at h
 simp only[Bool.or_eq_false_iff] at h
 obtain⟨⟨⟨⟨h1,h2⟩,h3⟩,h4⟩,h5⟩:=h
 obtain⟨h6,h7⟩:=ahc h4
 refine⟨?_,?_,?_,h6,fun i hi=>by have:=h7 i hi;rw[Nat.zero_add] at this;exact this,fun f hf=>?_⟩
 .cases hf:bx c s.tb with
  | none=>rfl
  | some t=>rw[hf] at h1;cases h1
 .simpa using h2
 .simpa using h3
 .have:=List.any_eq_false.1 h5 f hf
  simpa using this
section
variable {c:Ct} {s:Sm} {kys:List Ky} {ixs:List Ix} {rfs:List Rf} (h:Right c) (m:Creates c s kys ixs rfs)
include h m
theorem ahO {nm:List UInt8} {o:Tb} (ho:bx c nm=some o):bx (gu c s kys ixs rfs) nm=some o:=by
 unfold bx gu at *
 rw[List.find?_append,ho]
 rfl
theorem aj9:bx (gu c s kys ixs rfs) s.tb=some (acj c s kys rfs):=by
 have:=(ahd m.tw).1
 unfold bx gu at *
 rw[List.find?_append,this]
 simp[acj]
theorem aCJ {id:Int} {x:Ix} (hx:iy c id=some x):iy (gu c s kys ixs rfs) id=some x:=by
 unfold iy gu at *
 rw[List.find?_append,hx]
 rfl
theorem aGs {x:Ix} (hx:x∈ixs):c.nx<x.id∧x.id<c.nx+1+(s.kys.length:Int)∧iy (gu c s kys ixs rfs) x.id=some x:=by
 have h1:=(ach m.kk).1
 have h2:x.id∈ad0 (c.nx+1) s.kys.length:=h1▸List.mem_map_of_mem hx
 have h3:=ajR h2
 refine⟨by omega,h3.2,?_⟩
 unfold iy gu
 rw[List.find?_append]
 have h4:(c.ixs.find? fun y=>decide (y.id=x.id))=none:=List.find?_eq_none.2 fun y hy e=>by
  have:=(h.old_x hy).2
  have e':y.id=x.id:=by simpa using e
  omega
 rw[h4,Option.none_or]
 have h5:=akC s.kys.length (c.nx+1)
 rw[← h1] at h5
 clear h1 h2 h3 h4 m h
 induction ixs with
 | nil=>cases hx
 | cons y r ih =>
  rw[List.map_cons,List.nodup_cons] at h5
  rw[List.find?_cons]
  rcases List.mem_cons.1 hx with rfl|hx
  .simp
  .have:y.id≠x.id:=fun e=>h5.1 (e▸List.mem_map_of_mem hx)
   simp only[this,decide_false]
   exact ih hx h5.2
theorem ag1:Right (gu c s kys ixs rfs):=by
 obtain⟨k1,k2,k3,k4,k5⟩:=ach m.kk
 obtain⟨t1,t2,t3,t4,t5,t6⟩:=ahd m.tw
 obtain⟨o1,o2,o3,o4,o5,o6,o7⟩:=afb m.kd m.sm
 have hkl:ixs.length=s.kys.length:=by
  have:=congrArg List.length k3
  simpa using this
 have hkk:∀ k∈s.kys,k.ns.Nodup∧k.ns≠[]:=fun k hk=>⟨t4 k hk,o4 k hk⟩
 refine⟨?_,?_,?_,m.b4,?_,?_,?_,?_,?_,?_,?_⟩
 .simp only[gu,List.length_append,List.length_cons,List.length_nil]
  have:=m.b2
  omega
 .simp only[gu,List.length_append,hkl]
  exact m.b3
 .have:=h.lo
  simp only[gu]
  omega
 .simp only[gu,List.map_append,List.map_cons,List.map_nil]
  rw[List.nodup_append]
  refine⟨h.un,List.nodup_cons.2 ⟨List.not_mem_nil,List.nodup_nil⟩,fun a ha b hb=>?_⟩
  obtain rfl:=List.mem_singleton.1 hb
  obtain⟨t,ht,rfl⟩:=List.mem_map.1 ha
  exact alJ t1 t ht
 .simp only[gu,List.map_append,k3,Nat.zero_add]
  rw[List.nodup_append]
  refine⟨h.ui,?_,fun a ha b hb=>?_⟩
  .refine List.pairwise_map.2 (List.nodup_range.imp fun {x y} hne e=>hne ?_)
   have:=aAa e
   omega
  .obtain⟨x,hx,rfl⟩:=List.mem_map.1 ha
   obtain⟨i,hi,rfl⟩:=List.mem_map.1 hb
   exact aeQ (t5 i (List.mem_range.1 hi)) x hx
 .simp only[gu,List.map_append,List.map_cons,List.map_nil,k1]
  have hu:=List.nodup_append.1 h.uid
  have l1:∀ a∈c.tbs.map Tb.id,a<c.nx:=fun a ha=>by
   obtain⟨t,ht,rfl⟩:=List.mem_map.1 ha
   exact (h.old_t ht).2
  have l2:∀ a∈c.ixs.map Ix.id,a<c.nx:=fun a ha=>by
   obtain⟨t,ht,rfl⟩:=List.mem_map.1 ha
   exact (h.old_x ht).2
  have l3:∀ a∈ad0 (c.nx+1) s.kys.length,c.nx<a:=fun a ha=>by
   have:=ajR ha
   omega
  rw[List.nodup_append,List.nodup_append,List.nodup_append]
  refine⟨⟨hu.1,List.nodup_cons.2 ⟨List.not_mem_nil,List.nodup_nil⟩,fun a ha b hb=>?_⟩,⟨hu.2.1,akC _ _,fun a ha b hb=>?_⟩,fun a ha b hb=>?_⟩
  .have:=l1 a ha
   obtain rfl:=List.mem_singleton.1 hb
   show a≠c.nx
   omega
  .have:=l2 a ha
   have:=l3 b hb
   omega
  .rcases List.mem_append.1 ha with ha|ha <;> rcases List.mem_append.1 hb with hb|hb
   .exact hu.2.2 a ha b hb
   .have:=l1 a ha
    have:=l3 b hb
    omega
   .have:=l2 b hb
    obtain rfl:=List.mem_singleton.1 ha
    show c.nx≠b
    omega
   .have:=l3 b hb
    obtain rfl:=List.mem_singleton.1 ha
    show c.nx≠b
    omega
 .simp only[gu,List.map_append,List.map_cons,List.map_nil]
  refine ahp h.rt (by omega) (by have:=h.lo;omega) ?_
  have:=h.lo
  rw[ir]
  refine⟨fun x hx=>?_,List.pairwise_singleton ..⟩
  obtain rfl:=List.mem_singleton.1 hx
  show c.nx-1<c.nx∧c.nx<c.nx+1+(s.kys.length:Int)
  omega
 .simp only[gu,List.map_append,k1]
  refine ahp h.ri (by omega) (by have:=h.lo;omega) ?_
  have:=aga s.kys.length (c.nx+1) (c.nx+1+(s.kys.length:Int)) (by omega)
  rw[ir] at this ⊢
  exact⟨fun x hx=>⟨by have:=(this.1 x hx).1;omega,(this.1 x hx).2⟩,this.2⟩
 .intro t ht
  rcases List.mem_append.1 ht with ht|ht
  .exact aeH (fun k _ x hx _=>aCJ h m hx) (fun f _ o ho=>ahO h m ho) (h.tb t ht)
  .obtain rfl:=List.mem_singleton.1 ht
   unfold dJ ig
   simp only[Bool.and_eq_true,decide_eq_true_eq,List.all_eq_true] at o3 ⊢
   refine⟨⟨⟨⟨⟨⟨⟨o3,o1⟩,o2⟩,t2⟩,?_⟩,?_⟩,fun f hf=>?_⟩,?_⟩
   .have:(kys.filter Ky.pr).length=(s.kys.filter Kd.pr).length:=by
     rw[← List.countP_eq_length_filter,← List.countP_eq_length_filter]
     have e1:=List.countP_map (p:=id) (f:=Ky.pr) (l:=kys)
     have e2:=List.countP_map (p:=id) (f:=Kd.pr) (l:=s.kys)
     rw[k4] at e1
     exact (e1.symm.trans e2)
    show (kys.filter Ky.pr).length≤1
    omega
   .exact ahL (t:=acj c s kys rfs) rfl rfl m.kk hkk fun x hx=>(aGs h m hx).2.2
   .obtain⟨f',f1,f2⟩:=agy m.mr f hf
    exact atq (t:=acj c s kys rfs) f2 (o5 f' f1) (t6 f' f1) (aj9 h m) fun o ho=>ahO h m ho
   .exact List.all_eq_true.1 (atl m.kd m.sm)
 .intro x hx
  rcases List.mem_append.1 hx with hx|hx
  .refine aeV (fun t ht=>ahO h m ht) (fun hs=>?_) (h.ix x hx)
   obtain⟨t,h1,k,h2,h3⟩:=iZ.1 hs
   exact iZ.2 ⟨t,List.mem_append_left _ h1,k,h2,h3⟩
  .obtain⟨h1,k,h2,h3⟩:=ajE m.kk hkk x hx
   have h4:=k5 x hx
   unfold dC
   rw[h4.1,aj9 h m]
   simp only[Bool.and_eq_true,Bool.or_eq_true]
   exact⟨h1,.inr (iZ.2 ⟨_,List.mem_append_right _ (List.mem_singleton.2 rfl),k,h2,h3⟩)⟩
end
def iW (c:Ct) (s:Sm) (l:List Int):Ct:=⟨c.tbs,c.ixs++[⟨s.nm,c.nx,s.tb,l,s.un⟩],c.nx+1⟩
structure Indexes (c:Ct) (s:Sm) (t:Tb) (l:List Int):Prop where
 kd:s.kd=2
 sm:cd s=true
 nn:gg c s.nm=false
 nd:s.ns.Nodup
 b1:c.ixs.length<64
 b2:c.nx<ee
 ft:bx c s.tb=some t
 pl:bC t.cs s.ns=some l
theorem acm (c:Ct) (s:Sm):(∃ e,e≠0∧cB c s=(c,e))∨∃ t l,cB c s=(iW c s l,0)∧Indexes c s t l:=by
 unfold cB
 split
 .exact .inl ⟨1,by decide,rfl⟩
 rename_i h1
 split
 .exact .inl ⟨7,by decide,rfl⟩
 rename_i h2
 split
 .exact .inl ⟨18,by decide,rfl⟩
 rename_i h3
 split
 .exact .inl ⟨6,by decide,rfl⟩
 rename_i t ht
 split
 .exact .inl ⟨6,by decide,rfl⟩
 rename_i l hl
 simp only[Bool.or_eq_true,Bool.not_eq_true',decide_eq_true_eq,not_or,Bool.not_eq_false,ne_eq,Decidable.not_not] at h1
 simp only[Bool.or_eq_true,Bool.not_eq_true',decide_eq_false_iff_not,not_or,Decidable.not_not,Bool.not_eq_true] at h2
 simp only[not_or,Nat.not_lt,Nat.not_le,Int.not_lt,Int.not_le] at h3
 exact .inr ⟨t,l,rfl,h1.1.2,h1.2,h2.1,h2.2,h3.1,h3.2,ht,hl⟩
theorem ak6 {s:Sm} (hk:s.kd=2) (h:cd s=true):aA s.tb=true∧aA s.nm=true∧s.ns≠[]:=by
 unfold cd bO at h
 rw[if_neg (by omega),if_pos hk] at h
 simp only[Bool.and_eq_true] at h
 refine⟨h.2.1.1.1,h.2.1.1.2,fun e=>?_⟩
 have:=h.2.1.2
 rw[bt,e] at this
 cases this
section
variable {c:Ct} {s:Sm} {t:Tb} {l:List Int} (h:Right c) (m:Indexes c s t l)
include h m
theorem arv {id:Int} {x:Ix} (hx:iy c id=some x):iy (iW c s l) id=some x:=by
 unfold iy iW at *
 rw[List.find?_append,hx]
 rfl
theorem ahX:Right (iW c s l):=by
 obtain⟨o1,o2,o3⟩:=ak6 m.kd m.sm
 refine⟨h.nt,?_,?_,?_,h.un,?_,?_,?_,?_,?_,?_⟩
 .simp only[iW,List.length_append,List.length_cons,List.length_nil]
  have:=m.b1
  omega
 .have:=h.lo
  simp only[iW]
  omega
 .have:=m.b2
  simp only[iW]
  omega
 .simp only[iW,List.map_append,List.map_cons,List.map_nil]
  rw[List.nodup_append]
  refine⟨h.ui,List.nodup_cons.2 ⟨List.not_mem_nil,List.nodup_nil⟩,fun a ha b hb=>?_⟩
  obtain rfl:=List.mem_singleton.1 hb
  obtain⟨x,hx,rfl⟩:=List.mem_map.1 ha
  exact aeQ m.nn x hx
 .simp only[iW,List.map_append,List.map_cons,List.map_nil]
  rw[← List.append_assoc,List.nodup_append]
  refine⟨h.uid,List.nodup_cons.2 ⟨List.not_mem_nil,List.nodup_nil⟩,fun a ha b hb=>?_⟩
  obtain rfl:=List.mem_singleton.1 hb
  rcases List.mem_append.1 ha with ha|ha
  .obtain⟨x,hx,rfl⟩:=List.mem_map.1 ha
   have:=(h.old_t hx).2
   show x.id≠c.nx
   omega
  .obtain⟨x,hx,rfl⟩:=List.mem_map.1 ha
   have:=(h.old_x hx).2
   show x.id≠c.nx
   omega
 .exact ayH h.rt (by simp only[iW];omega)
 .simp only[iW,List.map_append,List.map_cons,List.map_nil]
  refine ahp h.ri (by omega) (by have:=h.lo;omega) ?_
  rw[ir]
  refine⟨fun x hx=>?_,List.pairwise_singleton ..⟩
  obtain rfl:=List.mem_singleton.1 hx
  show c.nx-1<c.nx∧c.nx<c.nx+1
  omega
 .intro t' ht
  exact aeH (fun k _ x hx _=>arv h m hx) (fun f _ o ho=>ho) (h.tb t' ht)
 .intro x hx
  rcases List.mem_append.1 hx with hx|hx
  .exact aeV (fun t ht=>ht) (fun hs=>hs) (h.ix x hx)
  .obtain rfl:=List.mem_singleton.1 hx
   unfold dC
   have:bx (iW c s l) s.tb=some t:=m.ft
   rw[this]
   simp only[Bool.and_eq_true,Bool.or_eq_true]
   exact⟨abB m.pl m.nd o3,.inl o2⟩
end
def acX (c:Ct) (tb:List UInt8):Ct:=⟨c.tbs.filter fun t=>decide (t.nm≠tb),c.ixs.filter fun x=>decide (x.tb≠tb),c.nx⟩
def ai2 (c:Ct) (nm:List UInt8):Ct:=⟨c.tbs,c.ixs.filter fun y=>decide (y.nm≠nm),c.nx⟩
theorem aen (c:Ct) (tb:List UInt8):(∃ e,e≠0∧eO c tb=(c,e))∨(eO c tb=(acX c tb,0)∧(∃ t,bx c tb=some t)∧∀ t∈c.tbs,t.nm≠tb→∀ f∈t.rfs,f.tb≠tb):=by
 unfold eO
 split
 .exact .inl ⟨6,by decide,rfl⟩
 rename_i h1
 split
 .exact .inl ⟨14,by decide,rfl⟩
 rename_i h2
 refine .inr ⟨rfl,?_,fun t ht hn f hf e=>h2 (List.any_eq_true.2 ⟨t,ht,?_⟩)⟩
 .cases hf:bx c tb with
  | none=>rw[hf] at h1;exact absurd rfl h1
  | some t=>exact⟨t,rfl⟩
 .rw[Bool.and_eq_true]
  exact⟨decide_eq_true hn,List.any_eq_true.2 ⟨f,hf,decide_eq_true e⟩⟩
theorem aff (c:Ct) (s:Sm):(∃ e,e≠0∧gw c s=(c,e))∨(gw c s=(acX c s.tb,0)∧s.tb≠[]∧(∃ t,bx c s.tb=some t)∧∀ t∈c.tbs,t.nm≠s.tb→∀ f∈t.rfs,f.tb≠s.tb) ∨
  (gw c s=(ai2 c s.nm,0)∧s.tb=[]∧∃ x,(c.ixs.find? fun x=>decide (x.nm=s.nm))=some x∧df c x.id=false):=by
 unfold gw
 split
 .exact .inl ⟨1,by decide,rfl⟩
 split
 .rename_i h1
  rcases aen c s.tb with h|⟨a,b,d⟩
  .exact .inl h
  .exact .inr (.inl ⟨a,h1,b,d⟩)
 .rename_i h1
  split
  .exact .inl ⟨6,by decide,rfl⟩
  .rename_i x hx
   split
   .exact .inl ⟨17,by decide,rfl⟩
   .rename_i hs
    exact .inr (.inr ⟨rfl,by simpa using h1,x,hx,by simpa using hs⟩)
theorem abq {α:Type} {p q:α→Bool}:∀ {l:List α} {x:α},l.find? p=some x→q x=true→(l.filter q).find? p=some x
 | [],x,h,_=>by cases h
 | y::l,x,h,hq=>by
  rw[List.find?_cons] at h
  split at h
  .rename_i hp
   cases h
   rw[List.filter_cons_of_pos hq,List.find?_cons,hp]
  .rename_i hp
   rw[List.filter_cons]
   split
   .rw[List.find?_cons,hp]
    exact abq h hq
   .exact abq h hq
theorem ahI {α β:Type} {f:α→β}:∀ {l:List α} {x y:α},(l.map f).Nodup→x∈l→y∈l→f x=f y→x=y
 | z::l,x,y,h,hx,hy,e=>by
  rw[List.map_cons,List.nodup_cons] at h
  rcases List.mem_cons.1 hx with h1|h1 <;> rcases List.mem_cons.1 hy with h2|h2
  .rw[h1,h2]
  .exact absurd (by rw[← h1,e];exact List.mem_map_of_mem h2) h.1
  .exact absurd (by rw[← h2,← e];exact List.mem_map_of_mem h1) h.1
  .exact ahI h.2 h1 h2 e
theorem Right.byId_mem {c:Ct} (h:Right c) {x:Ix} (hx:x∈c.ixs):iy c x.id=some x:=by
 cases hf:iy c x.id with
 | none=>
  have:=List.find?_eq_none.1 hf x hx
  simp at this
 | some y =>
  obtain⟨h1,h2⟩:=aeZ hf
  rw[ahI (List.nodup_append.1 h.uid).2.1 h1 hx h2]
theorem Right.serves {c:Ct} (h:Right c) {t:Tb} (ht:t∈c.tbs) {k:Ky} (hk:k∈t.kys):∃ x,iy c k.ix=some x∧x.tb=t.nm:=by
 have:=h.tb t ht
 unfold dJ at this
 simp only[Bool.and_eq_true] at this
 exact an0 this.1.1.2 k hk
theorem Right.refs {c:Ct} (h:Right c) {t:Tb} (ht:t∈c.tbs) {f:Rf} (hf:f∈t.rfs):∃ o,bx c f.tb=some o:=by
 have:=h.tb t ht
 unfold dJ at this
 simp only[Bool.and_eq_true,List.all_eq_true] at this
 exact aqA (this.1.2 f hf)
theorem att {c:Ct} {tb:List UInt8} (h:Right c) (hr:∀ t∈c.tbs,t.nm≠tb→∀ f∈t.rfs,f.tb≠tb):Right (acX c tb):=by
 have s1:(acX c tb).tbs.Sublist c.tbs:=List.filter_sublist ..
 have s2:(acX c tb).ixs.Sublist c.ixs:=List.filter_sublist ..
 have hfind:∀ nm o,nm≠tb→bx c nm=some o→bx (acX c tb) nm=some o:=fun nm o hn ho=>abq ho (by rw[(aa1 ho).2];exact decide_eq_true hn)
 refine⟨Nat.le_trans s1.length_le h.nt,Nat.le_trans s2.length_le h.ni,h.lo,h.hi,h.un.sublist (s1.map _),h.ui.sublist (s2.map _),h.uid.sublist ((s1.map _).append (s2.map _)),aho h.rt (s1.map _),aho h.ri (s2.map _),fun t ht=>?_,fun x hx=>?_⟩
 .obtain⟨ht1,ht2⟩:=List.mem_filter.1 ht
  have ht2:=of_decide_eq_true ht2
  refine aeH (fun k _ x hx hxt=>abq hx (decide_eq_true (by rw[hxt];exact ht2))) (fun f hf o ho=>hfind _ _ (hr t ht1 ht2 f hf) ho) (h.tb t ht1)
 .obtain⟨hx1,hx2⟩:=List.mem_filter.1 hx
  have hx2:=of_decide_eq_true hx2
  refine aeV (fun t ht=>hfind _ _ hx2 ht) (fun hs=>?_) (h.ix x hx1)
  obtain⟨t,h1,k,h2,h3⟩:=iZ.1 hs
  obtain⟨y,h4,h5⟩:=h.serves h1 h2
  rw[h3,h.byId_mem hx1] at h4
  cases h4
  exact iZ.2 ⟨t,List.mem_filter.2 ⟨h1,decide_eq_true (by rw[← h5];exact hx2)⟩,k,h2,h3⟩
theorem atu {c:Ct} {nm:List UInt8} {x:Ix} (h:Right c) (hx:(c.ixs.find? fun x=>decide (x.nm=nm))=some x) (hs:df c x.id=false):Right (ai2 c nm):=by
 have s2:(ai2 c nm).ixs.Sublist c.ixs:=List.filter_sublist ..
 have hxm:=List.mem_of_find?_eq_some hx
 have hxn:x.nm=nm:=of_decide_eq_true (List.find?_some (p:=fun x:Ix=>decide (x.nm=nm)) hx)
 refine⟨h.nt,Nat.le_trans s2.length_le h.ni,h.lo,h.hi,h.un,h.ui.sublist (s2.map _),h.uid.sublist ((List.Sublist.refl _).append (s2.map _)),h.rt,aho h.ri (s2.map _),fun t ht=>?_,fun y hy=>?_⟩
 .refine aeH (fun k hk y hy _=>abq hy (decide_eq_true fun e=>?_)) (fun f _ o ho=>ho) (h.tb t ht)
  obtain⟨h1,h2⟩:=aeZ hy
  have:y=x:=ahI h.ui h1 hxm (e.trans hxn.symm)
  subst this
  have:df c y.id=true:=iZ.2 ⟨t,ht,k,hk,h2.symm⟩
  rw[hs] at this
  cases this
 .obtain⟨hy1,hy2⟩:=List.mem_filter.1 hy
  exact aeV (fun t ht=>ht) (fun hs=>hs) (h.ix y hy1)
theorem aeY {c:Ct} (s:Sm) (h:Right c):Right (doA c s).1:=by
 unfold doA
 split
 .rcases abG c s with ⟨e,_,he⟩|⟨kys,ixs,rfs,he,m⟩
  .rw[he];exact h
  .rw[he];exact ag1 h m
 .split
  .rcases acm c s with ⟨e,_,he⟩|⟨t,l,he,m⟩
   .rw[he];exact h
   .rw[he];exact ahX h m
  .rcases aff c s with ⟨e,_,he⟩|⟨he,_,_,m⟩|⟨he,_,x,m1,m2⟩
   .rw[he];exact h
   .rw[he];exact att h m
   .rw[he];exact atu h m1 m2
theorem aM2 {c:Ct} {s:Sm} (h:(doA c s).2≠0):(doA c s).1=c:=by
 unfold doA at *
 split
 .rcases abG c s with ⟨e,_,he⟩|⟨kys,ixs,rfs,he,m⟩
  .rw[he]
  .rename_i hk
   rw[if_pos hk,he] at h
   exact absurd rfl h
 .rename_i hk
  rw[if_neg hk] at h
  split
  .rename_i hk2
   rw[if_pos hk2] at h
   rcases acm c s with ⟨e,_,he⟩|⟨t,l,he,m⟩
   .rw[he]
   .rw[he] at h
    exact absurd rfl h
  .rename_i hk2
   rw[if_neg hk2] at h
   rcases aff c s with ⟨e,_,he⟩|⟨he,_,_,m⟩|⟨he,_,x,m1,m2⟩
   .rw[he]
   .rw[he] at h
    exact absurd rfl h
   .rw[he] at h
    exact absurd rfl h
theorem aPf:Right ⟨[],[],1⟩:=⟨by decide,by decide,by decide,by decide,List.nodup_nil,List.nodup_nil,List.nodup_nil,rfl,rfl,fun _ h=>absurd h List.not_mem_nil,fun _ h=>absurd h List.not_mem_nil⟩
def fY (tb nm:List UInt8):Sm:=⟨3,tb,nm,[],[],false,[],[],[],[],[],[],[]⟩
theorem arP {tb:List UInt8} (h:aA tb=true):cd (fY tb [])=true:=by
 have:iB (ky (fY tb []))=true:=rfl
 unfold cd
 rw[this]
 simp[bO,fY,h]
theorem ah9 {nm:List UInt8} (h:aA nm=true):cd (fY [] nm)=true:=by
 have:iB (ky (fY [] nm))=true:=rfl
 unfold cd
 rw[this]
 simp[bO,fY,h]
theorem aj7 {s:List UInt8} (h:aA s=true):s≠[]:=by
 rintro rfl
 cases h
theorem acn {α:Type} {q:α→Bool} {l r:List α} (h1:∀ x∈l,q x=true) (h2:∀ x∈r,q x=false):(l++r).filter q=l:=by
 rw[List.filter_append,List.filter_eq_self.2 h1,List.filter_eq_nil_iff.2 fun x hx=>by rw[h2 x hx];exact Bool.false_ne_true,List.append_nil]
section
variable {c:Ct} {s:Sm} (h:Right c)
include h
theorem atJ {kys:List Ky} {ixs:List Ix} {rfs:List Rf} (m:Creates c s kys ixs rfs):gw (gu c s kys ixs rfs) (fY s.tb [])=(⟨c.tbs,c.ixs,(gu c s kys ixs rfs).nx⟩,0):=by
 obtain⟨o1,_⟩:=afb m.kd m.sm
 obtain⟨t1,_⟩:=ahd m.tw
 have hr:=(fd _).2 (ag1 h m)
 obtain⟨_,_,_,_,k5⟩:=ach m.kk
 unfold gw
 rw[hr,arP o1]
 have hne:(fY s.tb []).tb≠[]:=aj7 o1
 rw[if_neg (by simp[fY]),if_pos hne]
 rcases aen (gu c s kys ixs rfs) s.tb with ⟨e,he,h1⟩|⟨h1,_,_⟩
 .exfalso
  unfold eO at h1
  rw[aj9 h m,if_neg (by simp)] at h1
  split at h1
  .rename_i h2
   obtain⟨t,ht,h3⟩:=List.any_eq_true.1 h2
   rw[Bool.and_eq_true] at h3
   have hn:=of_decide_eq_true h3.1
   obtain⟨f,hf,h4⟩:=List.any_eq_true.1 h3.2
   have h4:=of_decide_eq_true h4
   rcases List.mem_append.1 ht with ht|ht
   .obtain⟨o,ho⟩:=h.refs ht hf
    rw[h4,t1] at ho
    cases ho
   .obtain rfl:=List.mem_singleton.1 ht
    exact hn rfl
  .exact he (congrArg Prod.snd h1).symm
 .show eO _ s.tb=_
  rw[h1]
  unfold acX
  simp only[gu,Prod.mk.injEq,Ct.mk.injEq,and_true]
  refine⟨acn (fun t ht=>decide_eq_true (alJ t1 t ht)) (fun t ht=>?_),acn (fun x hx=>decide_eq_true fun e=>?_) (fun x hx=>?_)⟩
  .obtain rfl:=List.mem_singleton.1 ht
   exact decide_eq_false fun h=>h rfl
  .obtain⟨t,ht⟩:=ajF (h.ix x hx)
   rw[e,t1] at ht
   cases ht
  .exact decide_eq_false fun h=>h (k5 x hx).1
theorem azw {t:Tb} {l:List Int} (m:Indexes c s t l):gw (iW c s l) (fY [] s.nm)=(⟨c.tbs,c.ixs,(iW c s l).nx⟩,0):=by
 obtain⟨_,o2,_⟩:=ak6 m.kd m.sm
 have hr:=(fd _).2 (ahX h m)
 unfold gw
 rw[hr,ah9 o2]
 have h0:(fY [] s.nm).tb=[]:=rfl
 rw[if_neg (by simp[fY]),if_neg (by simp[h0])]
 have hf:((iW c s l).ixs.find? fun x=>decide (x.nm=(fY [] s.nm).nm))=some ⟨s.nm,c.nx,s.tb,l,s.un⟩:=by
  show ((c.ixs++[_]).find? fun x:Ix=>decide (x.nm=s.nm))=_
  have h1:(c.ixs.find? fun x=>decide (x.nm=s.nm))=none:=List.find?_eq_none.2 fun x hx e=>aeQ m.nn x hx (of_decide_eq_true e)
  rw[List.find?_append,h1]
  simp
 rw[hf]
 have hs:df (iW c s l) c.nx=false:=by
  cases hs:df (iW c s l) c.nx with
  | false=>rfl
  | true =>
   obtain⟨t',h1,k,h2,h3⟩:=iZ.1 hs
   obtain⟨x,h4,_⟩:=h.serves (t:=t') h1 h2
   obtain⟨h5,h6⟩:=aeZ h4
   have:=(h.old_x h5).2
   omega
 simp only
 rw[hs]
 simp only[Bool.false_eq_true,if_false,iW,Prod.mk.injEq,Ct.mk.injEq,and_true,true_and]
 refine acn (fun x hx=>decide_eq_true (aeQ m.nn x hx)) (fun x hx=>?_)
 obtain rfl:=List.mem_singleton.1 hx
 exact decide_eq_false fun h=>h rfl
theorem arQ (e:(doA c s).2=0) (hk:s.kd=1∨s.kd=2) :
  (gw (doA c s).1 (if s.kd=2 then fY [] s.nm else fY s.tb []))=(⟨c.tbs,c.ixs,(doA c s).1.nx⟩,0)∧c.nx<(doA c s).1.nx:=by
 rcases hk with hk|hk
 .rw[if_neg (by omega)]
  unfold doA at *
  rw[if_pos hk] at *
  rcases abG c s with ⟨e',he,he'⟩|⟨kys,ixs,rfs,he,m⟩
  .rw[he'] at e
   exact absurd e he
  .rw[he]
   exact⟨atJ h m,by show c.nx<c.nx+1+(s.kys.length:Int);omega⟩
 .rw[if_pos hk]
  unfold doA at *
  rw[if_neg (by omega),if_pos hk] at *
  rcases acm c s with ⟨e',he,he'⟩|⟨t,l,he,m⟩
  .rw[he'] at e
   exact absurd e he
  .rw[he]
   exact⟨azw h m,by show c.nx<c.nx+1;omega⟩
end
def bi {α:Type} (p:Nat→α→Bool):Nat→List α→Bool
 | _,[]=>true
 | k,x::r=>p k x&&bi p (k+1) r
theorem jw {α:Type} (p:Nat→α→Bool) (k:Nat) (x:α) (r:List α):bi p k (x::r)=(p k x&&bi p (k+1) r):=rfl
theorem iH {α:Type} (p:Nat→α→Bool) (k:Nat):bi p k []=true:=rfl
theorem aes {α:Type} (p:Nat→α→Bool):∀ (l:List α) (k:Nat),bi p k l=true↔∀ i (h:i<l.length),p (k+i) l[i]=true
 | [],k=>by simp[bi]
 | x::r,k=>by
  rw[bi,Bool.and_eq_true,aes p r (k+1)]
  constructor
  .rintro⟨h1,h2⟩ i hi
   cases i with
   | zero=>exact h1
   | succ i =>
    show p (k+(i+1)) (r[i]'(by simpa using hi))=true
    rw[show k+(i+1)=k+1+i by omega]
    exact h2 i _
  .intro h
   refine⟨h 0 (by simp),fun i hi=>?_⟩
   have h3:=h (i+1) (by simpa using hi)
   rw[show k+1+i=k+(i+1) by omega]
   exact h3
theorem acK {α:Type} (p q:Nat→α→Bool):∀ (l:List α) (k:Nat),bi (fun i x=>p i x&&q i x) k l=(bi p k l&&bi q k l)
 | [],_=>rfl
 | x::r,k=>by
  rw[bi,bi,bi,acK p q r]
  cases p k x <;> cases q k x <;> cases bi p (k+1) r <;> rfl
theorem acL {α:Type} (p:α→Bool):∀ (l:List α) (k:Nat),bi (fun _ x=>p x) k l=l.all p
 | [],_=>rfl
 | x::r,k=>by rw[bi,acL p r,List.all_cons]
theorem acr {α:Type} {p q:Nat→α→Bool}:∀ (l:List α) (k:Nat),(∀ i,∀ x∈l,p i x=q i x)→bi p k l=bi q k l
 | [],_,_=>rfl
 | x::r,k,h=>by rw[bi,bi,h k x (List.mem_cons_self ..),acr r (k+1) fun i y hy=>h i y (List.mem_cons_of_mem _ hy)]
theorem ama {α:Type} [DecidableEq α] (l:List α):bi (fun i x=>!decide (x∈l.take i)) 0 l=decide l.Nodup:=by
 rw[Bool.eq_iff_iff,aes,decide_eq_true_eq,List.Nodup,List.pairwise_iff_getElem]
 simp only[Nat.zero_add,Bool.not_eq_true',decide_eq_false_iff_not,List.mem_take_iff_getElem]
 constructor
 .intro h i j hi hj hij e
  exact h j hj ⟨i,by omega,e⟩
 .rintro h j hj ⟨i,hi,e⟩
  exact h i j (by omega) hj (by omega) e
def aec {α:Type} [DecidableEq α] (l:List α) (i:Nat) (x:α):Bool:=!decide (x∈l.take i)
theorem akq {α:Type} [DecidableEq α] (l:List α):bi (aec l) 0 l=decide l.Nodup:=ama l
theorem amS {α:Type} [DecidableEq α] {l:List α} {i:Nat} {x:α} (h:x∈l.take i):aec l i x=false:=by simp[aec,h]
theorem aj5 {α:Type} [DecidableEq α] {l:List α} {i:Nat} {x:α} (h:x∉l.take i):aec l i x=true:=by simp[aec,h]
theorem aw8 {α:Type} (p:α→Bool):∀ (l:List α) (k i:Nat),bJ p k l=((k+i:Nat):Int)↔∃ h:i<l.length,p l[i]=true∧∀ j (hj:j<i),p l[j]=false
 | [],k,i=>by
  simp only[bJ,List.length_nil]
  constructor
  .intro h;omega
  .rintro⟨h,_⟩;exact absurd h (Nat.not_lt_zero _)
 | x::r,k,i=>by
  unfold bJ
  cases hp:p x with
  | true =>
   simp only[if_true]
   constructor
   .intro e
    obtain rfl:i=0:=by omega
    exact⟨by simp,hp,fun j hj=>by omega⟩
   .rintro⟨h,h1,h2⟩
    cases i with
    | zero=>simp
    | succ i=>exact absurd hp (by have:=h2 0 (by omega);simp only[List.getElem_cons_zero] at this;rw[this];simp)
  | false =>
   simp only[Bool.false_eq_true,if_false]
   cases i with
   | zero =>
    constructor
    .intro e
     rcases idxR_ge' p r (k+1) with h|h <;> omega
    .rintro⟨h,h1,h2⟩
     simp only[List.getElem_cons_zero] at h1
     rw[hp] at h1
     cases h1
   | succ i =>
    rw[show k+(i+1)=k+1+i by omega,aw8 p r (k+1) i]
    constructor
    .rintro⟨h,h1,h2⟩
     refine⟨by simpa using h,h1,fun j hj=>?_⟩
     cases j with
     | zero=>exact hp
     | succ j=>exact h2 j (by omega)
    .rintro⟨h,h1,h2⟩
     exact⟨by simpa using h,h1,fun j hj=>h2 (j+1) (by omega)⟩
where
 idxR_ge' {α:Type} (p:α→Bool):∀ (l:List α) (k:Nat),bJ p k l=-1∨(k:Int)≤bJ p k l
 | [],k=>.inl rfl
 | x::r,k=>by
  unfold bJ
  split
  .exact .inr (Int.le_refl _)
  .rcases idxR_ge' p r (k+1) with h|h
   .exact .inl h
   .exact .inr (by omega)
theorem aMe {α:Type} (p:α→Bool) (l:List α) (i:Nat):bE p l=(i:Int)↔∃ h:i<l.length,p l[i]=true∧∀ j (hj:j<i),p l[j]=false:=by
 have:=aw8 p l 0 i
 rw[Nat.zero_add] at this
 exact this
theorem jV {α:Type} (p:α→Bool) (l:List α):(bE p l=-1∧l.find? p=none)∨∃ k,∃ h:k<l.length,bE p l=(k:Int)∧l.find? p=some l[k]:=by
 have key:∀ (l:List α) (k:Nat),(bJ p k l=-1∧l.find? p=none)∨∃ j,∃ h:j<l.length,bJ p k l=((k+j:Nat):Int)∧l.find? p=some l[j]:=by
  intro l
  induction l with
  | nil=>intro k;exact .inl ⟨rfl,rfl⟩
  | cons x r ih =>
   intro k
   unfold bJ
   cases hp:p x with
   | true=>exact .inr ⟨0,by simp,by simp,by simp[hp]⟩
   | false =>
    rcases ih (k+1) with ⟨h1,h2⟩|⟨j,h,h1,h2⟩
    .exact .inl ⟨by simp[h1],by simp[hp,h2]⟩
    .refine .inr ⟨j+1,by simpa using h,?_,?_⟩
     .simp only[Bool.false_eq_true,if_false,h1]
      congr 1
      omega
     .rw[List.find?_cons,hp]
      exact h2
 rcases key l 0 with h|⟨j,h,h1,h2⟩
 .exact .inl h
 .rw[Nat.zero_add] at h1
  exact .inr ⟨j,h,h1,h2⟩
theorem agS {α β:Type} [DecidableEq β] (f:α→β) (l:List α):bi (fun i x=>decide (bE (fun y=>decide (f y=f x)) l=(i:Int))) 0 l=decide (l.map f).Nodup:=by
 rw[Bool.eq_iff_iff,aes,decide_eq_true_eq,List.Nodup,List.pairwise_iff_getElem]
 simp only[Nat.zero_add,decide_eq_true_eq,aMe,decide_eq_false_iff_not,List.length_map,List.getElem_map]
 constructor
 .intro h i j hi hj hij
  obtain⟨_,_,h2⟩:=h j hj
  exact h2 i hij
 .intro h i hi
  exact⟨hi,trivial,fun j hj=>h j i (by omega) hi hj⟩
def aaj {α:Type} (f:α→Int) (l:List α):Nat→Int→Bool
 | 0,_=>true
 | j+1,x=>match l[j]? with
  | some y=>decide (f y<x)
  | none=>true
def bT {α:Type} (f:α→Int) (l:List α) (n:Int) (i:Nat) (x:α):Bool:=decide (1≤f x)&&(decide (f x<n)&&aaj f l i (f x))
theorem agR {α:Type} (f:α→Int) (l:List α) (n:Int):bi (bT f l n) 0 l=dE 0 n (l.map f):=by
 have key:∀ (q:List α) (k:Nat) (p:Int),q=l.drop k→0≤p→(k=0→p=0)→(∀ j,k=j+1→∃ y,l[j]?=some y∧f y=p)→bi (bT f l n) k q=dE p n (q.map f):=by
  intro q
  induction q with
  | nil=>intros;rfl
  | cons x r ih =>
   intro k p hq h0 h1 h2
   have hk:k<l.length:=by
    rcases Nat.lt_or_ge k l.length with h|h
    .exact h
    .rw[List.drop_of_length_le h] at hq;cases hq
   rw[aJ hk] at hq
   obtain⟨e1,e2⟩:=List.cons.inj hq
   rw[bi,List.map_cons,dE]
   have hp:bT f l n k x=(decide (p<f x)&&decide (f x<n)):=by
    unfold bT
    cases k with
    | zero =>
     obtain rfl:=h1 rfl
     rw[aaj,Bool.and_true]
     have e:decide (1≤f x)=decide (0<f x):=decide_eq_decide.2 ⟨fun h=>h,fun h=>h⟩
     rw[e]
    | succ j =>
     obtain⟨y,hy,hy2⟩:=h2 j rfl
     simp only[aaj,hy,hy2]
     by_cases c:p<f x
     .rw[decide_eq_true c,decide_eq_true (show 1≤f x by omega),Bool.and_true,Bool.true_and]
     .rw[decide_eq_false c,Bool.and_false,Bool.and_false,Bool.false_and]
   rw[hp]
   by_cases c:p<f x
   .rw[ih (k+1) (f x) e2 (by omega) (fun h=>by omega) (fun j hj=>⟨x,by rw[show j=k by omega,List.getElem?_eq_getElem hk,e1],rfl⟩)]
   .rw[decide_eq_false c,Bool.false_and,Bool.false_and,Bool.false_and]
 exact key l 0 0 rfl (Int.le_refl _) (fun _=>rfl) (fun j hj=>by omega)
theorem aGY {α:Type} (p:α→Bool) (l:List α):(l.find? p).isSome=l.any p:=by
 induction l with
 | nil=>rfl
 | cons x r ih=>rw[List.find?_cons,List.any_cons];cases p x <;> simp[ih]
def iI (a b:List Cd):List Int→List Int→Bool
 | x::r,y::q=>decide (kj a x=kj b y)&&iI a b r q
 | _,_=>true
theorem atC (k:Ky) (r:List Ky) (to:List Int):fF (k::r) to=(decide (k.cs=to)||fF r to):=rfl
theorem aeF (a b:List Cd):∀ (x y:List Int),(∀ i∈y,0≤i∧i<(b.length:Int))→iI a b x y=db a b x y
 | [],_,_=>by simp[iI,db]
 | _::_,[],_=>by simp[iI,db]
 | x::r,y::q,h=>by
  have h1:=h y (List.mem_cons_self ..)
  rw[iI,db,aeF a b r q fun i hi=>h i (List.mem_cons_of_mem _ hi),decide_eq_true h1.1,decide_eq_true h1.2,Bool.true_and,Bool.true_and]
def aab (c:Ct) (t:Tb) (f:Rf):Bool:=match bx c f.tb with
 | none=>false
 | some o=>bN f.cs t.cs.length&&(bN f.to o.cs.length&&(fF o.kys f.to&&(iI t.cs o.cs f.cs f.to&&decide (f.cs.length=f.to.length))))
def dF (c:Ct) (t:Tb) (k:Ky) (n:Nat):Bool:=match iy c k.ix with
 | none=>false
 | some x=>decide (x.tb=t.nm)&&(x.un&&(decide (x.nm=cy t.nm (n+1))&&decide (x.cs=k.cs)))
def aad (c:Ct) (t:Tb):Bool:=bi (fun n k=>bN k.cs t.cs.length&&dF c t k n) 0 t.kys&&decide (i8 t.kys≤1)
def aa9 (l:List Cd) (i:Nat) (d:Cd):Bool:=aA d.nm&&(decide (bE (fun e=>decide (e.nm=d.nm)) l=(i:Int))&&(decide (1≤d.ty)&&decide (d.ty≤3)))
def j8 (l:List Cd):Bool:=bi (aa9 l) 0 l&&(decide (1≤l.length)&&decide (l.length≤16))
def fD (c:Ct) (i:Nat) (t:Tb):Bool:=aA t.nm&&(decide (bE (fun u=>decide (u.nm=t.nm)) c.tbs=(i:Int))&&(j8 t.cs&&(aad c t&&(t.rfs.all (aab c t)&&t.chs.all dZ))))
def iv (c:Ct) (i:Nat) (x:Ix):Bool:=match bx c x.tb with
 | none=>false
 | some t=>bN x.cs t.cs.length&&(decide (bE (fun y=>decide (y.nm=x.nm)) c.ixs=(i:Int))&&(df c x.id||aA x.nm))
def jf (c:Ct):Bool:=bi (iv c) 0 c.ixs&&decide (c.ixs.length≤64)
def aae (c:Ct):Bool:=bi (bT Tb.id c.tbs c.nx) 0 c.tbs&&(bi (fun i x=>bT Ix.id c.ixs c.nx i x&&!(c.tbs.any fun t=>decide (t.id=x.id))) 0 c.ixs&&(decide (1≤c.nx)&&decide (c.nx≤ee)))
def abf (c:Ct):Bool:=decide (c.tbs.length≤32)&&(aae c&&(jf c&&bi (fD c) 0 c.tbs))
theorem adF (c:Ct) (t:Tb):∀ (l:List Ky) (n:Nat),gZ c t n l=bi (fun n k=>bN k.cs t.cs.length&&dF c t k n) n l
 | [],_=>rfl
 | k::r,n=>by
  rw[gZ,bi,adF c t r]
  congr 1
  unfold hJ dF
  cases iy c k.ix with
  | none=>simp
  | some x =>
   simp only[Bool.and_assoc]
   congr 3
   rw[Bool.and_comm (decide (x.cs=k.cs))]
theorem aEG (l:List Cd):j8 l=true↔l.all bR=true∧(l.map Cd.nm).Nodup∧aE l.length 1 16=true:=by
 have h:bi (aa9 l) 0 l=(l.all bR&&decide (l.map Cd.nm).Nodup):=by
  rw[← agS,← acL bR l 0,← acK]
  apply acr
  intro i x _
  simp only[aa9,bR]
  cases aA x.nm <;> cases decide (bE (fun e=>decide (e.nm=x.nm)) l=(i:Int)) <;> cases decide (1≤x.ty) <;> cases decide (x.ty≤3) <;> rfl
 unfold j8
 rw[h]
 simp only[Bool.and_eq_true,decide_eq_true_eq,aE,and_assoc]
theorem ayw (c:Ct):bi (fD c) 0 c.tbs=true↔(c.tbs.map Tb.nm).Nodup∧∀ t∈c.tbs,aA t.nm=true∧j8 t.cs=true∧aad c t=true∧t.rfs.all (aab c t)=true∧t.chs.all dZ=true:=by
 have h:bi (fD c) 0 c.tbs=(decide (c.tbs.map Tb.nm).Nodup&&c.tbs.all fun t=>aA t.nm&&(j8 t.cs&&(aad c t&&(t.rfs.all (aab c t)&&t.chs.all dZ)))):=by
  rw[← agS,← acL _ c.tbs 0,← acK]
  apply acr
  intro i x _
  simp only[fD]
  cases aA x.nm <;> cases decide (bE (fun u=>decide (u.nm=x.nm)) c.tbs=(i:Int)) <;> rfl
 rw[h]
 simp only[Bool.and_eq_true,decide_eq_true_eq,List.all_eq_true]
theorem azx (c:Ct):bi (iv c) 0 c.ixs=true↔(c.ixs.map Ix.nm).Nodup∧∀ x∈c.ixs,dC c x=true:=by
 have h:bi (iv c) 0 c.ixs=(decide (c.ixs.map Ix.nm).Nodup&&c.ixs.all (dC c)):=by
  rw[← agS,← acL _ c.ixs 0,← acK]
  apply acr
  intro i x _
  simp only[iv,dC]
  cases bx c x.tb with
  | none=>simp
  | some t =>
   dsimp only
   cases bN x.cs t.cs.length <;> cases decide (bE (fun y=>decide (y.nm=x.nm)) c.ixs=(i:Int)) <;> cases df c x.id <;> cases aA x.nm <;> rfl
 rw[h]
 simp only[Bool.and_eq_true,decide_eq_true_eq,List.all_eq_true]
theorem aGF (c:Ct):aae c=true↔dE 0 c.nx (c.tbs.map Tb.id)=true∧dE 0 c.nx (c.ixs.map Ix.id)=true∧(∀ x∈c.ixs,∀ t∈c.tbs,t.id≠x.id)∧1≤c.nx∧c.nx≤ee:=by
 unfold aae
 rw[agR,acK,agR,acL]
 simp only[Bool.and_eq_true,decide_eq_true_eq,List.all_eq_true,Bool.not_eq_true',List.any_eq_false,decide_eq_true_eq,and_assoc,ne_eq]
theorem an8 (c:Ct) (h1:dE 0 c.nx (c.tbs.map Tb.id)=true) (h2:dE 0 c.nx (c.ixs.map Ix.id)=true):(c.tbs.map Tb.id++c.ixs.map Ix.id).Nodup↔∀ x∈c.ixs,∀ t∈c.tbs,t.id≠x.id:=by
 rw[ir] at h1 h2
 have n1:(c.tbs.map Tb.id).Nodup:=h1.2.imp fun h=>by omega
 have n2:(c.ixs.map Ix.id).Nodup:=h2.2.imp fun h=>by omega
 rw[List.nodup_append]
 constructor
 .rintro⟨_,_,h⟩ x hx t ht
  exact h _ (List.mem_map_of_mem ht) _ (List.mem_map_of_mem hx)
 .intro h
  refine⟨n1,n2,fun a ha b hb=>?_⟩
  obtain⟨t,ht,rfl⟩:=List.mem_map.1 ha
  obtain⟨x,hx,rfl⟩:=List.mem_map.1 hb
  exact h x hx t ht
theorem within_iff (l:List Int) (n:Nat):bN l n=true↔l≠[]∧l.Nodup∧∀ i∈l,0≤i∧i<(n:Int):=by
 unfold bN
 simp only[Bool.and_eq_true,decide_eq_true_eq,List.all_eq_true,and_assoc,ne_eq]
def acI (l:List Int) (n:Nat) (i:Nat) (x:Int):Bool:=decide (0≤x)&&(decide (x<(n:Int))&&!decide (x∈l.take i))
theorem ap2 (l:List Int) (n:Nat):bN l n=(bi (acI l n) 0 l&&decide (0<l.length)):=by
 have h:bi (acI l n) 0 l=((l.all fun x=>decide (0≤x)&&decide (x<(n:Int)))&&decide l.Nodup):=by
  rw[← ama,← acL _ l 0,← acK]
  apply acr
  intro i x _
  simp only[acI,Bool.and_assoc]
 rw[h]
 unfold bN
 have e:decide (l≠[])=decide (0<l.length):=decide_eq_decide.2 List.length_pos_iff.symm
 rw[e]
 ac_rfl
theorem arp {c:Ct} {t:Tb} {l:List Ky} {n:Nat} (h:gZ c t n l=true) {k:Ky} (hk:k∈l):bN k.cs t.cs.length=true:=by
 rw[adF,aes] at h
 obtain⟨i,hi,rfl⟩:=List.getElem_of_mem hk
 have:=h i hi
 rw[Bool.and_eq_true] at this
 exact this.1
theorem aur {c:Ct} {t:Tb} {f:Rf} (hk:∀ o,bx c f.tb=some o→gZ c o 0 o.kys=true):aab c t f=d5 c t f:=by
 unfold aab d5
 cases ho:bx c f.tb with
 | none=>rfl
 | some o =>
  simp only
  cases hh:fF o.kys f.to with
  | false=>simp
  | true =>
   obtain⟨k,h1,h2⟩:=List.any_eq_true.1 hh
   have h2:=of_decide_eq_true h2
   have h3:=arp (hk o ho) h1
   rw[h2] at h3
   rw[h3,aeF _ _ _ _ ((within_iff _ _).1 h3).2.2]
   have e:decide (f.to.length=f.cs.length)=decide (f.cs.length=f.to.length):=decide_eq_decide.2 ⟨Eq.symm,Eq.symm⟩
   rw[e]
   cases bN f.cs t.cs.length <;> cases db t.cs o.cs f.cs f.to <;> cases decide (f.cs.length=f.to.length) <;> rfl
theorem aeS (c:Ct) (t:Tb):aad c t=true↔gZ c t 0 t.kys=true∧i8 t.kys≤1:=by
 unfold aad
 rw[← adF,Bool.and_eq_true,decide_eq_true_eq]
theorem arV (t:Tb):ig t=true↔aA t.nm=true∧j8 t.cs=true:=by
 rw[aEG]
 unfold ig
 simp only[Bool.and_eq_true,decide_eq_true_eq]
 constructor
 .rintro⟨⟨⟨a,b⟩,c⟩,d⟩;exact⟨b,a,d,c⟩
 .rintro⟨b,a,d,c⟩;exact⟨⟨⟨a,b⟩,c⟩,d⟩
theorem adv (c:Ct) (t:Tb):dJ c t=true↔aA t.nm=true∧j8 t.cs=true∧aad c t=true∧t.rfs.all (d5 c t)=true∧t.chs.all dZ=true:=by
 unfold dJ
 rw[aeS]
 simp only[Bool.and_eq_true,decide_eq_true_eq,arV]
 constructor
 .rintro⟨⟨⟨⟨⟨a,b⟩,c⟩,d⟩,e⟩,f⟩;exact⟨a,b,⟨d,c⟩,e,f⟩
 .rintro⟨a,b,⟨d,c⟩,e,f⟩;exact⟨⟨⟨⟨⟨a,b⟩,c⟩,d⟩,e⟩,f⟩
theorem aBE (c:Ct):abf c=bz c:=by
 rw[Bool.eq_iff_iff,fd]
 unfold abf jf
 rw[Bool.and_eq_true,Bool.and_eq_true,Bool.and_eq_true,Bool.and_eq_true,decide_eq_true_eq,decide_eq_true_eq,aGF,azx,ayw]
 constructor
 .rintro⟨h1,⟨i1,i2,i3,i4,i5⟩,⟨⟨x1,x2⟩,x3⟩,t1,t2⟩
  have hk:∀ nm o,bx c nm=some o→gZ c o 0 o.kys=true:=fun nm o ho=>((aeS c o).1 (t2 o (aa1 ho).1).2.2.1).1
  refine⟨h1,x3,i4,i5,t1,x1,(an8 c i1 i2).2 i3,i1,i2,fun t ht=>?_,x2⟩
  obtain⟨a,b,d,e,f⟩:=t2 t ht
  rw[adv]
  refine⟨a,b,d,?_,f⟩
  rw[List.all_eq_true] at e ⊢
  intro r hr
  rw[← aur fun o ho=>hk r.tb o ho]
  exact e r hr
 .intro h
  have h2:=fun t ht=>(adv c t).1 (h.tb t ht)
  have hk:∀ nm o,bx c nm=some o→gZ c o 0 o.kys=true:=fun nm o ho=>((aeS c o).1 (h2 o (aa1 ho).1).2.2.1).1
  refine⟨h.nt,⟨h.rt,h.ri,(an8 c h.rt h.ri).1 h.uid,h.lo,h.hi⟩,⟨⟨h.ui,h.ix⟩,h.ni⟩,h.un,fun t ht=>?_⟩
  obtain⟨a,b,d,e,f⟩:=h2 t ht
  refine⟨a,b,d,?_,f⟩
  rw[List.all_eq_true] at e ⊢
  intro r hr
  rw[aur fun o ho=>hk r.tb o ho]
  exact e r hr
theorem arx {α:Type} (p:α→Bool) (l:List α):decide (0≤bE p l)=(l.find? p).isSome:=by
 rcases jV p l with ⟨h1,h2⟩|⟨k,h,h1,h2⟩
 .rw[h1,h2];rfl
 .rw[h1,h2];exact decide_eq_true (Int.natCast_nonneg k)
theorem aMd {α:Type} (p:α→Bool) (l:List α):decide (0≤bE p l)=l.any p:=by rw[arx,aGY]
theorem aoj (l:List Cd) (s:List UInt8):(agO l s=none∧bE (fun c=>decide (c.nm=s)) l=-1)∨∃ k,agO l s=some k∧bE (fun c=>decide (c.nm=s)) l=(k:Int):=by
 have key:∀ (l:List Cd) (k:Nat),(l.findIdx? (fun c=>decide (c.nm=s))=none∧bJ (fun c=>decide (c.nm=s)) k l=-1)∨∃ j,l.findIdx? (fun c=>decide (c.nm=s))=some j∧bJ (fun c=>decide (c.nm=s)) k l=((k+j:Nat):Int):=by
  intro l
  induction l with
  | nil=>intro k;exact .inl ⟨rfl,rfl⟩
  | cons x r ih =>
   intro k
   rw[List.findIdx?_cons,bJ]
   by_cases hp:x.nm=s
   .simp only[hp,decide_true,if_true]
    exact .inr ⟨0,rfl,rfl⟩
   .simp only[hp,decide_false,Bool.false_eq_true,if_false]
    rcases ih (k+1) with ⟨h1,h2⟩|⟨j,h1,h2⟩
    .exact .inl ⟨by rw[h1];rfl,h2⟩
    .refine .inr ⟨j+1,by rw[h1];rfl,?_⟩
     rw[h2]
     congr 1
     omega
 rcases key l 0 with h|⟨j,h1,h2⟩
 .exact .inl h
 .rw[Nat.zero_add] at h2
  exact .inr ⟨j,h1,h2⟩
def kG (l:List Cd) (a:List Int) (ns:List (List UInt8)):Option (List Int):=(bC l ns).map (a++·)
theorem ajC (l:List Cd) (a:List Int):kG l a []=some a:=by simp[kG,bC]
theorem ak4 {l:List Cd} {s:List UInt8} (h:agO l s=none) (a:List Int) (r:List (List UInt8)):kG l a (s::r)=none:=by simp[kG,bC,h]
theorem ak3 {l:List Cd} {s:List UInt8} {k:Nat} (h:agO l s=some k) (a:List Int) (r:List (List UInt8)):kG l a (s::r)=kG l (a++[(k:Int)]) r:=by
 unfold kG
 rw[bC,h]
 cases bC l r with
 | none=>rfl
 | some q=>simp
theorem anQ (l:List Cd) (ns:List (List UInt8)):kG l [] ns=bC l ns:=by
 unfold kG
 cases bC l ns <;> rfl
def fO (cs:List Cd):Int→List Kd→Option (List Ky)
 | _,[]=>some []
 | id,k::r=>match bC cs k.ns,fO cs (id+1) r with
  | some l,some a=>some (⟨k.pr,l,id⟩::a)
  | _,_=>none
def eN (tb:List UInt8):Nat→List Ky→List Ix
 | _,[]=>[]
 | n,k::r=>⟨cy tb (n+1),k.ix,tb,k.cs,true⟩::eN tb (n+1) r
theorem anX (tb:List UInt8) (cs:List Cd):∀ (ks:List Kd) (n:Nat) (id:Int),kJ tb cs n id ks=(fO cs id ks).map fun a=>(a,eN tb n a)
 | [],_,_=>rfl
 | k::r,n,id=>by
  rw[kJ,fO,anX tb cs r]
  cases bC cs k.ns with
  | none=>rfl
  | some l=>cases fO cs (id+1) r <;> rfl
def aaL (cs:List Cd) (a:List Ky) (id:Int) (ks:List Kd):Option (List Ky):=(fO cs id ks).map (a++·)
theorem aly (cs:List Cd) (a:List Ky) (id:Int):aaL cs a id []=some a:=by simp[aaL,fO]
theorem an3 {cs:List Cd} {k:Kd} (h:bC cs k.ns=none) (a:List Ky) (id:Int) (r:List Kd):aaL cs a id (k::r)=none:=by simp[aaL,fO,h]
theorem an2 {cs:List Cd} {k:Kd} {l:List Int} (h:bC cs k.ns=some l) (a:List Ky) (id:Int) (r:List Kd):aaL cs a id (k::r)=aaL cs (a++[⟨k.pr,l,id⟩]) (id+1) r:=by
 unfold aaL
 rw[fO,h]
 cases fO cs (id+1) r with
 | none=>rfl
 | some q=>simp
theorem arr (cs:List Cd) (id:Int) (ks:List Kd):aaL cs [] id ks=fO cs id ks:=by
 unfold aaL
 cases fO cs id ks <;> rfl
theorem an1 {cs:List Cd}:∀ {ks:List Kd} {id:Int} {a:List Ky},fO cs id ks=some a→a.length=ks.length
 | [],_,a,h=>by cases h;rfl
 | k::r,id,a,h=>by
  unfold fO at h
  split at h
  .rename_i l q _ hq
   cases h
   rw[List.length_cons,List.length_cons,an1 hq]
  .cases h
theorem an5 (tb:List UInt8):∀ (a b:List Ky) (n:Nat),eN tb n (a++b)=eN tb n a++eN tb (n+a.length) b
 | [],b,n=>by simp[eN]
 | k::r,b,n=>by
  rw[List.cons_append,eN,eN,an5 tb r b,List.cons_append,List.length_cons,show n+(r.length+1)=n+1+r.length by omega]
def abz (c:Ct) (tb:List UInt8) (cs:List Cd) (kys:List Ky) (a:List Rf) (l:List Rd):List Rf ⊕ Int:=match eE c tb cs kys l with
 | .inl q=>.inl (a++q)
 | .inr e=>.inr e
theorem ahs (c:Ct) (tb:List UInt8) (cs:List Cd) (kys:List Ky) (a:List Rf):abz c tb cs kys a []=.inl a:=by simp[abz,eE]
theorem gH {c:Ct} {tb:List UInt8} {cs:List Cd} {kys:List Ky} {f:Rd} {e:Int} (h:cq c tb cs kys f=.inr e) (a:List Rf) (r:List Rd):abz c tb cs kys a (f::r)=.inr e:=by simp[abz,eE,h]
theorem acA {c:Ct} {tb:List UInt8} {cs:List Cd} {kys:List Ky} {f:Rd} {x:Rf} (h:cq c tb cs kys f=.inl x) (a:List Rf) (r:List Rd):abz c tb cs kys a (f::r)=abz c tb cs kys (a++[x]) r:=by
 unfold abz
 rw[eE,h]
 cases eE c tb cs kys r with
 | inr e=>rfl
 | inl q=>simp
theorem amF (c:Ct) (tb:List UInt8) (cs:List Cd) (kys:List Ky) (l:List Rd):abz c tb cs kys [] l=eE c tb cs kys l:=by
 unfold abz
 cases eE c tb cs kys l <;> rfl
theorem kE {l:List Cd} {ns:List (List UInt8)} {q:List Int} (h:bC l ns=some q):∀ i∈q,0≤i∧i<(l.length:Int):=fun i hi=>by
 obtain⟨k,h1,rfl,_⟩:=adA h i hi
 omega
def fQ (c:Ct) (s:Sm):Bool:=eW c s.tb 0 s.kys||((s.rfs.any fun f=>!decide f.ns.Nodup)||((bx c s.tb).isSome||(!decide (s.cs.map Cd.nm).Nodup||decide (1<(s.kys.filter Kd.pr).length))))
theorem azX (c:Ct) (s:Sm):fQ c s=dc c s:=by
 unfold fQ dc
 cases eW c s.tb 0 s.kys <;> cases (s.rfs.any fun f=>!decide f.ns.Nodup) <;> cases (bx c s.tb).isSome <;> cases decide (s.cs.map Cd.nm).Nodup <;> cases decide (1<(s.kys.filter Kd.pr).length) <;> rfl
def jQ (c:Ct) (tb nm:List UInt8):Ct:=⟨c.tbs.filter fun t=>decide (t.nm≠tb),c.ixs.filter fun x=>decide (x.tb≠tb)&&decide (x.nm≠nm),c.nx⟩
theorem Right.tname {c:Ct} (h:Right c) {t:Tb} (ht:t∈c.tbs):t.nm≠[]:=by
 obtain⟨h1,_⟩:=(adv c t).1 (h.tb t ht)
 exact aj7 h1
theorem Right.xname {c:Ct} (h:Right c) {x:Ix} (hx:x∈c.ixs):x.nm≠[]:=by
 have h1:=h.ix x hx
 unfold dC at h1
 split at h1
 .cases h1
 .rename_i t _
  rw[Bool.and_eq_true,Bool.or_eq_true] at h1
  rcases h1.2 with h2|h2
  .exact aj7 h2
  .obtain⟨t',ht',k,hk,hk2⟩:=iZ.1 h2
   obtain⟨_,_,h3,_⟩:=(adv c t').1 (h.tb t' ht')
   have h4:=((aeS c t').1 h3).1
   rw[adF,aes] at h4
   obtain⟨i,hi,rfl⟩:=List.getElem_of_mem hk
   have h5:=h4 i hi
   rw[Bool.and_eq_true,dF,hk2,h.byId_mem hx] at h5
   simp only[Bool.and_eq_true,decide_eq_true_eq] at h5
   rw[h5.2.2.2.1]
   unfold cy
   intro e
   have:=congrArg List.length e
   simp at this
theorem Right.xtable {c:Ct} (h:Right c) {x:Ix} (hx:x∈c.ixs):x.tb≠[]:=by
 obtain⟨t,ht⟩:=ajF (h.ix x hx)
 obtain⟨h1,h2⟩:=aa1 ht
 rw[← h2]
 exact h.tname h1
theorem aBe {c:Ct} (h:Right c) (tb:List UInt8):jQ c tb []=acX c tb:=by
 unfold jQ acX
 congr 1
 apply List.filter_congr
 intro x hx
 rw[decide_eq_true (h.xname hx),Bool.and_true]
theorem aBd {c:Ct} (h:Right c) (nm:List UInt8):jQ c [] nm=ai2 c nm:=by
 unfold jQ ai2
 congr 1
 .exact List.filter_eq_self.2 fun t ht=>decide_eq_true (h.tname ht)
 .apply List.filter_congr
  intro x hx
  rw[decide_eq_true (h.xtable hx),Bool.true_and]
theorem alT {α β:Type} [DecidableEq β] {f:α→β}:∀ {l:List α} {k:Nat} (h:k<l.length),(l.map f).Nodup→l.take k++l.drop (k+1)=l.filter fun y=>decide (f y≠f l[k])
 | x::r,0,_,hn=>by
  rw[List.map_cons,List.nodup_cons] at hn
  simp only[List.take_zero,List.nil_append,List.drop_succ_cons,List.drop_zero,List.getElem_cons_zero]
  rw[List.filter_cons_of_neg (by simp),List.filter_eq_self.2]
  intro y hy
  exact decide_eq_true fun e=>hn.1 (by rw[← e];exact List.mem_map_of_mem hy)
 | x::r,k+1,h,hn=>by
  rw[List.map_cons,List.nodup_cons] at hn
  have h':k<r.length:=by simpa using h
  rw[List.take_succ_cons,List.drop_succ_cons,List.cons_append,alT h' hn.2,List.getElem_cons_succ,List.filter_cons_of_pos]
  exact decide_eq_true fun e=>hn.1 (by rw[e];exact List.mem_map_of_mem (List.getElem_mem h'))
def LB:Nat:=1073741824
structure TbB (t:Tb):Prop where
 n:t.nm.length≤LB
 c:t.cs.length≤LB
 k:t.kys.length≤LB
 f:t.rfs.length≤LB
 h:lsW xpW t.chs≤LB
 kc:∀ k∈t.kys,k.cs.length≤LB
 fc:∀ f∈t.rfs,f.cs.length≤LB
 ft:∀ f∈t.rfs,f.to.length≤LB
 cn:∀ d∈t.cs,d.nm.length≤LB
 o:∀ e∈t.chs,d8 e
structure CtB (c:Ct):Prop where
 t:c.tbs.length≤LB
 x:c.ixs.length≤LB
 tb:∀ t∈c.tbs,TbB t
 ix:∀ x∈c.ixs,x.cs.length≤LB
 xn:∀ x∈c.ixs,x.nm.length≤4611686018427387903
theorem eA {α:Type} (w:α→Nat):∀ l:List α,(∀ x,1≤w x)→l.length<lsW w l
 | [],_=>by simp[lsW]
 | x::r,h=>by
  have h1:=h x
  have h2:=eA w r h
  simp only[lsW,List.map_cons,List.sum_cons,List.length_cons] at h2 ⊢
  omega
theorem ab1 (s:List UInt8):1≤aZ s:=by simp[aZ]
theorem aOP {t:Tb} (h:tbW t≤LB) (ho:aAB t):TbB t:=by
 unfold tbW at h
 have h1:=eA cdW t.cs fun x=>by simp[cdW]
 have h2:=eA kyW t.kys fun x=>by simp[kyW]
 have h3:=eA rfW t.rfs fun x=>by simp[rfW]
 refine⟨by simp only[aZ] at h;omega,by omega,by omega,by omega,by omega,fun k hk=>?_,fun f hf=>?_,fun f hf=>?_,fun d hd=>?_,ho.2.2.2.2.2⟩
 .have h4:=bg (w:=kyW) hk
  have h5:=eA bG k.cs fun x=>by simp[bG]
  simp only[kyW] at h4
  omega
 .have h4:=bg (w:=rfW) hf
  have h5:=eA bG f.cs fun x=>by simp[bG]
  simp only[rfW] at h4
  omega
 .have h4:=bg (w:=rfW) hf
  have h5:=eA bG f.to fun x=>by simp[bG]
  simp only[rfW] at h4
  omega
 .have h4:=bg (w:=cdW) hd
  simp only[cdW,aZ] at h4
  omega
theorem aTD {c:Ct} (h:ctW c≤LB) (ho:aUX c):CtB c:=by
 unfold ctW at h
 have h1:=eA tbW c.tbs fun x=>by simp[tbW]
 have h2:=eA ixW c.ixs fun x=>by simp[ixW]
 have hlb:LB=1073741824:=rfl
 refine⟨by omega,by omega,fun t ht=>aOP ?_ (ho.1 t ht),fun x hx=>?_,fun x hx=>?_⟩
 .have:=bg (w:=tbW) ht
  omega
 .have h4:=bg (w:=ixW) hx
  have h5:=eA bG x.cs fun x=>by simp[bG]
  simp only[ixW] at h4
  omega
 .have h4:=bg (w:=ixW) hx
  simp only[ixW,aZ] at h4
  omega
theorem aa0 (k:Nat) (h:k<10):Lib.itoa (k:Int)=[UInt8.ofNat (48+k)]:=by
 unfold Lib.itoa
 rw[if_neg (by omega),Int.toNat_natCast,Lib.decDigits_one h]
theorem ahU (n:Nat) (h:10≤n):Lib.itoa (n:Int)=Lib.itoa ((n / 10:Nat):Int)++[UInt8.ofNat (48+n % 10)]:=by
 have hd:Lib.decDigits n=Lib.decDigits (n / 10)++[UInt8.ofNat (48+n % 10)]:=by rw[Lib.decDigits,dif_neg (by omega)]
 unfold Lib.itoa
 rw[if_neg (by omega),if_neg (by omega),Int.toNat_natCast,Int.toNat_natCast,hd]
theorem aeU:∀ (m n:Nat),n≤m→(Lib.itoa (n:Int)).length≤n+1
 | 0,n,h=>by
  obtain rfl:n=0:=by omega
  rw[aa0 0 (by decide)];simp
 | m+1,n,h=>by
  by_cases h10:10≤n
  .rw[ahU n h10,List.length_append]
   have:=aeU m (n / 10) (by omega)
   simp only[List.length_cons,List.length_nil]
   omega
  .rw[aa0 n (by omega)];simp
theorem az9 (tb:List UInt8) (n:Nat):(cy tb n).length≤tb.length+n+2:=by
 unfold cy
 have:=aeU n n (Nat.le_refl _)
 simp only[List.length_append,List.length_cons,List.length_nil]
 omega
theorem ajD {tb:List UInt8} {cs:List Cd}:∀ {ks:List Kd} {n:Nat} {id:Int} {a:List Ky} {b:List Ix},kJ tb cs n id ks=some (a,b) →
  a.length=ks.length∧b.length=ks.length∧(∀ x∈a,∃ k∈ks,x.cs.length=k.ns.length)∧(∀ x∈b,∃ k∈ks,x.cs.length=k.ns.length)
 | [],n,id,a,b,h=>by
  cases h
  exact⟨rfl,rfl,fun x hx=>(by cases hx),fun x hx=>(by cases hx)⟩
 | k::r,n,id,a,b,h=>by
  unfold kJ at h
  split at h
  .rename_i l a' b' hl hr
   cases h
   obtain⟨h1,h2,h3,h4⟩:=ajD hr
   refine⟨by simp[h1],by simp[h2],fun x hx=>?_,fun x hx=>?_⟩
   .rcases List.mem_cons.1 hx with rfl|hx
    .exact⟨k,List.mem_cons_self ..,eJ hl⟩
    .obtain⟨k',h5,h6⟩:=h3 x hx
     exact⟨k',List.mem_cons_of_mem _ h5,h6⟩
   .rcases List.mem_cons.1 hx with rfl|hx
    .exact⟨k,List.mem_cons_self ..,eJ hl⟩
    .obtain⟨k',h5,h6⟩:=h4 x hx
     exact⟨k',List.mem_cons_of_mem _ h5,h6⟩
  .cases h
theorem alq {c:Ct} {tb:List UInt8} {cs:List Cd} {kys:List Ky}:∀ {l:List Rd} {q:List Rf},eE c tb cs kys l=.inl q→q.length=l.length
 | [],q,h=>by cases h;rfl
 | f::r,q,h=>by
  unfold eE at h
  split at h
  .cases h
  .split at h
   .cases h
   .rename_i p hp
    cases h
    rw[List.length_cons,List.length_cons,alq hp]
theorem alr {c:Ct} {tb:List UInt8} {cs:List Cd} {kys:List Ky} {f:Rd} {x:Rf} (h:cq c tb cs kys f=.inl x):x.cs.length=f.ns.length∧x.to.length=f.to.length:=by
 unfold cq at h
 split at h
 .cases h
 rename_i l hl
 split at h
 .cases h
 rename_i ocs okys ho
 split at h
 .cases h
 rename_i q hq
 split at h
 .cases h
 split at h
 .cases h
 split at h
 .cases h
 cases h
 exact⟨eJ hl,eJ hq⟩
theorem aLd {c:Ct} {s:Sm} (h:CtB c) (hr:Right c) (hs:smW s≤LB) (so:fz s):CtB (doA c s).1:=by
 unfold smW at hs
 have hk:∀ k∈s.kys,k.ns.length≤LB:=fun k hk=>by
  have h4:=bg (w:=kdW) hk
  have h5:=eA aZ k.ns ab1
  simp only[kdW] at h4
  omega
 have hf:∀ f∈s.rfs,f.ns.length≤LB∧f.to.length≤LB:=fun f hf=>by
  have h4:=bg (w:=rdW) hf
  have h5:=eA aZ f.ns ab1
  have h6:=eA aZ f.to ab1
  simp only[rdW] at h4
  omega
 have n1:=eA cdW s.cs fun x=>by simp[cdW]
 have n2:=eA kdW s.kys fun x=>by simp[kdW]
 have n3:=eA rdW s.rfs fun x=>by simp[rdW]
 have n4:=eA aZ s.ns ab1
 have hl:LB=1073741824:=rfl
 unfold doA
 split
 .rcases abG c s with ⟨e,_,he⟩|⟨kys,ixs,rfs,he,m⟩
  .rw[he];exact h
  .rw[he]
   obtain⟨k1,k2,k3,k4⟩:=ajD m.kk
   have r1:=alq m.mr
   have r2:=agy m.mr
   have b2:=m.b2
   have b3:=m.b3
   refine⟨?_,?_,fun t ht=>?_,fun x hx=>?_,fun x hx=>?_⟩
   .simp only[gu,List.length_append,List.length_cons,List.length_nil];omega
   .simp only[gu,List.length_append];omega
   .rcases List.mem_append.1 ht with ht|ht
    .exact h.tb t ht
    .obtain rfl:=List.mem_singleton.1 ht
     refine⟨by simp only[acj,aZ] at hs ⊢;omega,by simp only[acj];omega,by simp only[acj];omega,by simp only[acj];omega,by simp only[acj];omega,fun k hk'=>?_,fun f hf'=>?_,fun f hf'=>?_,fun d hd=>?_,so.2.2.2.2.2.2.2.2.1⟩
     .obtain⟨k',h1,h2⟩:=k3 k hk'
      rw[h2];exact hk k' h1
     .obtain⟨f',h1,h2⟩:=r2 f hf'
      rw[(alr h2).1];exact (hf f' h1).1
     .obtain⟨f',h1,h2⟩:=r2 f hf'
      rw[(alr h2).2];exact (hf f' h1).2
     .have h4:=bg (w:=cdW) hd
      simp only[cdW,aZ] at h4
      simp only[acj] at h4
      omega
   .rcases List.mem_append.1 hx with hx|hx
    .exact h.ix x hx
    .obtain⟨k',h1,h2⟩:=k4 x hx
     rw[h2];exact hk k' h1
   .rcases List.mem_append.1 hx with hx|hx
    .exact h.xn x hx
    .obtain⟨_,_,q3,_⟩:=ach m.kk
     have hm:x.nm∈ixs.map Ix.nm:=List.mem_map_of_mem hx
     rw[q3] at hm
     obtain⟨i,hi,e⟩:=List.mem_map.1 hm
     have hi:=List.mem_range.1 hi
     have:=az9 s.tb (0+i+1)
     rw[← e]
     simp only[aZ] at hs
     omega
 split
 .rcases acm c s with ⟨e,_,he⟩|⟨t,l,he,m⟩
  .rw[he];exact h
  .rw[he]
   have b1:=m.b1
   refine⟨h.t,?_,h.tb,fun x hx=>?_,fun x hx=>?_⟩
   .simp only[iW,List.length_append,List.length_cons,List.length_nil];omega
   .rcases List.mem_append.1 hx with hx|hx
    .exact h.ix x hx
    .obtain rfl:=List.mem_singleton.1 hx
     simp only[eJ m.pl]
     omega
   .rcases List.mem_append.1 hx with hx|hx
    .exact h.xn x hx
    .obtain rfl:=List.mem_singleton.1 hx
     simp only[aZ] at hs
     simp only
     omega
 .rcases aff c s with ⟨e,_,he⟩|⟨he,_⟩|⟨he,_⟩
  .rw[he];exact h
  .rw[he]
   exact⟨Nat.le_trans (List.length_filter_le ..) h.t,Nat.le_trans (List.length_filter_le ..) h.x,fun t ht=>h.tb t (List.mem_filter.1 ht).1,fun x hx=>h.ix x (List.mem_filter.1 hx).1,fun x hx=>h.xn x (List.mem_filter.1 hx).1⟩
  .rw[he]
   exact⟨h.t,Nat.le_trans (List.length_filter_le ..) h.x,h.tb,fun x hx=>h.ix x (List.mem_filter.1 hx).1,fun x hx=>h.xn x (List.mem_filter.1 hx).1⟩
def fS (c:Ct) (s:Sm):Ct×Int:=match fO s.cs (c.nx+1) s.kys with
 | none=>(c,6)
 | some kys=>match eE c s.tb s.cs kys s.rfs with
  | .inr e=>(c,e)
  | .inl rfs=>(⟨c.tbs++[⟨s.tb,c.nx,s.cs,kys,rfs,s.chs⟩],c.ixs++eN s.tb 0 kys,c.nx+1+(s.kys.length:Int)⟩,0)
theorem alW {c:Ct} {s:Sm} (h:fO s.cs (c.nx+1) s.kys=none):fS c s=(c,6):=by unfold fS;rw[h]
theorem abt {c:Ct} {s:Sm} {kys:List Ky} {e:Int} (h:fO s.cs (c.nx+1) s.kys=some kys) (h2:eE c s.tb s.cs kys s.rfs=.inr e):fS c s=(c,e):=by unfold fS;rw[h];simp only[h2]
theorem adI {c:Ct} {s:Sm} {kys:List Ky} {rfs:List Rf} (h:fO s.cs (c.nx+1) s.kys=some kys) (h2:eE c s.tb s.cs kys s.rfs=.inl rfs):fS c s=(⟨c.tbs++[⟨s.tb,c.nx,s.cs,kys,rfs,s.chs⟩],c.ixs++eN s.tb 0 kys,c.nx+1+(s.kys.length:Int)⟩,0):=by unfold fS;rw[h];simp only[h2]
theorem abX {c:Ct} {s:Sm} (h0:bz c=false∨s.kd≠1∨cd s=false):fC c s=(c,1):=by
 unfold fC
 rw[if_pos]
 simp only[Bool.or_eq_true,Bool.not_eq_true',decide_eq_true_eq]
 rcases h0 with h|h|h
 .exact .inl (.inl h)
 .exact .inl (.inr h)
 .exact .inr h
theorem aib {c:Ct} {s:Sm} (h0:bz c=true) (hk:s.kd=1) (h1:cd s=true):fC c s=(if dc c s then (c,7) else if 16<s.cs.length∨32≤c.tbs.length∨64<c.ixs.length+s.kys.length∨ee<c.nx+1+(s.kys.length:Int) then (c,18) else fS c s):=by
 unfold fC fS
 rw[h0,h1,hk,anX]
 simp only[Bool.not_true,Bool.false_or,ne_eq,not_true_eq_false,decide_false,Bool.or_self,Bool.false_eq_true,if_false]
 cases fO s.cs (c.nx+1) s.kys <;> rfl
theorem aoi {c:Ct} {s:Sm} (h0:bz c=true) (hk:s.kd=1) (h1:cd s=true) (h2:dc c s=true):fC c s=(c,7):=by rw[aib h0 hk h1,if_pos h2]
theorem jK {c:Ct} {s:Sm} (h0:bz c=true) (hk:s.kd=1) (h1:cd s=true) (h2:dc c s=false) (h3:16<s.cs.length∨32≤c.tbs.length∨64<c.ixs.length+s.kys.length∨ee<c.nx+1+(s.kys.length:Int)):fC c s=(c,18):=by
 rw[aib h0 hk h1,h2,if_neg (by decide),if_pos h3]
theorem agL {c:Ct} {s:Sm} (h0:bz c=true) (hk:s.kd=1) (h1:cd s=true) (h2:dc c s=false) (h3:¬16<s.cs.length) (h4:¬32≤c.tbs.length) (h5:¬64<c.ixs.length+s.kys.length) (h6:¬ee<c.nx+1+(s.kys.length:Int)):fC c s=fS c s:=by
 rw[aib h0 hk h1,h2,if_neg (by decide),if_neg]
 rintro (h|h|h|h)
 .exact h3 h
 .exact h4 h
 .exact h5 h
 .exact h6 h
theorem alA (tb:List UInt8) (a:List Ky) (k:Ky):eN tb 0 (a++[k])=eN tb 0 a++[⟨cy tb (a.length+1),k.ix,tb,k.cs,true⟩]:=by
 rw[an5,Nat.zero_add]
 rfl
theorem aeT (tb:List UInt8):∀ (a:List Ky) (n:Nat),(eN tb n a).length=a.length
 | [],_=>rfl
 | _::r,n=>by rw[eN,List.length_cons,aeT tb r,List.length_cons]
theorem azu (tb:List UInt8) (a:List Ky) (k:Nat) (h:k<a.length):eN tb 0 (a.take (k+1))=eN tb 0 (a.take k)++[⟨cy tb (k+1),a[k].ix,tb,a[k].cs,true⟩]:=by
 have e:a.take (k+1)=a.take k++[a[k]]:=by rw[List.take_add_one,List.getElem?_eq_getElem h];rfl
 rw[e,alA,List.length_take,Nat.min_eq_left (by omega)]
theorem aGp {c:Ct} {tb:List UInt8} {cs:List Cd} {kys:List Ky} {f:Rd} (h:bC cs f.ns=none):cq c tb cs kys f=.inr 6:=by unfold cq;rw[h]
theorem azd {c:Ct} {tb:List UInt8} {cs:List Cd} {kys:List Ky} {f:Rd} {l:List Int} (h:bC cs f.ns=some l) (ht:f.tb≠tb) (hf:bx c f.tb=none):cq c tb cs kys f=.inr 6:=by unfold cq;rw[h];simp only[if_neg ht,hf,Option.map_none]
def toT (c:Ct) (tb:List UInt8) (cs:List Cd) (kys:List Ky) (f:Rd) (ocs:List Cd) (okys:List Ky):Prop:=(f.tb=tb∧ocs=cs∧okys=kys)∨(f.tb≠tb∧∃ o,bx c f.tb=some o∧ocs=o.cs∧okys=o.kys)
theorem ard {c:Ct} {tb:List UInt8} {cs:List Cd} {kys:List Ky} {f:Rd} {l:List Int} {ocs:List Cd} {okys:List Ky} (h:bC cs f.ns=some l) (ht:toT c tb cs kys f ocs okys):cq c tb cs kys f=match bC ocs f.to with
  | none=>.inr 6
  | some to=>if l.length≠to.length then .inr 11 else if !fF okys to then .inr 21 else if !db cs ocs l to then .inr 9 else .inl ⟨l,f.tb,to⟩:=by
 unfold cq
 rw[h]
 rcases ht with ⟨h1,rfl,rfl⟩|⟨h1,o,h2,rfl,rfl⟩
 .simp only[if_pos h1]
  cases bC ocs f.to <;> rfl
 .simp only[if_neg h1,h2,Option.map_some]
  cases bC o.cs f.to <;> rfl
theorem ah7 {c:Ct} {tb:List UInt8} (h:bx c tb=none):eO c tb=(c,6):=by unfold eO;rw[h];rfl
theorem agZ {c:Ct} {tb:List UInt8} {t:Tb} (h:bx c tb=some t) (h2:(c.tbs.any fun t=>decide (t.nm≠tb)&&t.rfs.any fun f=>decide (f.tb=tb))=true):eO c tb=(c,14):=by unfold eO;rw[h,h2];rfl
theorem ah8 {c:Ct} {tb:List UInt8} {t:Tb} (h:bx c tb=some t) (h2:(c.tbs.any fun t=>decide (t.nm≠tb)&&t.rfs.any fun f=>decide (f.tb=tb))=false):eO c tb=(⟨c.tbs.filter fun t=>decide (t.nm≠tb),c.ixs.filter fun x=>decide (x.tb≠tb),c.nx⟩,0):=by unfold eO;rw[h,h2];rfl
theorem adR {c:Ct} {s:Sm} (h0:bz c=false∨s.kd≠3∨cd s=false):gw c s=(c,1):=by
 unfold gw
 rw[if_pos]
 simp only[Bool.or_eq_true,Bool.not_eq_true',decide_eq_true_eq]
 rcases h0 with h|h|h
 .exact .inl (.inl h)
 .exact .inl (.inr h)
 .exact .inr h
theorem aja {c:Ct} {s:Sm} (h0:bz c=true) (hk:s.kd=3) (h1:cd s=true):gw c s=(if s.tb≠[] then eO c s.tb
 else match c.ixs.find? fun x=>decide (x.nm=s.nm) with
  | none=>(c,6)
  | some x=>if df c x.id then (c,17) else (⟨c.tbs,c.ixs.filter fun y=>decide (y.nm≠s.nm),c.nx⟩,0)):=by
 unfold gw
 rw[h0,h1,hk]
 simp only[Bool.not_true,Bool.false_or,ne_eq,not_true_eq_false,decide_false,Bool.or_self,Bool.false_eq_true,if_false]
 rfl
theorem axd {c:Ct} {s:Sm} (h0:bz c=true) (hk:s.kd=3) (h1:cd s=true) (ht:s.tb≠[]):gw c s=eO c s.tb:=by rw[aja h0 hk h1,if_pos ht]
theorem axe {c:Ct} {s:Sm} (h0:bz c=true) (hk:s.kd=3) (h1:cd s=true) (ht:s.tb=[]) (h:(c.ixs.find? fun x=>decide (x.nm=s.nm))=none):gw c s=(c,6):=by rw[aja h0 hk h1,if_neg (fun e=>e ht),h]
theorem akk {c:Ct} {s:Sm} {x:Ix} (h0:bz c=true) (hk:s.kd=3) (h1:cd s=true) (ht:s.tb=[]) (h:(c.ixs.find? fun x=>decide (x.nm=s.nm))=some x) (h2:df c x.id=true):gw c s=(c,17):=by rw[aja h0 hk h1,if_neg (fun e=>e ht),h];simp only[h2,if_true]
theorem axf {c:Ct} {s:Sm} {x:Ix} (h0:bz c=true) (hk:s.kd=3) (h1:cd s=true) (ht:s.tb=[]) (h:(c.ixs.find? fun x=>decide (x.nm=s.nm))=some x) (h2:df c x.id=false):gw c s=(⟨c.tbs,c.ixs.filter fun y=>decide (y.nm≠s.nm),c.nx⟩,0):=by rw[aja h0 hk h1,if_neg (fun e=>e ht),h];simp only[h2,Bool.false_eq_true,if_false]
theorem aMW {l:List Ix} {nm:List UInt8} {k:Nat} (h:k<l.length) (hf:l.find? (fun x=>decide (x.nm=nm))=some l[k]):l[k].nm=nm:=by
 have:=List.find?_some hf
 exact of_decide_eq_true this
theorem gl {α:Type} {p:α→Bool} {l:List α} {k:Nat} (h:k<l.length) (hp:p l[k]=false):(l.take (k+1)).filter p=(l.take k).filter p:=by
 have e:l.take (k+1)=l.take k++[l[k]]:=by rw[List.take_add_one,List.getElem?_eq_getElem h];rfl
 rw[e,List.filter_append,List.filter_cons_of_neg (by rw[hp];decide),List.filter_nil,List.append_nil]
theorem iC {α:Type} {p:α→Bool} {l:List α} {k:Nat} (h:k<l.length) (hp:p l[k]=true):(l.take (k+1)).filter p=(l.take k).filter p++[l[k]]:=by
 have e:l.take (k+1)=l.take k++[l[k]]:=by rw[List.take_add_one,List.getElem?_eq_getElem h];rfl
 rw[e,List.filter_append,List.filter_cons_of_pos hp,List.filter_nil]
theorem aLe {c:Ct} {s:Sm} (h:bz c=false):doA c s=(c,1):=by
 unfold doA fC cB gw
 simp[h]
theorem alS {c:Ct} {s:Sm} (hc:CtB c) (hs:smW s≤LB) (so:fz s):CtB (doA c s).1:=by
 cases b:bz c
 .rw[aLe b];exact hc
 .exact aLd hc ((fd c).1 b) hs so
theorem aZW {c:Ct} (s:Sm) (h:Right c):bz (doA c s).1=true:=(fd _).2 (aeY s h)
def ct0:Ct:=⟨[],[],1⟩
theorem ada:Right ct0:=aPf
theorem alV:CtB ct0:=⟨Nat.zero_le _,Nat.zero_le _,fun _ h=>absurd h List.not_mem_nil,fun _ h=>absurd h List.not_mem_nil,fun _ h=>absurd h List.not_mem_nil⟩
def aed (s:Sm):Bool:=decide ((ky s).1≤200)
def jC (c:Ct) (s:Sm):Ct:=if aed s then (doA c s).1 else c
def apQ (l:List Sm):Prop:=l.length≤1048576∧∀ s∈l,fz s∧smW s≤1048576
theorem afc:1048576≤LB:=by decide
theorem aqj {c:Ct} {s:Sm} (hc:CtB c) (hr:Right c) (so:fz s) (hs:smW s≤1048576):CtB (jC c s)∧Right (jC c s):=by
 unfold jC
 split
 .exact⟨aLd hc hr (Nat.le_trans hs afc) so,aeY s hr⟩
 .exact⟨hc,hr⟩
theorem auB:∀ {l:List Sm} {c:Ct},CtB c→Right c→(∀ s∈l,fz s∧smW s≤1048576)→CtB (l.foldl jC c)∧Right (l.foldl jC c)
 | [],_,hc,hr,_=>⟨hc,hr⟩
 | s::r,c,hc,hr,h=>by
  obtain⟨a,b⟩:=aqj hc hr (h s (List.mem_cons_self ..)).1 (h s (List.mem_cons_self ..)).2
  show CtB (r.foldl jC (jC c s))∧Right (r.foldl jC (jC c s))
  exact auB a b fun x hx=>h x (List.mem_cons_of_mem _ hx)
theorem ah0 {n:Int} (h:0≤n∧n<100):I64 n:=by unfold I64;omega
theorem ah6 (tb nm:List UInt8):fz (fY tb nm):=by
 unfold fz fY
 refine⟨?_,trivial,trivial,?_,?_,trivial,?_,?_,?_,?_,?_,?_,?_⟩ <;> first|exact (show I64 3 from ah0 (by decide))|exact fun _ h=>absurd h List.not_mem_nil
theorem arO (tb nm:List UInt8):smW (fY tb nm)≤tb.length+nm.length+20:=by
 unfold smW fY
 simp[lsW,bG,aZ]
 omega
def exS:Sm:=⟨1,[116],[],[⟨[97],2,false⟩],[],false,[⟨false,[[97]]⟩],[],[],[],[],[],[]⟩
def exT:Tb:=⟨[116],1,[⟨[97],2,false⟩],[⟨false,[0],2⟩],[],[]⟩
def exC:Ct:=⟨[exT],[⟨[116,95,49],2,[116],[0],true⟩],3⟩
theorem aEw:cd exS=true:=rfl
theorem akh:fC ct0 exS=(exC,0):=by
 have hk:fO exS.cs (ct0.nx+1) exS.kys=some [⟨false,[0],2⟩]:=rfl
 rw[agL ((fd _).2 ada) rfl aEw rfl (by decide) (by decide) (by decide) (by decide)]
 rw[adI hk (rfl:eE ct0 exS.tb exS.cs _ exS.rfs=.inl [])]
 have e:cy [116] 1=[116,95,49]:=by
  unfold cy
  rw[aa0 1 (by decide)]
  rfl
 show ((⟨[exT],[⟨cy [116] 1,2,[116],[0],true⟩],3⟩ : Ct),(0:Int))=(exC,0)
 rw[e]
 rfl
theorem aEx:fz exS:=by
 unfold fz exS
 refine⟨?_,trivial,trivial,?_,?_,trivial,?_,?_,?_,?_,?_,?_,?_⟩
 .exact ah0 (by decide)
 .intro x hx
  obtain rfl:=List.mem_singleton.1 hx
  exact⟨trivial,ah0 (by decide),trivial⟩
 .exact fun _ h=>absurd h List.not_mem_nil
 .intro x hx
  obtain rfl:=List.mem_singleton.1 hx
  exact⟨trivial,fun _ _=>trivial⟩
 all_goals exact fun _ h=>absurd h List.not_mem_nil
theorem aof:Right exC:=by
 have h:=aeY exS ada
 have e:doA ct0 exS=(exC,0):=by unfold doA;rw[if_pos (show exS.kd=1 from rfl),akh]
 rw[e] at h
 exact h
theorem aLb:smW exS≤1048576:=by
 unfold smW exS
 simp[lsW,bG,aZ,cdW,kdW]
theorem aLc:CtB exC:=by
 have h:=alS alV (Nat.le_trans aLb afc) aEx
 have e:doA ct0 exS=(exC,0):=by unfold doA;rw[if_pos (show exS.kd=1 from rfl),akh]
 rw[e] at h
 exact h
theorem aG3:gw exC (fY [] [116,95,49])=(exC,17):=akk ((fd _).2 aof) rfl (ah9 rfl) rfl (rfl:_=some (⟨[116,95,49],2,[116],[0],true⟩ : Ix)) rfl
theorem aG2:bx exC [116]=some exT:=rfl
end Go.Tab
namespace Go.Proofs.YtjajlmjfddohfaaGreatDoor.card
open Go Go.Pe Go.Tab Go.RowKit Go.ChangeShapes Go.WideShapes Go.ChangeAt Go.Proofs.YtjajlmjfddohfaaGreatDoor
theorem own:ownKnob Tryz.prog.godebug=none:=by kernel_rfl
theorem aMa:laidOutB Tryz.prog=true:=by kernel_rfl
theorem a2e:Tryz.prog.globalNamed hY=some 0:=by kernel_rfl
theorem aGQ:(Tryz.prog.globals[0]?).map (·.type)=some 272:=by kernel_rfl
theorem aHf:Tryz.prog.cellsOf 272=20:=by kernel_rfl
theorem aHe:Tryz.prog.cellsOf 265=1:=by kernel_rfl
theorem table {W:World} {laid:List (String×DataW Unit)} (hf:(laid.filter fun x=>x.1 == hY)=[(hY,Lib.tabData .u64 Lib.pow10Tab)]) (h:laidMet Tryz.prog laid W):GT.holds W:=by
 have h2:=h.filter fun x=>x.1 == hY
 rw[hf] at h2
 exact Lib.tabIs_of_head (rest:=[]) a2e aGQ Tryz.underlying272 Tryz.underlying265 aHe aHf h2
theorem aby {H:Type} {enc:TypeId×Value→H} {W W':World} {sp:Nat→Bool}:∀ {ts:List TypeId} {vs:List Value} {ds:List (DataW H)} {ps:List MemPlace},(∀ t∈ts,Tryz.prog.readableRec t=true∧t<Tryz.prog.types.size) →
  DataW.TrodAll enc Tryz.prog W 0 (fun _=>true) true ts vs ds ps→(∀ p∈ps,W.sameAt W' p)→(∀ p∈ps,sp p.block=true)→DataW.TrodAll enc Tryz.prog W' 0 sp true ts vs ds ps
 | [],[],[],_,_,h,_,_=>h
 | _::_,_::_,_::_,_,hT,⟨p,q,h1,h2,e⟩,hs,hsp =>
  ⟨p,q,WideElems.Trod_stays aMa (hT _ (List.mem_cons.2 (.inl rfl))).1 (hT _ (List.mem_cons.2 (.inl rfl))).2 h1 (fun x hx=>hs x (by rw[e];exact List.mem_append_left _ hx)) (fun x hx=>hsp x (by rw[e];exact List.mem_append_left _ hx)),
   aby (fun t ht=>hT t (List.mem_cons.2 (.inr ht))) h2 (fun x hx=>hs x (by rw[e];exact List.mem_append_right _ hx)) (fun x hx=>hsp x (by rw[e];exact List.mem_append_right _ hx)),e⟩
theorem a2G {W:World} (h1:GT.holds W) {c:Nat} (hc:GT.blk c):c<W.heap.size:=by
 replace h1:Lib.TabIs Tryz.prog W hY .u64 Lib.pow10Tab:=h1
 replace hc:Tryz.prog.globalNamed hY=some c:=hc
 unfold Lib.TabIs World.var? at h1
 rw[hc] at h1
 simp only[Option.bind_some] at h1
 rcases Nat.lt_or_ge c W.heap.size with h3|h3
 .exact h3
 .rw[Array.getElem?_eq_none h3] at h1
  cases h1
theorem atj (hpr:PrSound Tryz.prog GT pr) {f:Nat} {xs:List X} {u:Value} (h:G1 f xs (.of (.lit u))) {fn:Func} (hfn:Tryz.prog.funcs[f]?=some fn) {W:World} (hT:GT.holds W) {m:Mem}
  (hm:∀ b o v,m b o=some v→W.cell? ⟨b,o,none⟩=some v∧v.oneCell'=true) {vs:List Value} (hvs:aP ⟨m,fun _=>none⟩ (fun _=>none) xs vs) :
  Calls Tryz.prog f vs.toArray W fun e W'=>e=.returned u∧Below W.heap.size W W':=by
 have hG:¬ ∃ c,iE ⟨m,fun _=>none⟩ (fun _=>none) c:=by
  rintro⟨c,⟨r,hr⟩|⟨t,v,e,z,n,ht,_⟩⟩
  .cases hr
  .cases ht
 have hp:Hp ⟨GT,m,iE ⟨m,fun _=>none⟩ (fun _=>none)⟩ ⟨m,fun _=>none⟩ (fun _=>none) W W []:={
  good:=⟨hT,fun c hc=>⟨a2G hT hc,fun hm=>hG ⟨c,hm⟩⟩⟩
  below:=Keeps.refl _ _
  mem:=hm
  obj:=fun r ob hr=>by simp at hr
  dom:=fun r c hr=>by cases hr
  inj:=fun r r' c hr=>by cases hr
  tok:=fun t v e z n ht=>by cases ht
  tokne:=fun t t' v e z n v' e' z' n' ht=>by cases ht
  m0:=fun c o v hv _ _=>hv}
 refine (h.sound mixed hpr fn hfn ⟨m,fun _=>none⟩ (fun _=>none) W vs hp (fun t p ht=>by cases ht) (fun r off p ht=>by cases ht) hvs).mono ?_
 rintro e W' ⟨k',ow',us,he,hp',_,_,_,_,_,hus⟩
 simp only[aP,aF,Rep] at hus
 obtain⟨v,r,rfl,⟨rfl,_⟩,rfl⟩:=hus
 refine⟨he,?_⟩
 have hb:=hp'.below
 exact⟨hb.os,hb.tape,hb.output,hb.size,fun c hc=>hb.block c hc fun hm=>hG ⟨c,hm⟩⟩
def kOf (W:World):Know:=⟨aaY W,fun _=>none⟩
theorem ahy {f:Nat} {xs:List X} {b:Bool} (h:G1 f xs (ah b)) {fn:Func} (hfn:Tryz.prog.funcs[f]?=some fn) {W:World} (hT:GT.holds W) {vs:List Value} (hvs:aP (kOf W) (fun _=>none) xs vs) :
  Calls Tryz.prog f vs.toArray W fun e W'=>e=.returned (.bool b)∧Below W.heap.size W W' :=
 atj aF3 h hfn hT (fun _ _ _ hv=>aCE hv) hvs
theorem a0J {W:World} {base:Nat} {t e:TypeId} {v:Value} (ht:Tryz.prog.underlying t=some (.slice e)) (h:Value.okWide Tryz.prog W .any base t v):v.cells.toList=[v]:=by
 obtain⟨a,len,cap,rfl⟩:=okWide_slice ht h
 rfl
def arl:DataW Unit→Array Value
 | .agg l=>(l.map fun d=>match d with
  | .lit (.int k n)=>Value.int k n
  | _=>undef).toArray
 | _=>#[]
def aj1 (vs:Array Value):Obj→Obj
 | .cells _ t frozen=>.cells vs t frozen
 | o=>o
noncomputable def jG (os:Os):World :=
 {World.holding Tryz.prog os ⟨#[],#[],[]⟩ with heap:=(((World.holding Tryz.prog os ⟨#[],#[],[]⟩).heap.modify 0 (aj1 (arl Rows.laid_internal_strconv_uint64pow10))).modify 1 (aj1 (arl Rows.laid_math_bits_deBruijn32tab))).modify 2 (aj1 (arl Rows.laid_math_bits_deBruijn64tab))}
theorem aPu {x:TypeId} (hx:Tryz.prog.readableRec x=true∧x<Tryz.prog.types.size):∀ t∈[x],Tryz.prog.readableRec t=true∧t<Tryz.prog.types.size:=by
 intro t ht
 obtain rfl:=List.mem_singleton.1 ht
 exact hx
theorem aBh {x y:TypeId} (hx:Tryz.prog.readableRec x=true∧x<Tryz.prog.types.size) (hy:Tryz.prog.readableRec y=true∧y<Tryz.prog.types.size):∀ t∈[x,y],Tryz.prog.readableRec t=true∧t<Tryz.prog.types.size:=by
 intro t ht
 simp only[List.mem_cons,List.not_mem_nil,or_false] at ht
 rcases ht with rfl|rfl
 .exact hx
 .exact hy
theorem aul:Tryz.prog.readableRec 22=true∧22<Tryz.prog.types.size:=⟨by kernel_rfl,of_decide_eq_true (by kernel_rfl)⟩
theorem aBw:Tryz.prog.readableRec 38=true∧38<Tryz.prog.types.size:=⟨by kernel_rfl,of_decide_eq_true (by kernel_rfl)⟩
theorem aZY:Tryz.prog.readableRec 27=true∧27<Tryz.prog.types.size:=⟨by kernel_rfl,of_decide_eq_true (by kernel_rfl)⟩
theorem aZZ {H:Type} {d0:DataW H} (h:Rows.uptoSmall H [d0]=true):Rows.uptoBulk d0≤1048576:=by
 have:=of_decide_eq_true h
 simp only[Rows.uptoBulkAll] at this
 omega
theorem aLf {H:Type} {d0 d1:DataW H} (h:Rows.uptoSmall H [d0,d1]=true):Rows.uptoBulk d0≤1048575∧Rows.uptoBulk d1≤1048575:=by
 have:=of_decide_eq_true h
 simp only[Rows.uptoBulkAll] at this
 have h0:=aqS d0
 have h1:=aqS d1
 omega
def arE:List TypeId:=[3,4,9,58,30,86,219,166,88,33,168,36,188,164,210,165,53,29,55,31,97,32,143,35,34,38,22,93,45,99,46,48,24,60,25,27]
theorem aEr:aIO Tryz.prog arE=true:=by kernel_rfl
section
variable {H:Type} {enc:TypeId×Value→H} {W:World} {spare:Nat→Bool} {held:Bool} {base:Nat} {v:Value} {d:DataW H} {ps:List MemPlace} {t:TypeId}
theorem ajY {fs:Array Field} (hu:Tryz.prog.underlying t=some (.struct fs)) (ht:t∈arE) (hd:DataW.Trod enc Tryz.prog W 0 spare held t v d ps) (hok:Value.okWide Tryz.prog W .any base t v):∃ g:List C,Rep (aaY W) (.agg g) v∧Pl Tryz.prog t g (Rows.uptoBulk d):=by
 obtain⟨cs,rfl,_⟩:=okWide_struct hu hok
 obtain⟨fuel,h⟩:=hd
 obtain⟨g,g1,g2,g3⟩:=amG aEr fuel t _ _ ht h
 simp only[Value.cells] at g1 g2
 exact⟨g,⟨_,rfl,g2,g1⟩,g3⟩
theorem aut {e:TypeId} (hu:Tryz.prog.underlying t=some (.slice e)) (ht:t∈arE) (hd:DataW.Trod enc Tryz.prog W 0 spare held t v d ps) (hok:Value.okWide Tryz.prog W .any base t v):∃ c:C,Rep (aaY W) c v∧Pl Tryz.prog t [c] (Rows.uptoBulk d):=by
 have hone:=a0J hu hok
 obtain⟨fuel,h⟩:=hd
 obtain⟨g,g1,g2,g3⟩:=amG aEr fuel t _ _ ht h
 rw[hone] at g1
 obtain⟨c,rfl⟩:=g3.one_inv hu
 obtain⟨u,r,e,h1,_⟩:=g1
 cases e
 exact⟨c,h1,g3⟩
theorem auo {g:List C} {m:Nat} (q:Pl Tryz.prog 38 g m) (hm:m≤1048576):∃ s,g=smC s∧fz s∧smW s≤1048576:=by
 obtain⟨s,rfl,h1,h2⟩:=aTA (m+1) g m (Nat.lt_succ_self m) q
 exact⟨s,rfl,h2,Nat.le_trans h1 hm⟩
theorem aqm {c:C} {m:Nat} (q:Pl Tryz.prog 22 [c] m) (hm:m≤1048576):∃ l,c=slC smC l∧apQ l:=by
 obtain⟨l,e,h1,h2⟩:=a2s (m+1) [c] m (Nat.lt_succ_self m) q
 obtain rfl:c=slC smC l:=by simpa [lsC] using e
 have h3:=eA smW l fun x=>by simp[smW]
 refine⟨l,rfl,by omega,fun s hs=>⟨h2 s hs,?_⟩⟩
 have:=bg (w:=smW) hs
 omega
theorem aM4 {g:List C} {m:Nat} (q:Pl Tryz.prog 27 g m) (hm:m≤1048576):∃ c,g=ctC c∧CtB c:=by
 obtain⟨c,rfl,h1,h2⟩:=a2q (m+1) g m (Nat.lt_succ_self m) q
 exact⟨c,rfl,aTD (Nat.le_trans h1 (Nat.le_trans hm afc)) h2⟩
end
end Go.Proofs.YtjajlmjfddohfaaGreatDoor.card
namespace Go.Pe
open Go Go.Tab
def ayR {α:Type} (o:Option α) (A:α→Prop) (B:Prop):Prop:=match o with
 | some a=>A a
 | none=>B
theorem anR {α:Type} (a:α) (A:α→Prop) (B:Prop):ayR (some a) A B↔A a:=Iff.rfl
theorem aLT {α:Type} {o o':Option α} (A:α→Prop) (B:Prop) (h:Unit→o=o'):ayR o A B=ayR o' A B:=by rw[h ()]
attribute [congr] aLT
def ifP (p:Prop) (A B:Prop):Prop:=(p∧A)∨(¬p∧B)
theorem aMc {p A B:Prop} (h:p):ifP p A B↔A:=by simp[ifP,h]
theorem arw (A B:Prop):ifP True A B↔A:=by simp[ifP]
theorem aQX {p p':Prop} (A B:Prop) (h:Unit→p=p'):ifP p A B=ifP p' A B:=by rw[h ()]
attribute [congr] aQX
def fp (P:Program) (pr:Pr) (f:Nat) (xs:List X) (K:An→Prop):Prop:=aG P pr f xs [] K
theorem hZ {P:Program} {pr:Pr} {f:Nat} {xs:List X} {p:Prop} {an:An} (h:p→ae P pr f xs [] an) (K:An→Prop):aG P pr f xs [] K↔ifP p (K an) (fp P pr f xs K):=by
 by_cases hp:p
 .rw[aMc hp];exact ae.k (h hp) K
 .simp only[ifP,hp,false_and,not_false_eq_true,true_and,false_or];exact Iff.rfl
theorem aVJ {α:Type} (f:α→List C) (l:List α):C.sl (fl f l) l.length=slC f l:=rfl
theorem aRQ {α:Type} (f:α→List C):fl f []=[]:=rfl
theorem dD {α:Type} (f:α→List C) (a b:List α):fl f (a++b)=fl f a++fl f b:=by simp[fl]
theorem d6 {α:Type} (f:α→List C) (a:α):fl f [a]=f a:=by simp[fl]
theorem afA {α:Type} (f:α→List C) (a:α) (l:List α):fl f (a::l)=f a++fl f l:=by simp[fl]
theorem kK {α:Type} {f:α→List C} {z:Nat} (hf:∀ x,(f x).length=z):∀ l:List α,(fl f l).length=l.length*z
 | []=>by simp[fl]
 | a::l=>by rw[afA,List.length_append,hf,kK hf l,List.length_cons,Nat.succ_mul,Nat.add_comm]
theorem am3 {α:Type} {f:α→List C} {z:Nat} (hf:∀ x,(f x).length=z):∀ (l:List α) (k:Nat),(fl f l).drop (k*z)=fl f (l.drop k)
 | l,0=>by simp
 | [],k+1=>by simp[fl]
 | a::l,k+1=>by
  rw[afA,List.drop_succ_cons,← am3 hf l k,Nat.succ_mul,Nat.add_comm,← List.drop_drop,List.drop_append_of_le_length (by rw[hf];exact Nat.le_refl _),(show (f a).drop z=[] from List.drop_of_length_le (by rw[hf];exact Nat.le_refl _)),List.nil_append]
theorem axb {α:Type} {f:α→List C} {z:Nat} (hf:∀ x,(f x).length=z):∀ (l:List α) (k:Nat),(fl f l).take (k*z)=fl f (l.take k)
 | l,0=>by simp[fl]
 | [],k+1=>by simp[fl]
 | a::l,k+1=>by
  rw[afA,List.take_succ_cons,afA,← axb hf l k,Nat.succ_mul,Nat.add_comm,List.take_append,hf,List.take_of_length_le (by rw[hf];omega)]
  congr 2
  omega
def ey {α:Type} (l:List α) (i:Int):Option α:=if 0≤i then l[i.toNat]? else none
theorem aGP {α:Type} (l:List α) (k:Nat):ey l (k:Int)=l[k]?:=by simp[ey]
theorem ap {α:Type} {l:List α} {k:Nat} (h:k<l.length):ey l (k:Int)=some l[k]:=by rw[aGP,List.getElem?_eq_getElem h]
def fv {α:Type} (o:Option α) (g:α→X):Out:=match o with
 | some a=>out (g a)
 | none=>none
theorem aBN {α:Type} (s:S) (d:Option Nat) (af:Array Edge) (K:S→Prop) (o:Option α) (g:α→X):gz s d af K (fv o g)↔ayR o (fun a=>K (s.put d (g a))) False:=by
 cases o <;> exact Iff.rfl
theorem fW {T:TT} {t e:Nat} {d:TD} (h:elemOf T t=some (e,d)) {α:Type} {f:α→List C} (hf:∀ x,(f x).length=d.size) (hz:0<d.size) (l:List α) (i:Int) :
  bF T t (.of (slC f l)) (.of (.lit (.int .i64 i)))=fv (ey l i) fun x=>.of (.ref (f x++fl f (l.drop (i.toNat+1)))):=by
 rw[aaM h (fl f l) l.length i _ rfl]
 unfold ey
 by_cases h0:0≤i
 .obtain⟨k,rfl⟩:=Int.eq_ofNat_of_zero_le h0
  rw[if_pos (Int.natCast_nonneg k)]
  simp only[Int.toNat_natCast]
  by_cases h1:k<l.length
  .rw[if_pos ⟨Int.natCast_nonneg k,by omega,kK hf l,hz⟩,List.getElem?_eq_getElem h1,am3 hf,List.drop_eq_getElem_cons h1,afA]
   rfl
  .rw[if_neg (fun h=>h1 (by omega)),List.getElem?_eq_none (by omega)]
   rfl
 .rw[if_neg (fun h=>h0 h.1),if_neg h0]
  rfl
def aa7 {α:Type} (l:List α) (lo hi:Int):Option (List α):=if 0≤lo∧lo≤hi∧hi≤l.length then some ((l.take hi.toNat).drop lo.toNat) else none
theorem anL {T:TT} {t e:Nat} {d:TD} (h:elemOf T t=some (e,d)) {α:Type} {f:α→List C} (hf:∀ x,(f x).length=d.size) (l:List α) (lo hi:Option X) (a b:Int) (ha:kM 0 lo=some a) (hb:kM (l.length:Int) hi=some b) :
  fE T t (.of (slC f l)) lo hi=fv (aa7 l a b) fun q=>.of (slC f q):=by
 have hl:=kK hf l
 unfold fE
 simp only[slC,h,jn,ha,hb]
 unfold aa7
 by_cases hc:0≤a∧a≤b∧b≤(l.length:Int)
 .rw[if_pos ⟨hc.1,hc.2.1,hc.2.2,hl⟩,if_pos hc]
  obtain⟨p,rfl⟩:=Int.eq_ofNat_of_zero_le hc.1
  obtain⟨q,rfl⟩:=Int.eq_ofNat_of_zero_le (Int.le_trans hc.1 hc.2.1)
  simp only[Int.toNat_natCast,fv]
  rw[am3 hf,axb hf,List.drop_take]
  congr 3
  simp only[List.length_take,List.length_drop]
  omega
 .rw[if_neg (fun h=>hc ⟨h.1,h.2.1,h.2.2.1⟩),if_neg hc]
  rfl
theorem aFW {T:TT} {t e:Nat} {d:TD} (h:elemOf T t=some (e,d)) {α:Type} {f:α→List C} (hf:∀ x,(f x).length=d.size) (l:List α) (a:Int):fE T t (.of (slC f l)) (some (.of (.lit (.int .i64 a)))) none=fv (aa7 l a l.length) fun q=>.of (slC f q):=anL h hf l _ _ a l.length rfl rfl
theorem ajV {T:TT} {t e:Nat} {d:TD} (h:elemOf T t=some (e,d)) {α:Type} {f:α→List C} (hf:∀ x,(f x).length=d.size) (l:List α) (b:Int):fE T t (.of (slC f l)) none (some (.of (.lit (.int .i64 b))))=fv (aa7 l 0 b) fun q=>.of (slC f q):=anL h hf l _ _ 0 b rfl rfl
theorem fj {u:Option TypeDesc} {α:Type} (f:α→List C) (l:List α) (h:apK u=true):fh u (.of (slC f l))=out (ak l.length):=by
 simp only[fh,slC,jn,h,if_true]
theorem aLH {α:Type} (f:α→List C) (l:List α):cX (.of (slC f l))=some [slC f l]:=rfl
theorem aEK {α:Type} (f:α→List C) (l:List α):bQ (.of (slC f l))=some [.of (slC f l)]:=rfl
theorem aaR {T:TT} {t e:Nat} {d:TD} (h:elemOf T t=some (e,d)) (hz:0<d.size) (hb:d.bytes≤32768) (tk tk':Tk) (cs0:List C) (n:Nat) (y:X) (cs:List C) (m:Nat) (hy:jn y=some (cs,m)) :
  dh T tk t t (.own tk' e d.size cs0 n) y=if cs.length=m*d.size∧n+m≤LIM then some (.own tk e d.size (cs0++cs) (n+m),some tk') else none:=by
 simp only[dh,adc,h,hy,if_true]
 by_cases h1:cs.length=m*d.size
 .by_cases h2:n+m≤LIM
  .simp only[h1,h2,hz,hb,and_self,if_true]
  .simp only[h1,h2,hz,and_self,if_true,false_and,and_false,if_false]
 .simp only[h1,false_and,if_false]
theorem adU {T:TT} {t e:Nat} {d:TD} (h:elemOf T t=some (e,d)) (hz:0<d.size) (hb:d.bytes≤32768) (tk:Tk) (y:X) (cs:List C) (m:Nat) (hy:jn y=some (cs,m)) :
  dh T tk t t .nil y=if cs.length=m*d.size∧m≤LIM then some (.own tk e d.size cs m,none) else none:=by
 simp only[dh,adc,h,hy,if_true]
 by_cases h1:cs.length=m*d.size
 .by_cases h2:m≤LIM
  .simp only[h1,h2,hz,hb,and_self,if_true]
  .rw[if_pos ⟨h1,hz⟩,if_neg (fun h=>h2 h.1),if_neg (fun h=>h2 h.2)]
 .simp only[h1,false_and,if_false]
theorem acq {T:TT} {t e:Nat} {d:TD} (h:elemOf T t=some (e,d)) (hz:0<d.size) (hd:d.size≤1000) (hl:d.zero.length=d.size) (tk:Tk) (xs:List X) :
  bM tk 1 (elemOf T t) (some [(0,xs)])=if xs.length=d.size then bB ((X.rds xs).map fun cs=>.own tk e d.size cs 1) else none:=by
 have h1:(dG d).length=d.size:=by simp[dG,hl]
 simp only[bM,h,Nat.one_mul,List.replicate_one,List.flatten_singleton,hz,hl,and_self,and_true]
 rw[if_pos (by omega)]
 simp only[eC,Nat.zero_mul,Nat.zero_add,h1]
 by_cases hx:xs.length=d.size
 .rw[if_pos ⟨hx,Nat.le_refl _⟩,if_pos hx]
  simp only[List.take_zero,List.nil_append]
  rw[List.drop_of_length_le (by omega),List.append_nil]
  cases X.rds xs <;> rfl
 .rw[if_neg (fun h=>hx h.1),if_neg hx]
theorem abR (l:List UInt8):(ar l).size=l.length:=by simp[ar,ByteArray.size]
theorem aEe {T:TT} {t:Nat} (hT:(T t).map (·.und)=some .string) (s:List UInt8) (i:Int):aak T t (.of (.lit (.string (ar s)))) (.of (.lit (.int .i64 i)))=fv (ey s i) fun c=>.of (.lit (.int .u8 (c.toNat:Nat))):=by
 rw[aEg hT,abR]
 unfold ey
 by_cases h0:0≤i
 .obtain⟨k,rfl⟩:=Int.eq_ofNat_of_zero_le h0
  simp only[Int.toNat_natCast,Int.natCast_nonneg,true_and,if_true]
  by_cases h1:k<s.length
  .rw[if_pos h1,List.getElem?_eq_getElem h1]
   simp only[fv,at8]
   congr 5
   show ((ar s).data.toList.getD k 0).toNat=_
   simp[ar,List.getD_eq_getElem?_getD,List.getElem?_eq_getElem h1]
  .rw[if_neg h1,List.getElem?_eq_none (by omega)]
   rfl
 .rw[if_neg (fun h=>h0 h.1),if_neg h0]
  rfl
def zE:=ai @anR @arw
def zB:=ai (ai (ai (ai (ai (ai @Nat.zero_mul @List.length_map.{0,0}) (ai @false_and @and_false)) (ai (ai @Nat.le_add_right @Nat.le_refl) (ai @Bool.or_false @Bool.false_or))) (ai (ai (ai @Bool.and_true @Bool.true_and) (ai @Bool.false_and @Bool.true_or)) (ai (ai @Bool.or_true @Option.isNone_none.{0}) (ai @Option.isNone_some.{0} (ai @List.any_cons.{0} @List.any_nil.{0}))))) (ai (ai (ai (ai @Bool.and_false @Int.cast_ofNat_Int) (ai @List.drop_succ_cons.{0} @List.take_succ_cons.{0})) (ai (ai @List.singleton_append.{0} @Nat.zero_add) (ai @List.set_cons_zero.{0} (ai @List.set_cons_succ.{0} @List.drop_nil.{0})))) (ai (ai (ai @List.take_nil.{0} @Option.map_some.{0,0}) (ai @Option.map_none.{0,0} @Option.getD_some.{0})) (ai (ai @Option.getD_none.{0} @Option.bind_some.{0,0}) (ai @List.cons_append.{0} (ai @List.nil_append.{0} @List.append_nil.{0})))))) (ai (ai (ai (ai (ai @List.map_cons.{0,0} @List.map_nil.{0,0}) (ai @List.range_zero @List.take_zero.{0})) (ai (ai @List.flatten_nil.{0} @List.filter_nil.{0}) (ai @List.length_nil.{0} @List.length_cons.{0}))) (ai (ai (ai @List.drop_zero.{0} @List.not_mem_nil.{0}) (ai @List.mem_cons.{0} @Bool.true_eq_false)) (ai (ai @Bool.false_eq_true @List.getElem?_toArray.{0}) (ai @List.toList_toArray.{0} (ai @List.getElem?_cons_zero.{0} @List.getElem?_cons_succ.{0}))))) (ai (ai (ai (ai @decide_eq_true_eq @beq_self_eq_true.{0}) (ai @beq_true @beq_false)) (ai (ai @decide_true @decide_false) (ai @Bool.not_true (ai @Bool.not_false @true_and)))) (ai (ai (ai @and_true @or_false) (ai @false_or @Bool.and_eq_true)) (ai (ai @not_false_eq_true @List.append_assoc.{0}) (ai @List.length_append.{0} (ai @Tk.nm.injEq @Tk.cell.injEq))))))
end Go.Pe

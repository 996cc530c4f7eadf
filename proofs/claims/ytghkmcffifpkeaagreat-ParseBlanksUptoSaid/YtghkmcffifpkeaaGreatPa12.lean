/- A part. Conditions: none. -/
import Derived.Test.YtghkmcffifpkeaaGreatPa11
set_option linter.all false
set_option maxRecDepth 100000
set_option maxHeartbeats 64000000
namespace Go.Tab
open Pe
inductive Lx (s:List UInt8):Nat->List Tn->Prop
 | nil {i:Nat} (h:(dJ s i).2=0) (hk:(dJ s i).1.k=0):Lx s i []
 | cons {i:Nat} {t:Tn} {L:List Tn} (h:dJ s i=(t,0)) (hk:t.k≠0) (hr:Lx s (t.pl+t.sz).toNat L):Lx s i (t::L)
theorem au0{s:List UInt8}:∀ (n:Nat) (o:List Tn) (i:Nat) (r:List Tn) (p:Int),aeA s n o i=some (r,p,0)->p=0/\∃ L,r=o++L/\Lx s i L
 | 0,_,_,_,_,h=>by cases h
 | n+1,o,i,r,p,h=>by
  unfold aeA at h
  split at h
  .rename_i e
   simp only[bF] at h
   exact absurd h.2.2 e
  .rename_i e
   have e:(dJ s i).2=0:=by simpa using e
   split at h
   .rename_i k
    cases h
    exact⟨rfl,[],by simp,.nil e k⟩
   .rename_i k
    obtain⟨hp,L,hL,q⟩:=au0 n _ _ _ _ h
    exact⟨hp,(dJ s i).1::L,by rw[hL];simp,.cons (aik rfl e) k q⟩
def aHn{s:List UInt8}{i:Nat}{L:List Tn}(h:Lx s i L):∀ (n:Nat) (o:List Tn),L.length<n->aeA s n o i=some (o++L,0,0):=by
 induction h with
 | nil h hk =>
  intro n o hn
  cases n with
  | zero=>cases hn
  | succ n=>unfold aeA;rw[aj (by simpa using h),am hk];simp
 | cons h hk hr ih =>
  intro n o hn
  cases n with
  | zero=>cases hn
  | succ n =>
   unfold aeA
   rw[h]
   rw[aj aT,aj hk,ih n _ (by simpa using hn)]
   simp
def aZp{s:List UInt8}{i:Nat}{L:List Tn}(h:Lx s i L):i<=s.length->L.length+i<=s.length:=by
 induction h with
 | nil h hk=>intro hi;simpa using hi
 | cons h hk hr ih =>
  intro hi
  rcases aiR hi h with q|⟨j,hj,q⟩
  .exact absurd q hk
  .have h1:=q.pl;have h2:=q.sz
   have:=ih aC
   simp only[aN]
   omega
def aBZ{s:List UInt8}{l:List Tn}{p:Int}(h:fL s=some (l,p,0)):s.length<=2000/\p=0/\Lx s 0 l:=by
 unfold fL at h
 split at h
 .cases h
 .obtain⟨hp,L,hL,q⟩:=au0 _ _ _ _ _ h
  rw[cj] at hL
  subst hL
  exact⟨by omega,hp,q⟩
def aCv{s:List UInt8}{l:List Tn}(hs:s.length<=2000)(h:Lx s 0 l):fL s=some (l,0,0):=by
 unfold fL
 rw[aj aC,aHn h _ _ (by have:=aZp h (aO _);omega)]
 rfl
theorem axl{α:Type}{p:α->Bool}{c:α}(hc:p c=false)(t:List α):∀ a:List α,(a++c::t).takeWhile p=a.takeWhile p
 | []=>by rw[cj,bu,hc];rfl
 | x::r=>by
  rw[cD,bu,bu]
  split
  .rw[axl hc t r]
  .rfl
theorem aPx{α:Type}{p:α->Bool}(t:List α):∀ a:List α,(∃ x∈a,p x=false)->(a++t).takeWhile p=a.takeWhile p
 | [],h=>by obtain⟨x,hx,_⟩:=h;cases hx
 | x::r,h=>by
  rw[cD,bu,bu]
  split
  .rename_i hx
   rw[aPx t r]
   obtain⟨y,hy,hq⟩:=h
   rcases bp.1 hy with e|hy
   .rw[e,hx] at hq;cases hq
   .exact⟨y,hy,hq⟩
  .rfl
theorem alk{c:UInt8}(hc:c≠39)(t:List UInt8):∀ (r:List UInt8) (q:List UInt8×Nat),aa0 r=some q->aa0 (r++c::t)=some q
 | [],_,h=>by cases h
 | [a],q,h=>by
  simp only[aa0] at h
  split at h
  .rename_i e
   show aa0 (a::c::t)=_
   simp only[aa0,am e,aj hc]
   exact h
  .cases h
 | a::b::r,q,h=>by
  simp only[aa0] at h
  show aa0 (a::b::(r++c::t))=_
  simp only[aa0]
  split at h
  .rename_i e
   rw[am e]
   split at h
   .rename_i e2
    rw[am e2]
    obtain⟨q',h1,h2⟩:=ar.1 h
    rw[alk hc t r q' h1]
    exact congrArg some h2
   .rename_i e2
    rw[aj e2]
    exact h
  .rename_i e
   rw[aj e]
   obtain⟨q',h1,h2⟩:=ar.1 h
   have:=alk hc t (b::r) q' h1
   rw[cD] at this
   rw[this]
   exact congrArg some h2
def agM{c:UInt8}(h:abk c=true):c=32\/c=9\/c=10\/c=13:=by
 unfold abk at h
 simpa using h
def aUm{c:UInt8}(hc:abk c=true)(i:Nat)(a:UInt8)(r t:List UInt8):lxG i a (r++c::t).head?=lxG i a r.head?:=by
 cases r with
 | cons b r=>rfl
 | nil =>
  show lxG i a (some c)=lxG i a none
  unfold lxG
  rcases agM hc with rfl|rfl|rfl|rfl <;> simp
def aK1{i:Nat}{l:List UInt8}{k:Tn}(h:eU i l=(k,0))(hk:k.k≠0){c:UInt8}(hc:abk c=true)(t:List UInt8):eU i (l++c::t)=(k,0):=by
 have hl:abg c=false:=by rcases agM hc with rfl|rfl|rfl|rfl <;> decide
 have hd:bQ c=false:=by rcases agM hc with rfl|rfl|rfl|rfl <;> decide
 have h39:c≠39:=by rcases agM hc with rfl|rfl|rfl|rfl <;> decide
 cases l with
 | nil=>simp only[eU,aX] at h;rw[← h.1] at hk;exact absurd rfl hk
 | cons a r =>
  rw[← h]
  show eU i (a::(r++c::t))=_
  simp only[eU] at h ⊢
  split
  .rw[show a::(r++c::t)=(a::r)++c::t from rfl,axl (by simp[hl,hd])]
  split
  .rw[show a::(r++c::t)=(a::r)++c::t from rfl,axl hd]
  split
  .rename_i e1 e2 e3
   rw[aj e1,aj e2,am e3] at h
   unfold aib at h ⊢
   split at h
   .rename_i hq
    have hm:(34:UInt8)∈r:=by simpa using hq
    rw[am (by simp[hm]),am hq,aPx _ _ ⟨34,hm,by simp⟩]
   .simp at h
  split
  .rename_i e1 e2 e3 e4
   rw[aj e1,aj e2,aj e3,am e4] at h
   unfold aiC at h ⊢
   split at h
   .simp at h
   .rename_i w n e
    rw[alk h39 t _ _ e]
  .exact aUm hc i a r t
theorem aiD(t:List UInt8):∀ (l:List UInt8) (b:Bool),(bU b l<l.length->bU b (l++10::t)=bU b l)/\(bU b l=l.length->bU b (l++10::t)=l.length+1+bU false t)
 | [],b=>by
  refine⟨λh=>by cases b <;> simp[bU] at h,λ_=>?_⟩
  cases b
  .show bU false (10::t)=_
   simp only[bU]
   rw[am aI]
   simp only[aW];omega
  .show bU true (10::t)=_
   simp only[bU]
   simp only[au,aW];omega
 | c::r,true=>by
  have h1:=aiD t r true
  have h2:=aiD t r false
  show (bU true (c::r)<_->bU true (c::(r++10::t))=_)/\(_->bU true (c::(r++10::t))=_)
  simp only[bU,aN]
  split
  .refine⟨λh=>?_,λh=>?_⟩
   .rw[h2.1 aC]
   .rw[h2.2 aC];omega
  .refine⟨λh=>?_,λh=>?_⟩
   .rw[h1.1 aC]
   .rw[h1.2 aC];omega
 | c::r,false=>by
  have h1:=aiD t r true
  have h2:=aiD t r false
  show (bU false (c::r)<_->bU false (c::(r++10::t))=_)/\(_->bU false (c::(r++10::t))=_)
  have hh:((r++10::t).head?=some 45)=(r.head?=some 45):=by
   cases r with
   | nil=>simp
   | cons b r=>rfl
  simp only[bU,aN,hh]
  split
  .refine⟨λh=>?_,λh=>?_⟩
   .rw[h2.1 aC]
   .rw[h2.2 aC];omega
  split
  .refine⟨λh=>?_,λh=>?_⟩
   .rw[h1.1 aC]
   .rw[h1.2 aC];omega
  .exact⟨λ_=>rfl,λh=>by omega⟩
def aXh{i:Nat}{l:List UInt8}(h:(eU i l).2=0)(hk:(eU i l).1.k=0):l=[]:=by
 rcases aHm (i:=i) (l:=l) (t:=(eU i l).1) (aik rfl h) with q|q
 .exact q.2
 .rcases q.k with e|e|e|e|e <;> rw[hk] at e <;> cases e
def aMz{s:List UInt8}{i:Nat}(hi:i<=s.length)(t:List UInt8){k:Tn}(h:dJ s i=(k,0))(hk:k.k≠0):dJ (s++10::t) i=(k,0):=by
 unfold dJ at h ⊢
 rw[aaI hi]
 have hlt:bU false (s.drop i)<(s.drop i).length:=by
  rcases aD (bU false (s.drop i)) (s.drop i).length with q|q
  .exact q
  .rw[ch] at q
   have hd:s.drop (i+bU false (s.drop i))=[]:=abW aC
   rw[hd] at h
   simp only[eU,aX] at h
   rw[← h.1] at hk
   exact absurd rfl hk
 rw[(aiD t _ false).1 hlt]
 rw[ch] at hlt
 rw[aaI aC]
 exact aK1 h hk aI t
def aMy{s:List UInt8}{i:Nat}(hi:i<=s.length)(t:List UInt8)(h:(dJ s i).2=0)(hk:(dJ s i).1.k=0):dJ (s++10::t) i=dJ (s++10::t) (s.length+1):=by
 have hn:=aXh h hk
 have h1:=ahI false (s.drop i)
 have h2:=List.drop_eq_nil_iff.1 hn
 have hd:(s++10::t).drop (s.length+1)=t:=by rw[List.drop_append];simp
 unfold dJ
 rw[hd,aaI hi,(aiD t _ false).2 (by rw[ch] at h1 ⊢;omega),ch]
 rw[show i+(s.length-i+1+bU false t)=s.length+1+bU false t by omega]
def aCx{s:List UInt8}{i j:Nat}{L:List Tn}(h:Lx s j L)(e:dJ s i=dJ s j):Lx s i L:=by
 cases h with
 | nil h hk=>exact .nil (by rw[e];exact h) (by rw[e];exact hk)
 | cons h hk hr=>exact .cons (by rw[e];exact h) hk hr
def aZq{s t:List UInt8}{i:Nat}{L M:List Tn}(h:Lx s i L)(hM:Lx (s++10::t) (s.length+1) M):i<=s.length->Lx (s++10::t) i (L++M):=by
 induction h with
 | nil h hk=>intro hi;exact aCx hM (aMy hi t h hk)
 | cons h hk hr ih =>
  intro hi
  refine .cons (aMz hi t h hk) hk (ih ?_)
  rcases aiR hi h with q|⟨j,hj,q⟩
  .exact absurd q hk
  .have h1:=q.pl;have h2:=q.sz;omega
def shT(d:Nat)(t:Tn):Tn:=⟨t.k,t.pl+d,t.sz,t.n,t.s⟩
def aB0(d i:Nat)(l:List UInt8):eU (d+i) l=(shT d (eU i l).1,(eU i l).2):=by
 have hb:aes (d+i)=shT d (aes i):=by simp[aes,shT,Int.add_comm]
 have hm:∀ (k sz n:Int) (s:List UInt8),(⟨k,((d+i:Nat):Int),sz,n,s⟩ : Tn)=shT d ⟨k,i,sz,n,s⟩:=λk sz n s=>by simp[shT,Int.add_comm]
 cases l with
 | nil=>simp only[eU,hb]
 | cons c r =>
  simp only[eU]
  split
  .unfold lxW;split
   .simp only[hm]
   split <;> simp only[hm,hb]
  split
  .unfold aif;split <;> simp only[hm,hb]
  split
  .unfold aib;split
   .split
    .simp only[hb]
    split <;> simp only[hm,hb]
   .simp only[hb]
  split
  .unfold aiC;split
   .simp only[hb]
   .split
    .simp only[hb]
    split <;> simp only[hm,hb]
  .unfold lxG;split
   .simp only[hm]
   split <;> simp only[hm,hb]
def atN(pre t:List UInt8)(i:Nat):dJ (pre++t) (pre.length+i)=(shT pre.length (dJ t i).1,(dJ t i).2):=by
 have hd:∀ j,(pre++t).drop (pre.length+j)=t.drop j:=λj=>by rw[List.drop_append];simp
 unfold dJ
 rw[hd,bA,hd,aB0]
def aES(pre:List UInt8){t:List UInt8}{i:Nat}{M:List Tn}(h:Lx t i M):i<=t.length->Lx (pre++t) (pre.length+i) (M.map (shT pre.length)):=by
 induction h with
 | nil h hk=>intro hi;exact .nil (by rw[atN];exact h) (by rw[atN];exact hk)
 | @cons i k L h hk hr ih =>
  intro hi
  rcases aiR hi h with q|⟨j,hj,q⟩
  .exact absurd q hk
  .have h1:=q.pl;have h2:=q.sz
   refine .cons (t:=shT pre.length k) (by rw[atN,h]) hk ?_
   have:=ih aC
   rw[show ((shT pre.length k).pl+(shT pre.length k).sz).toNat=pre.length+(k.pl+k.sz).toNat by simp only[shT];omega]
   exact this
end Go.Tab
namespace Go.Proofs.YtghkmcffifpkeaaGreat
open Pe Tab
def atd(i:Nat)(l:List UInt8):(eU i l).1.pl=(i:Int):=by
 cases l with
 | nil=>rfl
 | cons c r =>
  simp only[eU,lxW,aif,aib,aiC,lxG]
  repeat' split
  all_goals rfl
def ayj{s:List UInt8}{i:Nat}(hi:i<=s.length):0<=(dJ s i).1.pl/\(dJ s i).1.pl<=(s.length:Int):=by
 unfold dJ
 rw[atd]
 have:=ahI false (s.drop i)
 rw[ch] at this
 omega
def aIQ:Lx [] 0 []:=.nil rfl rfl
end Go.Proofs.YtghkmcffifpkeaaGreat
namespace Go.Tab
open Pe
structure LocR (d:Nat) (l m:List Tn):Prop where
 le:l.length<=m.length
 is:∀ i w,isT m (d+i) w=isT l i w
 kd:∀ i k,br m (d+i) k=br l i k
 tx:∀ i,txT m (d+i)=txT l i
 nu:∀ i,nuT m (d+i)=nuT l i
def ShR{α:Type}(d:Nat)(x y:Rz α):Prop:=∀ a j b,x=some (a,j,b)->y=some (a,d+j,b)
section
variable {α β:Type} {d:Nat} {l m:List Tn} {i j:Nat}
theorem ShR.none{y:Rz α}:ShR d none y:=λ_ _ _ h=>by cases h
theorem ShR.mk{a:α}{j':Nat}{b:Bool}(h:j'=d+j):ShR d (some (a,j,b)) (some (a,j',b)):=λ_ _ _ e=>by cases e;rw[h]
theorem ShR.on{r r':Rz α}{g:α->β}{f f':α->Nat->Rz β}(h:ShR d r r')(hf:∀ a j,ShR d (f a j) (f' a (d+j))):ShR d (r.on g f) (r'.on g f'):=by
 intro a j b e
 unfold Rz.on at e
 split at e
 .cases e
 .cases e;rw[h _ _ _ rfl];rfl
 .rw[h _ _ _ rfl];exact hf _ _ _ _ _ e
theorem ShR.to{r r':Rz α}{g:α->β}(h:ShR d r r'):ShR d (r.to g) (r'.to g):=by
 intro a j b e
 unfold Rz.to at e
 split at e
 .cases e
 .cases e;rw[h _ _ _ rfl];rfl
theorem ShR.ite{c:Prop}[Decidable c]{A B A' B':Rz α}(hA:ShR d A A')(hB:ShR d B B'):ShR d (if c then A else B) (if c then A' else B'):=by
 by_cases h:c
 .rw[am h,am h];exact hA
 .rw[aj h,aj h];exact hB
theorem aBS(E:LocR d l m)(i:Nat)(w:List UInt8):bH m (d+i) w=(d+(bH l i w).1,(bH l i w).2):=by
 unfold bH;rw[E.is];split <;> rfl
theorem ShR.wR(E:LocR d l m){w:List UInt8}{x:β}{f f':Nat->Rz β}(hf:∀ j,ShR d (f j) (f' (d+j))):ShR d (wantR (bH l i w) x f) (wantR (bH m (d+i) w) x f'):=by
 rw[aBS E]
 generalize bH l i w=p
 obtain⟨j,b⟩:=p
 cases b with
 | true=>exact .mk rfl
 | false=>exact hf j
theorem ShR.wE(E:LocR d l m){w:List UInt8}{x:β}:ShR d (wantE (bH l i w) x) (wantE (bH m (d+i) w) x):=by
 rw[aBS E];exact .mk rfl
theorem axa(E:LocR d l m):∀ (ws:List (List UInt8)) (i:Nat),dI m (d+i) ws=(d+(dI l i ws).1,(dI l i ws).2)
 | [],i=>rfl
 | w::r,i=>by
  unfold dI;rw[E.is]
  split
  .exact axa E r (i+1)
  .rfl
theorem ShR.wsR(E:LocR d l m){ws:List (List UInt8)}{x:β}{f f':Nat->Rz β}(hf:∀ j,ShR d (f j) (f' (d+j))):ShR d (wantR (dI l i ws) x f) (wantR (dI m (d+i) ws) x f'):=by
 rw[axa E]
 generalize dI l i ws=p
 obtain⟨j,b⟩:=p
 cases b with
 | true=>exact .mk rfl
 | false=>exact hf j
theorem aeG(E:LocR d l m)(i:Nat):cd m (d+i)=((cd l i).1,d+(cd l i).2.1,(cd l i).2.2):=by
 unfold cd;rw[E.kd,E.tx];split <;> rfl
theorem ShR.nR(E:LocR d l m){g:List UInt8->β}{f f':List UInt8->Nat->Rz β}(hf:∀ s j,ShR d (f s j) (f' s (d+j))):ShR d (nameR (cd l i) g f) (nameR (cd m (d+i)) g f'):=by
 rw[aeG E]
 generalize cd l i=p
 obtain⟨s,j,b⟩:=p
 cases b with
 | true=>exact .mk rfl
 | false=>exact hf s j
theorem asP(E:LocR d l m)(i:Nat):∀ ws:List (List UInt8),co m (d+i) ws=co l i ws
 | []=>rfl
 | w::r=>by unfold co;rw[E.is,asP E i r]
theorem ani(E:LocR d l m)(i:Nat):∀ so:List (List UInt8×Int),opT m (d+i) so=opT l i so
 | []=>rfl
 | (w,k)::r=>by unfold opT;rw[E.is,ani E i r]
theorem azk(E:LocR d l m)(i:Nat):aei m (d+i)=aei l i:=by unfold aei;simp only[E.is,E.kd,E.tx,E.nu]
theorem aUK(E:LocR d l m)(i:Nat):aez m (d+i)=aez l i:=asP E i _
theorem aHj(E:LocR d l m)(i:Nat):an7 m (d+i)=an7 l i:=ani E i _
theorem aCF(E:LocR d l m)(i:Nat):ac7 m (d+i)=ac7 l i:=by unfold ac7;simp only[E.is]
theorem azU(E:LocR d l m)(i:Nat):eM m (d+i)=((eM l i).1,d+(eM l i).2.1,(eM l i).2.2):=by
 unfold eM
 rw[E.is,E.kd,E.tx]
 split
 .exact aeG E (i+1)
 split <;> rfl
end
structure SF (d:Nat) (F G:Fs):Prop where
 or:∀ {i p},ShR d (F.or i p) (G.or (d+i) p)
 no:∀ {i},ShR d (F.no i) (G.no (d+i))
 un:∀ {i},ShR d (F.un i) (G.un (d+i))
 qy:∀ {i p},ShR d (F.qy i p) (G.qy (d+i) p)
 ins:∀ {i},ShR d (F.ins i) (G.ins (d+i))
 fr:∀ {i p},ShR d (F.fr i p) (G.fr (d+i) p)
 so:∀ {i},ShR d (F.so i) (G.so (d+i))
section
variable {d:Nat} {l m:List Tn} {F G:Fs}
def zS(E:LocR d l m):=ai (fX @bA E.is E.kd E.tx E.nu (asP E)) (fX (ani E) (azk E) (aUK E) (aHj E) (aCF E) (azU E))
theorem aIf(E:LocR d l m)(H:SF d F G){i:Nat}:ShR d (aid F l i) (aid G m (d+i)):=by
 unfold aid
 repeat' (first|exact .none|exact .mk rfl|exact H.ins|refine .ite ?_ ?_|refine .on ?_ λ_ _=>?_|refine .to ?_|exact .wE E|simp only[zS E,Nat.reduceAdd])
theorem aCz(E:LocR d l m)(H:SF d F G):∀ (n n':Nat),n<=n'->∀ (i:Nat) (ks:List Xp),ShR d (acM F l n ks i) (acM G m n' ks (d+i))
 | 0,_,_,_,_=>.none
 | n+1,0,h,_,_=>by omega
 | n+1,n'+1,h,i,ks=>by
  have ih:=aCz E H n n' aC
  unfold acM
  repeat' (first|exact .none|exact .mk rfl|exact H.or|exact ih _ _|refine .ite ?_ ?_|refine .on ?_ λ_ _=>?_|refine .to ?_|simp only[zS E])
theorem atT(E:LocR d l m)(H:SF d F G){i:Nat}:ShR d (aa1 F l i) (aa1 G m (d+i)):=by
 unfold aa1
 repeat' (first|exact .none|exact .mk rfl|exact H.or|exact aCz E H _ _ (by have:=E.le;omega) _ _|refine .ite ?_ ?_|refine .on ?_ λ_ _=>?_|refine .to ?_|simp only[zS E,Nat.reduceAdd])
theorem aVU(E:LocR d l m)(H:SF d F G){i:Nat}{ks:List Xp}:ShR d (af0 l ks i) (af0 m ks (d+i)):=by
 unfold af0
 repeat' (first|exact .none|exact .mk rfl|refine .ite ?_ ?_|refine .on ?_ λ_ _=>?_|refine .to ?_|exact .wE E|simp only[zS E,Nat.reduceAdd])
theorem aVS(E:LocR d l m)(H:SF d F G){i:Nat}{ks:List Xp}:ShR d (ahk F l ks i) (ahk G m ks (d+i)):=by
 unfold ahk
 repeat' (first|exact .none|exact .mk rfl|exact H.or|exact aVU E H|refine .ite ?_ ?_|refine .on ?_ λ_ _=>?_|refine .to ?_|simp only[zS E])
theorem aC6(E:LocR d l m)(H:SF d F G):∀ (n n':Nat),n<=n'->∀ (i:Nat) (ks:List Xp),ShR d (aej F l n ks i) (aej G m n' ks (d+i))
 | 0,_,_,_,_=>.none
 | n+1,0,h,_,_=>by omega
 | n+1,n'+1,h,i,ks=>by
  have ih:=aC6 E H n n' aC
  unfold aej
  repeat' (first|exact .none|exact .mk rfl|exact H.or|exact ih _ _|exact aVS E H|refine .ite ?_ ?_|refine .on ?_ λ_ _=>?_|refine .to ?_|refine .wR E λ_=>?_|simp only[zS E])
theorem aVQ(E:LocR d l m)(H:SF d F G){i:Nat}:ShR d (afZ F l i) (afZ G m (d+i)):=by
 unfold afZ
 repeat' (first|exact .none|exact .mk rfl|exact aC6 E H _ _ (by have:=E.le;omega) _ _|refine .ite ?_ ?_|refine .on ?_ λ_ _=>?_|refine .to ?_|simp only[zS E])
theorem a2H(E:LocR d l m)(H:SF d F G){i:Nat}{f:List UInt8}{di:Bool}:ShR d (ak5 F l i f di) (ak5 G m (d+i) f di):=by
 unfold ak5
 repeat' (first|exact .none|exact .mk rfl|exact H.or|refine .ite ?_ ?_|refine .on ?_ λ_ _=>?_|refine .to ?_|exact .wE E|simp only[zS E,Nat.reduceAdd])
theorem aVV(E:LocR d l m)(H:SF d F G){i:Nat}{f:List UInt8}:ShR d (callS F l i f) (callS G m (d+i) f):=by
 unfold callS
 repeat' (first|exact .none|exact .mk rfl|exact atT E H|exact a2H E H|refine .ite ?_ ?_|refine .on ?_ λ_ _=>?_|refine .to ?_|exact .wE E|simp only[zS E])
theorem aN8(E:LocR d l m)(H:SF d F G){i:Nat}:ShR d (agp F l i) (agp G m (d+i)):=by
 unfold agp
 repeat' (first|exact .none|exact .mk rfl|exact H.qy|refine .ite ?_ ?_|refine .on ?_ λ_ _=>?_|refine .to ?_|exact .wE E|refine .wR E λ_=>?_|simp only[zS E,Nat.reduceAdd])
theorem aTA(E:LocR d l m)(H:SF d F G){i:Nat}:ShR d (ae4 F l i) (ae4 G m (d+i)):=by
 unfold ae4
 rw[azk E];cases aei l i <;> dsimp only
 repeat' (first|exact .none|exact .mk rfl|exact aIf E H|exact aVQ E H|exact aVV E H|exact aN8 E H|refine .ite ?_ ?_|refine .on ?_ λ_ _=>?_|refine .to ?_|simp only[zS E]|simp only[aeG E])
theorem aHh(E:LocR d l m)(H:SF d F G){i:Nat}{p:List Xp}:ShR d (agP F l i p) (agP G m (d+i) p):=by
 cases p with
 | cons x r=>exact .mk rfl
 | nil =>
  unfold agP
  repeat' (first|exact .none|exact .mk rfl|exact H.un|exact aTA E H|refine .ite ?_ ?_|refine .on ?_ λ_ _=>?_|refine .to ?_|simp only[zS E])
theorem aIY(E:LocR d l m){nx nx':Nat->List Xp->Rz Xp}(N:∀ {i p},ShR d (nx i p) (nx' (d+i) p))(so:List (List UInt8×Int)):∀ (n n':Nat) (a:Xp) {i:Nat},n<=n'->ShR d (aer nx l so n a i) (aer nx' m so n' a (d+i))
 | 0,_,_,_,_=>.none
 | n+1,0,_,_,h=>by omega
 | n+1,n'+1,a,i,h=>by
  unfold aer
  rw[ani E]
  cases opT l i so with
  | none=>exact .mk rfl
  | some k=>exact .on N λ_ _=>aIY E N so n n' _ aC
theorem aoB(E:LocR d l m){nx nx':Nat->List Xp->Rz Xp}(N:∀ {i p},ShR d (nx i p) (nx' (d+i) p)){so:List (List UInt8×Int)}{i:Nat}{p:List Xp}:ShR d (agi nx l so i p) (agi nx' m so (d+i) p) :=
 .on N λ_ _=>aIY E N so _ _ _ (by have:=E.le;omega)
theorem aZj(E:LocR d l m)(H:SF d F G){i:Nat}{p:List Xp}:ShR d (akO F l i p) (akO G m (d+i) p):=aoB E (aHh E H)
theorem a2L(E:LocR d l m)(H:SF d F G){i:Nat}{p:List Xp}:ShR d (ak6 F l i p) (ak6 G m (d+i) p):=aoB E (aZj E H)
theorem azw(E:LocR d l m)(H:SF d F G){i:Nat}{p:List Xp}:ShR d (acr F l i p) (acr G m (d+i) p):=aoB E (a2L E H)
theorem aQo(E:LocR d l m)(H:SF d F G):∀ (n n':Nat),n<=n'->∀ (i:Nat) (a:Xp) (ks:List Xp),ShR d (inL F l a n ks i) (inL G m a n' ks (d+i))
 | 0,_,_,_,_,_=>.none
 | n+1,0,h,_,_,_=>by omega
 | n+1,n'+1,h,i,a,ks=>by
  have ih:=aQo E H n n' aC
  unfold inL
  repeat' (first|exact .none|exact .mk rfl|exact H.or|exact ih _ _ _|refine .ite ?_ ?_|refine .on ?_ λ_ _=>?_|refine .to ?_|exact .wE E|simp only[zS E])
theorem a7u(E:LocR d l m)(H:SF d F G){i:Nat}{a:Xp}:ShR d (inS F l i a) (inS G m (d+i) a):=by
 unfold inS
 repeat' (first|exact .none|exact .mk rfl|exact H.ins|exact aQo E H _ _ (by have:=E.le;omega) _ _ _|refine .ite ?_ ?_|refine .on ?_ λ_ _=>?_|refine .to ?_|exact .wE E|refine .wR E λ_=>?_|simp only[zS E,Nat.reduceAdd])
theorem aUp(E:LocR d l m)(H:SF d F G){i:Nat}{no:Bool}{a:Xp}:ShR d (ace F l no i a) (ace G m no (d+i) a):=by
 unfold ace
 repeat' (first|exact .none|exact .mk rfl|exact azw E H|exact a7u E H|refine .ite ?_ ?_|refine .on ?_ λ_ _=>?_|refine .to ?_|refine .wR E λ_=>?_|simp only[zS E])
theorem a7t(E:LocR d l m)(H:SF d F G){i:Nat}{no:Bool}{a:Xp}:ShR d (isS l no i a) (isS m no (d+i) a):=by
 unfold isS
 repeat' (first|exact .none|exact .mk rfl|refine .ite ?_ ?_|refine .on ?_ λ_ _=>?_|refine .to ?_|exact .wE E|simp only[zS E,Nat.reduceAdd])
theorem a1W(E:LocR d l m)(H:SF d F G){i:Nat}{a:Xp}:ShR d (adA F l i a) (adA G m (d+i) a):=by
 unfold adA
 rw[ani E];cases opT l i aiv <;> dsimp only
 repeat' (first|exact .none|exact .mk rfl|exact azw E H|exact aUp E H|exact a7t E H|refine .ite ?_ ?_|refine .on ?_ λ_ _=>?_|refine .to ?_|simp only[zS E])
theorem aIC(E:LocR d l m)(H:SF d F G){i:Nat}{p:List Xp}:ShR d (aeF F l i p) (aeF G m (d+i) p):=by
 unfold aeF
 repeat' (first|exact .none|exact .mk rfl|exact H.no|exact azw E H|exact a1W E H|refine .ite ?_ ?_|refine .on ?_ λ_ _=>?_|refine .to ?_|simp only[zS E])
theorem a2E(E:LocR d l m)(H:SF d F G){i:Nat}{p:List Xp}:ShR d (ak4 F l i p) (ak4 G m (d+i) p):=aoB E (aIC E H)
theorem a5y(E:LocR d l m)(H:SF d F G){i:Nat}{p:List Xp}:ShR d (orS F l i p) (orS G m (d+i) p):=aoB E (a2E E H)
theorem aZL(E:LocR d l m)(H:SF d F G){i:Nat}:ShR d (aiZ F l i) (aiZ G m (d+i)):=by
 unfold aiZ
 repeat' (first|exact .none|exact .mk rfl|exact H.or|exact H.qy|exact aIf E H|refine .ite ?_ ?_|refine .on ?_ λ_ _=>?_|refine .to ?_|simp only[zS E])
theorem aUB(E:LocR d l m)(H:SF d F G){i:Nat}:ShR d (aec F l i) (aec G m (d+i)):=by
 unfold aec
 repeat' (first|exact .none|exact .mk rfl|exact H.or|refine .ite ?_ ?_|refine .on ?_ λ_ _=>?_|refine .to ?_|simp only[zS E])
theorem alF(E:LocR d l m)(H:SF d F G){i:Nat}{w:List UInt8}:ShR d (aaS F l i w) (aaS G m (d+i) w):=by
 unfold aaS
 repeat' (first|exact .none|exact .mk rfl|exact H.or|refine .ite ?_ ?_|refine .on ?_ λ_ _=>?_|refine .to ?_|simp only[zS E])
theorem aXQ(E:LocR d l m)(H:SF d F G){i:Nat}{di:Bool}{its:List Im}{fr:List Fm}{wh:List Xp}{gr:List Xp}:ShR d (ah6 F l di its fr wh gr i) (ah6 G m di its fr wh gr (d+i)):=by
 unfold ah6
 repeat' (first|exact .none|exact .mk rfl|exact alF E H|refine .ite ?_ ?_|refine .on ?_ λ_ _=>?_|refine .to ?_|simp only[zS E,Nat.reduceAdd])
theorem aXR(E:LocR d l m)(H:SF d F G){i:Nat}{di:Bool}{its:List Im}{fr:List Fm}{wh:List Xp}:ShR d (ah7 F l di its fr wh i) (ah7 G m di its fr wh (d+i)):=by
 unfold ah7
 repeat' (first|exact .none|exact .mk rfl|exact atT E H|exact aXQ E H|refine .ite ?_ ?_|refine .on ?_ λ_ _=>?_|refine .to ?_|refine .wR E λ_=>?_|simp only[zS E])
theorem aXN(E:LocR d l m)(H:SF d F G){i:Nat}{di:Bool}{its:List Im}{fr:List Fm}:ShR d (ah5 F l di its fr i) (ah5 G m di its fr (d+i)):=by
 unfold ah5
 repeat' (first|exact .none|exact .mk rfl|exact alF E H|exact aXR E H|refine .ite ?_ ?_|refine .on ?_ λ_ _=>?_|refine .to ?_|simp only[zS E,Nat.reduceAdd])
theorem aXT(E:LocR d l m)(H:SF d F G){i:Nat}{di:Bool}{its:List Im}:ShR d (ahu F l di its i) (ahu G m di its (d+i)):=by
 unfold ahu
 repeat' (first|exact .none|exact .mk rfl|exact H.fr|exact aXN E H|refine .ite ?_ ?_|refine .on ?_ λ_ _=>?_|refine .to ?_|simp only[zS E])
theorem aHR(E:LocR d l m)(H:SF d F G):∀ (n n':Nat),n<=n'->∀ (i:Nat) (di:Bool) (its:List Im),ShR d (aga F l di n its i) (aga G m di n' its (d+i))
 | 0,_,_,_,_,_=>.none
 | n+1,0,h,_,_,_=>by omega
 | n+1,n'+1,h,i,di,its=>by
  have ih:=aHR E H n n' aC
  unfold aga
  repeat' (first|exact .none|exact .mk rfl|exact ih _ _ _|exact aUB E H|exact aXT E H|refine .ite ?_ ?_|refine .on ?_ λ_ _=>?_|refine .to ?_|simp only[zS E])
theorem aXO(E:LocR d l m)(H:SF d F G){i:Nat}:ShR d (ajO F l i) (ajO G m (d+i)):=by
 unfold ajO
 repeat' (first|exact .none|exact .mk rfl|exact aHR E H _ _ (by have:=E.le;omega) _ _ _|refine .ite ?_ ?_|refine .on ?_ λ_ _=>?_|refine .to ?_|simp only[zS E])
theorem aTT(E:LocR d l m)(H:SF d F G){i:Nat}{p:List Qy}:ShR d (acx F l i p) (acx G m (d+i) p):=by
 cases p with
 | cons x r=>exact .mk rfl
 | nil =>
  unfold acx
  repeat' (first|exact .none|exact .mk rfl|exact H.qy|exact aXO E H|refine .ite ?_ ?_|refine .on ?_ λ_ _=>?_|refine .to ?_|exact .wE E|refine .wR E λ_=>?_|simp only[zS E])
theorem aHN(E:LocR d l m){nx nx':Nat->List Qy->Rz Qy}(N:∀ {i p},ShR d (nx i p) (nx' (d+i) p))(so:List (List UInt8×Int)):∀ (n n':Nat) (a:Qy) {i:Nat},n<=n'->ShR d (adb nx l so n a i) (adb nx' m so n' a (d+i))
 | 0,_,_,_,_=>.none
 | n+1,0,_,_,h=>by omega
 | n+1,n'+1,a,i,h=>by
  unfold adb
  rw[ani E]
  cases opT l i so with
  | none=>exact .mk rfl
  | some k =>
   simp only[bA,E.is]
   refine .on ?_ λ_ _=>aHN E N so n n' _ aC
   split
   .exact N
   .exact N
theorem aHL(E:LocR d l m){nx nx':Nat->List Qy->Rz Qy}(N:∀ {i p},ShR d (nx i p) (nx' (d+i) p)){so:List (List UInt8×Int)}{i:Nat}{p:List Qy}:ShR d (ah3 nx l so i p) (ah3 nx' m so (d+i) p) :=
 .on N λ_ _=>aHN E N so _ _ _ (by have:=E.le;omega)
theorem aNs(E:LocR d l m)(H:SF d F G){i:Nat}{p:List Qy}:ShR d (aaE F l i p) (aaE G m (d+i) p):=aHL E (aTT E H)
theorem aKU(E:LocR d l m)(H:SF d F G){i:Nat}{p:List Qy}:ShR d (ah1 F l i p) (ah1 G m (d+i) p):=aHL E (aNs E H)
theorem aGs(E:LocR d l m):∀ (n n':Nat),n<=n'->∀ (i:Nat) (os:List Od),ShR d (byL l n os i) (byL m n' os (d+i))
 | 0,_,_,_,_=>.none
 | n+1,0,h,_,_=>by omega
 | n+1,n'+1,h,i,os=>by
  unfold byL
  simp only[bA,E.is,E.kd,E.tx,E.nu,asP E]
  refine .ite ?_ (.mk rfl)
  by_cases c:co l (i+1) [[97,115,99],[100,101,115,99]]=true
  .simp only[am c,bA,Nat.reduceAdd,E.is]
   exact .ite (aGs E n n' aC _ _) (.mk rfl)
  .simp only[aj c,bA,Nat.reduceAdd,E.is]
   exact .ite (aGs E n n' aC _ _) (.mk rfl)
theorem a2z(E:LocR d l m){i:Nat}:ShR d (ajY l i) (ajY m (d+i)):=.wR E λ_=>aGs E _ _ (by have:=E.le;omega) _ _
theorem aYF(E:LocR d l m)(H:SF d F G){i:Nat}{q:Qy}{od:List Od}{li:Int}:ShR d (agc l q od li i) (agc m q od li (d+i)):=by
 unfold agc
 repeat' (first|exact .none|exact .mk rfl|refine .ite ?_ ?_|refine .on ?_ λ_ _=>?_|refine .to ?_|simp only[zS E])
theorem aZt(E:LocR d l m)(H:SF d F G){i:Nat}{q:Qy}{od:List Od}:ShR d (aep l q od i) (aep m q od (d+i)):=by
 unfold aep
 repeat' (first|exact .none|exact .mk rfl|exact aYF E H|refine .ite ?_ ?_|refine .on ?_ λ_ _=>?_|refine .to ?_|simp only[zS E])
theorem aLr(E:LocR d l m)(H:SF d F G){i:Nat}{p:List Qy}:ShR d (aeD F l i p) (aeD G m (d+i) p):=by
 unfold aeD
 repeat' (first|exact .none|exact .mk rfl|exact aKU E H|exact a2z E|exact aZt E H|refine .ite ?_ ?_|refine .on ?_ λ_ _=>?_|refine .to ?_|simp only[zS E])
theorem avl(E:LocR d l m){i:Nat}{q:Qy}:ShR d (abO l i q) (abO m (d+i) q):=by
 unfold abO
 rw[azU E]
 generalize eM l i=p
 obtain⟨s,j,b⟩:=p
 exact .ite (.mk rfl) (.mk rfl)
theorem aDg(E:LocR d l m)(H:SF d F G){i:Nat}:ShR d (agL F l i) (agL G m (d+i)):=by
 unfold agL
 repeat' (first|exact .none|exact .mk rfl|exact H.so|refine .ite ?_ ?_|refine .on ?_ λ_ _=>?_|refine .to ?_|exact .wE E|simp only[zS E,Nat.reduceAdd])
theorem aHE(E:LocR d l m)(H:SF d F G){i:Nat}:ShR d (adY F l i) (adY G m (d+i)):=by
 unfold adY
 repeat' (first|exact .none|exact .mk rfl|exact avl E|exact aDg E H|refine .ite ?_ ?_|refine .on ?_ λ_ _=>?_|refine .to ?_|refine .nR E λ_ _=>?_|simp only[zS E]|simp only[aeG E])
theorem atY(E:LocR d l m)(H:SF d F G):∀ (n n':Nat),n<=n'->∀ (i:Nat) (a:Fm),ShR d (acz F l n a i) (acz G m n' a (d+i))
 | 0,_,_,_,_=>.none
 | n+1,0,h,_,_=>by omega
 | n+1,n'+1,h,i,a=>by
  have ih:=atY E H n n' aC
  unfold acz
  rw[aCF E]
  cases ac7 l i with
  | none=>exact .mk rfl
  | some p =>
   obtain⟨k,ws⟩:=p
   dsimp only
   repeat' (first|exact .none|exact .mk rfl|exact H.or|exact ih _ _|exact aHE E H|refine .ite ?_ ?_|refine .on ?_ λ_ _=>?_|refine .to ?_|refine .wR E λ_=>?_|refine .wsR E λ_=>?_|simp only[zS E])
theorem aCG(E:LocR d l m)(H:SF d F G){i:Nat}{p:List Fm}:ShR d (adT F l i p) (adT G m (d+i) p):=by
 cases p with
 | cons x r=>exact atY E H _ _ (by have:=E.le;omega) _ _
 | nil =>
  unfold adT
  repeat' (first|exact .none|exact .mk rfl|exact aHE E H|exact atY E H _ _ (by have:=E.le;omega) _ _|refine .ite ?_ ?_|refine .on ?_ λ_ _=>?_|refine .to ?_|simp only[zS E,Nat.reduceAdd])
theorem aCR(E:LocR d l m)(H:SF d F G):∀ (n n':Nat),n<=n'->∀ (i:Nat) (a:Fm),ShR d (aed F l n a i) (aed G m n' a (d+i))
 | 0,_,_,_,_=>.none
 | n+1,0,h,_,_=>by omega
 | n+1,n'+1,h,i,a=>by
  have ih:=aCR E H n n' aC
  unfold aed
  repeat' (first|exact .none|exact .mk rfl|exact ih _ _|exact aCG E H|refine .ite ?_ ?_|refine .on ?_ λ_ _=>?_|refine .to ?_|simp only[zS E])
theorem aUN(E:LocR d l m)(H:SF d F G){i:Nat}{p:List Fm}:ShR d (ahi F l i p) (ahi G m (d+i) p):=by
 unfold ahi
 repeat' (first|exact .none|exact .mk rfl|exact aCG E H|exact aCR E H _ _ (by have:=E.le;omega) _ _|refine .ite ?_ ?_|refine .on ?_ λ_ _=>?_|refine .to ?_|simp only[zS E,Nat.reduceAdd])
theorem aHG(E:LocR d l m)(H:SF d F G){i:Nat}:ShR d (ac2 F l i) (ac2 G m (d+i)):=by
 unfold ac2
 repeat' (first|exact .none|exact .mk rfl|exact H.qy|exact H.fr|exact avl E|exact aDg E H|refine .ite ?_ ?_|refine .on ?_ λ_ _=>?_|refine .to ?_|simp only[zS E])
theorem aWD(E:LocR d l m)(H:SF d F G):SF d (alq l F) (alq m G) where
 or:=a5y E H
 no {i}:=aIC E H (i:=i) (p:=[])
 un {i}:=aHh E H (i:=i) (p:=[])
 qy:=aLr E H
 ins:=aZL E H
 fr:=aUN E H
 so:=aHG E H
theorem aWE{G:Fs}:SF d apv G:=⟨.none,.none,.none,.none,.none,.none,.none⟩
theorem az2(E:LocR d l m):∀ n n',n<=n'->SF d (ahh l n) (ahh m n')
 | 0,_,_=>aWE
 | n+1,0,h=>by omega
 | n+1,n'+1,h=>aWD E (az2 E n n' aC)
theorem ayl(E:LocR d l m)(H:SF d F G):∀ (n n':Nat),n<=n'->∀ (i:Nat) (o:List (List UInt8)),ShR d (adK l n o i) (adK m n' o (d+i))
 | 0,_,_,_,_=>.none
 | n+1,0,h,_,_=>by omega
 | n+1,n'+1,h,i,o=>by
  have ih:=ayl E H n n' aC
  unfold adK
  repeat' (first|exact .none|exact .mk rfl|exact ih _ _|refine .ite ?_ ?_|refine .on ?_ λ_ _=>?_|refine .to ?_|exact .wE E|simp only[zS E])
theorem aiS(E:LocR d l m)(H:SF d F G){i:Nat}:ShR d (abt l i) (abt m (d+i)):=by
 unfold abt
 repeat' (first|exact .none|exact .mk rfl|exact ayl E H _ _ (by have:=E.le;omega) _ _|refine .ite ?_ ?_|refine .on ?_ λ_ _=>?_|refine .to ?_|refine .wR E λ_=>?_|simp only[zS E,Nat.reduceAdd])
theorem a1U(E:LocR d l m){i:Nat}:ShR d (agY l i) (agY m (d+i)):=by
 refine .nR E λs j=>?_
 rw[aHj E]
 cases an7 l j with
 | none=>exact .mk rfl
 | some k =>
  simp only[bA,E.is]
  exact .ite (.wE E) (.mk rfl)
theorem aX4(E:LocR d l m)(H:SF d F G){i:Nat}:ShR d (anc l i) (anc m (d+i)):=by
 refine .wR E λ_=>.on (aiS E H) λf j=>.wR E λ_=>.nR E λt j=>?_
 intro a q b e
 split at e
 .cases e
 .rename_i e1;cases e;rw[aiS E H _ _ _ e1]
 .rename_i e1;cases e;rw[aiS E H _ _ _ e1]
theorem a78(E:LocR d l m)(H:SF d F G){i:Nat}{s:Cr}:ShR d (elS F l i s) (elS G m (d+i) s):=by
 unfold elS
 repeat' (first|exact .none|exact .mk rfl|exact H.or|exact aiS E H|exact a1U E|exact aX4 E H|refine .ite ?_ ?_|refine .on ?_ λ_ _=>?_|refine .to ?_|exact .wE E|refine .wR E λ_=>?_|simp only[zS E])
theorem aSm(E:LocR d l m)(H:SF d F G):∀ (n n':Nat),n<=n'->∀ (i:Nat) (s:Cr),ShR d (elL F l n s i) (elL G m n' s (d+i))
 | 0,_,_,_,_=>.none
 | n+1,0,h,_,_=>by omega
 | n+1,n'+1,h,i,s=>by
  have ih:=aSm E H n n' aC
  unfold elL
  repeat' (first|exact .none|exact .mk rfl|exact ih _ _|exact a78 E H|refine .ite ?_ ?_|refine .on ?_ λ_ _=>?_|refine .to ?_|exact .wE E|simp only[zS E])
theorem aNv(E:LocR d l m)(H:SF d F G){i:Nat}{un:Bool}:ShR d (ag5 l un i) (ag5 m un (d+i)):=by
 unfold ag5
 repeat' (first|exact .none|exact .mk rfl|exact aiS E H|refine .ite ?_ ?_|refine .on ?_ λ_ _=>?_|refine .to ?_|refine .wR E λ_=>?_|refine .nR E λ_ _=>?_|simp only[zS E,Nat.reduceAdd]|simp only[aeG E])
theorem aJK(E:LocR d l m)(H:SF d F G){i:Nat}:ShR d (ac8 F l i) (ac8 G m (d+i)):=by
 unfold ac8
 repeat' (first|exact .none|exact .mk rfl|exact aSm E H _ _ (by have:=E.le;omega) _ _|exact aNv E H|refine .ite ?_ ?_|refine .on ?_ λ_ _=>?_|refine .to ?_|refine .wR E λ_=>?_|refine .nR E λ_ _=>?_|simp only[zS E]|simp only[aeG E])
theorem aVI(E:LocR d l m)(H:SF d F G){i:Nat}:ShR d (aiu l i) (aiu m (d+i)):=by
 unfold aiu
 repeat' (first|exact .none|exact .mk rfl|refine .ite ?_ ?_|refine .on ?_ λ_ _=>?_|refine .to ?_|simp only[zS E]|simp only[aeG E])
theorem aHW(E:LocR d l m)(H:SF d F G):∀ (n n':Nat),n<=n'->∀ (i:Nat) (t:List UInt8) (ns:List (List UInt8)) (rw_:List (List Xp)),ShR d (agS F l t ns n rw_ i) (agS G m t ns n' rw_ (d+i))
 | 0,_,_,_,_,_,_=>.none
 | n+1,0,h,_,_,_,_=>by omega
 | n+1,n'+1,h,i,t,ns,rw_=>by
  have ih:=aHW E H n n' aC
  unfold agS
  repeat' (first|exact .none|exact .mk rfl|exact ih _ _ _ _|exact atT E H|refine .ite ?_ ?_|refine .on ?_ λ_ _=>?_|refine .to ?_|refine .wR E λ_=>?_|simp only[zS E])
theorem aZK(E:LocR d l m)(H:SF d F G){i:Nat}{t:List UInt8}{ns:List (List UInt8)}:ShR d (agl F l t ns i) (agl G m t ns (d+i)):=by
 unfold agl
 repeat' (first|exact .none|exact .mk rfl|exact H.qy|exact aHW E H _ _ (by have:=E.le;omega) _ _ _ _|refine .ite ?_ ?_|refine .on ?_ λ_ _=>?_|refine .to ?_|simp only[zS E])
theorem aJc(E:LocR d l m)(H:SF d F G){i:Nat}:ShR d (ab2 F l i) (ab2 G m (d+i)):=by
 unfold ab2
 repeat' (first|exact .none|exact .mk rfl|exact aiS E H|exact aZK E H|refine .ite ?_ ?_|refine .on ?_ λ_ _=>?_|refine .to ?_|refine .wR E λ_=>?_|refine .nR E λ_ _=>?_|simp only[zS E]|simp only[aeG E])
theorem aKp(E:LocR d l m)(H:SF d F G):∀ (n n':Nat),n<=n'->∀ (i:Nat) (t:List UInt8) (ss:List As),ShR d (ai6 F l t n ss i) (ai6 G m t n' ss (d+i))
 | 0,_,_,_,_,_=>.none
 | n+1,0,h,_,_,_=>by omega
 | n+1,n'+1,h,i,t,ss=>by
  have ih:=aKp E H n n' aC
  unfold ai6
  repeat' (first|exact .none|exact .mk rfl|exact H.or|exact ih _ _ _|exact alF E H|refine .ite ?_ ?_|refine .on ?_ λ_ _=>?_|refine .to ?_|refine .wR E λ_=>?_|refine .nR E λ_ _=>?_|simp only[zS E]|simp only[aeG E])
theorem aHd(E:LocR d l m)(H:SF d F G){i:Nat}:ShR d (ad0 F l i) (ad0 G m (d+i)):=by
 unfold ad0
 repeat' (first|exact .none|exact .mk rfl|exact aKp E H _ _ (by have:=E.le;omega) _ _ _|refine .ite ?_ ?_|refine .on ?_ λ_ _=>?_|refine .to ?_|refine .wR E λ_=>?_|refine .nR E λ_ _=>?_|simp only[zS E,Nat.reduceAdd]|simp only[aeG E])
theorem a1L(E:LocR d l m)(H:SF d F G){i:Nat}:ShR d (anL F l i) (anL G m (d+i)):=by
 unfold anL
 repeat' (first|exact .none|exact .mk rfl|exact alF E H|refine .ite ?_ ?_|refine .on ?_ λ_ _=>?_|refine .to ?_|refine .wR E λ_=>?_|refine .nR E λ_ _=>?_|simp only[zS E,Nat.reduceAdd]|simp only[aeG E])
theorem aCd(E:LocR d l m)(H:SF d F G){i:Nat}:ShR d (abq F l i) (abq G m (d+i)):=by
 unfold abq
 rw[ani E];cases opT l i afd <;> dsimp only
 repeat' (first|exact .none|exact .mk rfl|exact H.qy|exact aJK E H|exact aVI E H|exact aJc E H|exact aHd E H|exact a1L E H|refine .ite ?_ ?_|refine .on ?_ λ_ _=>?_|refine .to ?_|simp only[zS E])
end
end Go.Tab
namespace Go.Proofs.YtghkmcffifpkeaaGreat
open Pe Tab
def al4(l:List Xp):Prop:=G1 36 [.of (slC xpC l),.of (slC xpC l)] (aL true)
def aug(l:List Qy):Prop:=G1 37 [.of (slC qyC l),.of (slC qyC l)] (aL true)
def a3e(l:List Im):Prop:=G1 42 [.of (slC imC l),.of (slC imC l)] (aL true)
def aO1(l:List Fm):Prop:=G1 43 [.of (slC fmC l),.of (slC fmC l)] (aL true)
def aDB:=fZ @Tryz.f36.eq_1 @zq @bcF @aGf @bG @fq @zT0 (kf a0Z)
def aDA:=fZ @Tryz.f37.eq_1 @zq @bcE @a2n @ep @fC @zT0 (kf a0Y)
def baw:=ai (fZ @zq @a6W @a6V @aF7 @aF6 @ajr @bG @ep) (fZ @P3 @Q3 @P9 @Q9 @P4 @Q4 @zT0 (kf a1b))
def arJ(a:Xp)(i0:al4 a.ks)(i1:aug a.sb):G1 13 [.of (.agg (xpC a)),.of (.agg (xpC a))] (aL true):=by
 have k0:=λK=>aH.k i0 K
 have k1:=λK=>aH.k i1 K
 refine bB a1b ?_
 simp only[Tryz.f13,↓zA,sevalprocAttr,baw,k0,k1,aeU]
def amd(l:List Xp)(hl:l.length<=4611686018427387903)(h:∀ x∈l,G1 13 [.of (.agg (xpC x)),.of (.agg (xpC x))] (aL true)):G1 36 [.of (slC xpC l),.of (slC xpC l)] (aL true):=by
 refine bB a0Z ?_
 simp only[↓zA,sevalprocAttr,aDB]
 refine aas l.length (λk s=>s.fr 0=.of (slC xpC l)/\s.fr 1=.of (slC xpC l)/\s.fr 5=aQ k/\s.objs=[]) ?_ ?_
 .simp only[↓zA,sevalprocAttr,aDB]
  try exact rfl
 .rintro k ⟨fr,ob,ck⟩ hk ⟨f0,f1,f5,ho⟩
  dsimp only at f0 f1 f5 ho
  by_cases d:k<l.length
  .have hw:=er k aC
   have gx:=dN d
   have kx:=λK=>aH.k (h l[k] (cC d)) K
   generalize l[k]=x at *
   simp only[↓zA,sevalprocAttr,aDB,f0,f1,f5,ho,aV,d,gx,hw,kx]
  .simp only[↓zA,sevalprocAttr,aDB,f0,f1,f5,ho,aV,d]
def akG(l:List Qy)(hl:l.length<=4611686018427387903)(h:∀ x∈l,G1 16 [.of (.agg (qyC x)),.of (.agg (qyC x))] (aL true)):G1 37 [.of (slC qyC l),.of (slC qyC l)] (aL true):=by
 refine bB a0Y ?_
 simp only[↓zA,sevalprocAttr,aDA]
 refine aas l.length (λk s=>s.fr 0=.of (slC qyC l)/\s.fr 1=.of (slC qyC l)/\s.fr 5=aQ k/\s.objs=[]) ?_ ?_
 .simp only[↓zA,sevalprocAttr,aDA]
  try exact rfl
 .rintro k ⟨fr,ob,ck⟩ hk ⟨f0,f1,f5,ho⟩
  dsimp only at f0 f1 f5 ho
  by_cases d:k<l.length
  .have hw:=er k aC
   have gx:=dN d
   have kx:=λK=>aH.k (h l[k] (cC d)) K
   generalize l[k]=x at *
   simp only[↓zA,sevalprocAttr,aDA,f0,f1,f5,ho,aV,d,gx,hw,kx]
  .simp only[↓zA,sevalprocAttr,aDA,f0,f1,f5,ho,aV,d]
def aDx:=fY @Tryz.f44.eq_1 @zq @bcB @ahd @ajs @zT0 (kf a0V)
def arF(l:List Od)(hl:l.length<=4611686018427387903)  : G1 44 [.of (slC odC l),.of (slC odC l)] (aL true):=by
 refine bB a0V ?_
 simp only[↓zA,sevalprocAttr,aDx]
 refine aas l.length (λk s=>s.fr 0=.of (slC odC l)/\s.fr 1=.of (slC odC l)/\s.fr 5=aQ k/\s.objs=[]) ?_ ?_
 .simp only[↓zA,sevalprocAttr,aDx]
  try exact rfl
 .rintro k ⟨fr,ob,ck⟩ hk ⟨f0,f1,f5,ho⟩
  dsimp only at f0 f1 f5 ho
  by_cases d:k<l.length
  .have hw:=er k aC
   have gx:=dN d
   generalize l[k]=x at *
   simp only[↓zA,sevalprocAttr,aDx,f0,f1,f5,ho,aV,d,gx,hw,avg]
  .simp only[↓zA,sevalprocAttr,aDx,f0,f1,f5,ho,aV,d]
def aDz:=ai (fY @Tryz.f42.eq_1 @zq @bcC @aGf @bG @acv @ahr) (fX @P4 @Q4 @P9 @Q9 @zT0 (kf a0X))
def atA(l:List Im)(hl:l.length<=4611686018427387903)(h:∀ x∈l,G1 13 [.of (.agg (xpC x.e)),.of (.agg (xpC x.e))] (aL true)):G1 42 [.of (slC imC l),.of (slC imC l)] (aL true):=by
 refine bB a0X ?_
 simp only[↓zA,sevalprocAttr,aDz]
 refine aas l.length (λk s=>s.fr 0=.of (slC imC l)/\s.fr 1=.of (slC imC l)/\s.fr 5=aQ k/\s.objs=[]) ?_ ?_
 .simp only[↓zA,sevalprocAttr,aDz]
  try exact rfl
 .rintro k ⟨fr,ob,ck⟩ hk ⟨f0,f1,f5,ho⟩
  dsimp only at f0 f1 f5 ho
  by_cases d:k<l.length
  .have hw:=er k aC
   have gx:=dN d
   have kx:=λK=>aH.k (h l[k] (cC d)) K
   generalize l[k]=x at *
   simp only[↓zA,sevalprocAttr,aDz,f0,f1,f5,ho,aV,d,gx,hw,kx,bd]
  .simp only[↓zA,sevalprocAttr,aDz,f0,f1,f5,ho,aV,d]
def aDy:=ai (gh @Tryz.f43.eq_1 @zq @bcD @a6U @a6T @aF6 @a2i @aF7 @eG) (gh @ep @bG @acC @P3 @Q3 @P9 @Q9 @zT0 (kf a0W))
def atB(l:List Fm)(hl:l.length<=4611686018427387903)(h1:∀ x∈l,aug x.sb)(h2:∀ x∈l,aO1 x.ks)(h3:∀ x∈l,al4 x.on):G1 43 [.of (slC fmC l),.of (slC fmC l)] (aL true):=by
 refine bB a0W ?_
 simp only[↓zA,sevalprocAttr,aDy]
 refine aas l.length (λk s=>s.fr 0=.of (slC fmC l)/\s.fr 1=.of (slC fmC l)/\s.fr 5=aQ k/\s.objs=[]) ?_ ?_
 .simp only[↓zA,sevalprocAttr,aDy]
  try exact rfl
 .rintro k ⟨fr,ob,ck⟩ hk ⟨f0,f1,f5,ho⟩
  dsimp only at f0 f1 f5 ho
  by_cases d:k<l.length
  .have hw:=er k aC
   have gx:=dN d
   have k1:=λK=>aH.k (h1 l[k] (cC d)) K
   have k2:=λK=>aH.k (h2 l[k] (cC d)) K
   have k3:=λK=>aH.k (h3 l[k] (cC d)) K
   generalize l[k]=x at *
   simp only[↓zA,sevalprocAttr,aDy,f0,f1,f5,ho,aV,d,gx,hw,k1,k2,k3,bd]
  .simp only[↓zA,sevalprocAttr,aDy,f0,f1,f5,ho,aV,d]
def bau:=fU (fY @zq @a6S @a6R @aF6 @bdX @a2i @bdW) (fY @aF7 @ep @acv @eG @ahd @bG @P3) (fW @Q3 @P4 @Q4 @zT0 (kf a09))
def aqr(a:Qy)(hl:a.od.length<=4611686018427387903)(i0:aug a.ks)(i1:a3e a.its)(i2:aO1 a.fr)(i3:al4 a.wh)(i4:al4 a.gr)(i5:al4 a.hv):G1 16 [.of (.agg (qyC a)),.of (.agg (qyC a))] (aL true):=by
 have k0:=λK=>aH.k i0 K
 have k1:=λK=>aH.k i1 K
 have k2:=λK=>aH.k i2 K
 have k3:=λK=>aH.k i3 K
 have k4:=λK=>aH.k i4 K
 have k5:=λK=>aH.k i5 K
 have k6:=λK=>aH.k (arF a.od hl) K
 refine bB a09 ?_
 simp only[Tryz.f16,↓zA,sevalprocAttr,bau,k0,k1,k2,k3,k4,k5,k6,bd]
theorem aj6:∀ n,n<=WL->(∀ a,xpW a<=n->G1 13 [.of (.agg (xpC a)),.of (.agg (xpC a))] (aL true))/\(∀ a,qyW a<=n->G1 16 [.of (.agg (qyC a)),.of (.agg (qyC a))] (aL true))/\(∀ l,lsW fmW l<=n->aO1 l)
 | 0,_=>⟨λe h=>by have:=afS e;omega,λe h=>by have:=aia e;omega,λl h=>by simp[lsW] at h⟩
 | n+1,hn=>by
  obtain⟨i1,i2,i3⟩:=aj6 n aC
  have hn':n+1<=1152921504606846976:=hn
  have sX:∀ l:List Xp,lsW xpW l<=n+1->al4 l:=λl h=>amd l (by have:=dt xpW l (λx _=>afS x);omega) (λx hx=>i1 x (by have:=cX (w:=xpW) hx;omega))
  have sQ:∀ l:List Qy,lsW qyW l<=n+1->aug l:=λl h=>akG l (by have:=dt qyW l (λx _=>aia x);omega) (λx hx=>i2 x (by have:=cX (w:=qyW) hx;omega))
  have sI:∀ l:List Im,lsW imW l<=n+1->a3e l:=λl h=>atA l (by have:=dt imW l (λx _=>aki x);omega) (λx hx=>i1 x.e (by have:=cX (w:=imW) hx;have:=akU x;omega))
  refine⟨λe h=>?_,λe h=>?_,λl h=>?_⟩
  .have h':=ajt e
   exact arJ e (sX _ aC) (sQ _ aC)
  .have h':=ah9 e
   exact aqr e (by have:=dt odW e.od (λx _=>by simp[odW]);omega) (sQ _ aC) (sI _ aC) (i3 _ aC) (sX _ aC) (sX _ aC) (sX _ aC)
  .refine atB l (by have:=dt fmW l (λx _=>agI x);omega) (λx hx=>sQ _ ?_) (λx hx=>i3 _ ?_) (λx hx=>sX _ ?_) <;> (have h1:=cX (w:=fmW) hx;have h2:=agn x;omega)
def aDw:=fZ @Tryz.f49.eq_1 @zq @bcA @bO @P9 @Q9 @zT0 (kf a0U)
def atC(l:List (List UInt8))(hl:l.length<=4611686018427387903):G1 49 [.of (slC bI l),.of (slC bI l)] (aL true):=by
 refine bB a0U ?_
 simp only[↓zA,sevalprocAttr,aDw]
 refine aas l.length (λk s=>s.fr 0=.of (slC bI l)/\s.fr 1=.of (slC bI l)/\s.fr 5=aQ k/\s.objs=[]) ?_ ?_
 .simp only[↓zA,sevalprocAttr,aDw]
  try exact rfl
 .rintro k ⟨fr,ob,ck⟩ hk ⟨f0,f1,f5,ho⟩
  dsimp only at f0 f1 f5 ho
  by_cases d:k<l.length
  .have hw:=er k aC
   have gx:=dN d
   generalize l[k]=x at *
   simp only[↓zA,sevalprocAttr,aDw,f0,f1,f5,ho,aV,d,gx,hw]
  .simp only[↓zA,sevalprocAttr,aDw,f0,f1,f5,ho,aV,d]
abbrev smL(a:Sm):List C:=[ci a.kd,aJ (aK a.tb),aJ (aK a.nm),slC cdC a.cs,slC bI a.ns,cb a.un,slC kdC a.kys,slC rdC a.rfs,slC xpC a.chs,slC (lsC xpC) a.rws,slC asC a.sts,slC xpC a.wh,slC qyC a.q]
def alO:=fU (fZ @Tryz.f50.eq_1 @zq @a6Q @a6P @bcz @bcy @a2g @bcx) (fZ @a6O @a6N @abE @ahW @ad3 @afQ @ahZ @ahY) (fZ @ahX @bO @P4 @Q4 @P9 @Q9 @zT0 (kf a0T))
def arH(a:Sm)(h1:a.cs.length<=4611686018427387903)(h2:a.kys.length<=4611686018427387903)(h3:a.rfs.length<=4611686018427387903)
  (k1:∀ x∈a.kys,G1 49 [.of (slC bI x.ns),.of (slC bI x.ns)] (aL true)) (k2:∀ x∈a.rfs,G1 49 [.of (slC bI x.ns),.of (slC bI x.ns)] (aL true)/\G1 49 [.of (slC bI x.to),.of (slC bI x.to)] (aL true)):G1 50 [.of (.agg (smC a)),.of (.agg (smC a))] (aL true):=by
 refine bB a0T ?_
 simp only[↓zA,sevalprocAttr,alO]
 refine aas a.cs.length (λk s=>s.fr 2=.of (.ref (smL a))/\s.fr 3=.of (.ref (smL a))/\s.fr 5=aQ k/\s.objs=[]) ?_ ?_
 .simp only[↓zA,sevalprocAttr,alO]
  try exact⟨rfl,rfl⟩
 rintro k ⟨fr,ob,ck⟩ hk ⟨f2,f3,f5,ho⟩
 dsimp only at f2 f3 f5 ho
 by_cases d:k<a.cs.length
 .have hw:=er k aC
  have gx:=dN d
  generalize a.cs[k]=x at *
  simp only[↓zA,sevalprocAttr,alO,f2,f3,f5,ho,aV,d,gx,hw,asy]
 simp only[↓zA,sevalprocAttr,alO,f2,f5,ho,aV,d]
 refine aas a.kys.length (λk s=>s.fr 2=.of (.ref (smL a))/\s.fr 3=.of (.ref (smL a))/\s.fr 6=aQ k/\s.objs=[]) ?_ ?_
 .simp only[↓zA,sevalprocAttr,alO,f2,f3]
  try exact⟨rfl,rfl⟩
 clear f2 f3 f5 ho
 rintro k ⟨fr,ob,ck⟩ hk ⟨f2,f3,f6,ho⟩
 dsimp only at f2 f3 f6 ho
 by_cases d2:k<a.kys.length
 .have hw:=er k aC
  have gx:=dN d2
  have kx:=λK=>aH.k (k1 a.kys[k] (cC d2)) K
  generalize a.kys[k]=x at *
  simp only[↓zA,sevalprocAttr,alO,f2,f3,f6,ho,aV,d2,gx,hw,kx]
 simp only[↓zA,sevalprocAttr,alO,f2,f6,ho,aV,d2]
 refine aas a.rfs.length (λk s=>s.fr 2=.of (.ref (smL a))/\s.fr 3=.of (.ref (smL a))/\s.fr 7=aQ k/\s.objs=[]) ?_ ?_
 .simp only[↓zA,sevalprocAttr,alO,f2,f3]
  try exact⟨rfl,rfl⟩
 clear f2 f3 f6 ho
 rintro k ⟨fr,ob,ck⟩ hk ⟨f2,f3,f7,ho⟩
 dsimp only at f2 f3 f7 ho
 by_cases d3:k<a.rfs.length
 .have hw:=er k aC
  have gx:=dN d3
  have kx:=λK=>aH.k (k2 a.rfs[k] (cC d3)).1 K
  have ky:=λK=>aH.k (k2 a.rfs[k] (cC d3)).2 K
  generalize a.rfs[k]=x at *
  simp only[↓zA,sevalprocAttr,alO,f2,f3,f7,ho,aV,d3,gx,hw,kx,ky]
 simp only[↓zA,sevalprocAttr,alO,f2,f7,ho,aV,d3]
def aqf:=fU (gh @Tryz.f19.eq_1 @zq @a6M @a6L @a2g @bdU @aF7 @bcw @bcv) (gh @aGf @aF6 @bG @abE @afR @ep @acJ @agy @bO) (fZ @P3 @Q3 @P9 @Q9 @P4 @Q4 @zT0 (kf a07))
def arI(a:Sm)(h1:a.rws.length<=4611686018427387903)(h2:a.sts.length<=4611686018427387903)(k1:al4 a.chs)(k2:al4 a.wh)(k3:aug a.q)(k4:∀ x∈a.rws,al4 x)(k5:∀ x∈a.sts,G1 13 [.of (.agg (xpC x.e)),.of (.agg (xpC x.e))] (aL true))
  (k6:G1 49 [.of (slC bI a.ns),.of (slC bI a.ns)] (aL true)) (k7:G1 50 [.of (.agg (smC a)),.of (.agg (smC a))] (aL true)):G1 19 [.of (.agg (smC a)),.of (.agg (smC a))] (aL true):=by
 have q1:=λK=>aH.k k1 K
 have q2:=λK=>aH.k k2 K
 have q3:=λK=>aH.k k3 K
 have q6:=λK=>aH.k k6 K
 have q7:=λK=>aH.k k7 K
 refine bB a07 ?_
 simp only[↓zA,sevalprocAttr,aqf,q1,q2,q6,q7]
 refine aas a.rws.length (λk s=>s.fr 2=.of (.ref (smL a))/\s.fr 3=.of (.ref (smL a))/\s.fr 5=aQ k/\s.objs=[]) ?_ ?_
 .simp only[↓zA,sevalprocAttr,aqf]
  try exact⟨rfl,rfl⟩
 rintro k ⟨fr,ob,ck⟩ hk ⟨f2,f3,f5,ho⟩
 dsimp only at f2 f3 f5 ho
 by_cases d:k<a.rws.length
 .have hw:=er k aC
  have gx:=dN d
  have kx:=λK=>aH.k (k4 a.rws[k] (cC d)) K
  generalize a.rws[k]=x at *
  simp only[↓zA,sevalprocAttr,aqf,f2,f3,f5,ho,aV,d,gx,hw,kx]
 simp only[↓zA,sevalprocAttr,aqf,f2,f5,ho,aV,d]
 refine aas a.sts.length (λk s=>s.fr 2=.of (.ref (smL a))/\s.fr 3=.of (.ref (smL a))/\s.fr 6=aQ k/\s.objs=[]) ?_ ?_
 .simp only[↓zA,sevalprocAttr,aqf,f2,f3]
  try exact⟨rfl,rfl⟩
 clear f2 f3 f5 ho
 rintro k ⟨fr,ob,ck⟩ hk ⟨f2,f3,f6,ho⟩
 dsimp only at f2 f3 f6 ho
 by_cases d2:k<a.sts.length
 .have hw:=er k aC
  have gx:=dN d2
  have kx:=λK=>aH.k (k5 a.sts[k] (cC d2)) K
  generalize a.sts[k]=x at *
  simp only[↓zA,sevalprocAttr,aqf,f2,f3,f6,ho,aV,d2,gx,hw,kx]
 simp only[↓zA,sevalprocAttr,aqf,f2,f3,f6,ho,aV,d2,q3]
def alS(c:Sm)(hw:smW c<=6000700):G1 19 [.of (.agg (smC c)),.of (.agg (smC c))] (aL true):=by
 simp only[smW] at hw
 have R:=aj6 WL (ae _)
 have LW:(6000700:Nat)<=WL:=by unfold WL;omega
 have sX:∀ l:List Xp,lsW xpW l<=6000700->al4 l:=λl h=>amd l (by have:=dt xpW l (λx _=>afS x);omega) (λx hx=>R.1 x (by have:=cX (w:=xpW) hx;omega))
 have sQ:∀ l:List Qy,lsW qyW l<=6000700->aug l:=λl h=>akG l (by have:=dt qyW l (λx _=>aia x);omega) (λx hx=>R.2.1 x (by have:=cX (w:=qyW) hx;omega))
 have sS:∀ l:List (List UInt8),lsW dQ l<=6000700->G1 49 [.of (slC bI l),.of (slC bI l)] (aL true):=λl h=>atC l (by have:=dt dQ l (λx _=>by simp[dQ]);omega)
 refine arI c ?_ ?_ (sX _ aC) (sX _ aC) (sQ _ aC) (λx hx=>sX _ ?_) (λx hx=>R.1 _ ?_) (sS _ aC) (arH c ?_ ?_ ?_ (λx hx=>sS _ ?_) λx hx=>⟨sS _ ?_,sS _ ?_⟩)
 .have:=dt (lsW xpW) c.rws (λx _=>by simp[lsW]);omega
 .have:=dt asW c.sts (λx _=>by simp[asW]);omega
 .have:=cX (w:=lsW xpW) hx;omega
 .have:=cX (w:=asW) hx;simp only[asW] at this;omega
 .have:=dt cdW c.cs (λx _=>by simp[cdW]);omega
 .have:=dt kdW c.kys (λx _=>by simp[kdW]);omega
 .have:=dt rdW c.rfs (λx _=>by simp[rdW]);omega
 .have:=cX (w:=kdW) hx;simp only[kdW] at this;omega
 .have:=cX (w:=rdW) hx;simp only[rdW] at this;omega
 .have:=cX (w:=rdW) hx;simp only[rdW] at this;omega
def aeR(s:List UInt8):(aK s).size=s.length:=by simp[aK,ByteArray.size]
def baA(s:List UInt8)(hs:s.length<LB){a}(h:ajk s=some a)(K:An->Prop):abl Tryz.prog pr2 30 [.of (aJ (aK s)),.of (.fn 31 []),.of (.fn 22 [])] [] K↔K ⟨false,[xpE a.1,aQ a.2.1,aQ a.2.2],[]⟩ :=
 aH.k (aH.of_prim (by
  change adj 30 [.of (aJ (aK s)),.of (.fn 31 []),.of (.fn 22 [])] []=some ⟨false,[xpE a.1,aQ a.2.1,aQ a.2.2],[]⟩
  have e:(aK s).data.toList=s:=rfl
  have e2:(aK s).size<LB:=by rw[aeR];exact hs
  simp only[adj,prims,aju,aJ]
  simp[e,e2,h])) K
def bax:=fZ @zq @a61 @bdZ @bG @ak2 @a2k @zT0 (kf a1c)
def aqy(s:List UInt8)(hs:s.length<LB){a}(h:ajk s=some a):HN 11 [.of (aJ (aK s))] [xpE a.1,aQ a.2.1,aQ a.2.2]:=by
 have k:=baA s hs h
 refine bB2 a1c ?_
 simp only[Tryz.f11,↓zA,sevalprocAttr,bax,aaA,acW,k]
 try rfl
def baF(s:List UInt8)(hs:s.length<LB){a}(h:ag2 s=some a)(K:An->Prop):abl Tryz.prog pr2 38 [.of (aJ (aK s)),.of (.fn 39 []),.of (.fn 23 [])] [] K↔K ⟨false,[qyE a.1,aQ a.2.1,aQ a.2.2],[]⟩ :=
 aH.k (aH.of_prim (by
  change adj 38 [.of (aJ (aK s)),.of (.fn 39 []),.of (.fn 23 [])] []=some ⟨false,[qyE a.1,aQ a.2.1,aQ a.2.2],[]⟩
  have e:(aK s).data.toList=s:=rfl
  have e2:(aK s).size<LB:=by rw[aeR];exact hs
  simp only[adj,prims,aju,aJ]
  simp[e,e2,h])) K
def bav:=fZ @zq @a60 @bdY @ep @aq1 @a2j @zT0 (kf a1a)
def ax2(s:List UInt8)(hs:s.length<LB){a}(h:ag2 s=some a):HN 14 [.of (aJ (aK s))] [qyE a.1,aQ a.2.1,aQ a.2.2]:=by
 have k:=baF s hs h
 refine bB2 a1a ?_
 simp only[Tryz.f14,↓zA,sevalprocAttr,bav,aaA,acW,k]
 try rfl
def baC(s:List UInt8)(hs:s.length<LB){a}(h:ado s=some a)(K:An->Prop):abl Tryz.prog pr2 45 [.of (aJ (aK s)),.of (.fn 46 []),.of (.fn 24 [])] [] K↔K ⟨false,[smE a.1,aQ a.2.1,aQ a.2.2],[]⟩ :=
 aH.k (aH.of_prim (by
  change adj 45 [.of (aJ (aK s)),.of (.fn 46 []),.of (.fn 24 [])] []=some ⟨false,[smE a.1,aQ a.2.1,aQ a.2.2],[]⟩
  have e:(aK s).data.toList=s:=rfl
  have e2:(aK s).size<LB:=by rw[aeR];exact hs
  simp only[adj,prims,aju,aJ]
  simp[e,e2,h])) K
def bat:=fZ @zq @a6Z @bdV @abE @a2h @aOt @zT0 (kf a08)
def aiO(s:List UInt8)(hs:s.length<LB){a}(h:ado s=some a):HN 17 [.of (aJ (aK s))] [smE a.1,aQ a.2.1,aQ a.2.2]:=by
 have k:=baC s hs h
 refine bB2 a08 ?_
 simp only[Tryz.f17,↓zA,sevalprocAttr,bat,aaA,acW,k]
 try rfl
def baB(s:List UInt8)(hs:s.length<LB){a}(h:afp s=some a)(K:An->Prop):abl Tryz.prog pr2 51 [.of (aJ (aK s)),.of (.fn 52 []),.of (.fn 53 [])] [] K↔K ⟨false,[ah2 s a.1,aQ a.2.1,aQ a.2.2],[]⟩ :=
 aH.k (aH.of_prim (by
  change adj 51 [.of (aJ (aK s)),.of (.fn 52 []),.of (.fn 53 [])] []=some ⟨false,[ah2 s a.1,aQ a.2.1,aQ a.2.2],[]⟩
  have e:(aK s).data.toList=s:=rfl
  have e2:(aK s).size<LB:=by rw[aeR];exact hs
  simp only[adj,prims,aju,aJ]
  simp[e,e2,h])) K
def ahL(l:List Tn):List (Sm×Nat)->List Sm->List Sm×Int×Int
 | [],out=>(out,0,0)
 | x::r,out=>if agA x.1 then ahL l r (out++[x.1]) else ([],(bS l x.2).pl,4)
def aj4(s:List UInt8):List Tn:=((fL s).getD ([],0,0)).1
def aHz{s:List UInt8}{a:List (Sm×Nat)×Int×Int}(h:afp s=some a):(∀ x∈a.1,aGV (aj4 s) x)/\a.1.length<=2000:=by
 unfold afp abT at h
 split at h
 .cases h
 .rename_i l p e ht
  have hd:aj4 s=l:=by unfold aj4;rw[ht];rfl
  split at h
  .rename_i he
   obtain⟨hok,h20,hp⟩:=adH ht he
   obtain⟨r,hr,q2,q3,q4⟩:=axN hok h20
   dsimp only at h
   rw[hr] at h
   simp only[aG,ab] at h
   subst h
   obtain⟨o,j,b⟩:=r
   have:=hok.len
   rw[hd]
   cases b with
   | true=>exact⟨by simp[cH],by simp[cH]⟩
   | false =>
    simp only[cH]
    split
    .exact⟨by simp,by simp⟩
    .exact⟨q3,by dsimp only at q4 ⊢;simp only[au];omega⟩
  .cases h
   exact⟨by simp,by simp⟩
def aqS(l:List Tn)(o:List (Sm×Nat))(i:Int):bP tP 94 (.of (slC (am2 l) o)) (.of (.lit (.int .i64 i)))=aen (aaF o i) λx=>.of (.ref (am2 l x++fl (am2 l) (o.drop (i.toNat+1)))) :=
 adk E94 (λx=>by rw[show x=(x.1,x.2) from rfl,aku];rfl) aI o i
def aUL{α:Type}{o:List α}{i:Nat}{x:α}(h:o[i]?=some x):aaF o (i:Int)=some x:=by
 unfold aaF
 rw[am aC]
 simpa using h
def aqe:=ai (gh @Tryz.f20.eq_1 @zq @bdT @a6X @aOt @bcI @abE @aoX @a3q) (gh @a3o @aCU @aCX @aCT @aqg @P3 @Q3 @zT0 (kf aN5))
def an0(s:List UInt8)(hs:s.length<LB){a}(h:afp s=some a)(r:List Sm×Int×Int)(hr:(if a.2.2=0 then ahL (aj4 s) a.1 [] else ([],a.2.1,a.2.2))=r):HN 20 [.of (aJ (aK s))] [.of (slC smC r.1),aQ r.2.1,aQ r.2.2]:=by
 have k:=baB s hs h
 obtain⟨hok,hlen⟩:=aHz h
 have hE:ah2 s a.1=.of (slC (am2 (aj4 s)) a.1):=rfl
 obtain⟨o,p,e⟩:=a
 dsimp only at *
 by_cases he:e=0
 .subst he
  rw[am rfl] at hr
  refine bB2 aN5 ?_
  simp only[↓zA,sevalprocAttr,aqe,aaA,k,hE]
  refine aaj _ _ (λm s'=>∃ k out,((s'.fr 8=.nil/\out=[])\/∃ c x i,c<s'.clk/\s'.fr 8=.own (.nm c x i) 49 13 (fl smC out) out.length)/\s'.fr 21=.of (slC (am2 (aj4 s)) o)/\s'.fr 22=aQ o.length/\s'.fr 23=.of (ci (k:Nat))/\s'.objs=[]/\k+m=o.length+1/\out.length<=k/\k<=o.length/\ahL (aj4 s) (o.drop k) out=r) ?_ (o.length+1) _ ?_
  .rintro m ⟨frn,obn,ckn⟩ ⟨kk,ol,hK,f21,f22,f23,fo,hm,hol,hkl,E⟩
   dsimp only at hK f21 f22 f23 fo
   have hos:(ol.length+1<=LIM)=True:=aa (by unfold LIM;omega)
   have hw:IntKind.i64.wrap ((kk:Int)+1)=((kk+1:Nat):Int):=er kk aC
   rcases aD kk o.length with hlt|hge
   .have dl:((kk:Int)<(o.length:Int))=True:=aa aC
    have gx:=aUL (aM hlt)
    have hx:=hok _ (cC hlt)
    rw[ce hlt] at E
    generalize o[kk]=x at gx hx E
    obtain⟨x1,x2⟩:=x
    have kS:=λK=>aH.k (aex (aoY x1 ⟨hx.1,by have:=hx.2.1;dsimp only at this;unfold WL;omega⟩)) K
    have kS1:=kS
    simp only[aeB] at kS1
    have kS2:=kS1
    simp only[slC] at kS2
    unfold ahL at E
    cases hb:agA x1 with
    | false =>
     rw[hb] at kS kS1 kS2
     simp only[hb,ah,av] at E
     subst E
     rcases hK with ⟨f8,hK'⟩|⟨c,x,i',hc,f8⟩
     all_goals (try subst hK')
     all_goals (simp only[↓zA,sevalprocAttr,aqe,aaA,acW,adI,f21,f22,f23,fo,dl,gx,aqS,aku,kS])
     all_goals exact fz
    | true =>
     rw[hb] at kS kS1 kS2
     simp only[hb,au] at E
     rcases hK with ⟨f8,hK'⟩|⟨c,x,i',hc,f8⟩
     all_goals (try subst hK')
     .simp only[↓zA,sevalprocAttr,aqe,aaA,acW,adI,f8,f21,f22,f23,fo,dl,gx,aqS,aku,kS,aa4,hw]
      and_intros
      all_goals first|exact⟨m-1,by omega,kk+1,[x1],atJ (by rw[akW,aeB]) rfl aC,rfl,by omega,by simp,by omega,by simpa using E⟩|rfl|omega
     .have hne:(c=ckn+1)=False:=aA aC
      simp only[↓zA,sevalprocAttr,aqe,aaA,acW,adI,f8,f21,f22,f23,fo,dl,gx,aqS,aku,kS,hos,hne,hw]
      and_intros
      all_goals first|exact okN _ _ aC _|exact⟨m-1,by omega,kk+1,ol++[x1],atI (by rw[aeB]) rfl aC,rfl,by omega,by simp only[aeX];omega,by omega,E⟩|rfl|omega
   .have dl:((kk:Int)<(o.length:Int))=False:=aA aC
    rw[abW hge] at E
    unfold ahL at E
    subst E
    rcases hK with ⟨f8,hK'⟩|⟨c,x,i',hc,f8⟩
    all_goals (try subst hK')
    all_goals (simp only[↓zA,sevalprocAttr,aqe,f8,f22,f23,fo,dl])
    all_goals exact fz
  .simp only[↓zA,sevalprocAttr,aqe]
   exact⟨0,[],.inl rfl,rfl,by omega,ae _,aO _,hr⟩
 .rw[aj he] at hr
  subst hr
  have he':(e=0)=False:=aA he
  refine bB2 aN5 ?_
  simp only[↓zA,sevalprocAttr,aqe,aaA,k,hE,he']
  try rfl
def aKX:Xp:=.mk 1 ⟨2,2,ByteArray.empty⟩ [] [] false [] []
def exA:Xp:=dR 5 [ai3 [] [97],dR 7 [aKX,ai3 [] [98]]]
def exD:Sm:=smK 3 [116] [] [] false
def bdl:ajk [97,32,43,32,50,32,42,32,98]=some (exA,0,0):=by kernel_rfl
def bdk:ajk [97,32,61,32,98,32,61,32,99]=some (x0,6,2):=by kernel_rfl
def bdj:ag2 [115,101,108,101,99,116]=some (y0,6,3):=by kernel_rfl
def bdi:ado [100,114,111,112,32,116,97,98,108,101,32,116]=some (exD,0,0):=by kernel_rfl
def bdh:afp [98,101,103,105,110,59,32,99,111,109,109,105,116,59]=some ([(smK 8 [] [] [] false,0),(smK 9 [] [] [] false,2)],0,0):=by kernel_rfl
def bdg:ahL (aj4 [98,101,103,105,110,59,32,99,111,109,109,105,116,59]) [(smK 8 [] [] [] false,0),(smK 9 [] [] [] false,2)] []=([smK 8 [] [] [] false,smK 9 [] [] [] false],0,0):=by kernel_rfl
def bar:=fW @zq @a5O @ajr @zT0 (kf a01)
def aDO(n:Int):G1 28 [aQ n] (.of (.agg (aiA ⟨2,n,ByteArray.empty⟩))):=by
 refine bB a01 ?_
 simp only[Tryz.f28,↓zA,sevalprocAttr,bar]
 try rfl
def baq:=fW @zq @mt7 @bG @zT0 (kf a00)
def ap1(s:List UInt8):G1 29 [.of (aJ (aK s))] (xpE (ai3 [] s)):=by
 refine bB a00 ?_
 simp only[Tryz.f29,↓zA,sevalprocAttr,baq]
 try rfl
def baS(a b:Xp):slC xpC [a,b]=.sl (xpC a++xpC b) 2:=by simp[slC,fl]
def bas:=fZ @zq @bco @bcn @bcm @bG @fq @zT0 (kf a02)
def axk(o:Int)(a b:Xp):G1 27 [aQ o,xpE a,xpE b] (xpE (dR o [a,b])):=by
 unfold xpE
 rw[ff a,ff b]
 refine bB a02 ?_
 simp only[Tryz.f27,↓zA,sevalprocAttr,bas,avp]
 rw[ff (dR o [a,b])]
 simp only[dR,Xp.ks,Xp.op,Xp.v,Xp.tb,Xp.nm,Xp.di,Xp.sb,baS,ff,aw0]
 rfl
def xCa:Xp:=ai3 [] [97]
def xCb:Xp:=ai3 [] [98]
def exB:Xp:=dR 7 [aKX,xCb]
def bay:=fU (gh @zq @a2p @bcl @bck @a2o @bcj @bd1 @bci @aOu) (gh @bch @a2l @mp4 @bd0 @bd2 @aGf @bG @ep @abE) (fY @aqg @P3 @Q3 @P9 @Q9 @zT0 (kf a1d))
def aGC:H1 10 [] (aL true):=by
 have k1:∀ K,abl Tryz.prog pr2 11 [.of (aJ {data:=#[97,32,43,32,50,32,42,32,98]})] [] K↔K ⟨false,[xpE exA,aQ 0,aQ 0],[]⟩:=λK=>aH.k (aqy [97,32,43,32,50,32,42,32,98] aI bdl) K
 have k2:∀ K,abl Tryz.prog pr2 11 [.of (aJ {data:=#[97,32,61,32,98,32,61,32,99]})] [] K↔K ⟨false,[xpE x0,aQ 6,aQ 2],[]⟩:=λK=>aH.k (aqy [97,32,61,32,98,32,61,32,99] aI bdk) K
 have k3:∀ K,abl Tryz.prog pr2 14 [.of (aJ {data:=#[115,101,108,101,99,116]})] [] K↔K ⟨false,[qyE y0,aQ 6,aQ 3],[]⟩:=λK=>aH.k (ax2 [115,101,108,101,99,116] aI bdj) K
 have k4:∀ K,abl Tryz.prog pr2 17 [.of (aJ {data:=#[100,114,111,112,32,116,97,98,108,101,32,116]})] [] K↔K ⟨false,[smE exD,aQ 0,aQ 0],[]⟩:=λK=>aH.k (aiO [100,114,111,112,32,116,97,98,108,101,32,116] aI bdi) K
 have k5:∀ K,abl Tryz.prog pr2 20 [.of (aJ {data:=#[98,101,103,105,110,59,32,99,111,109,109,105,116,59]})] [] K↔K ⟨false,[.of (slC smC [smK 8 [] [] [] false,smK 9 [] [] [] false]),aQ 0,aQ 0],[]⟩:=λK=>aH.k (an0 [98,101,103,105,110,59,32,99,111,109,109,105,116,59] aI bdh ([smK 8 [] [] [] false,smK 9 [] [] [] false],0,0) (Eq.trans (am rfl) bdg)) K
 have k6:∀ K,abl Tryz.prog pr2 29 [.of (aJ {data:=#[97]})] [] K↔K ⟨false,[xpE xCa],[]⟩:=λK=>aH.k (aex (ap1 [97])) K
 have k7:∀ K,abl Tryz.prog pr2 29 [.of (aJ {data:=#[98]})] [] K↔K ⟨false,[xpE xCb],[]⟩:=λK=>aH.k (aex (ap1 [98])) K
 have k8:∀ K,abl Tryz.prog pr2 27 [.of (.lit (.int .i64 7)),.of (.agg [.lit (.int .i64 1),ci 2,ci 2,aJ {data:=#[]},.lit (.string {data:=#[]}),.lit (.string {data:=#[]}),.lit (.bool false),.sl [] 0,.sl [] 0]),xpE xCb] [] K↔K ⟨false,[xpE exB],[]⟩:=λK=>aH.k (aex (axk 7 aKX xCb)) K
 have k9:∀ K,abl Tryz.prog pr2 27 [aQ 5,xpE xCa,xpE exB] [] K↔K ⟨false,[xpE exA],[]⟩:=λK=>aH.k (aex (axk 5 xCa exB)) K
 have kS:=λK=>aH.k (aex ((aj6 WL (ae _)).1 exA aI)) K
 have kN:∀ K,abl Tryz.prog pr2 28 [.of (ci 2)] [] K↔K ⟨false,[.of (.agg [ci 2,ci 2,aJ {data:=#[]}])],[]⟩:=λK=>aH.k (aex (aDO 2)) K
 have d1:exD.kd=3:=rfl
 have d2:aK exD.tb={data:=#[116]}:=rfl
 have d3:(smK 9 [] [] [] false).kd=9:=rfl
 refine bB2 a1d ?_
 simp only[Tryz.f10,↓zA,sevalprocAttr,bay,aaA,acW,adI,k1,k2,k3,k4,k5,k6,k7,k8,k9,kS,kN,ajr,d1,d2]
 rfl
def ai5(K:An->Prop):abl Tryz.prog pr2 10 [] [] K↔K ⟨false,[aL true],[]⟩:=aH.k aGC K
def axC(a b:List UInt8):aK a++aK b=aK (a++b):=by
 apply ByteArray.ext
 simp[aK]
def aX1(P:Program)(T:TT)(t:Nat)(u:Option TypeDesc)(a b:List UInt8)(h:a.length+b.length<=4000):fE P T t u .add (.of (.lit (.string (aK a)))) (.of (.lit (.string (aK b))))=out (af4 (aK (a++b))):=by
 rw[Z1u,aeR,aeR,am (by unfold aj1;omega),axC]
def aPM(P:Program)(T:TT)(t:Nat)(u:Option TypeDesc){a b c:List UInt8}(hc:a++b=c)(h:a.length+b.length<=4000):fE P T t u .add (.of (.lit (.string (aK a)))) (.of (.lit (.string (aK b))))=out (af4 (aK c)):=by rw[← hc];exact aX1 P T t u a b h
def aCZ{s:List UInt8}{r:Xp×Int×Int}(h:ajk s=some r):fe r.1/\xpW r.1<=6000400:=by
 have z:fe x0/\xpW x0<=6000400:=⟨alg,by rw[as7];omega⟩
 unfold ajk abT at h
 split at h
 .cases h
 .rename_i l p e ht
  split at h
  .rename_i he
   obtain⟨hok,h20,hp⟩:=adH ht he
   obtain⟨q,hr,g1,g2,g3,g4⟩:=ax4 hok h20
   dsimp only at h
   rw[hr] at h
   obtain⟨a,j,b⟩:=q
   simp only[aG,ab] at h
   subst h
   cases b with
   | true=>exact z
   | false =>
    simp only[cH]
    split
    .exact z
    split
    .exact⟨g2,g3⟩
    .exact z
  .cases h;exact z

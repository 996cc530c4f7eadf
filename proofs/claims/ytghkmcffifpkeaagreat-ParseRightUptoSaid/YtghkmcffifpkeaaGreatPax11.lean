/- ParseRight: what is answered is right. Conditions: none. -/
import Derived.Test.YtghkmcffifpkeaaGreatPa12
set_option linter.all false
set_option maxRecDepth 100000
set_option maxHeartbeats 64000000
namespace Go.Tab
open Pe
structure Ext (l m:List Tn):Prop where
 len:l.length<=m.length
 is:∀ i w,i<=l.length->w≠[41]->w≠[59]->isT m i w=isT l i w
 is0:∀ i w,i<l.length->isT m i w=isT l i w
 kd:∀ i k,i<=l.length->k≠0->k≠1->k≠5->br m i k=br l i k
 tx:∀ i,i<l.length->txT m i=txT l i
 nu:∀ i,i<l.length->nuT m i=nuT l i
def aCY(l r:List Tn)(c:Tn)(h5:c.k=5)(hs:c.s=[41]\/c.s=[59]):Ext l (l++c::r) where
 len:=by simp
 is i w hi h1 h2:=by
  unfold isT
  rcases aD i l.length with g|g
  .rw[ba g]
  .have:i=l.length:=by omega
   subst this
   rw[bW (ae _),adN,aZ (ae _)]
   show ((decide (c.k=1)||decide (c.k=5))&&decide (c.s=w))=false
   rcases hs with hs|hs
   .rw[hs,bw (bn h1),cW]
   .rw[hs,bw (bn h2),cW]
 is0 i w hi:=by unfold isT;rw[ba hi]
 kd i k hi h0 h1 h5':=by
  unfold br
  rcases aD i l.length with g|g
  .rw[ba g]
  .have:i=l.length:=by omega
   subst this
   rw[bW (ae _),adN,aZ (ae _)]
   show decide (c.k=k)=false
   rw[h5];exact bw (bn h5')
 tx i hi:=by unfold txT;rw[ba hi]
 nu i hi:=by unfold nuT;rw[ba hi]
def OkC{α:Type}(x y:Rz α):Prop:=∀ a j,x=some (a,j,false)->y=some (a,j,false)
def anj{α β:Type}{r:Rz α}{g:α->β}{f:α->Nat->Rz β}{a:β}{j:Nat}(h:r.on g f=some (a,j,false)):∃ b i,r=some (b,i,false)/\f b i=some (a,j,false):=by
 unfold Rz.on at h
 split at h
 .cases h
 .cases h
 .exact⟨_,_,rfl,h⟩
def aPy{α β:Type}{r:Rz α}{g:α->β}{a:β}{j:Nat}(h:r.to g=some (a,j,false)):∃ b,r=some (b,j,false)/\a=g b:=by
 unfold Rz.to at h
 split at h
 .cases h
 .cases h;exact⟨_,rfl,rfl⟩
def ao9{α:Type}{l:List Tn}{i:Nat}{w:List UInt8}{x a:α}{j:Nat}(h:wantE (bH l i w) x=some (a,j,false)):isT l i w=true/\a=x/\j=i+1:=by
 unfold wantE bH at h
 cases c:isT l i w with
 | true=>rw[c] at h;cases h;exact⟨rfl,rfl,rfl⟩
 | false=>rw[c] at h;cases h
def axb{α:Type}{l:List Tn}{i:Nat}{w:List UInt8}(x:α)(h:isT l i w=true):wantE (bH l i w) x=some (x,i+1,false):=by unfold wantE bH;rw[h];rfl
def aCI{l:List Tn}{i:Nat}{w:List UInt8}(h:l.length<=i):isT l i w=false:=by unfold isT;rw[aZ h]
section
variable {α β:Type} {l m:List Tn} {i j:Nat}
theorem OkC.same(x:Rz α):OkC x x:=λ_ _ h=>h
theorem OkC.none{y:Rz α}:OkC none y:=λ_ _ h=>by cases h
theorem OkC.bad{a:α}{y:Rz α}:OkC (some (a,j,true)) y:=λ_ _ h=>by cases h
theorem OkC.on{r r':Rz α}{g g':α->β}{f f':α->Nat->Rz β}(h:OkC r r')(P:Pl l i r)(hf:∀ a j,i<=j->j<=l.length->OkC (f a j) (f' a j)):OkC (r.on g f) (r'.on g' f'):=by
 intro a j e
 obtain⟨b,q,e1,e2⟩:=anj e
 have:=P _ _ _ e1
 rw[h _ _ e1]
 exact hf b q this.1 this.2 _ _ e2
theorem OkC.to{r r':Rz α}{g:α->β}(h:OkC r r'):OkC (r.to g) (r'.to g):=by
 intro a j e
 obtain⟨b,e1,rfl⟩:=aPy e
 rw[h _ _ e1];rfl
theorem OkC.wR{w:List UInt8}{x x':β}{f f':Nat->Rz β}(E:Ext l m)(hf:i+1<=l.length->OkC (f (i+1)) (f' (i+1))):OkC (wantR (bH l i w) x f) (wantR (bH m i w) x' f'):=by
 intro a j e
 unfold wantR bH at e ⊢
 cases c:isT l i w with
 | true=>rw[c] at e;rw[E.is0 _ _ (dA c),c];exact hf (dA c) _ _ e
 | false=>rw[c] at e;cases e
theorem OkC.wE{w:List UInt8}{x:β}(E:Ext l m):OkC (wantE (bH l i w) x) (wantE (bH m i w) x):=by
 intro a j e
 obtain⟨c,rfl,rfl⟩:=ao9 e
 exact axb _ (by rw[E.is0 _ _ (dA c)];exact c)
theorem OkC.wsR(E:Ext l m){x x':β}{f f':Nat->Rz β}:∀ (ws:List (List UInt8)) {i:Nat},i<=l.length->(∀ j,i<=j->j<=l.length->OkC (f j) (f' j))->OkC (wantR (dI l i ws) x f) (wantR (dI m i ws) x' f')
 | [],i,hi,hf=>hf i (ae _) hi
 | w::r,i,hi,hf=>by
  unfold dI
  cases c:isT l i w with
  | true =>
   rw[E.is0 _ _ (dA c),c]
   exact OkC.wsR E r (dA c) λj h1 h2=>hf j aC h2
  | false=>exact .bad
theorem OkC.fT{w:List UInt8}{A B A' B':Rz α}(E:Ext l m)(hi:i<=l.length)(h1:w≠[41])(h2:w≠[59])(hA:i+1<=l.length->OkC A A')(hB:OkC B B'):OkC (if isT l i w=true then A else B) (if isT m i w=true then A' else B'):=by
 rw[E.is i w hi h1 h2]
 split
 .rename_i c;exact hA (dA c)
 .exact hB
theorem OkC.fK{k:Int}{A B A' B':Rz α}(E:Ext l m)(hi:i<=l.length)(h0:k≠0)(h1:k≠1)(h5:k≠5)(hA:i+1<=l.length->OkC A A')(hB:OkC B B'):OkC (if br l i k=true then A else B) (if br m i k=true then A' else B'):=by
 rw[E.kd i k hi h0 h1 h5]
 split
 .rename_i c;exact hA (eZ c)
 .exact hB
theorem OkC.fB{b:Bool}{A B A' B':Rz α}(hA:OkC A A')(hB:OkC B B'):OkC (if b=true then A else B) (if b=true then A' else B'):=by
 split
 .exact hA
 .exact hB
theorem ams(E:Ext l m)(hi:i<=l.length):cd m i=cd l i:=by
 unfold cd
 rw[E.kd i 2 hi aI aI aI]
 split
 .rename_i c;rw[E.tx i (eZ c)]
 .rfl
theorem ara(E:Ext l m)(hi:i<=l.length):eM m i=eM l i:=by
 unfold eM
 rw[E.is i _ hi aI aI,E.kd i 2 hi aI aI aI]
 split
 .rename_i c;exact ams E (dA c)
 split
 .rename_i c;rw[E.tx i (eZ c)]
 .rfl
theorem asQ(E:Ext l m)(hi:i<=l.length):∀ ws:List (List UInt8),(∀ w∈ws,w≠[41]/\w≠[59])->co m i ws=co l i ws
 | [],_=>rfl
 | w::r,h=>by
  unfold co
  rw[E.is i w hi (h w aT).1 (h w aT).2,asQ E hi r λx hx=>h x (by simp[hx])]
theorem apo(E:Ext l m)(hi:i<=l.length):∀ so:List (List UInt8×Int),(∀ p∈so,p.1≠[41]/\p.1≠[59])->opT m i so=opT l i so
 | [],_=>rfl
 | (w,o)::r,h=>by
  unfold opT
  rw[E.is i w hi (h (w,o) aT).1 (h (w,o) aT).2,apo E hi r λx hx=>h x (by simp[hx])]
theorem aCQ(E:Ext l m)(hi:i<=l.length):aez m i=aez l i:=asQ E hi _ aI
theorem aOo(E:Ext l m)(hi:i<=l.length):aei m i=aei l i:=by
 unfold aei
 rw[E.kd i 3 hi aI aI aI,E.kd i 4 hi aI aI aI,E.is i _ hi aI aI,E.is i _ hi aI aI,E.is i _ hi aI aI]
 split
 .rename_i c;rw[E.nu i (eZ c)]
 split
 .rename_i c;rw[E.tx i (eZ c)]
 .rfl
theorem OkC.nR{g g':List UInt8->α}{f f':List UInt8->Nat->Rz α}(E:Ext l m)(hi:i<=l.length)(hf:∀ s,i+1<=l.length->OkC (f s (i+1)) (f' s (i+1))):OkC (nameR (cd l i) g f) (nameR (cd m i) g' f'):=by
 rw[ams E hi]
 unfold nameR cd
 cases c:br l i 2 with
 | true=>exact hf _ (eZ c)
 | false=>exact .bad
end
structure FE (l:List Tn) (F G:Fs):Prop where
 pl:FP l F
 or:∀ {i p},i<=l.length->OkC (F.or i p) (G.or i p)
 no:∀ {i},i<=l.length->OkC (F.no i) (G.no i)
 un:∀ {i},i<=l.length->OkC (F.un i) (G.un i)
 qy:∀ {i p},i<=l.length->OkC (F.qy i p) (G.qy i p)
 ins:∀ {i a j},i<=l.length->j<l.length->F.ins i=some (a,j,false)->G.ins i=some (a,j,false)
 fr:∀ {i p},i<=l.length->OkC (F.fr i p) (G.fr i p)
 so:∀ {i a j},i<=l.length->j<l.length->F.so i=some (a,j,false)->G.so i=some (a,j,false)
section
variable {l m:List Tn} {F G:Fs}
theorem aIg(E:Ext l m)(H:FE l F G){i:Nat}(hi:i+1<=l.length):OkC (aid F l i) (aid G m i):=by
 intro a j h
 unfold aid at h ⊢
 obtain⟨t,q,e1,e2⟩:=anj h
 obtain⟨c,rfl,rfl⟩:=ao9 e2
 rw[H.ins hi (dA c) e1]
 exact axb _ (by rw[E.is0 _ _ (dA c)];exact c)
theorem aDh(E:Ext l m)(H:FE l F G){i:Nat}(hi:i+1<=l.length):OkC (agL F l i) (agL G m i):=by
 intro a j h
 unfold agL at h ⊢
 obtain⟨t,q,e1,e2⟩:=anj h
 obtain⟨c,rfl,rfl⟩:=ao9 e2
 rw[H.so hi (dA c) e1]
 exact axb _ (by rw[E.is0 _ _ (dA c)];exact c)
theorem aCA(E:Ext l m)(H:FE l F G):∀ (n n':Nat) (ks:List Xp) {i:Nat},n<=n'->i<=l.length->OkC (acM F l n ks i) (acM G m n' ks i)
 | 0,_,_,_,_,_=>.none
 | n+1,0,_,_,h,_=>by omega
 | n+1,n'+1,ks,i,h,hi=>.fT E hi aI aI (λh1=>.on (H.or h1) (H.pl.or h1) λ_ _ _ h2=>aCA E H n n' _ aC h2) (.same _)
theorem atU(E:Ext l m)(H:FE l F G){i:Nat}(hi:i<=l.length):OkC (aa1 F l i) (aa1 G m i) :=
 .on (H.or hi) (H.pl.or hi) λ_ _ _ h2=>aCA E H _ _ _ (by have:=E.len;omega) h2
theorem aC8(E:Ext l m){ks:List Xp}{i:Nat}:OkC (af0 l ks i) (af0 m ks i):=.wE E
theorem aVT(E:Ext l m)(H:FE l F G){ks:List Xp}{i:Nat}(hi:i<=l.length):OkC (ahk F l ks i) (ahk G m ks i) :=
 .fT E hi aI aI (λh1=>.on (H.or h1) (H.pl.or h1) λ_ _ _ _=>aC8 E) (aC8 E)
theorem aC7(E:Ext l m)(H:FE l F G):∀ (n n':Nat) (ks:List Xp) {i:Nat},n<=n'->i<=l.length->OkC (aej F l n ks i) (aej G m n' ks i)
 | 0,_,_,_,_,_=>.none
 | n+1,0,_,_,h,_=>by omega
 | n+1,n'+1,ks,i,h,hi=>.fT E hi aI aI (λh1=>.on (H.or h1) (H.pl.or h1) λ_ _ _ _=>.wR E λh3=>.on (H.or h3) (H.pl.or h3) λ_ _ _ h4=>aC7 E H n n' _ aC h4) (aVT E H hi)
theorem aVR(E:Ext l m)(H:FE l F G){i:Nat}(hi:i<=l.length):OkC (afZ F l i) (afZ G m i) :=
 .fT E hi aI aI (λ_=>aC7 E H _ _ _ (by have:=E.len;omega) hi) .bad
theorem aKB(E:Ext l m)(H:FE l F G){f:List UInt8}{di:Bool}{i:Nat}(hi:i<=l.length):OkC (ak5 F l i f di) (ak5 G m i f di) :=
 .on (H.or hi) (H.pl.or hi) λ_ _ _ _=>.wE E
theorem aVW(E:Ext l m)(H:FE l F G){f:List UInt8}{i:Nat}(hi:i<=l.length):OkC (callS F l i f) (callS G m i f):=by
 unfold callS
 refine .fB ?_ ?_
 .have e:isT m i [42]=isT l i [42]:=E.is i _ hi aI aI
  rw[e]
  exact .fB (.wE E) (.fT E hi aI aI (λh1=>aKB E H h1) (aKB E H hi))
 .rcases aD i l.length with g|g
  .rw[E.is0 i _ g]
   exact .fB (.same _) (.on (atU E H hi) (ae7 H.pl hi) λ_ _ _ _=>.wE E)
  .intro a j h
   rw[aCI g] at h
   simp only[ah,av] at h
   obtain⟨ks,q,e1,e2⟩:=anj h
   obtain⟨c,_,_⟩:=ao9 e2
   have p:=ae7 H.pl hi _ _ _ e1
   have:=dA c
   omega
theorem aN9(E:Ext l m)(H:FE l F G){i:Nat}:OkC (agp F l i) (agp G m i) :=
 .wR E λh1=>.on (H.qy h1) (H.pl.qy h1) λ_ _ _ _=>.wE E
theorem aTB(E:Ext l m)(H:FE l F G){i:Nat}(hi:i<=l.length):OkC (ae4 F l i) (ae4 G m i):=by
 unfold ae4
 rw[aOo E hi]
 split
 .exact .same _
 refine .fT E hi aI aI (λh1=>.to (aIg E H h1)) ?_
 refine .fT E hi aI aI (λh1=>aVR E H h1) ?_
 refine .fT E hi aI aI (λh1=>aN9 E H) ?_
 rw[E.kd i 2 hi aI aI aI]
 split
 .rename_i c
  have c:=eZ c
  rw[E.tx i c]
  refine .fT E c aI aI (λh1=>aVW E H h1) ?_
  rw[E.is (i+1) _ c aI aI]
  split
  .rename_i d;rw[ams E (dA d)];exact .same _
  .exact .same _
 .exact .bad
theorem aHi(E:Ext l m)(H:FE l F G){i:Nat}{p:List Xp}(hi:i<=l.length):OkC (agP F l i p) (agP G m i p):=by
 cases p with
 | cons x r=>exact .same _
 | nil=>exact .fT E hi aI aI (λh1=>.to (H.un h1)) (aTB E H hi)
theorem aIZ(E:Ext l m){nx nx':Nat->List Xp->Rz Xp}(N:∀ {i p},i<=l.length->OkC (nx i p) (nx' i p))(P:∀ {i p},i<=l.length->Pl l i (nx i p))(so:List (List UInt8×Int))(hs:∀ p∈so,p.1≠[41]/\p.1≠[59]) :
  ∀ (n n':Nat) (a:Xp) {i:Nat},n<=n'->i<=l.length->OkC (aer nx l so n a i) (aer nx' m so n' a i)
 | 0,_,_,_,_,_=>.none
 | n+1,0,_,_,h,_=>by omega
 | n+1,n'+1,a,i,h,hi=>by
  unfold aer
  rw[apo E hi so hs]
  split
  .exact .same _
  .rename_i o c
   have c:=afC c
   exact .on (N c) (P c) λ_ _ _ h2=>aIZ E N P so hs n n' _ aC h2
theorem aoC(E:Ext l m){nx nx':Nat->List Xp->Rz Xp}(N:∀ {i p},i<=l.length->OkC (nx i p) (nx' i p))(P:∀ {i p},i<=l.length->Pl l i (nx i p))(so:List (List UInt8×Int))(hs:∀ p∈so,p.1≠[41]/\p.1≠[59])
  {i:Nat} {p:List Xp} (hi:i<=l.length):OkC (agi nx l so i p) (agi nx' m so i p) :=
 .on (N hi) (P hi) λ_ _ _ h2=>aIZ E N P so hs _ _ _ (by have:=E.len;omega) h2
theorem aZk(E:Ext l m)(H:FE l F G){i:Nat}{p:List Xp}(hi:i<=l.length):OkC (akO F l i p) (akO G m i p):=aoC E (λh=>aHi E H h) (λh=>apa H.pl h) _ aI hi
theorem a2M(E:Ext l m)(H:FE l F G){i:Nat}{p:List Xp}(hi:i<=l.length):OkC (ak6 F l i p) (ak6 G m i p):=aoC E (λh=>aZk E H h) (λh=>aCu H.pl h) _ aI hi
theorem aoS(E:Ext l m)(H:FE l F G){i:Nat}{p:List Xp}(hi:i<=l.length):OkC (acr F l i p) (acr G m i p):=aoC E (λh=>a2M E H h) (λh=>aDn H.pl h) _ aI hi
theorem aQp(E:Ext l m)(H:FE l F G)(a:Xp):∀ (n n':Nat) (ks:List Xp) {i:Nat},n<=n'->i<=l.length->OkC (inL F l a n ks i) (inL G m a n' ks i)
 | 0,_,_,_,_,_=>.none
 | n+1,0,_,_,h,_=>by omega
 | n+1,n'+1,ks,i,h,hi=>.fT E hi aI aI (λh1=>.on (H.or h1) (H.pl.or h1) λ_ _ _ h2=>aQp E H a n n' _ aC h2) (.wE E)
theorem aZN{a:Xp}(H:FP l F):∀ (n:Nat) (ks:List Xp) {i:Nat} {b:Xp} {j:Nat},i<=l.length->inL F l a n ks i=some (b,j,false)->i<l.length
 | 0,_,_,_,_,_,h=>by cases h
 | n+1,ks,i,b,j,hi,h=>by
  unfold inL at h
  split at h
  .rename_i c;exact dA c
  .exact dA (ao9 h).1
theorem a7v(E:Ext l m)(H:FE l F G){a:Xp}{i:Nat}:OkC (inS F l i a) (inS G m i a):=by
 refine .wR E λh1=>?_
 intro b j h
 obtain⟨t,q,e1,e2⟩:=anj h
 have hq:=(H.pl.ins h1 _ _ _ e1).2
 have lt:q<l.length:=by
  split at e2
  .exact dA (ao9 e2).1
  .exact aZN H.pl _ _ hq e2
 rw[H.ins h1 lt e1]
 show (if (t.q&&!t.w)=true then wantE (bH m q [41]) (af8 28 [a] t.y) else inL G m a (m.length+1) [a,t.val] q)=_
 split at e2
 .rename_i c
  rw[am c]
  exact OkC.wE E _ _ e2
 .rename_i c
  rw[aj c]
  exact aQp E H a _ _ _ (by have:=E.len;omega) hq _ _ e2
theorem aCC(E:Ext l m)(H:FE l F G){no:Bool}{a:Xp}{i:Nat}(hi:i<=l.length):OkC (ace F l no i a) (ace G m no i a) :=
 .fT E hi aI aI (λh1=>.to (aoS E H h1)) (.fT E hi aI aI (λh1=>.on (aoS E H h1) (aeO H.pl h1) λ_ _ _ _=>.wR E λh3=>.to (aoS E H h3))
  (.fT E hi aI aI (λh1=>.to (a7v E H)) (.same _)))
theorem a1X(E:Ext l m)(H:FE l F G){i:Nat}{a:Xp}(hi:i<=l.length):OkC (adA F l i a) (adA G m i a):=by
 unfold adA
 rw[apo E hi aiv aI]
 split
 .rename_i o c;exact .to (aoS E H (afC c))
 .exact .fT E hi aI aI (λh1=>.fT E h1 aI aI (λ_=>.wE E) (.wE E)) (.fT E hi aI aI (λh1=>aCC E H h1) (aCC E H hi))
theorem aID(E:Ext l m)(H:FE l F G){i:Nat}{p:List Xp}(hi:i<=l.length):OkC (aeF F l i p) (aeF G m i p):=by
 unfold aeF
 rw[E.is i _ hi aI aI]
 split
 .rename_i c
  rw[ap] at c
  exact .to (H.no (dA c.2))
 .exact .on (aoS E H hi) (aeO H.pl hi) λ_ _ _ h2=>a1X E H h2
theorem a2F(E:Ext l m)(H:FE l F G){i:Nat}{p:List Xp}(hi:i<=l.length):OkC (ak4 F l i p) (ak4 G m i p):=aoC E (λh=>aID E H h) (λh=>apu H.pl h) _ aI hi
theorem a5z(E:Ext l m)(H:FE l F G){i:Nat}{p:List Xp}(hi:i<=l.length):OkC (orS F l i p) (orS G m i p):=aoC E (λh=>a2F E H h) (λh=>aDl H.pl h) _ aI hi
theorem aZM(E:Ext l m)(H:FE l F G){i:Nat}{a:Th}{j:Nat}(hi:i<=l.length)(hj:j<l.length)(h:aiZ F l i=some (a,j,false)):aiZ G m i=some (a,j,false):=by
 unfold aiZ at h ⊢
 rw[E.is i _ hi aI aI,E.is i _ hi aI aI]
 split at h
 .rename_i c;rw[am c];exact OkC.to (H.qy hi) _ _ h
 rename_i c;rw[aj c]
 split at h
 .rename_i c1;rw[am c1]
  obtain⟨t,q,e1,e2⟩:=anj h
  have c1:=dA c1
  have hq:=amk H.pl c1 _ _ _ e1
  rw[aIg E H c1 _ _ e1]
  show (if (t.q&&aez m q)=true then (G.qy q [t.y]).to Th.ofQ else if (t.q&&isT m q [41])=true then some ({t with w:=true},q,false) else (G.or q [t.val]).to Th.ofE)=_
  rw[aCQ E hq.2]
  split at e2
  .rename_i d;rw[am d];exact OkC.to (H.qy hq.2) _ _ e2
  rename_i d;rw[aj d]
  split at e2
  .rename_i d2
   rw[ap] at d2
   rw[E.is0 q _ (dA d2.2),am (by rw[d2.1,d2.2];rfl)]
   exact e2
  .rename_i d2
   obtain⟨x,e3,rfl⟩:=aPy e2
   have:=H.pl.or hq.2 _ _ _ e3
   rw[E.is0 q _ aC,aj d2]
   exact OkC.to (H.or hq.2) _ _ e2
 .rename_i c1;rw[aj c1];exact OkC.to (H.or hi) _ _ h
theorem aZE(E:Ext l m){i:Nat}(hi:i<=l.length):(br m i 2&&(isT m (i+1) [46]&&isT m (i+2) [42]))=(br l i 2&&(isT l (i+1) [46]&&isT l (i+2) [42])):=by
 rw[E.kd i 2 hi aI aI aI]
 cases c:br l i 2 with
 | false=>rfl
 | true =>
  have c:=eZ c
  rw[E.is (i+1) _ c aI aI]
  cases d:isT l (i+1) [46] with
  | false=>rfl
  | true=>rw[E.is (i+2) _ (dA d) aI aI]
theorem aUC(E:Ext l m)(H:FE l F G){i:Nat}(hi:i<=l.length):OkC (aec F l i) (aec G m i):=by
 refine .fT E hi aI aI (λ_=>.same _) ?_
 rw[aZE E hi]
 split
 .rename_i c
  rw[ap] at c
  rw[E.tx i (eZ c.1)]
  exact .same _
 .exact .on (H.or hi) (H.pl.or hi) λ_ _ _ h2=>by rw[ara E h2];exact .same _
theorem alG(E:Ext l m)(H:FE l F G){w:List UInt8}{i:Nat}(hi:i<=l.length)(h1:w≠[41])(h2:w≠[59]):OkC (aaS F l i w) (aaS G m i w) :=
 .fT E hi h1 h2 (λh=>.to (H.or h)) (.same _)
theorem aHS(E:Ext l m)(H:FE l F G){di:Bool}{its:List Im}{fr:List Fm}{wh gr:List Xp}{i:Nat}(hi:i<=l.length):OkC (ah6 F l di its fr wh gr i) (ah6 G m di its fr wh gr i) :=
 .to (alG E H hi aI aI)
theorem aXS(E:Ext l m)(H:FE l F G){di:Bool}{its:List Im}{fr:List Fm}{wh:List Xp}{i:Nat}(hi:i<=l.length):OkC (ah7 F l di its fr wh i) (ah7 G m di its fr wh i) :=
 .fT E hi aI aI (λ_=>.wR E λh1=>.on (atU E H h1) (ae7 H.pl h1) λ_ _ _ h2=>aHS E H h2) (aHS E H hi)
theorem aHP(E:Ext l m)(H:FE l F G){di:Bool}{its:List Im}{fr:List Fm}{i:Nat}(hi:i<=l.length):OkC (ah5 F l di its fr i) (ah5 G m di its fr i) :=
 .on (alG E H hi aI aI) (acS H.pl hi) λ_ _ _ h2=>aXS E H h2
theorem aXU(E:Ext l m)(H:FE l F G){di:Bool}{its:List Im}{i:Nat}(hi:i<=l.length):OkC (ahu F l di its i) (ahu G m di its i) :=
 .fT E hi aI aI (λh1=>.on (H.fr h1) (H.pl.fr h1) λ_ _ _ h2=>aHP E H h2) (aHP E H hi)
theorem axL(E:Ext l m)(H:FE l F G)(di:Bool):∀ (n n':Nat) (its:List Im) {i:Nat},n<=n'->i<=l.length->OkC (aga F l di n its i) (aga G m di n' its i)
 | 0,_,_,_,_,_=>.none
 | n+1,0,_,_,h,_=>by omega
 | n+1,n'+1,its,i,h,hi=>.on (aUC E H hi) (akS H.pl hi) λ_ _ _ h2=>.fT E h2 aI aI (λh3=>axL E H di n n' _ aC h3) (aXU E H h2)
theorem aXP(E:Ext l m)(H:FE l F G){i:Nat}(hi:i<=l.length):OkC (ajO F l i) (ajO G m i) :=
 .fT E hi aI aI (λh1=>axL E H _ _ _ _ (by have:=E.len;omega) h1) (axL E H _ _ _ _ (by have:=E.len;omega) hi)
theorem aTU(E:Ext l m)(H:FE l F G){i:Nat}{p:List Qy}(hi:i<=l.length):OkC (acx F l i p) (acx G m i p):=by
 cases p with
 | cons x r=>exact .same _
 | nil=>exact .fT E hi aI aI (λh1=>.on (H.qy h1) (H.pl.qy h1) λ_ _ _ _=>.wE E) (.wR E λh1=>aXP E H h1)
theorem aHO(E:Ext l m){nx nx':Nat->List Qy->Rz Qy}(N:∀ {i p},i<=l.length->OkC (nx i p) (nx' i p))(P:∀ {i p},i<=l.length->Pl l i (nx i p))(so:List (List UInt8×Int))(hs:∀ p∈so,p.1≠[41]/\p.1≠[59]) :
  ∀ (n n':Nat) (a:Qy) {i:Nat},n<=n'->i<=l.length->OkC (adb nx l so n a i) (adb nx' m so n' a i)
 | 0,_,_,_,_,_=>.none
 | n+1,0,_,_,h,_=>by omega
 | n+1,n'+1,a,i,h,hi=>by
  unfold adb
  rw[apo E hi so hs]
  split
  .exact .same _
  .rename_i o c
   have c:=afC c
   rw[E.is (i+1) _ c aI aI]
   have h3:(if isT l (i+1) [97,108,108]=true then i+2 else i+1)<=l.length:=by
    split
    .rename_i d;exact dA d
    .exact c
   exact .on (N h3) (P h3) λ_ _ _ h2=>aHO E N P so hs n n' _ aC h2
theorem aHM(E:Ext l m){nx nx':Nat->List Qy->Rz Qy}(N:∀ {i p},i<=l.length->OkC (nx i p) (nx' i p))(P:∀ {i p},i<=l.length->Pl l i (nx i p))(so:List (List UInt8×Int))(hs:∀ p∈so,p.1≠[41]/\p.1≠[59])
  {i:Nat} {p:List Qy} (hi:i<=l.length):OkC (ah3 nx l so i p) (ah3 nx' m so i p) :=
 .on (N hi) (P hi) λ_ _ _ h2=>aHO E N P so hs _ _ _ (by have:=E.len;omega) h2
theorem aNt(E:Ext l m)(H:FE l F G){i:Nat}{p:List Qy}(hi:i<=l.length):OkC (aaE F l i p) (aaE G m i p):=aHM E (λh=>aTU E H h) (λh=>aqx H.pl h) _ aI hi
theorem aKV(E:Ext l m)(H:FE l F G){i:Nat}{p:List Qy}(hi:i<=l.length):OkC (ah1 F l i p) (ah1 G m i p):=aHM E (λh=>aNt E H h) (λh=>alC H.pl h) _ aI hi
theorem aSJ(E:Ext l m):∀ (n n':Nat) (os:List Od) {i:Nat},n<=n'->i<=l.length->OkC (byL l n os i) (byL m n' os i)
 | 0,_,_,_,_,_=>.none
 | n+1,0,_,_,h,_=>by omega
 | n+1,n'+1,os,i,h,hi=>by
  unfold byL
  rcases aD i l.length with g|g
  .rw[E.kd i 2 hi aI aI aI,E.kd i 3 hi aI aI aI,E.tx i g,E.nu i g,E.is (i+1) _ g aI aI,asQ E g _ aI]
   have h3:(if co l (i+1) [[97,115,99],[100,101,115,99]]=true then i+2 else i+1)<=l.length:=by
    split
    .rename_i d;exact aq6 d
    .exact g
   split
   .exact .fT E h3 aI aI (λh4=>aSJ E n n' _ aC h4) (.same _)
   .exact .bad
  .intro a j e
   have k2:br l i 2=false:=by unfold br;rw[aZ g]
   have k3:br l i 3=false:=by unfold br;rw[aZ g]
   rw[k2,k3] at e
   cases e
theorem a2A(E:Ext l m){i:Nat}:OkC (ajY l i) (ajY m i):=.wR E λh=>aSJ E _ _ _ (by have:=E.len;omega) h
theorem aIp(E:Ext l m){q:Qy}{od:List Od}{li:Int}{i:Nat}(hi:i<=l.length):OkC (agc l q od li i) (agc m q od li i):=by
 refine .fT E hi aI aI (λh1=>?_) (.same _)
 rw[E.kd (i+1) 3 h1 aI aI aI]
 split
 .rename_i c;rw[E.nu _ (eZ c)];exact .same _
 .exact .bad
theorem aIX(E:Ext l m){q:Qy}{od:List Od}{i:Nat}(hi:i<=l.length):OkC (aep l q od i) (aep m q od i):=by
 refine .fT E hi aI aI (λh1=>?_) (aIp E hi)
 rw[E.kd (i+1) 3 h1 aI aI aI]
 split
 .rename_i c;rw[E.nu _ (eZ c)];exact aIp E (eZ c)
 .exact .bad
theorem aLs(E:Ext l m)(H:FE l F G){i:Nat}{p:List Qy}(hi:i<=l.length):OkC (aeD F l i p) (aeD G m i p):=by
 refine .on (aKV E H hi) (auu H.pl hi) λq j _ h2=>?_
 rw[asQ E h2 _ aI]
 split
 .exact .bad
 .exact .fT E h2 aI aI (λh3=>.on (a2A E) (aDf h3) λ_ _ _ h4=>aIX E h4) (aIX E h2)
theorem avm(E:Ext l m){i:Nat}{q:Qy}(hi:i<=l.length):abO m i q=abO l i q:=by unfold abO;rw[ara E hi]
theorem aHF(E:Ext l m)(H:FE l F G){i:Nat}(hi:i<=l.length):OkC (adY F l i) (adY G m i):=by
 refine .fT E hi aI aI (λh1=>.on (aDh E H h1) (anR H.pl h1) λ_ _ _ h2=>?_) (.nR E hi λ_ h1=>by rw[ara E h1];exact .same _)
 rw[avm E h2]
 exact .same _
theorem aUA(E:Ext l m){i:Nat}(hi:i<=l.length):ac7 m i=ac7 l i:=by
 unfold ac7
 rw[E.is i _ hi aI aI,E.is i _ hi aI aI,E.is i _ hi aI aI,E.is i _ hi aI aI]
theorem apB(E:Ext l m)(H:FE l F G):∀ (n n':Nat) (a:Fm) {i:Nat},n<=n'->i<=l.length->OkC (acz F l n a i) (acz G m n' a i)
 | 0,_,_,_,_,_=>.none
 | n+1,0,_,_,h,_=>by omega
 | n+1,n'+1,a,i,h,hi=>by
  unfold acz
  rw[aUA E hi]
  split
  .exact .same _
  .refine .wsR E _ hi λj _ h2=>.on (aHF E H h2) (amb H.pl h2) λb q _ h3=>?_
   split
   .exact apB E H n n' _ aC h3
   .exact .fT E h3 aI aI (λh4=>.on (H.or h4) (H.pl.or h4) λ_ _ _ h5=>apB E H n n' _ aC h5) .bad
theorem aCH(E:Ext l m)(H:FE l F G){i:Nat}{p:List Fm}(hi:i<=l.length):OkC (adT F l i p) (adT G m i p):=by
 cases p with
 | cons x r=>exact apB E H _ _ _ (by have:=E.len;omega) hi
 | nil=>exact .on (aHF E H hi) (amb H.pl hi) λ_ _ _ h2=>apB E H _ _ _ (by have:=E.len;omega) h2
theorem aCS(E:Ext l m)(H:FE l F G):∀ (n n':Nat) (a:Fm) {i:Nat},n<=n'->i<=l.length->OkC (aed F l n a i) (aed G m n' a i)
 | 0,_,_,_,_,_=>.none
 | n+1,0,_,_,h,_=>by omega
 | n+1,n'+1,a,i,h,hi=>.fT E hi aI aI (λh1=>.on (aCH E H h1) (aiY H.pl h1) λ_ _ _ h2=>aCS E H n n' _ aC h2) (.same _)
theorem aUO(E:Ext l m)(H:FE l F G){i:Nat}{p:List Fm}(hi:i<=l.length):OkC (ahi F l i p) (ahi G m i p) :=
 .on (aCH E H hi) (aiY H.pl hi) λ_ _ _ h2=>aCS E H _ _ _ (by have:=E.len;omega) h2
theorem aHH(E:Ext l m)(H:FE l F G){i:Nat}{a:Th}{j:Nat}(hi:i<=l.length)(hj:j<l.length)(h:ac2 F l i=some (a,j,false)):ac2 G m i=some (a,j,false):=by
 unfold ac2 at h ⊢
 rw[E.is i _ hi aI aI,E.is i _ hi aI aI]
 split at h
 .rename_i c;rw[am c];exact OkC.to (H.qy hi) _ _ h
 rename_i c;rw[aj c]
 split at h
 .rename_i c1;rw[am c1]
  obtain⟨t,q,e1,e2⟩:=anj h
  have c1:=dA c1
  have hq:=anR H.pl c1 _ _ _ e1
  have hs:=am3 H.pl hi
  rw[aDh E H c1 _ _ e1]
  have lt:q<l.length:=by
   rcases aD q l.length with g|g
   .exact g
   .exfalso
    have hp:∀ {r:Rz Th} {p},Pl l p r->r=some (a,j,false)->l.length<=p->False:=λh e hp=>by have:=h _ _ _ e;omega
    have:Pl l q (if (t.q&&isT l q [41])=true then some (t,q,false) else if (t.q&&aez l q)=true then (F.qy q [t.y]).to Th.ofQ else if t.q=true then (abO l q t.y).on (λ_=>t) λf m=>(F.fr m [f]).to Th.ofF else (F.fr q [t.f]).to Th.ofF) :=
     .fI (.so (ae _) hq.2) (.fI (.to (H.pl.qy hq.2) (ae _)) (.fI (.on (ako hq.2) (ae _) λ_ _ h1 h2=>.to (H.pl.fr h2) h1) (.to (H.pl.fr hq.2) (ae _))))
    exact hp this e2 g
  show (if (t.q&&isT m q [41])=true then some (t,q,false) else if (t.q&&aez m q)=true then (G.qy q [t.y]).to Th.ofQ else if t.q=true then (abO m q t.y).on (λ_=>t) λf m=>(G.fr m [f]).to Th.ofF else (G.fr q [t.f]).to Th.ofF)=_
  rw[E.is0 q _ lt,aCQ E hq.2,avm E hq.2]
  split at e2
  .rename_i d;rw[am d];exact e2
  rename_i d;rw[aj d]
  split at e2
  .rename_i d;rw[am d];exact OkC.to (H.qy hq.2) _ _ e2
  rename_i d;rw[aj d]
  split at e2
  .rename_i d;rw[am d]
   exact OkC.on (.same _) (ako hq.2) (λ_ _ _ h2=>.to (H.fr h2)) _ _ e2
  .rename_i d;rw[aj d];exact OkC.to (H.fr hq.2) _ _ e2
 .rename_i c1;rw[aj c1];exact OkC.to (H.fr hi) _ _ h
theorem aWO(E:Ext l m)(H:FE l F G):FE l (alq l F) (alq m G) where
 pl:=aDp H.pl
 or h:=a5z E H h
 no h:=aID E H h
 un h:=aHi (p:=[]) E H h
 qy h:=aLs E H h
 ins h1 h2 h:=aZM E H h1 h2 h
 fr h:=aUO E H h
 so h1 h2 h:=aHH E H h1 h2 h
theorem aWP(G:Fs):FE l apv G where
 pl:=aDq l
 or _:=.none
 no _:=.none
 un _:=.none
 qy _:=.none
 ins _ _ h:=by cases h
 fr _:=.none
 so _ _ h:=by cases h
theorem az7(E:Ext l m):∀ n n',n<=n'->FE l (ahh l n) (ahh m n')
 | 0,_,_=>aWP _
 | n+1,0,h=>by omega
 | n+1,n'+1,h=>aWO E (az7 E n n' aC)
end
def aCy(P X:List Tn)(k:Nat):LocR P.length X (P++X.map (shT k)) where
 le:=by simp
 is i w:=by unfold isT;rw[bW aC,aaN,bo];cases X[i]? <;> rfl
 kd i w:=by unfold br;rw[bW aC,aaN,bo];cases X[i]? <;> rfl
 tx i:=by unfold txT;rw[bW aC,aaN,bo];cases X[i]? <;> rfl
 nu i:=by unfold nuT;rw[bW aC,aaN,bo];cases X[i]? <;> rfl
def aUD{M:List Tn}{p:Nat}{t:Tn}(h:M[p]?=some t)(hk:t.k=1\/t.k=5)(w:List UInt8):isT M p w=decide (t.s=w):=by
 unfold isT;rw[h];rcases hk with hk|hk <;> simp[hk]
section
variable {M:List Tn} {F:Fs} {i j q e:Nat} {nx:Nat->List Xp->Rz Xp} {so:List (List UInt8×Int)} {pre:List Xp} {a b:Xp}
theorem aeE:∀ {so:List (List UInt8×Int)},(∀ p∈so,isT M j p.1=false)->opT M j so=none
 | [],_=>rfl
 | (w,o)::r,h=>by
  unfold opT
  rw[h (w,o) aT]
  simp only[ah,av]
  exact aeE λp hp=>h p (by simp[hp])
structure Stop (M:List Tn) (j:Nat):Prop where
 mul:opT M j [([42],7),([47],8),([37],9)]=none
 add:opT M j [([43],5),([45],6)]=none
 cat:opT M j [([124,124],10)]=none
 cmp:opT M j aiv=none
 is:isT M j [105,115]=false
 no:isT M j [110,111,116]=false
 like:isT M j [108,105,107,101]=false
 bet:isT M j [98,101,116,119,101,101,110]=false
 ins:isT M j [105,110]=false
 and:opT M j [([97,110,100],17)]=none
 or:opT M j [([111,114],18)]=none
theorem Stop.out(h:M.length<=j):Stop M j:=by
 have z:∀ w,isT M j w=false:=λw=>aCI h
 exact⟨aeE λp _=>z _,aeE λp _=>z _,aeE λp _=>z _,aeE λp _=>z _,z _,z _,z _,z _,z _,aeE λp _=>z _,aeE λp _=>z _⟩
def opW:List (List UInt8):=[[42],[47],[37],[43],[45],[124,124],[61],[60,62],[60],[60,61],[62],[62,61],[105,115],[110,111,116],[108,105,107,101],[98,101,116,119,101,101,110],[105,110],[97,110,100],[111,114]]
theorem Stop.of(h:∀ w∈opW,isT M j w=false):Stop M j:=by
 exact⟨aeE λp hp=>h _ ((by decide:∀ p∈([([42],7),([47],8),([37],9)]:List (List UInt8×Int)),p.1∈opW) p hp),aeE λp hp=>h _ ((by decide:∀ p∈([([43],5),([45],6)]:List (List UInt8×Int)),p.1∈opW) p hp),aeE λp hp=>h _ ((by decide:∀ p∈([([124,124],10)]:List (List UInt8×Int)),p.1∈opW) p hp),aeE λp hp=>h _ ((by decide:∀ p∈(aiv:List (List UInt8×Int)),p.1∈opW) p hp),h _ aI,h _ aI,h _ aI,h _ aI,h _ aI,aeE λp hp=>h _ ((by decide:∀ p∈([([97,110,100],17)]:List (List UInt8×Int)),p.1∈opW) p hp),aeE λp hp=>h _ ((by decide:∀ p∈([([111,114],18)]:List (List UInt8×Int)),p.1∈opW) p hp)⟩
theorem Stop.tok{t:Tn}(h:M[j]?=some t)(hk:t.k=1\/t.k=5)(hs:t.s∉opW):Stop M j:=Stop.of λw hw=>by
 rw[aUD h hk]
 exact bw λe=>hs (e▸hw)
end
theorem LocR.trans{d e:Nat}{l m M:List Tn}(h:LocR d l m)(g:LocR e m M):LocR (e+d) l M where
 le:=fJ h.le g.le
 is i w:=by rw[bA,g.is,h.is]
 kd i w:=by rw[bA,g.kd,h.kd]
 tx i:=by rw[bA,g.tx,h.tx]
 nu i:=by rw[bA,g.nu,h.nu]
section
variable {M:List Tn} {F:Fs} {q e:Nat} {a b:Xp} {w0:List UInt8}
end
end Go.Tab
namespace Go.Proofs.YtghkmcffifpkeaaGreat
open Pe Tab
abbrev tk1(c:UInt8):Tn:=⟨5,0,1,0,[c]⟩
def aM9(t:Tn)(X:List Tn)(k:Nat):LocR 1 X (t::X.map (shT k)):=aCy [t] X k
end Go.Proofs.YtghkmcffifpkeaaGreat
namespace Go.Tab
open Pe
section
variable {l m:List Tn} {F G:Fs}
theorem ayn(E:Ext l m):∀ (n n':Nat) (o:List (List UInt8)) {i:Nat},n<=n'->i<=l.length->OkC (adK l n o i) (adK m n' o i)
 | 0,_,_,_,_,_=>.none
 | n+1,0,_,_,h,_=>by omega
 | n+1,n'+1,o,i,h,hi=>by
  unfold adK
  rw[E.kd i 2 hi aI aI aI]
  split
  .rename_i c
   have c:=eZ c
   rw[E.tx i c]
   exact .fT E c aI aI (λh1=>ayn E n n' _ aC h1) (.wE E)
  .exact .bad
theorem aiT(E:Ext l m){i:Nat}:OkC (abt l i) (abt m i):=.wR E λh1=>ayn E _ _ _ (by have:=E.len;omega) h1
theorem aXd(E:Ext l m){i:Nat}(hi:i<=l.length):an7 m i=an7 l i:=apo E hi _ aI
theorem a1V(E:Ext l m){i:Nat}(hi:i<=l.length):OkC (agY l i) (agY m i):=by
 refine .nR E hi λs h1=>?_
 rw[aXd E h1]
 split
 .exact .bad
 .rename_i k c
  have c:=afC c
  exact .fT E c aI aI (λ_=>.wE E) (.same _)
theorem aX5(E:Ext l m){i:Nat}:OkC (anc l i) (anc m i):=by
 refine .wR E λh1=>.on (aiT E) (ad7 h1) λf j _ h2=>.wR E λh3=>.nR E h3 λt h4=>?_
 intro a q h
 split at h
 .cases h
 .cases h
 .rename_i o p e
  cases h
  rw[aiT E _ _ e]
theorem a79(E:Ext l m)(H:FE l F G){i:Nat}{s:Cr}(hi:i<=l.length):OkC (elS F l i s) (elS G m i s):=by
 unfold elS
 rw[E.kd i 2 hi aI aI aI]
 refine .fB ?_ ?_
 .exact .to (a1V E hi)
 refine .fT E hi aI aI (λh1=>.wR E λh2=>.to (aiT E)) ?_
 refine .fT E hi aI aI (λh1=>.to (aiT E)) ?_
 refine .fT E hi aI aI (λh1=>.to (aX5 E)) ?_
 exact .fT E hi aI aI (λh1=>.wR E λh2=>.on (H.or h2) (H.pl.or h2) λ_ _ _ _=>.wE E) (.same _)
theorem aSo(E:Ext l m)(H:FE l F G):∀ (n n':Nat) (s:Cr) {i:Nat},n<=n'->i<=l.length->OkC (elL F l n s i) (elL G m n' s i)
 | 0,_,_,_,_,_=>.none
 | n+1,0,_,_,h,_=>by omega
 | n+1,n'+1,s,i,h,hi=>.on (a79 E H hi) (aza H.pl hi) λ_ _ _ h2=>.fT E h2 aI aI (λh3=>aSo E H n n' _ aC h3) (.wE E)
theorem ayI(E:Ext l m){un:Bool}{i:Nat}:OkC (ag5 l un i) (ag5 m un i) :=
 .wR E λh1=>.nR E h1 λ_ h2=>.wR E λh3=>.nR E h3 λ_ h4=>.to (aiT E)
theorem aJL(E:Ext l m)(H:FE l F G){i:Nat}(hi:i<=l.length):OkC (ac8 F l i) (ac8 G m i) :=
 .fT E hi aI aI (λh1=>.nR E h1 λ_ h2=>.wR E λh3=>.to (aSo E H _ _ _ (by have:=E.len;omega) h3)) (.fT E hi aI aI (λ_=>ayI E) (ayI E))
theorem aVJ(E:Ext l m){i:Nat}(hi:i<=l.length):OkC (aiu l i) (aiu m i) :=
 .fT E hi aI aI (λh1=>by rw[ams E h1];exact .same _) (.fT E hi aI aI (λh1=>by rw[ams E h1];exact .same _) .bad)
theorem aHX(E:Ext l m)(H:FE l F G)(t:List UInt8)(ns:List (List UInt8)):∀ (n n':Nat) (rw:List (List Xp)) {i:Nat},n<=n'->OkC (agS F l t ns n rw i) (agS G m t ns n' rw i)
 | 0,_,_,_,_=>.none
 | n+1,0,_,_,h=>by omega
 | n+1,n'+1,rw,i,h=>.wR E λh1=>.on (atU E H h1) (ae7 H.pl h1) λ_ _ _ _=>.wR E λh3=>.fT E h3 aI aI (λ_=>aHX E H t ns n n' _ aC) (.same _)
theorem aJe(E:Ext l m)(H:FE l F G){t:List UInt8}{ns:List (List UInt8)}{i:Nat}(hi:i<=l.length):OkC (agl F l t ns i) (agl G m t ns i) :=
 .fT E hi aI aI (λ_=>aHX E H _ _ _ _ _ (by have:=E.len;omega)) (.to (H.qy hi))
theorem aJd(E:Ext l m)(H:FE l F G){i:Nat}:OkC (ab2 F l i) (ab2 G m i):=by
 refine .wR E λh1=>.nR E h1 λt h2=>?_
 have e:(isT m (i+1+1) [40]&&br m (i+1+1+1) 2)=(isT l (i+1+1) [40]&&br l (i+1+1+1) 2):=by
  rw[E.is _ _ h2 aI aI]
  cases c:isT l (i+1+1) [40] with
  | false=>rfl
  | true=>rw[E.kd _ 2 (dA c) aI aI aI]
 rw[e]
 exact .fB (.on (aiT E) (ad7 h2) λ_ _ _ h3=>aJe E H h3) (aJe E H h2)
theorem aKq(E:Ext l m)(H:FE l F G)(t:List UInt8):∀ (n n':Nat) (ss:List As) {i:Nat},n<=n'->i<=l.length->OkC (ai6 F l t n ss i) (ai6 G m t n' ss i)
 | 0,_,_,_,_,_=>.none
 | n+1,0,_,_,h,_=>by omega
 | n+1,n'+1,ss,i,h,hi=>.nR E hi λ_ h1=>.wR E λh2=>.on (H.or h2) (H.pl.or h2) λ_ _ _ h3=>.fT E h3 aI aI (λh4=>aKq E H t n n' _ aC h4) (.to (alG E H h3 aI aI))
theorem aHe(E:Ext l m)(H:FE l F G){i:Nat}(hi:i<=l.length):OkC (ad0 F l i) (ad0 G m i) :=
 .nR E hi λ_ h1=>.wR E λh2=>aKq E H _ _ _ _ (by have:=E.len;omega) h2
theorem a1M(E:Ext l m)(H:FE l F G){i:Nat}:OkC (anL F l i) (anL G m i) :=
 .wR E λh1=>.nR E h1 λ_ h2=>.to (alG E H h2 aI aI)
theorem aCe(E:Ext l m)(H:FE l F G){i:Nat}(hi:i<=l.length):OkC (abq F l i) (abq G m i):=by
 unfold abq
 rw[apo E hi afd aI]
 split
 .exact .same _
 refine .fT E hi aI aI (λh1=>aJL E H h1) ?_
 refine .fT E hi aI aI (λh1=>aVJ E h1) ?_
 refine .fT E hi aI aI (λh1=>aJd E H) ?_
 refine .fT E hi aI aI (λh1=>aHe E H h1) ?_
 refine .fT E hi aI aI (λh1=>a1M E H) ?_
 exact .fT E hi aI aI (λh1=>.to (H.qy h1)) (.to (H.qy hi))
end
end Go.Tab
namespace Go.Proofs.YtghkmcffifpkeaaGreat
open Pe Tab
theorem aB1{s:List UInt8}:∀ (n:Nat) (o:List Tn) (i:Nat) (r:List Tn×Int×Int),i<=s.length->(∀ t∈o,0<=t.pl/\t.pl<=(s.length:Int))->aeA s n o i=some r->(∀ t∈r.1,0<=t.pl/\t.pl<=(s.length:Int))/\0<=r.2.1/\r.2.1<=(s.length:Int)
 | 0,_,_,_,_,_,h=>by cases h
 | n+1,o,i,r,hi,ho,h=>by
  unfold aeA at h
  have hp:=ayj hi
  split at h
  .cases h;exact⟨by simp,hp⟩
  .rename_i e
   have e:(dJ s i).2=0:=by simpa using e
   split at h
   .cases h;exact⟨ho,ac5 _,by dsimp only;omega⟩
   .rename_i k
    have hb:((dJ s i).1.pl+(dJ s i).1.sz).toNat<=s.length:=by
     rcases aiR hi (t:=(dJ s i).1) (aik rfl e) with q|⟨j,hj,q⟩
     .exact absurd q k
     .have h1:=q.pl;have h2:=q.sz;omega
    refine aB1 n _ _ r hb (λt ht=>?_) h
    rcases bt.1 ht with ht|ht
    .exact ho t ht
    .rw[cn.1 ht];exact hp
def aKZ{s:List UInt8}{r:List Tn×Int×Int}(h:fL s=some r):(∀ t∈r.1,0<=t.pl/\t.pl<=(s.length:Int))/\0<=r.2.1/\r.2.1<=(s.length:Int):=by
 unfold fL at h
 split at h
 .cases h;exact⟨by simp,ac5 _,by dsimp only;omega⟩
 .exact aB1 _ _ _ _ (aO _) aT h
def ax0{s:List UInt8}{l:List Tn}(h:∀ t∈l,0<=t.pl/\t.pl<=(s.length:Int))(j:Nat):0<=plT s l j/\plT s l j<=(s.length:Int):=by
 unfold plT
 split
 .omega
 .exact h _ (ajv aC)
def aqA{α:Type}{z:α}{run:List Tn->Rz α}{right:α->Bool}{s:List UInt8}{a:α}{p e:Int}(h:abT z run right s=some (a,p,e)):(0<=p/\p<=(s.length:Int))/\(e=0->p=0/\right a=true):=by
 unfold abT at h
 split at h
 .cases h
 .rename_i l p' e' ht
  have hp:=aKZ ht
  dsimp only at hp
  split at h
  .cases hr:run l with
   | none=>rw[hr] at h;cases h
   | some r =>
    rw[hr] at h
    obtain⟨a',j,b⟩:=r
    simp only[aG,ab] at h
    cases b with
    | true =>
     simp only[cH,aX] at h
     obtain⟨_,rfl,rfl⟩:=h
     exact⟨ax0 hp.1 j,λe=>by split at e <;> cases e⟩
    | false =>
     simp only[cH] at h
     split at h
     .cases h;exact⟨ax0 hp.1 j,λe=>by cases e⟩
     .split at h
      .rename_i c;cases h;exact⟨⟨ac5 _,by omega⟩,λ_=>⟨rfl,c⟩⟩
      .cases h;exact⟨ax0 hp.1 0,λe=>by cases e⟩
  .rename_i he;cases h;exact⟨hp.2,λe=>absurd e he⟩
def aqz{α:Type}{z:α}{run:List Tn->Rz α}{right:α->Bool}{s:List UInt8}{a:α}{p:Int}(h:abT z run right s=some (a,p,0)):∃ l j,fL s=some (l,0,0)/\ToksOk s l/\s.length<=2000/\run l=some (a,j,false)/\l.length<=j/\right a=true:=by
 unfold abT at h
 split at h
 .cases h
 .rename_i l p' e' ht
  split at h
  .rename_i he
   subst he
   obtain⟨hok,h20,hp⟩:=adH ht rfl
   subst hp
   cases hr:run l with
   | none=>rw[hr] at h;cases h
   | some r =>
    rw[hr] at h
    obtain⟨a',j,b⟩:=r
    simp only[aG,ab] at h
    cases b with
    | true=>simp only[cH,aX] at h;obtain⟨_,_,h⟩:=h;split at h <;> cases h
    | false =>
     simp only[cH] at h
     split at h
     .cases h
     .rename_i c
      split at h
      .rename_i c2;cases h;exact⟨l,j,ht,hok,h20,hr,by omega,c2⟩
      .cases h
  .rename_i he
   simp only[bF] at h
   exact absurd h.2.2 he
def aya{α:Type}{z:α}{run:List Tn->Rz α}{right:α->Bool}{s:List UInt8}{m:List Tn}{a:α}{j:Nat}(h:fL s=some (m,0,0))(hr:run m=some (a,j,false))(hj:m.length<=j):abT z run right s=some (if right a then (a,0,0) else (z,plT s m 0,4)):=by
 unfold abT
 rw[h]
 dsimp only
 rw[am rfl,hr]
 simp only[aG,cH,aj (show ¬j<m.length by omega)]
def aEm{s:List UInt8}{b:Qy}{p:Int}(h:ag2 s=some (b,p,0)):∃ q,ado s=some (if agA (quX 7 b) then (quX 7 b,0,0) else (Go.Tab.s0,q,4)):=by
 obtain⟨l,j,h1,h2,h3,h4,h5,h6⟩:=aqz h
 refine⟨plT s l 0,aya (j:=j) h1 ?_ h5⟩
 have hc:isT l 0 [115,101,108,101,99,116]=true\/isT l 0 [40]=true:=by
  cases c1:isT l 0 [115,101,108,101,99,116] with
  | true=>exact .inl rfl
  | false =>
   cases c2:isT l 0 [40] with
   | true=>exact .inr rfl
   | false=>have:=ao0 l _ 0 _ c1 c2 h4;simp only[aX] at this;exact absurd this.2 aT
 have key:∀ w,isT l 0 w=true->(∀ v∈afd.map (·.1)++[[99,114,101,97,116,101],[100,114,111,112],[105,110,115,101,114,116],[117,112,100,97,116,101],[100,101,108,101,116,101],[101,120,112,108,97,105,110]],v≠w)->abq (pF l) l 0=((pF l).qy 0 []).to (quX 7):=by
  intro w c hv
  have hn:∀ v,v≠w->isT l 0 v=false:=λv h=>ain c v h
  unfold abq
  rw[afB c afd λq hq=>hv _ (ach _ (List.mem_map_of_mem hq))]
  dsimp only
  rw[hn _ (hv _ aI),hn _ (hv _ aI),hn _ (hv _ aI),hn _ (hv _ aI),hn _ (hv _ aI),hn _ (hv _ aI)]
  rfl
 have e:abq (pF l) l 0=((pF l).qy 0 []).to (quX 7):=by
  rcases hc with c|c
  .exact key _ c aI
  .exact key _ c aI
 rw[e,h4]
 rfl
def aUh(R:List UInt8):dJ (59::R) 0=(tk1 59,0):=by
 unfold dJ;simp[bU,abk,eU,abg,eF,aft,bQ,lxG]
def a7i{R:List UInt8}{N:List Tn}(h:Lx R 0 N):Lx (59::R) 0 (tk1 59::N.map (shT 1)) :=
  .cons (aUh R) (show (5:Int)≠0 by decide) (aES [59] h (aO _))
def aCw{s R:List UInt8}{l N:List Tn}(h:Lx s 0 l)(hR:Lx R 0 N):Lx (s++10::59::R) 0 (l++(tk1 59::N.map (shT 1)).map (shT (s.length+1))):=by
 refine aZq h ?_ (aO _)
 have:=aES (s++[10]) (a7i hR) (aO _)
 simpa using this
def aD7{s:List UInt8}{c:Sm}{p:Int}(h:ado s=some (c,p,0))(hs:s.length<=998):∃ i,afp (s++10::59::(s++[10,59]))=some ([(c,0),(c,i)],0,0):=by
 obtain⟨l,j,h1,h2,h3,h4,h5,-⟩:=aqz h
 obtain⟨r,hr,-,hj,-⟩:=ama h2 h3 (aO _)
 rw[h4] at hr
 cases hr
 obtain rfl:j=l.length:=by dsimp only at hj;omega
 obtain⟨-,-,hl⟩:=aBZ h1
 have hpos:0<l.length:=by
  rcases aan l.length with q|q
  .have:l=[]:=bK q
   subst this
   have:=aHB (ao0 [] _) h4
   cases this
  .exact q
 have x1:=aCw hl aIQ
 generalize hY:l++(tk1 59::([]:List Tn).map (shT 1)).map (shT (s.length+1))=Y at x1
 have hYl:Y.length=l.length+1:=by rw[← hY];simp
 have x2:=aCw hl x1
 have E1:Ext l Y:=by rw[← hY];exact aCY l [] _ rfl (.inr rfl)
 have E2:Ext l (l++(tk1 59::Y.map (shT 1)).map (shT (s.length+1))):=aCY l _ _ rfl (.inr rfl)
 have L1:=(aM9 (tk1 59) Y 1).trans (aCy l (tk1 59::Y.map (shT 1)) (s.length+1))
 generalize hM:l++(tk1 59::Y.map (shT 1)).map (shT (s.length+1))=M at x2 E2 L1
 have hlen:M.length=2*l.length+2:=by rw[← hM];simp[hYl];omega
 have b1:isT M l.length [59]=true:=by rw[← hM];unfold isT;simp;exact⟨.inr rfl,rfl⟩
 have b0:isT Y l.length [59]=true:=by rw[← hY];unfold isT;simp;exact⟨.inr rfl,rfl⟩
 have b2:isT M (2*l.length+1) [59]=true:=by
  have:=L1.is l.length [59]
  rw[b0,show l.length+1+l.length=2*l.length+1 by omega] at this
  exact this
 have s1:abq (pF M) M 0=some (c,l.length,false):=aCe E2 (az7 E2 _ _ aC) (aO _) _ _ h4
 have s0':abq (ahh Y (2*M.length+2)) Y 0=some (c,l.length,false):=aCe E1 (az7 E1 _ _ aC) (aO _) _ _ h4
 have s2:=aCd L1 (az2 L1 _ _ (ae (2*M.length+2))) (i:=0) _ _ _ s0'
 refine⟨l.length+1,?_⟩
 have ht:=aCv (s:=s++10::59::(s++[10,59])) (by simp;omega) x2
 have hsc:abZ (pF M) M (M.length+1) [] 0=some ([(c,0),(c,l.length+1)],M.length,false):=by
  obtain⟨k,hk⟩ : ∃ k,M.length+1=k+3:=⟨M.length-2,by omega⟩
  rw[hk]
  unfold abZ
  rw[am aC,s1]
  simp only[Rz.on,wantR,bH,b1,au]
  unfold abZ
  rw[am aC,show l.length+1=l.length+1+0 from rfl,s2]
  simp only[Rz.on,wantR,bH]
  rw[show l.length+1+l.length=2*l.length+1 by omega,b2]
  simp only[au]
  unfold abZ
  rw[aj aC,hlen]
  rfl
 have:=aya (z:=([]:List (Sm×Nat))) (right:=λ_=>true) (run:=λl=>abZ (pF l) l (l.length+1) [] 0) ht hsc (ae _)
 unfold afp
 simpa using this
def aqs{s:List UInt8}{r:Qy×Int×Int}(h:ag2 s=some r):fG r.1/\qyW r.1<=6000400:=by
 have z:fG y0/\qyW y0<=6000400:=⟨awn,by rw[aKL];omega⟩
 unfold ag2 abT at h
 split at h
 .cases h
 .rename_i l p e ht
  split at h
  .rename_i he
   obtain⟨hok,h20,hp⟩:=adH ht he
   obtain⟨q,hr,g1,g2,g3,g4⟩:=axS hok h20
   dsimp only at h
   rw[hr] at h
   obtain⟨a,j,b⟩:=q
   simp only[aG,ab] at h
   subst h
   cases b with
   | true=>exact z
   | false =>
    simp only[cH]
    split
    .exact z
    split
    .exact⟨g2,g3⟩
    .exact z
  .cases h;exact z
def aTe{s:List UInt8}{c:Sm}{p:Int}(h:ado s=some (c,p,0)):abi c/\smW c<=6000700:=by
 obtain⟨l,j,h1,h2,h3,h4,h5,-⟩:=aqz h
 obtain⟨r,hr,-,-,g1,g2⟩:=ama h2 h3 (aO _)
 rw[h4] at hr
 cases hr
 exact⟨g1,g2⟩
def zc6:=fU (gh @Tryz.f6.eq_1 @zq @a2q @a2p @bcg @a2o @bcf @aOu @bce) (gh @a2k @a2j @aOt @a2l @mp6 @a2m @mp7 @a2n @bG) (fZ @ep @abE @fC @aqg @P3 @Q3 @zT0 (kf fi6))
def as1(s:List UInt8):H1 6 [.of (aJ (aK s))] (aL true):=by
 by_cases hs:s.length<=1900
 rotate_left
 .have ds:((1900:Int)<(s.length:Int))=True:=aa aC
  refine bB2 fi6 ?_
  simp -implicitDefEqProofs only[↓zA,sevalprocAttr,zc6,aaA,ds,ai5]
 have ds:((1900:Int)<(s.length:Int))=False:=aA aC
 obtain⟨⟨a,i,e⟩,h1⟩:=aFI s
 obtain⟨⟨b,k,f⟩,h2⟩:=aAG s
 obtain⟨⟨c,n,g⟩,h3⟩:=arC s
 obtain⟨t,h4⟩:=aAp (s++10::59::(s++[10,59]))
 obtain⟨⟨l,m,h⟩,h5⟩ : ∃ r,(if t.2.2=0 then ahL (aj4 (s++10::59::(s++[10,59]))) t.1 [] else ([],t.2.1,t.2.2))=r:=⟨_,rfl⟩
 have k1:=λK=>aH.k (aqy s (by unfold LB;omega) h1) K
 have k2:=λK=>aH.k (ax2 s (by unfold LB;omega) h2) K
 have k3:=λK=>aH.k (aiO s (by unfold LB;omega) h3) K
 have k4:=λK=>aH.k (an0 (s++10::59::(s++[10,59])) (by simp;unfold LB;omega) h4 _ h5) K
 obtain⟨⟨i1,i2⟩,i3⟩:=aqA h1
 obtain⟨⟨j1,j2⟩,j3⟩:=aqA h2
 obtain⟨⟨n1,n2⟩,n3⟩:=aqA h3
 have a1:(i<0)=False:=aA aC
 have a2:((s.length:Int)<i)=False:=aA aC
 have b1:(k<0)=False:=aA aC
 have b2:((s.length:Int)<k)=False:=aA aC
 have c1:(n<0)=False:=aA aC
 have c2:((s.length:Int)<n)=False:=aA aC
 have z1:∀ (P:Program) (T:TT) (t':Nat) (v:Option TypeDesc),fE P T t' v .add (.of (.lit (.string (aK s)))) (.of (.lit (.string {data:=#[10,59]})))=out (af4 (aK (s++[10,59]))):=λP T t' v=>aX1 P T t' v s [10,59] (by simp only[abP];omega)
 have z2:=λ(P:Program) (T:TT) (t':Nat) (v:Option TypeDesc)=>aPM P T t' v (a:=s++[10,59]) (b:=s) (c:=s++10::59::s) aT (by simp;omega)
 have z3:∀ (P:Program) (T:TT) (t':Nat) (v:Option TypeDesc),fE P T t' v .add (.of (.lit (.string (aK (s++10::59::s))))) (.of (.lit (.string {data:=#[10,59]})))=out (af4 (aK (s++10::59::(s++[10,59])))):=λP T t' v=>aPM P T t' v (a:=s++10::59::s) (b:=[10,59]) aT (by simp;omega)
 have x1:=λK=>aH.k (aex (avz a ⟨(aCZ h1).1,by have:=(aCZ h1).2;dsimp only at this;unfold WL;omega⟩)) K
 have x2:=λK=>aH.k (aex (as0 b ⟨(aqs h2).1,by have:=(aqs h2).2;dsimp only at this;unfold WL;omega⟩)) K
 have y2:=λK=>aH.k (aex ((aj6 WL (ae _)).2.1 b (by have:=(aqs h2).2;dsimp only at this;unfold WL;omega))) K
 have d950:∀ q:s.length<=950,((950:Int)<(s.length:Int))=False:=λq=>aA aC
 have script:g=0->(l=[c,c]/\m=0/\h=0)\/(h=4/\((950:Int)<(s.length:Int))=True):=by
  intro hg
  subst hg
  by_cases q:s.length<=998
  .obtain⟨u,hu⟩:=aD7 h3 q
   rw[hu] at h4
   cases h4
   have hr:=(n3 rfl).2
   simp only[au,ahL,hr,cj,cD] at h5
   cases h5
   exact .inl ⟨rfl,rfl,rfl⟩
  .have:fL (s++10::59::(s++[10,59]))=some ([],0,4):=by unfold fL;rw[am (by simp;omega)]
   unfold afp abT at h4
   rw[this] at h4
   dsimp only at h4
   rw[aj aI] at h4
   cases h4
   dsimp only at h5
   rw[aj aI] at h5
   cases h5
   exact .inr ⟨rfl,aa aC⟩
 have E:(e=0)=False\/(e=0/\i=0/\ame a=true):=by
  by_cases q:e=0
  .exact .inr ⟨q,i3 q⟩
  .exact .inl (aA q)
 have F:(f=0)=False\/(f=0/\k=0/\amf b=true/\((c=quX 7 b/\g=0)\/g=4)):=by
  by_cases q:f=0
  .subst q
   refine .inr ⟨rfl,(j3 rfl).1,(j3 rfl).2,?_⟩
   obtain⟨u,hu⟩:=aEm h2
   rw[h3] at hu
   split at hu
   .cases hu;exact .inl ⟨rfl,rfl⟩
   .cases hu;exact .inr rfl
  .exact .inl (aA q)
 have G:(g=0)=False\/(g=0/\n=0/\agA c=true):=by
  by_cases q:g=0
  .exact .inr ⟨q,n3 q⟩
  .exact .inl (aA q)
 have gS:g=0->(∀ K,abl Tryz.prog pr2 24 [.of (.agg (smC c))] [] K↔K ⟨false,[aL (agA c)],[]⟩)/\(∀ K,abl Tryz.prog pr2 19 [.of (.agg (smC c)),.of (.agg (smC c))] [] K↔K ⟨false,[aL true],[]⟩):=λq=>by
  subst q
  have w:=aTe h3
  exact⟨λK=>aH.k (aex (aoY c ⟨w.1,by unfold WL;omega⟩)) K,λK=>aH.k (aex (alS c w.2)) K⟩
 dsimp only at k1 k2 k3 k4
 clear h1 h2 h3 h4 h5 i1 i2 i3 j1 j2 j3 n1 n2 n3 d950
 have gi0:∀ c:Sm,aaF [c,c] 0=some c:=λ_=>rfl
 have gi1:∀ c:Sm,aaF [c,c] 1=some c:=λ_=>rfl
 have gi2:∀ c:Qy,aaF [c] 0=some c:=λ_=>rfl
 have Q:=ai (ai (ai (ai k1 (ai k2 k3)) (ai k4 (ai a1 a2))) (ai (ai b1 (ai b2 c1)) (ai (ai c2 z1) (ai z2 z3)))) (ai (ai (ai x1 (ai x2 y2)) (ai ds (ai gi0 gi1))) (ai (ai gi2 (ai @ai5 @List.length_cons.{0})) (ai (ai @List.length_nil.{0} @List.append_toArray.{0}) (ai @List.cons_append.{0} @List.nil_append.{0}))))
 refine bB2 fi6 ?_
 rcases F with F|⟨rfl,rfl,F,⟨hc,rfl⟩|rfl⟩
 .rcases G with G|⟨rfl,rfl,G⟩
  .rcases E with E|⟨rfl,rfl,E⟩ <;> (simp -implicitDefEqProofs only[↓zA,sevalprocAttr,zc6,aaA,acW,adI,Q,E,F,G,bd])
  .obtain⟨g1,g2⟩:=gS rfl
   rcases script rfl with ⟨rfl,rfl,rfl⟩|⟨rfl,q⟩
   .rcases E with E|⟨rfl,rfl,E⟩ <;> (simp -implicitDefEqProofs only[↓zA,sevalprocAttr,zc6,aaA,acW,adI,Q,E,F,G,bd,g1,g2])
   .rcases E with E|⟨rfl,rfl,E⟩ <;> (simp -implicitDefEqProofs only[↓zA,sevalprocAttr,zc6,aaA,acW,adI,Q,E,F,G,bd,g1,q])
 .rcases G with G|⟨-,rfl,G⟩
  .simp at G
  .have ck:(c.kd=7)=True:=aa (by rw[hc];rfl)
   have cq:c.q.length=1:=by rw[hc];rfl
   have cg:aaF c.q 0=some b:=by rw[hc];rfl
   obtain⟨g1,g2⟩:=gS rfl
   rcases script rfl with ⟨rfl,rfl,rfl⟩|⟨rfl,q⟩
   .rcases E with E|⟨rfl,rfl,E⟩ <;> (simp -implicitDefEqProofs only[↓zA,sevalprocAttr,zc6,aaA,acW,adI,Q,E,F,G,bd,g1,g2,ck,cq,cg])
   .rcases E with E|⟨rfl,rfl,E⟩ <;> (simp -implicitDefEqProofs only[↓zA,sevalprocAttr,zc6,aaA,acW,adI,Q,E,F,G,bd,g1,q])
 .have G:((4:Int)=0)=False:=aA aI
  rcases E with E|⟨rfl,rfl,E⟩ <;> (simp -implicitDefEqProofs only[↓zA,sevalprocAttr,zc6,aaA,acW,adI,Q,E,F,G,bd])
end Go.Proofs.YtghkmcffifpkeaaGreat
namespace Go.Proofs.YtghkmcffifpkeaaGreat.parseRight
open Pe Tab RowKit ChangeShapes WideShapes ChangeAt card
def aYo{x:TypeId}(hx:Tryz.prog.readableRec x=true/\x<Tryz.prog.types.size):∀ t∈[x],Tryz.prog.readableRec t=true/\t<Tryz.prog.types.size:=by
 intro t ht
 rw[cn.1 ht];exact hx
def aq0(H:Type)(enc:TypeId×Value->H)(W:World)(base:Nat)(args:Array Value)(ds gs:List (DataW H))(before:List MemPlace)
  (hval:∀ (j:Nat) t v,Tryz.f6.params[j]?=some t->args[j]?=some v->Value.okWide Tryz.prog W .any base t v)
  (hW:DataW.Whole enc Tryz.prog Tryz.f6.params.toList Rows.parseRightSpec.vars false W args.toList ds gs before)
  (hsh:W.ShapedOpen Tryz.prog) :
  Calls Tryz.prog 6 args W λe W'=>∃ v,e=.returned v/\Rows.parseRightSpec.post enc Tryz.prog Tryz.f6 false true false false W args v W':=by
 have hW':=hW
 obtain⟨p,q,hA0,hV,rfl,hfz,hnd⟩:=hW
 have hA:DataW.TrodAll enc Tryz.prog W 0 (λ_=>true) true Tryz.f6.params.toList args.toList ds p:=hA0
 rw[Tryz.params6] at hA hval
 have hAk:=hA
 obtain⟨v0,d0,rfl,rfl,h0⟩:=trodAll_one hA
 obtain⟨rfl,rfl⟩:=trodVars_none hV
 obtain⟨s,rfl,rfl,rfl,_⟩:=Go.ChangeMaps.open_string Tryz.underlying9 (hval 0 _ v0 rfl rfl) h0
 have hcall:=as1 s.data.toList
 rw[auy] at hcall
 refine (aH8 hcall Tryz.func6 (table hsh) (vs:=[.string s]) ⟨_,_,rfl,⟨rfl,rfl⟩,rfl⟩).mono ?_
 rintro e W' ⟨rfl,hB⟩
 exact⟨_,rfl,⟨_,_,_,[],_,[],hW',trodAll_mk1 (shut_bool Tryz.underlying4 _),ajM (aYo aPH) hAk (λx hx=>by cases hx) (λx hx=>by cases hx),rfl,hB.frame _,λh=>by cases h⟩⟩
def aqM(os:Os):laidMet Tryz.prog Rows.parseRightUptoRow.laid ((ahQ os).forCall (λ_ _=>0) ⟨#[],#[.string ⟨#[]⟩],[]⟩).memory :=
 laidMet_of_run' 8 aS aS
def aEk(os:Os){H:Type}(enc:TypeId×Value->H):∃ places,DataW.whole enc Tryz.prog ((ahQ os).forCall (λ_ _=>0) ⟨#[],#[.string ⟨#[]⟩],[]⟩).memory Tryz.f6.params.toList Rows.parseRightSpec.vars false (#[.string ⟨#[]⟩]:Array Value).toList 8=some ([.lit (.string [])],[],places) :=
 ⟨[],by kernel_rfl⟩
def anw(os:Os)(started:os.Started)(H:Type)(enc:TypeId×Value->H)(F:Stop.Interp) :
  ReturnsInHanded {} Tryz.checked os 6 .any ((Rows.OpenSpec.upto Rows.parseRightSpec).preRow enc Tryz.prog Tryz.f6 Rows.parseRightUptoRow.domain false Rows.parseRightUptoRow.laid) (((Rows.OpenSpec.upto Rows.parseRightSpec).at F).post enc Tryz.prog Tryz.f6 false true false false):=by
 obtain⟨places,hx⟩:=aEk os enc
 refine returnsInHanded_of_row (C:=Tryz.checked) (s:=Rows.OpenSpec.upto Rows.parseRightSpec) own started aS Tryz.func6
  (witness_row_at (enc:=enc) (C:=Tryz.checked) false (ahQ os) #[.string ⟨#[]⟩] rfl aS aS aS
   (OpenSpec.preRow_of_cond 8 hx aS (λk hk=>by cases hk;kernel_rfl) aS (aqM os))) ?_
 intro W base args ds gs before hval hW _ hcond _ hL hsh _
 exact aq0 H enc W base args ds gs before hval hW hsh
end Go.Proofs.YtghkmcffifpkeaaGreat.parseRight

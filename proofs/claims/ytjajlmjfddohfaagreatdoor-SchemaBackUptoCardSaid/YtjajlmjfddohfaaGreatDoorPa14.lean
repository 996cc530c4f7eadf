/-
  Chapter 9's document: items; all expressions and queries. Conditions: none.
-/
import Derived.Test.YtjajlmjfddohfaaGreatDoorPa13
set_option linter.defProp false
set_option linter.unusedSectionVars false
set_option maxRecDepth 100000
set_option maxHeartbeats 32000000
namespace Go.Proofs.YtjajlmjfddohfaaGreatDoor
open Go Go.Pe Go.Tab
theorem ahJ:∀ n,n≤WL→(∀ l,lsW xpW l≤n→agV l)∧(∀ l,lsW qyW l≤n→anv l)∧(∀ l,lsW fmW l≤n→asx l)
 | 0,_=>⟨fun l h=>by simp[lsW] at h,fun l h=>by simp[lsW] at h,fun l h=>by simp[lsW] at h⟩
 | n+1,hn=>by
  obtain⟨i1,i2,i3⟩:=ahJ n (by omega)
  refine⟨fun l h=>?_,fun l h=>?_,fun l h=>?_⟩
  .refine aAT l (by omega) (fun x hx=>i1 _ ?_) (fun x hx=>i2 _ ?_) <;> (have h1:=bg (w:=xpW) hx;have h2:=jB x;omega)
  .have hone:∀ i:Im,lsW xpW [i.e]≤imW i:=fun i=>by rw[abo];simp only[lsW,List.map_cons,List.map_nil,List.sum_cons,List.sum_nil,bG];omega
   refine asw l (by omega) (fun x hx=>i2 _ ?_) (fun x hx=>i3 _ ?_) (fun x hx i hi=>i1 _ ?_) (fun x hx=>i1 _ ?_) (fun x hx=>i1 _ ?_) (fun x hx=>i1 _ ?_)
   .have h1:=bg (w:=qyW) hx;have h2:=gI x;omega
   .have h1:=bg (w:=qyW) hx;have h2:=gI x;omega
   .have h1:=bg (w:=qyW) hx;have h2:=gI x;have h3:=bg (w:=imW) hi;have h4:=hone i;omega
   .have h1:=bg (w:=qyW) hx;have h2:=gI x;omega
   .have h1:=bg (w:=qyW) hx;have h2:=gI x;omega
   .have h1:=bg (w:=qyW) hx;have h2:=gI x;omega
  .refine aql l (by omega) (fun x hx=>i2 _ ?_) (fun x hx=>i3 _ ?_) (fun x hx=>i1 _ ?_) <;> (have h1:=bg (w:=fmW) hx;have h2:=gK x;omega)
theorem aAI (l:List Xp) (K:An→Prop):aG Tryz.prog pr 107 [.of (slC xpC l)] [] K↔ifP (lsW xpW l≤WL) (K ⟨false,[.of (.agg (nnC (nnP (aH bk l))))],[]⟩) (fp Tryz.prog pr 107 [.of (slC xpC l)] K):=hZ (fun h=>(ahJ WL (Nat.le_refl _)).1 l h) K
theorem a2F (l:List Qy) (K:An→Prop):aG Tryz.prog pr 108 [.of (slC qyC l)] [] K↔ifP (lsW qyW l≤WL) (K ⟨false,[.of (.agg (nnC (nnP (aH cS l))))],[]⟩) (fp Tryz.prog pr 108 [.of (slC qyC l)] K):=hZ (fun h=>(ahJ WL (Nat.le_refl _)).2.1 l h) K
theorem aOQ (s:Sm):aM (aM (aM (aM (aH bk s.chs) (aH bk s.wh)) (aH cS s.q)) (aH (fun l=>aH bk l) s.rws)) (aH (fun a:As=>bk a.e) s.sts)=ky s:=by
 simp only[ky,aM,Prod.mk.injEq]
 omega
abbrev N0:Ob:=.var 103 [ak 0,ak 0]
abbrev NO (a:Nat×Nat):Ob:=.var 103 [.of (ci (a.1:Int)),.of (ci (a.2:Int))]
def ajL:=ai (ai (ai (ai @zq @a08) (ai @a07 (ai @ahH @afI))) (ai (ai @alj @ajk) (ai @alh (ai @ajj @a06)))) (ai (ai (ai @fa @bK) (ai @aeD (ai @j0 @dY))) (ai (ai @dR (ai @fT @kT)) (ai @zT0 (ai @aDw (aw aSu)))))
theorem amd (s:Sm) (hw:smW s≤WL):G1 57 [.of (.agg (smC s))] (.of (.agg (nnC (nnP (ky s))))):=by
 simp only[WL,smW] at hw
 have b1:=sbX s.chs
 have b2:=sbX s.wh
 have b3:=sbQ s.q
 have b4:=(fU (fun l=>aH bk l) (lsW xpW) s.rws fun x _=>sbX x).1
 have b5:=(fU (fun a:As=>bk a.e) asW s.sts fun x _=>by have:=(acx _).1 x.e (Nat.le_refl _);simp only[leW,asW] at this ⊢;omega).1
 simp only[leW] at b1 b2 b3 b4 b5
 have n1:=bh (lsW xpW) s.rws fun x _=>by simp[lsW]
 have n2:=bh asW s.sts fun x _=>by simp[asW]
 have w1:lsW xpW s.chs≤WL:=by simp only[WL];omega
 have w2:lsW xpW s.wh≤WL:=by simp only[WL];omega
 have w3:lsW qyW s.q≤WL:=by simp only[WL];omega
 have p1:(aH bk s.chs).1+(aH bk s.wh).1≤4611686018427387903:=by omega
 have p2:(aM (aH bk s.chs) (aH bk s.wh)).1+(aH cS s.q).1≤4611686018427387903:=by simp only[aM];omega
 generalize hA:aM (aM (aH bk s.chs) (aH bk s.wh)) (aH cS s.q)=A at *
 have hA1:A.1≤lsW xpW s.chs+lsW xpW s.wh+lsW qyW s.q:=by rw[← hA];simp only[aM];omega
 have eS:=aOQ s
 rw[hA] at eS
 refine aj rfl aSu aDw rfl ?_
 simp -implicitDefEqProofs(maxSteps:=9^9)only[Tryz.f57,↓zA,sevalprocAttr,ajL,aAI,a2F,w1,w2,w3,abT,p1,p2,hA,ahK,acd,ac7]
 refine aL s.rws.length (fun k t=>∃ a,t.objs=[N0,NO a]∧t.fr 1=.of (.ref (smC s))∧t.fr 2=.ptr 0 0∧t.fr 3=.ptr 1 0∧t.fr 4=ak k∧aM a (aH (fun l=>aH bk l) (s.rws.drop k))=aM A (aH (fun l=>aH bk l) s.rws)) ?_ ?_
 .refine⟨A,?_⟩
  simp -implicitDefEqProofs(maxSteps:=9^9)only[Tryz.f57,↓zA,sevalprocAttr,ajL,eu]
  try exact rfl
 .rintro k t hk ⟨a,ho,f1,f2,f3,f4,E⟩
  rw[eu] at f1
  rcases Nat.lt_or_ge k s.rws.length with c1|c1
  .have hwk:=aQ k (by omega)
   have w4:lsW xpW s.rws[k]≤WL:=by have:=bg (w:=lsW xpW) (List.getElem_mem c1);simp only[WL];omega
   rw[aJ c1,jr,← fZ] at E
   have E1:=congrArg Prod.fst E
   simp only[aM] at E1
   have p3:a.1+(aH bk s.rws[k]).1≤4611686018427387903:=by omega
   simp -implicitDefEqProofs(maxSteps:=9^9)only[Tryz.f57,↓zA,sevalprocAttr,ajL,ho,f1,f2,f3,f4,aa,c1,ap c1,hwk,aAI,w4,abT,p3,ahK,acd,ac7,eu]
   exact⟨_,rfl,E⟩
  .have e:k=s.rws.length:=by omega
   subst e
   rw[List.drop_length,aH,eX] at E
   have ha:a=aM A (aH (fun l=>aH bk l) s.rws):=E
   simp -implicitDefEqProofs(maxSteps:=9^9)only[Tryz.f57,↓zA,sevalprocAttr,ajL,ho,f1,f2,f3,f4,aa,Nat.lt_irrefl]
   refine aL s.sts.length (fun j u=>∃ b,u.objs=[N0,NO b]∧u.fr 1=.of (.ref (smC s))∧u.fr 2=.ptr 0 0∧u.fr 3=.ptr 1 0∧u.fr 5=ak j∧aM b (aH (fun a:As=>bk a.e) (s.sts.drop j))=ky s) ?_ ?_
   .refine⟨a,?_⟩
    simp -implicitDefEqProofs(maxSteps:=9^9)only[Tryz.f57,↓zA,sevalprocAttr,ajL,ho,f1,f2,f3,eu]
    rw[ha]
    exact eS
   .rintro j u hj ⟨b,go,g1,g2,g3,g5,F⟩
    rw[eu] at g1
    rcases Nat.lt_or_ge j s.sts.length with d1|d1
    .have hwj:=aQ j (by omega)
     have w5:lsW xpW [s.sts[j].e]≤WL:=by
      have h1:=bg (w:=asW) (List.getElem_mem d1)
      simp only[lsW,List.map_cons,List.map_nil,List.sum_cons,List.sum_nil,asW,aZ,WL] at h1 ⊢
      simp only[lsW] at hw
      omega
     have e1:aH bk [s.sts[j].e]=bk s.sts[j].e:=by rw[aH,aH,eX]
     rw[aJ d1,jr,← fZ] at F
     have F1:=congrArg Prod.fst F
     have hS:=aBl s
     simp only[leW,smW] at hS
     simp only[aM] at F1
     have p4:b.1+(bk s.sts[j].e).1≤4611686018427387903:=by omega
     simp -implicitDefEqProofs(maxSteps:=9^9)only[Tryz.f57,↓zA,sevalprocAttr,ajL,go,g1,g2,g3,g5,aa,d1,ap d1,hwj,aAI,w5,e1,abT,p4,ahK,acd,ac7,eu,aqR]
     exact⟨_,rfl,F⟩
    .have e:j=s.sts.length:=by omega
     subst e
     rw[List.drop_length,aH,eX] at F
     subst F
     simp -implicitDefEqProofs(maxSteps:=9^9)only[Tryz.f57,↓zA,sevalprocAttr,ajL,go,g1,g2,g3,g5,aa,Nat.lt_irrefl,ahK]
def a0E:=ai (ai (ai @zq @a0U) (ai @aIw @aE0)) (ai (ai @fa @aeD) (ai @zT0 (ai @aD6 (aw aS3))))
theorem aFk (s:Sm) (hw:smW s≤WL):G1 17 [.of (.agg (smC s))] (ak (ky s).1):=by
 have k1:=fun K=>ae.k (amd s hw) K
 refine aj rfl aS3 aD6 rfl ?_
 have e:∀ x:Nn,aY (TT.of Tryz.prog) 3 (nnC x)=some (ci x.nd):=fun x=>by rw[alk];exact Q3 _ _
 simp -implicitDefEqProofs(maxSteps:=9^9)only[Tryz.f17,↓zA,sevalprocAttr,a0E,k1,e,acd]
theorem aeh (s:List UInt8) (i:Int):aak (TT.of Tryz.prog) 9 (.of (.lit (.string (ar s)))) (.of (.lit (.int .i64 i)))=fv (ey s i) fun c=>.of (.lit (.int .u8 (c.toNat:Nat))):=aEe (by rw[T9];rfl) s i
theorem jT (n:Nat):((n:Int)<1)=(n=0):=propext (by omega)
def aaS:Nat→List UInt8→Bool
 | _,[]=>true
 | k,c::r=>(ca c||(decide (k≠0)&&cQ c))&&aaS (k+1) r
theorem aFj (r:List UInt8):∀ k,aaS (k+1) r=r.all acQ:=by
 induction r with
 | nil=>intro k;rfl
 | cons x r ih=>intro k;simp[aaS,ih,acQ]
theorem bm (n:Nat):((n:Int)=0)=(n=0):=propext (by omega)
def acu:=ai (ai @zq @zT0) (ai @aDN (aw aSK))
theorem aFn (s:List UInt8):G1 36 [.of (ao (ar s))] (ah (aA s)):=by
 refine aj rfl aSK aDN rfl ?_
 by_cases n0:s.length=0
 .have e:aA s=false:=by rw[List.length_eq_zero_iff.1 n0];rfl
  simp -implicitDefEqProofs(maxSteps:=9^9)only[Tryz.f36,↓zA,sevalprocAttr,acu,n0,e,jT]
 by_cases c0:20<s.length
 .have e:aA s=false:=by
   cases s with
   | nil=>rfl
   | cons x r=>simp only[aA,decide_eq_false (show ¬(r.length+1≤20) from by simp only[List.length_cons] at c0;omega),Bool.and_false]
  simp -implicitDefEqProofs(maxSteps:=9^9)only[Tryz.f36,↓zA,sevalprocAttr,acu,jT,n0,alv,c0,e]
 have e:aA s=aaS 0 s:=by
  cases s with
  | nil=>simp at n0
  | cons x r =>
   simp only[aA,decide_eq_true (show r.length+1≤20 from by simp only[List.length_cons] at c0;omega),Bool.and_true,aaS,aFj]
   simp only[ne_eq,not_true_eq_false,decide_false,Bool.false_and,Bool.or_false]
   rfl
 rw[e]
 simp -implicitDefEqProofs(maxSteps:=9^9)only[Tryz.f36,↓zA,sevalprocAttr,acu,jT,n0,alv,c0]
 refine aL s.length (fun k t=>t.fr 0=.of (ao (ar s))∧t.fr 3=ak k∧t.objs=[]∧aaS 0 s=aaS k (s.drop k)) ?_ ?_
 .simp -implicitDefEqProofs(maxSteps:=9^9)only[Tryz.f36,↓zA,sevalprocAttr,acu]
  try exact rfl
 .rintro k t hk ⟨f0,f3,ho,E⟩
  rcases Nat.lt_or_ge k s.length with d1|d1
  .have hw:=aQ k (by omega)
   rw[aJ d1,aaS] at E
   have fin:ca s[k]=true→aaS 0 s=aaS (k+1) (s.drop (k+1)):=fun h=>by rw[E,h];rfl
   by_cases a1:97≤s[k].toNat
   .by_cases a2:s[k].toNat≤122
    .have F:=fin (by simp[ca,a1,a2])
     simp -implicitDefEqProofs(maxSteps:=9^9)only[Tryz.f36,↓zA,sevalprocAttr,acu,f0,f3,ho,aa,d1,aeh,ap d1,hw,u97,jm,u95,u48,u57,bm,a1,a2,F]
    .by_cases a3:s[k]=95
     .have h3:s[k].toNat=95:=by rw[a3];rfl
      omega
     .have hs:ca s[k]=false:=by simp[ca,a2,a3]
      have a5:¬s[k].toNat≤57:=by omega
      have F:aaS 0 s=false:=by rw[E,hs];simp[cQ,a5]
      by_cases k0:k=0
      .simp -implicitDefEqProofs(maxSteps:=9^9)only[Tryz.f36,↓zA,sevalprocAttr,acu,f0,f3,ho,aa,d1,aeh,ap d1,hw,u97,jm,u95,u48,u57,bm,a1,a2,a3,eq_true k0,F]
      .have a4:48≤s[k].toNat:=by omega
       simp -implicitDefEqProofs(maxSteps:=9^9)only[Tryz.f36,↓zA,sevalprocAttr,acu,f0,f3,ho,aa,d1,aeh,ap d1,hw,u97,jm,u95,u48,u57,bm,a1,a2,a3,a4,a5,k0,F]
   .by_cases a3:s[k]=95
    .have F:=fin (by simp[ca,a3])
     simp -implicitDefEqProofs(maxSteps:=9^9)only[Tryz.f36,↓zA,sevalprocAttr,acu,f0,f3,ho,aa,d1,aeh,ap d1,hw,u97,jm,u95,u48,u57,bm,a1,eq_true a3,F]
    .have hs:ca s[k]=false:=by simp[ca,a1,a3]
     by_cases k0:k=0
     .have F:aaS 0 s=false:=by rw[E,hs];simp[k0]
      simp -implicitDefEqProofs(maxSteps:=9^9)only[Tryz.f36,↓zA,sevalprocAttr,acu,f0,f3,ho,aa,d1,aeh,ap d1,hw,u97,jm,u95,u48,u57,bm,a1,a3,eq_true k0,F]
     .by_cases a4:48≤s[k].toNat
      .by_cases a5:s[k].toNat≤57
       .have F:aaS 0 s=aaS (k+1) (s.drop (k+1)):=by rw[E,hs];simp[cQ,a4,a5,k0]
        simp -implicitDefEqProofs(maxSteps:=9^9)only[Tryz.f36,↓zA,sevalprocAttr,acu,f0,f3,ho,aa,d1,aeh,ap d1,hw,u97,jm,u95,u48,u57,bm,a1,a3,a4,a5,k0,F]
       .have F:aaS 0 s=false:=by rw[E,hs];simp[cQ,a5]
        simp -implicitDefEqProofs(maxSteps:=9^9)only[Tryz.f36,↓zA,sevalprocAttr,acu,f0,f3,ho,aa,d1,aeh,ap d1,hw,u97,jm,u95,u48,u57,bm,a1,a3,a4,a5,k0,F]
      .have F:aaS 0 s=false:=by rw[E,hs];simp[cQ,a4]
       simp -implicitDefEqProofs(maxSteps:=9^9)only[Tryz.f36,↓zA,sevalprocAttr,acu,f0,f3,ho,aa,d1,aeh,ap d1,hw,u97,jm,u95,u48,u57,bm,a1,a3,a4,k0,F]
  .have e:k=s.length:=by omega
   subst e
   rw[List.drop_length,aaS] at E
   simp -implicitDefEqProofs(maxSteps:=9^9)only[Tryz.f36,↓zA,sevalprocAttr,acu,f0,f3,ho,aa,Nat.lt_irrefl,E]
theorem aO (s:List UInt8) (K:An→Prop):aG Tryz.prog pr 36 [.of (ao (ar s))] [] K↔K ⟨false,[ah (aA s)],[]⟩:=ae.k (aFn s) K
def aH4:=ai (ai @zq (ai @ab8 @aaQ)) (ai @zT0 (ai @au9 (aw aJl)))
theorem aqG (s:List UInt8):G1 222 [.of (ao (ar s))] (ah (ff s)):=by
 refine aj rfl aJl au9 rfl ?_
 by_cases c:s=[]
 .simp -implicitDefEqProofs(maxSteps:=9^9)only[Tryz.f222,↓zA,sevalprocAttr,aH4,aO,eq_true c,ff,Bool.true_or]
 .simp -implicitDefEqProofs(maxSteps:=9^9)only[Tryz.f222,↓zA,sevalprocAttr,aH4,aO,c,ff,Bool.false_or]
theorem bl (s:List UInt8) (K:An→Prop):aG Tryz.prog pr 222 [.of (ao (ar s))] [] K↔K ⟨false,[ah (ff s)],[]⟩:=ae.k (aqG s) K
theorem agd (a:List UInt8):(ar a=({data:=#[115,117,109]}:ByteArray))=(a=[115,117,109]):=av a [115,117,109]
theorem age (a:List UInt8):(ar a=({data:=#[109,105,110]}:ByteArray))=(a=[109,105,110]):=av a [109,105,110]
theorem agf (a:List UInt8):(ar a=({data:=#[109,97,120]}:ByteArray))=(a=[109,97,120]):=av a [109,97,120]
theorem bW (a:List UInt8):(ar a=({data:=#[99,111,117,110,116]}:ByteArray))=(a=abu):=av a abu
def apf:=ai (ai @zq @zT0) (ai @au8 (aw aJk))
theorem aAS (s:List UInt8):G1 223 [.of (ao (ar s))] (ah (iL s)):=by
 refine aj rfl aJk au8 rfl ?_
 by_cases a1:s=abu
 .simp -implicitDefEqProofs(maxSteps:=9^9)only[Tryz.f223,↓zA,sevalprocAttr,apf,agd,age,agf,bW,eq_true a1,iL,Bool.true_or]
 .by_cases a2:s=[115,117,109]
  .simp -implicitDefEqProofs(maxSteps:=9^9)only[Tryz.f223,↓zA,sevalprocAttr,apf,agd,age,agf,bW,a1,eq_true a2,iL,Bool.true_or,Bool.or_true]
  .by_cases a3:s=[109,105,110]
   .simp -implicitDefEqProofs(maxSteps:=9^9)only[Tryz.f223,↓zA,sevalprocAttr,apf,agd,age,agf,bW,a1,a2,eq_true a3,iL,Bool.true_or,Bool.or_true]
   .simp -implicitDefEqProofs(maxSteps:=9^9)only[Tryz.f223,↓zA,sevalprocAttr,apf,agd,age,agf,bW,a1,a2,a3,iL,Bool.false_or]
theorem cL (s:List UInt8) (K:An→Prop):aG Tryz.prog pr 223 [.of (ao (ar s))] [] K↔K ⟨false,[ah (iL s)],[]⟩:=ae.k (aAS s) K
def aiH:=ai (ai (ai @zq @ab8) (ai @aaQ @bH)) (ai (ai @Q9 @zT0) (ai @av8 (aw aKh)))
theorem aqF (l:List (List UInt8)) (a b:Int) (h:l.length≤4611686018427387903):G1 160 [.of (slC bd l),.of (ci a),.of (ci b)] (ah (am l a b aA)):=by
 refine aj rfl aKh av8 rfl ?_
 simp -implicitDefEqProofs(maxSteps:=9^9)only[Tryz.f160,↓zA,sevalprocAttr,aiH]
 refine aL l.length (fun k t=>t.fr 0=.of (slC bd l)∧t.fr 1=.of (ci a)∧t.fr 2=.of (ci b)∧t.fr 7=ak k∧t.objs=[]∧l.all aA=(l.drop k).all aA) ?_ ?_
 .simp -implicitDefEqProofs(maxSteps:=9^9)only[Tryz.f160,↓zA,sevalprocAttr,aiH]
  try exact rfl
 .rintro k t hk ⟨f0,f1,f2,f7,ho,E⟩
  rcases Nat.lt_or_ge k l.length with d1|d1
  .have hw:=aQ k (by omega)
   rw[aJ d1,hM] at E
   cases d2:aA l[k]
   .rw[d2,Bool.false_and] at E
    simp -implicitDefEqProofs(maxSteps:=9^9)only[Tryz.f160,↓zA,sevalprocAttr,aiH,f0,f1,f2,f7,ho,aa,d1,ap d1,hw,aO,d2,am,E,Bool.and_false]
   .rw[d2,Bool.true_and] at E
    simp -implicitDefEqProofs(maxSteps:=9^9)only[Tryz.f160,↓zA,sevalprocAttr,aiH,f0,f1,f2,f7,ho,aa,d1,ap d1,hw,aO,d2,E]
  .have e:k=l.length:=by omega
   subst e
   rw[List.drop_length,List.all_nil] at E
   by_cases a1:a≤(l.length:Int)
   .simp -implicitDefEqProofs(maxSteps:=9^9)only[Tryz.f160,↓zA,sevalprocAttr,aiH,f0,f1,f2,f7,ho,aa,Nat.lt_irrefl,a1,am,E]
   .simp -implicitDefEqProofs(maxSteps:=9^9)only[Tryz.f160,↓zA,sevalprocAttr,aiH,f0,f1,f2,f7,ho,aa,Nat.lt_irrefl,a1,am,E]
theorem bo (l:List (List UInt8)) (a b:Int) (K:An→Prop):aG Tryz.prog pr 160 [.of (slC bd l),.of (ci a),.of (ci b)] [] K↔ifP (l.length≤4611686018427387903) (K ⟨false,[ah (am l a b aA)],[]⟩) (fp Tryz.prog pr 160 [.of (slC bd l),.of (ci a),.of (ci b)] K):=hZ (aqF l a b) K
theorem akB:IntKind.i64.wrap 1=1:=rfl
theorem aZX (n:Nat):decide ((n:Int)≤1)=decide (n≤1):=decide_eq_decide.2 (by omega)
theorem aTC (n:Nat):decide ((n:Int)≤64)=decide (n≤64):=decide_eq_decide.2 (by omega)
theorem arh (n:Int):(n<1)=¬(1≤n):=propext (by omega)
theorem a2d (a b:Int):(a<b)=¬(b≤a):=propext (by omega)
def ag3:=ai (ai (ai (ai @zq @a1W) (ai @a1V (ai @a1U @ay0))) (ai (ai @ar5 (ai @apE @al3)) (ai @cU (ai @dH @fb)))) (ai (ai (ai @il @cW) (ai @kb (ai @cV @P3))) (ai (ai @Q3 (ai @Q9 @Q4)) (ai @zT0 (ai @aC4 (aw aR3)))))
theorem as0 (c:Ct) (t:Tb) (k:Nat) (q:Ky) (gq:ey t.kys (k:Int)=some q) (hc:CtB c) (ht:t.nm.length≤LB) (hk:k<LB):G1 86 [.of (.agg (ctC c)),.of (.agg (tbC t)),ak k] (ah (dF c t q k)):=by
 have h1:=hc.x
 have h2:=hc.ix
 have hlb:LB=1073741824:=rfl
 refine aj rfl aR3 aC4 rfl ?_
 simp -implicitDefEqProofs(maxSteps:=9^9)only[Tryz.f86,↓zA,sevalprocAttr,ag3]
 refine aL (c.ixs.length) (fun j tj=>tj.fr 2=ak k∧tj.fr 3=.of (.ref [slC tbC c.tbs,slC ixC c.ixs,ci c.nx])∧tj.fr 4=.of (.ref [ao (ar t.nm),ci t.id,slC cdC t.cs,slC kyC t.kys,slC rfC t.rfs,slC xpC t.chs])∧tj.fr 7=ak j∧tj.objs=[]∧iy c q.ix=(c.ixs.drop j).find? fun x=>decide (x.id=q.ix)) ?_ ?_
 .simp -implicitDefEqProofs(maxSteps:=9^9)only[Tryz.f86,↓zA,sevalprocAttr,ag3]
  try exact rfl
 rintro j ⟨frj,obj,ckj⟩ hj ⟨f2,f3,f4,f7,fo,Ej⟩
 dsimp only at f2 f3 f4 f7 fo
 rcases Nat.lt_or_ge j (c.ixs.length) with dj|dj
 .have hw:=aQ j (by omega)
  have gx:=ap dj
  have hx:=h2 _ (List.getElem_mem dj)
  rw[aJ dj,List.find?_cons] at Ej
  generalize c.ixs[j]=x at *
  have hx':x.cs.length≤4611686018427387903:=by omega
  by_cases c0:x.id=q.ix
  rotate_left
  .rw[decide_eq_false c0] at Ej
   dsimp only at Ej
   simp -implicitDefEqProofs(maxSteps:=9^9)only[Tryz.f86,↓zA,sevalprocAttr,ag3,f2,f3,f4,f7,fo,aa,dj,gx,gq,hw,c0]
   exact Ej
  rw[decide_eq_true c0] at Ej
  dsimp only at Ej
  have hr:dF c t q k=(decide (x.tb=t.nm)&&(x.un&&(decide (x.nm=cy t.nm (k+1))&&decide (x.cs=q.cs)))):=by unfold dF;rw[Ej]
  by_cases c1:x.tb=t.nm
  rotate_left
  .have F:dF c t q k=false:=by rw[hr];simp[c1]
   simp -implicitDefEqProofs(maxSteps:=9^9)only[Tryz.f86,↓zA,sevalprocAttr,ag3,f2,f3,f4,f7,fo,aa,dj,gx,gq,hw,eq_true c0,av,ab7,ht,hk,and_self,if_true,act,hx',c1,F]
  cases b2:x.un
  .have F:dF c t q k=false:=by rw[hr];simp[b2]
   simp -implicitDefEqProofs(maxSteps:=9^9)only[Tryz.f86,↓zA,sevalprocAttr,ag3,f2,f3,f4,f7,fo,aa,dj,gx,gq,hw,eq_true c0,av,ab7,ht,hk,and_self,if_true,act,hx',eq_true c1,b2,F]
  by_cases c3:x.nm=cy t.nm (k+1)
  rotate_left
  .have F:dF c t q k=false:=by rw[hr];simp[c3]
   simp -implicitDefEqProofs(maxSteps:=9^9)only[Tryz.f86,↓zA,sevalprocAttr,ag3,f2,f3,f4,f7,fo,aa,dj,gx,gq,hw,eq_true c0,av,ab7,ht,hk,and_self,if_true,act,hx',eq_true c1,b2,c3,F]
  have F:dF c t q k=decide (x.cs=q.cs):=by rw[hr];simp[c1,b2,c3]
  simp -implicitDefEqProofs(maxSteps:=9^9)only[Tryz.f86,↓zA,sevalprocAttr,ag3,f2,f3,f4,f7,fo,aa,dj,gx,gq,hw,eq_true c0,av,ab7,ht,hk,and_self,if_true,act,hx',eq_true c1,b2,eq_true c3,F]
 .have e:j=c.ixs.length:=by omega
  subst e
  rw[List.drop_length,List.find?_nil] at Ej
  have hr:dF c t q k=false:=by unfold dF;rw[Ej]
  simp -implicitDefEqProofs(maxSteps:=9^9)only[Tryz.f86,↓zA,sevalprocAttr,ag3,f2,f3,f4,f7,fo,aa,Nat.lt_irrefl,hr]
def afP:=ai (ai (ai (ai @zq @a1T) (ai @a1S @ayW)) (ai (ai @ar2 @aWp) (ai @aTK (ai @cU @dH)))) (ai (ai (ai @dw @il) (ai @cE @kb)) (ai (ai @cV @Q4) (ai @zT0 (ai @aDK (aw aSH)))))
theorem aCR (c:Ct) (t:Tb) (hc:CtB c) (ht:TbB t):G1 39 [.of (.agg (ctC c)),.of (.agg (tbC t))] (ah (aad c t)):=by
 have h1:=ht.k
 have h2:=ht.kc
 have hlb:LB=1073741824:=rfl
 have hP:∀ k (h:k<t.kys.length),((t.kys.take (k+1)).filter Ky.pr).length=((t.kys.take k).filter Ky.pr).length+(if t.kys[k].pr then 1 else 0):=fun k h=>by
   rw[gR h,List.filter_append,List.length_append]
   cases hb:t.kys[k].pr <;> simp[hb]
 refine aj rfl aSH aDK rfl ?_
 simp -implicitDefEqProofs(maxSteps:=9^9)only[Tryz.f39,↓zA,sevalprocAttr,afP]
 refine aL (t.kys.length) (fun k tk=>tk.fr 2=.of (.ref [slC tbC c.tbs,slC ixC c.ixs,ci c.nx])∧tk.fr 3=.of (.ref [ao (ar t.nm),ci t.id,slC cdC t.cs,slC kyC t.kys,slC rfC t.rfs,slC xpC t.chs])∧tk.fr 5=ak (((t.kys.take k).filter Ky.pr).length:Nat)∧tk.fr 6=ak k∧tk.objs=[]∧bi (fun n q=>bN q.cs t.cs.length&&dF c t q n) 0 t.kys=bi (fun n q=>bN q.cs t.cs.length&&dF c t q n) k (t.kys.drop k)) ?_ ?_
 .simp -implicitDefEqProofs(maxSteps:=9^9)only[Tryz.f39,↓zA,sevalprocAttr,afP]
  try exact rfl
 rintro k ⟨frk,obk,ckk⟩ hk ⟨f2,f3,f5,f6,fo,Ek⟩
 dsimp only at f2 f3 f5 f6 fo
 rcases Nat.lt_or_ge k (t.kys.length) with dk|dk
 .have hw:=aQ k (by omega)
  have gx:=ap dk
  have hp:=hP k dk
  have hlen:((t.kys.take k).filter Ky.pr).length≤k:=Nat.le_trans (List.length_filter_le ..) (by rw[List.length_take];omega)
  have hwc:=aQ ((t.kys.take k).filter Ky.pr).length (by omega)
  have ks:=fun K=>ae.k (as0 c t k t.kys[k] gx hc ht.n (by omega)) K
  have hq:=h2 _ (List.getElem_mem dk)
  have hq':t.kys[k].cs.length≤4611686018427387903:=by omega
  rw[aJ dk,jw] at Ek
  generalize t.kys[k]=y at *
  cases bp:y.pr
  .rw[bp] at hp
   simp only[Bool.false_eq_true,if_false,if_true,Nat.add_zero] at hp
   rw[hp]
   cases b0:bN y.cs t.cs.length
   .have F:bi (fun n q=>bN q.cs t.cs.length&&dF c t q n) 0 t.kys=false:=by rw[Ek];simp[Bool.false_and,b0]
    simp -implicitDefEqProofs(maxSteps:=9^9)only[Tryz.f39,↓zA,sevalprocAttr,afP,f2,f3,f5,f6,fo,aa,dk,gx,hw,bp,hwc,ks,iO,hq',aad,b0,F]
   cases b1:dF c t y k
   .have F:bi (fun n q=>bN q.cs t.cs.length&&dF c t q n) 0 t.kys=false:=by rw[Ek];simp[Bool.false_and,b0,b1]
    simp -implicitDefEqProofs(maxSteps:=9^9)only[Tryz.f39,↓zA,sevalprocAttr,afP,f2,f3,f5,f6,fo,aa,dk,gx,hw,bp,hwc,ks,iO,hq',aad,b0,b1,F]
   have F:bi (fun n q=>bN q.cs t.cs.length&&dF c t q n) 0 t.kys=bi (fun n q=>bN q.cs t.cs.length&&dF c t q n) (k+1) (t.kys.drop (k+1)):=by rw[Ek];simp[Bool.false_and,b0,b1]
   simp -implicitDefEqProofs(maxSteps:=9^9)only[Tryz.f39,↓zA,sevalprocAttr,afP,f2,f3,f5,f6,fo,aa,dk,gx,hw,bp,hwc,ks,iO,hq',aad,b0,b1,F]
  .rw[bp] at hp
   simp only[Bool.false_eq_true,if_false,if_true,Nat.add_zero] at hp
   rw[hp]
   cases b0:bN y.cs t.cs.length
   .have F:bi (fun n q=>bN q.cs t.cs.length&&dF c t q n) 0 t.kys=false:=by rw[Ek];simp[Bool.false_and,b0]
    simp -implicitDefEqProofs(maxSteps:=9^9)only[Tryz.f39,↓zA,sevalprocAttr,afP,f2,f3,f5,f6,fo,aa,dk,gx,hw,bp,hwc,ks,iO,hq',aad,b0,F]
   cases b1:dF c t y k
   .have F:bi (fun n q=>bN q.cs t.cs.length&&dF c t q n) 0 t.kys=false:=by rw[Ek];simp[Bool.false_and,b0,b1]
    simp -implicitDefEqProofs(maxSteps:=9^9)only[Tryz.f39,↓zA,sevalprocAttr,afP,f2,f3,f5,f6,fo,aa,dk,gx,hw,bp,hwc,ks,iO,hq',aad,b0,b1,F]
   have F:bi (fun n q=>bN q.cs t.cs.length&&dF c t q n) 0 t.kys=bi (fun n q=>bN q.cs t.cs.length&&dF c t q n) (k+1) (t.kys.drop (k+1)):=by rw[Ek];simp[Bool.false_and,b0,b1]
   simp -implicitDefEqProofs(maxSteps:=9^9)only[Tryz.f39,↓zA,sevalprocAttr,afP,f2,f3,f5,f6,fo,aa,dk,gx,hw,bp,hwc,ks,iO,hq',aad,b0,b1,F]
 .have e:k=t.kys.length:=by omega
  subst e
  rw[List.drop_length,iH] at Ek
  simp -implicitDefEqProofs(maxSteps:=9^9)only[Tryz.f39,↓zA,sevalprocAttr,afP,f2,f3,f5,f6,fo,aa,Nat.lt_irrefl,Ek,aad,i8,List.take_length,aZX]
  try rfl
def afQ:=ai (ai (ai @zq (ai @ab8 @aaQ)) (ai @aIo (ai @aES @dw))) (ai (ai @cE (ai @Q9 @P3)) (ai (ai @Q3 @zT0) (ai @aDL (aw aSI))))
theorem aEF (l:List Cd) (h:l.length≤4611686018427387903):G1 38 [.of (slC cdC l)] (ah (j8 l)):=by
 refine aj rfl aSI aDL rfl ?_
 simp -implicitDefEqProofs(maxSteps:=9^9)only[Tryz.f38,↓zA,sevalprocAttr,afQ]
 refine aL (l.length) (fun k tk=>tk.fr 0=.of (slC cdC l)∧tk.fr 3=ak k∧tk.objs=[]∧bi (aa9 l) 0 l=bi (aa9 l) k (l.drop k)) ?_ ?_
 .simp -implicitDefEqProofs(maxSteps:=9^9)only[Tryz.f38,↓zA,sevalprocAttr,afQ]
  try exact rfl
 rintro k ⟨frk,obk,ckk⟩ hk ⟨f0,f3,fo,Ek⟩
 dsimp only at f0 f3 fo
 rcases Nat.lt_or_ge k (l.length) with dk|dk
 .have hw:=aQ k (by omega)
  have gx:=ap dk
  rw[aJ dk,jw] at Ek
  generalize l[k]=x at *
  have kc:=fun K=>aqK l x.nm h K
  have e1:(x.ty<1)=¬(1≤x.ty):=arh _
  have e2:(3<x.ty)=¬(x.ty≤3):=a2d _ _
  cases b0:aA x.nm
  .have F:bi (aa9 l) 0 l=false:=by rw[Ek];simp[aa9,b0]
   simp -implicitDefEqProofs(maxSteps:=9^9)only[Tryz.f38,↓zA,sevalprocAttr,afQ,f0,f3,fo,aa,dk,gx,hw,aO,kc,e1,e2,j8,b0,F]
  by_cases c1:bE (fun e=>decide (e.nm=x.nm)) l=(k:Int)
  rotate_left
  .have F:bi (aa9 l) 0 l=false:=by rw[Ek];simp[aa9,b0,c1]
   simp -implicitDefEqProofs(maxSteps:=9^9)only[Tryz.f38,↓zA,sevalprocAttr,afQ,f0,f3,fo,aa,dk,gx,hw,aO,kc,e1,e2,j8,b0,c1,F]
  by_cases c2:1≤x.ty
  rotate_left
  .have F:bi (aa9 l) 0 l=false:=by rw[Ek];simp[aa9,b0,c1,c2]
   simp -implicitDefEqProofs(maxSteps:=9^9)only[Tryz.f38,↓zA,sevalprocAttr,afQ,f0,f3,fo,aa,dk,gx,hw,aO,kc,e1,e2,j8,b0,eq_true c1,c2,F]
  by_cases c3:x.ty≤3
  rotate_left
  .have F:bi (aa9 l) 0 l=false:=by rw[Ek];simp[aa9,b0,c1,c2,c3]
   simp -implicitDefEqProofs(maxSteps:=9^9)only[Tryz.f38,↓zA,sevalprocAttr,afQ,f0,f3,fo,aa,dk,gx,hw,aO,kc,e1,e2,j8,b0,eq_true c1,c2,c3,F]
  have F:bi (aa9 l) 0 l=bi (aa9 l) (k+1) (l.drop (k+1)):=by rw[Ek];simp[aa9,b0,c1,c2,c3]
  simp -implicitDefEqProofs(maxSteps:=9^9)only[Tryz.f38,↓zA,sevalprocAttr,afQ,f0,f3,fo,aa,dk,gx,hw,aO,kc,e1,e2,j8,b0,eq_true c1,c2,c3,F]
 .have e:k=l.length:=by omega
  subst e
  rw[List.drop_length,iH] at Ek
  have e1:((1:Int)≤(l.length:Int))=(1≤l.length):=propext (by omega)
  have e2:((l.length:Int)≤16)=(l.length≤16):=propext (by omega)
  by_cases c1:1≤l.length
  .simp -implicitDefEqProofs(maxSteps:=9^9)only[Tryz.f38,↓zA,sevalprocAttr,afQ,f0,f3,fo,aa,Nat.lt_irrefl,Ek,j8,e1,c1,e2]
  .simp -implicitDefEqProofs(maxSteps:=9^9)only[Tryz.f38,↓zA,sevalprocAttr,afQ,f0,f3,fo,aa,Nat.lt_irrefl,Ek,j8,e1,c1]
def afR:=ai (ai (ai (ai @zq (ai @aQM @a1F)) (ai @agt (ai @aep @ayW))) (ai (ai @ar2 (ai @apF @al4)) (ai @aIt (ai @aEX @ab8)))) (ai (ai (ai @aaQ (ai @cU @dH)) (ai @dw (ai @fb @d9))) (ai (ai @cW (ai @cE @cV)) (ai (ai @Q9 @zT0) (ai @aDO (aw aSL)))))
theorem aru (c:Ct) (hc:CtB c):G1 35 [.of (.agg (ctC c))] (ah (jf c)):=by
 have h1:=hc.x
 have h2:=hc.t
 have h3:=hc.ix
 have hlb:LB=1073741824:=rfl
 refine aj rfl aSL aDO rfl ?_
 simp -implicitDefEqProofs(maxSteps:=9^9)only[Tryz.f35,↓zA,sevalprocAttr,afR]
 refine aL (c.ixs.length) (fun k tk=>tk.fr 1=.of (.ref [slC tbC c.tbs,slC ixC c.ixs,ci c.nx])∧tk.fr 3=ak k∧tk.objs=[]∧bi (iv c) 0 c.ixs=bi (iv c) k (c.ixs.drop k)) ?_ ?_
 .simp -implicitDefEqProofs(maxSteps:=9^9)only[Tryz.f35,↓zA,sevalprocAttr,afR]
  try exact rfl
 rintro k ⟨frk,obk,ckk⟩ hk ⟨f1,f3,fo,Ek⟩
 dsimp only at f1 f3 fo
 rcases Nat.lt_or_ge k (c.ixs.length) with dk|dk
 .have hw:=aQ k (by omega)
  have gx:=ap dk
  have hx:=h3 _ (List.getElem_mem dk)
  rw[aJ dk,jw] at Ek
  generalize c.ixs[k]=x at *
  have hx':x.cs.length≤4611686018427387903:=by omega
  have ka:=fun K=>ae.k (acJ c x.tb (by omega)) K
  have ki:=fun K=>ady c x.nm (by omega) K
  have ks:=fun K=>ajB c x hc K
  rcases jV (fun t:Tb=>decide (t.nm=x.tb)) c.tbs with ⟨hi,hf⟩|⟨j,hj,hi,hf⟩
  .have hr:iv c k x=false:=by unfold iv bx;rw[hf]
   rw[hr,Bool.false_and] at Ek
   simp -implicitDefEqProofs(maxSteps:=9^9)only[Tryz.f35,↓zA,sevalprocAttr,afR,f1,f3,fo,aa,dk,gx,hw,ka,hi,Ek,jf]
  have gj:=ap hj
  generalize c.tbs[j]=u at *
  have hr:iv c k x=(bN x.cs u.cs.length&&(decide (bE (fun y=>decide (y.nm=x.nm)) c.ixs=(k:Int))&&(df c x.id||aA x.nm))):=by unfold iv bx;rw[hf]
  rw[hr] at Ek
  cases b1:bN x.cs u.cs.length
  .have F:bi (iv c) 0 c.ixs=false:=by rw[Ek];simp[b1]
   simp -implicitDefEqProofs(maxSteps:=9^9)only[Tryz.f35,↓zA,sevalprocAttr,afR,f1,f3,fo,aa,dk,gx,hw,ka,hi,fB,gj,iO,hx',ki,ks,aO,jf,b1,F]
  by_cases c2:bE (fun y=>decide (y.nm=x.nm)) c.ixs=(k:Int)
  rotate_left
  .have F:bi (iv c) 0 c.ixs=false:=by rw[Ek];simp[c2]
   simp -implicitDefEqProofs(maxSteps:=9^9)only[Tryz.f35,↓zA,sevalprocAttr,afR,f1,f3,fo,aa,dk,gx,hw,ka,hi,fB,gj,iO,hx',ki,ks,aO,jf,b1,c2,F]
  cases b3:df c x.id
  .cases b4:aA x.nm
   .have F:bi (iv c) 0 c.ixs=false:=by rw[Ek];simp[b3,b4]
    simp -implicitDefEqProofs(maxSteps:=9^9)only[Tryz.f35,↓zA,sevalprocAttr,afR,f1,f3,fo,aa,dk,gx,hw,ka,hi,fB,gj,iO,hx',ki,ks,aO,jf,b1,eq_true c2,b3,b4,F]
   .have F:bi (iv c) 0 c.ixs=bi (iv c) (k+1) (c.ixs.drop (k+1)):=by rw[Ek];simp[b1,c2,b3,b4]
    simp -implicitDefEqProofs(maxSteps:=9^9)only[Tryz.f35,↓zA,sevalprocAttr,afR,f1,f3,fo,aa,dk,gx,hw,ka,hi,fB,gj,iO,hx',ki,ks,aO,jf,b1,eq_true c2,b3,b4,F]
  .have F:bi (iv c) 0 c.ixs=bi (iv c) (k+1) (c.ixs.drop (k+1)):=by rw[Ek];simp[b1,c2,b3]
   simp -implicitDefEqProofs(maxSteps:=9^9)only[Tryz.f35,↓zA,sevalprocAttr,afR,f1,f3,fo,aa,dk,gx,hw,ka,hi,fB,gj,iO,hx',ki,ks,aO,jf,b1,eq_true c2,b3,F]
 .have e:k=c.ixs.length:=by omega
  subst e
  rw[List.drop_length,iH] at Ek
  simp -implicitDefEqProofs(maxSteps:=9^9)only[Tryz.f35,↓zA,sevalprocAttr,afR,f1,f3,fo,aa,Nat.lt_irrefl,Ek,jf,aTC]
def aH3:=ai (ai @zq @zT0) (ai @auI (aw aIU))
theorem aBJ (n:Int):G1 251 [ak n] (ah (inB n)):=by
 refine aj rfl aIU auI rfl ?_
 by_cases h1:-1000000000000000≤n
 .simp -implicitDefEqProofs(maxSteps:=9^9)only[Tryz.f251,↓zA,sevalprocAttr,aH3,h1,inB]
 .simp -implicitDefEqProofs(maxSteps:=9^9)only[Tryz.f251,↓zA,sevalprocAttr,aH3,h1,inB]
theorem aBI (n:Int) (K:An→Prop):aG Tryz.prog pr 251 [.of (ci n)] [] K↔K ⟨false,[ah (inB n)],[]⟩:=ae.k (aBJ n) K
theorem u32 (c:UInt8):((c.toNat:Int)<32)=(c.toNat<32):=propext (by omega)
theorem aFD (c:UInt8):((126:Int)<(c.toNat:Int))=(126<c.toNat):=propext (by omega)
theorem aPv (c:UInt8):okB c=(!decide (c.toNat<32)&&!decide (126<c.toNat)):=by
 unfold okB
 rw[Bool.eq_iff_iff]
 simp only[Bool.and_eq_true,Bool.not_eq_true',decide_eq_false_iff_not,decide_eq_true_eq]
 omega
theorem aL9 (n:Nat):((n:Int)≤100)=(n≤100):=propext (by omega)
def aiv:=ai (ai @zq @zT0) (ai @auH (aw aIT))
theorem aqI (s:List UInt8) (hl:s.length≤4611686018427387903):G1 252 [.of (ao (ar s))] (ah (abh (ar s))):=by
 have e0:abh (ar s)=(s.all okB&&decide (s.length≤100)):=by
  unfold abh
  rw[abR]
  have:(ar s).data.toList=s:=by simp[ar]
  rw[this]
 rw[e0]
 refine aj rfl aIT auH rfl ?_
 simp -implicitDefEqProofs(maxSteps:=9^9)only[Tryz.f252,↓zA,sevalprocAttr,aiv]
 refine aL s.length (fun k t=>t.fr 0=.of (ao (ar s))∧t.fr 3=ak k∧t.objs=[]∧s.all okB=(s.drop k).all okB) ?_ ?_
 .simp -implicitDefEqProofs(maxSteps:=9^9)only[Tryz.f252,↓zA,sevalprocAttr,aiv]
  try exact rfl
 .rintro k t hk ⟨f0,f3,ho,E⟩
  rcases Nat.lt_or_ge k s.length with d1|d1
  .have hw:=aQ k (by omega)
   rw[aJ d1,hM,aPv] at E
   by_cases a1:s[k].toNat<32
   .simp only[a1,decide_true,Bool.not_true,Bool.false_and] at E
    simp -implicitDefEqProofs(maxSteps:=9^9)only[Tryz.f252,↓zA,sevalprocAttr,aiv,f0,f3,ho,aa,d1,aeh,ap d1,u32,aFD,a1,E]
   .by_cases a2:126<s[k].toNat
    .simp only[a1,a2,decide_true,decide_false,Bool.not_false,Bool.not_true,Bool.false_and,Bool.and_false] at E
     simp -implicitDefEqProofs(maxSteps:=9^9)only[Tryz.f252,↓zA,sevalprocAttr,aiv,f0,f3,ho,aa,d1,aeh,ap d1,u32,aFD,a1,a2,E]
    .simp only[a1,a2,decide_false,Bool.not_false,Bool.true_and] at E
     simp -implicitDefEqProofs(maxSteps:=9^9)only[Tryz.f252,↓zA,sevalprocAttr,aiv,f0,f3,ho,aa,d1,aeh,ap d1,u32,aFD,a1,a2,hw,E]
  .have e:k=s.length:=by omega
   subst e
   rw[List.drop_length,List.all_nil] at E
   simp -implicitDefEqProofs(maxSteps:=9^9)only[Tryz.f252,↓zA,sevalprocAttr,aiv,f0,f3,ho,aa,Nat.lt_irrefl,E,aL9]
theorem aBH (s:ByteArray) (K:An→Prop):aG Tryz.prog pr 252 [.of (ao s)] [] K↔ifP (s.size≤4611686018427387903) (K ⟨false,[ah (abh s)],[]⟩) (fp Tryz.prog pr 252 [.of (ao s)] K):=hZ (fun h=>by
 have e:ar s.data.toList=s:=by cases s;simp[ar]
 have h2:=aqI s.data.toList (by have h3:s.data.toList.length=s.size:=Array.length_toList;omega)
 rwa [e] at h2) K
def acN:=ai (ai (ai @zq (ai @a1g @aPC)) (ai @aNc (ai @aPB @aNb))) (ai (ai @adY (ai @P3 @Q3)) (ai (ai @Q9 @zT0) (ai @ava (aw aJm))))
theorem aqJ (v:V) (hl:v.s.size≤4611686018427387903):G1 221 [.of (.agg (aay v))] (ah (dL v)):=by
 refine aj rfl aJm ava rfl ?_
 by_cases k0:v.k=0
 .by_cases c1:v.n=0
  .simp -implicitDefEqProofs(maxSteps:=9^9)only[Tryz.f221,↓zA,sevalprocAttr,acN,eq_true k0,eq_true c1,dL,s0,aax]
  .simp -implicitDefEqProofs(maxSteps:=9^9)only[Tryz.f221,↓zA,sevalprocAttr,acN,eq_true k0,c1,dL,s0,aax]
 .by_cases k1:v.k=1
  .by_cases c1:v.n=0
   .simp -implicitDefEqProofs(maxSteps:=9^9)only[Tryz.f221,↓zA,sevalprocAttr,acN,k1,Int.reduceEq,eq_true c1,dL,s0,aax,Bool.true_or]
   .by_cases c2:v.n=1
    .simp -implicitDefEqProofs(maxSteps:=9^9)only[Tryz.f221,↓zA,sevalprocAttr,acN,k1,Int.reduceEq,c1,eq_true c2,dL,s0,aax,Bool.false_or]
    .simp -implicitDefEqProofs(maxSteps:=9^9)only[Tryz.f221,↓zA,sevalprocAttr,acN,k1,Int.reduceEq,c1,c2,dL,s0,aax,Bool.false_or]
  .by_cases k2:v.k=2
   .cases c1:inB v.n
    .simp -implicitDefEqProofs(maxSteps:=9^9)only[Tryz.f221,↓zA,sevalprocAttr,acN,k2,Int.reduceEq,aBI,c1,dL,s0,aax]
    .simp -implicitDefEqProofs(maxSteps:=9^9)only[Tryz.f221,↓zA,sevalprocAttr,acN,k2,Int.reduceEq,aBI,c1,dL,s0,aax]
   .by_cases k3:v.k=3
    .by_cases c1:v.n=0
     .simp -implicitDefEqProofs(maxSteps:=9^9)only[Tryz.f221,↓zA,sevalprocAttr,acN,k3,Int.reduceEq,eq_true c1,aBH,hl,dL,aax]
     .simp -implicitDefEqProofs(maxSteps:=9^9)only[Tryz.f221,↓zA,sevalprocAttr,acN,k3,Int.reduceEq,c1,dL,aax]
    .simp -implicitDefEqProofs(maxSteps:=9^9)only[Tryz.f221,↓zA,sevalprocAttr,acN,k0,k1,k2,k3,dL,aax]
theorem bX (v:V) (K:An→Prop):aG Tryz.prog pr 221 [.of (.agg (aay v))] [] K↔ifP (v.s.size≤4611686018427387903) (K ⟨false,[ah (dL v)],[]⟩) (fp Tryz.prog pr 221 [.of (.agg (aay v))] K):=hZ (aqJ v) K
theorem fy (u:Option TypeDesc) (v:V):dX Tryz.prog (TT.of Tryz.prog) 86 u .eql (.of (.agg (aay v))) (.agg [.of (ci 0),.of (ci 0),.of (ao {data:=#[]})])=out (ah (decide (v=ij))):=by
 have h:=aog v ij
 have e:aay ij=[ci 0,ci 0,ao {data:=#[]}]:=rfl
 rw[e] at h
 have hr:(X.agg [.of (ci 0),.of (ci 0),.of (ao {data:=#[]})]).rd=some (.agg [ci 0,ci 0,ao {data:=#[]}]):=rfl
 simp only[dX,dN,hr]
 simp only[X.rd,adb,h]
 rfl
def adE (op:Int):Int×Int:=match jd op with
 | some (a,b,_)=>(a,b)
 | none=>(-1,-1)
def ayi:=ai (ai @zq @zT0) (ai @amU (aw azO))
theorem aCQ (op:Int):GN 174 [ak op] [ak (adE op).1,ak (adE op).2]:=by
 by_cases h:op=1∨op=2∨op=3∨op=4∨op=5∨op=6∨op=7∨op=8∨op=9∨op=10∨op=11∨op=12∨op=13∨op=14∨op=15∨op=16∨op=17∨op=18∨op=19∨op=20∨op=21∨op=22∨op=23∨op=24∨op=25∨op=26∨op=27∨op=28
 .rcases h with h|h|h|h|h|h|h|h|h|h|h|h|h|h|h|h|h|h|h|h|h|h|h|h|h|h|h|h <;>
  .subst h
   refine aj rfl azO amU rfl ?_
   simp -implicitDefEqProofs(maxSteps:=9^9)only[Tryz.f174,↓zA,sevalprocAttr,ayi,adE,jd,true_or,or_true,or_self,Int.reduceEq]
   try rfl
 .simp only[not_or] at h
  have hs:adE op=(-1,-1):=by
   have:jd op=none:=by
    unfold jd
    simp only[h,or_self,or_false,false_or,if_false]
    rw[if_neg (by omega)]
   rw[adE,this]
  refine aj rfl azO amU rfl ?_
  by_cases a1:5≤op
  .have a2:¬op≤20:=by omega
   simp -implicitDefEqProofs(maxSteps:=9^9)only[Tryz.f174,↓zA,sevalprocAttr,ayi,hs,h,a1,a2,or_self]
   try rfl
  .simp -implicitDefEqProofs(maxSteps:=9^9)only[Tryz.f174,↓zA,sevalprocAttr,ayi,hs,h,a1,or_self]
   try rfl
def ape:=ai (ai (ai @zq @a0R) (ai @adY @bK)) (ai (ai @Q9 @Q4) (ai @zT0 (ai @au7 (aw aJj))))
theorem aFf (e:Xp):G1 224 [.of (.agg (xpC e))] (ah (decide (e.v=ij)&&decide (e.tb=[])&&decide (e.nm=[])&&!e.di)):=by
 refine aj rfl aJj au7 rfl ?_
 by_cases c1:e.v=ij
 .by_cases c2:e.tb=[]
  .by_cases c3:e.nm=[]
   .simp -implicitDefEqProofs(maxSteps:=9^9)only[Tryz.f224,↓zA,sevalprocAttr,ape,fy,eq_true c1,eq_true c2,eq_true c3]
   .simp -implicitDefEqProofs(maxSteps:=9^9)only[Tryz.f224,↓zA,sevalprocAttr,ape,fy,eq_true c1,eq_true c2,c3]
  .simp -implicitDefEqProofs(maxSteps:=9^9)only[Tryz.f224,↓zA,sevalprocAttr,ape,fy,eq_true c1,c2]
 .simp -implicitDefEqProofs(maxSteps:=9^9)only[Tryz.f224,↓zA,sevalprocAttr,ape,fy,c1]
theorem dv (e:Xp) (K:An→Prop):aG Tryz.prog pr 224 [.of (.agg (xpC e))] [] K↔K ⟨false,[ah (decide (e.v=ij)&&decide (e.tb=[])&&decide (e.nm=[])&&!e.di)],[]⟩:=ae.k (aFf e) K
theorem eM (n:Nat):((n:Int)=1)=(n=1):=propext (by omega)
def adm (op:Int):Nat:=if op=26∨op=27∨op=28 then 1 else 0
def fu (e:Xp):Bool:=decide (e.sb.length=adm e.op)&&cT e.op e.v e.tb e.nm e.di e.ks.length
theorem eI:adm 26=1:=rfl
theorem eH:adm 27=1:=rfl
theorem eG:adm 28=1:=rfl
def eF:=ai (ai (ai (ai @zq (ai @aZb @aPS)) (ai @aNt (ai @ab8 @aaQ))) (ai (ai @aqY (ai @am7 @aPR)) (ai @aNs (ai @aPQ @aNr)))) (ai (ai (ai @adY (ai @bK @dY)) (ai @dR (ai @ec @P3))) (ai (ai @Q3 (ai @Q9 @Q4)) (ai @zT0 (ai @avU (aw aJ3)))))
theorem aGa (e:Xp) (hl:e.v.s.size≤4611686018427387903):G1 175 [.of (.agg (xpC e))] (ah (fu e)):=by
 refine aj rfl aJ3 avU rfl ?_
 by_cases s1:e.op=26∨e.op=27∨e.op=28
 .have hs:adm e.op=1:=if_pos s1
  by_cases c0:e.sb.length=1
  .rcases s1 with s1|s1|s1
   .simp -implicitDefEqProofs(maxSteps:=9^9)only[Tryz.f175,↓zA,sevalprocAttr,eF,eI,eH,eG,fy,dv,aO,bl,cL,bX,hl,bm,eM,bW,fu,cT,or_self,ne_eq,Int.reduceEq,hs,c0,s1,true_or,or_true]
    try rfl
   .simp -implicitDefEqProofs(maxSteps:=9^9)only[Tryz.f175,↓zA,sevalprocAttr,eF,eI,eH,eG,fy,dv,aO,bl,cL,bX,hl,bm,eM,bW,fu,cT,or_self,ne_eq,Int.reduceEq,hs,c0,s1,true_or,or_true]
    try rfl
   .simp -implicitDefEqProofs(maxSteps:=9^9)only[Tryz.f175,↓zA,sevalprocAttr,eF,eI,eH,eG,fy,dv,aO,bl,cL,bX,hl,bm,eM,bW,fu,cT,or_self,ne_eq,Int.reduceEq,hs,c0,s1,true_or,or_true]
    try rfl
  .rcases s1 with s1|s1|s1
   .simp -implicitDefEqProofs(maxSteps:=9^9)only[Tryz.f175,↓zA,sevalprocAttr,eF,eI,eH,eG,fy,dv,aO,bl,cL,bX,hl,bm,eM,bW,fu,cT,or_self,ne_eq,Int.reduceEq,hs,c0,s1,true_or,or_true]
   .simp -implicitDefEqProofs(maxSteps:=9^9)only[Tryz.f175,↓zA,sevalprocAttr,eF,eI,eH,eG,fy,dv,aO,bl,cL,bX,hl,bm,eM,bW,fu,cT,or_self,ne_eq,Int.reduceEq,hs,c0,s1,true_or,or_true]
   .simp -implicitDefEqProofs(maxSteps:=9^9)only[Tryz.f175,↓zA,sevalprocAttr,eF,eI,eH,eG,fy,dv,aO,bl,cL,bX,hl,bm,eM,bW,fu,cT,or_self,ne_eq,Int.reduceEq,hs,c0,s1,true_or,or_true]
 have hs:adm e.op=0:=if_neg s1
 simp only[not_or] at s1
 by_cases c0:e.sb.length=0
 rotate_left
 .simp -implicitDefEqProofs(maxSteps:=9^9)only[Tryz.f175,↓zA,sevalprocAttr,eF,eI,eH,eG,fy,dv,aO,bl,cL,bX,hl,bm,eM,bW,fu,cT,or_self,ne_eq,Int.reduceEq,hs,c0,s1]
 by_cases o1:e.op=1
 .cases r1:dL e.v
  .simp -implicitDefEqProofs(maxSteps:=9^9)only[Tryz.f175,↓zA,sevalprocAttr,eF,eI,eH,eG,fy,dv,aO,bl,cL,bX,hl,bm,eM,bW,fu,cT,or_self,ne_eq,Int.reduceEq,hs,c0,s1,eq_true o1,r1]
  .by_cases r2:e.v.k=2
   .by_cases r3:0≤e.v.n
    .by_cases r4:e.tb=[]
     .by_cases r5:e.nm=[]
      .simp -implicitDefEqProofs(maxSteps:=9^9)only[Tryz.f175,↓zA,sevalprocAttr,eF,eI,eH,eG,fy,dv,aO,bl,cL,bX,hl,bm,eM,bW,fu,cT,or_self,ne_eq,Int.reduceEq,hs,c0,s1,eq_true o1,r1,eq_true r2,r3,eq_true r4,eq_true r5]
      .simp -implicitDefEqProofs(maxSteps:=9^9)only[Tryz.f175,↓zA,sevalprocAttr,eF,eI,eH,eG,fy,dv,aO,bl,cL,bX,hl,bm,eM,bW,fu,cT,or_self,ne_eq,Int.reduceEq,hs,c0,s1,eq_true o1,r1,eq_true r2,r3,eq_true r4,r5]
     .simp -implicitDefEqProofs(maxSteps:=9^9)only[Tryz.f175,↓zA,sevalprocAttr,eF,eI,eH,eG,fy,dv,aO,bl,cL,bX,hl,bm,eM,bW,fu,cT,or_self,ne_eq,Int.reduceEq,hs,c0,s1,eq_true o1,r1,eq_true r2,r3,r4]
    .simp -implicitDefEqProofs(maxSteps:=9^9)only[Tryz.f175,↓zA,sevalprocAttr,eF,eI,eH,eG,fy,dv,aO,bl,cL,bX,hl,bm,eM,bW,fu,cT,or_self,ne_eq,Int.reduceEq,hs,c0,s1,eq_true o1,r1,eq_true r2,r3]
   .by_cases r4:e.tb=[]
    .by_cases r5:e.nm=[]
     .simp -implicitDefEqProofs(maxSteps:=9^9)only[Tryz.f175,↓zA,sevalprocAttr,eF,eI,eH,eG,fy,dv,aO,bl,cL,bX,hl,bm,eM,bW,fu,cT,or_self,ne_eq,Int.reduceEq,hs,c0,s1,eq_true o1,r1,r2,eq_true r4,eq_true r5,Bool.true_or]
     .simp -implicitDefEqProofs(maxSteps:=9^9)only[Tryz.f175,↓zA,sevalprocAttr,eF,eI,eH,eG,fy,dv,aO,bl,cL,bX,hl,bm,eM,bW,fu,cT,or_self,ne_eq,Int.reduceEq,hs,c0,s1,eq_true o1,r1,r2,eq_true r4,r5,Bool.true_or]
    .simp -implicitDefEqProofs(maxSteps:=9^9)only[Tryz.f175,↓zA,sevalprocAttr,eF,eI,eH,eG,fy,dv,aO,bl,cL,bX,hl,bm,eM,bW,fu,cT,or_self,ne_eq,Int.reduceEq,hs,c0,s1,eq_true o1,r1,r2,r4,Bool.true_or]
 .by_cases o2:e.op=2
  .by_cases r1:e.v=ij
   .cases r2:aA e.nm
    .simp -implicitDefEqProofs(maxSteps:=9^9)only[Tryz.f175,↓zA,sevalprocAttr,eF,eI,eH,eG,fy,dv,aO,bl,cL,bX,hl,bm,eM,bW,fu,cT,or_self,ne_eq,Int.reduceEq,hs,c0,s1,o1,eq_true o2,eq_true r1,r2]
    .cases r3:ff e.tb
     .simp -implicitDefEqProofs(maxSteps:=9^9)only[Tryz.f175,↓zA,sevalprocAttr,eF,eI,eH,eG,fy,dv,aO,bl,cL,bX,hl,bm,eM,bW,fu,cT,or_self,ne_eq,Int.reduceEq,hs,c0,s1,o1,eq_true o2,eq_true r1,r2,r3]
     .simp -implicitDefEqProofs(maxSteps:=9^9)only[Tryz.f175,↓zA,sevalprocAttr,eF,eI,eH,eG,fy,dv,aO,bl,cL,bX,hl,bm,eM,bW,fu,cT,or_self,ne_eq,Int.reduceEq,hs,c0,s1,o1,eq_true o2,eq_true r1,r2,r3]
   .simp -implicitDefEqProofs(maxSteps:=9^9)only[Tryz.f175,↓zA,sevalprocAttr,eF,eI,eH,eG,fy,dv,aO,bl,cL,bX,hl,bm,eM,bW,fu,cT,or_self,ne_eq,Int.reduceEq,hs,c0,s1,o1,eq_true o2,r1]
  .by_cases o3:e.op=24
   .by_cases r1:e.v=ij
    .by_cases r4:e.tb=[]
     .cases r2:aA e.nm
      .simp -implicitDefEqProofs(maxSteps:=9^9)only[Tryz.f175,↓zA,sevalprocAttr,eF,eI,eH,eG,fy,dv,aO,bl,cL,bX,hl,bm,eM,bW,fu,cT,or_self,ne_eq,Int.reduceEq,hs,c0,s1,o1,o2,eq_true o3,eq_true r1,r2,eq_true r4]
      .cases r3:iL e.nm
       .simp -implicitDefEqProofs(maxSteps:=9^9)only[Tryz.f175,↓zA,sevalprocAttr,eF,eI,eH,eG,fy,dv,aO,bl,cL,bX,hl,bm,eM,bW,fu,cT,or_self,ne_eq,Int.reduceEq,hs,c0,s1,o1,o2,eq_true o3,eq_true r1,r2,eq_true r4,r3]
       .simp -implicitDefEqProofs(maxSteps:=9^9)only[Tryz.f175,↓zA,sevalprocAttr,eF,eI,eH,eG,fy,dv,aO,bl,cL,bX,hl,bm,eM,bW,fu,cT,or_self,ne_eq,Int.reduceEq,hs,c0,s1,o1,o2,eq_true o3,eq_true r1,r2,eq_true r4,r3]
     .simp -implicitDefEqProofs(maxSteps:=9^9)only[Tryz.f175,↓zA,sevalprocAttr,eF,eI,eH,eG,fy,dv,aO,bl,cL,bX,hl,bm,eM,bW,fu,cT,or_self,ne_eq,Int.reduceEq,hs,c0,s1,o1,o2,eq_true o3,eq_true r1,r4]
    .simp -implicitDefEqProofs(maxSteps:=9^9)only[Tryz.f175,↓zA,sevalprocAttr,eF,eI,eH,eG,fy,dv,aO,bl,cL,bX,hl,bm,eM,bW,fu,cT,or_self,ne_eq,Int.reduceEq,hs,c0,s1,o1,o2,eq_true o3,r1]
   .by_cases o4:e.op=25
    .by_cases r1:e.v=ij
     .by_cases r4:e.tb=[]
      .cases r3:iL e.nm
       .simp -implicitDefEqProofs(maxSteps:=9^9)only[Tryz.f175,↓zA,sevalprocAttr,eF,eI,eH,eG,fy,dv,aO,bl,cL,bX,hl,bm,eM,bW,fu,cT,or_self,ne_eq,Int.reduceEq,hs,c0,s1,o1,o2,o3,eq_true o4,eq_true r1,eq_true r4,r3]
       .by_cases r5:e.ks.length=1
        .simp -implicitDefEqProofs(maxSteps:=9^9)only[Tryz.f175,↓zA,sevalprocAttr,eF,eI,eH,eG,fy,dv,aO,bl,cL,bX,hl,bm,eM,bW,fu,cT,or_self,ne_eq,Int.reduceEq,hs,c0,s1,o1,o2,o3,eq_true o4,eq_true r1,eq_true r4,r3,eq_true r5,Bool.true_or]
        .by_cases r6:e.nm=abu
         .simp -implicitDefEqProofs(maxSteps:=9^9)only[Tryz.f175,↓zA,sevalprocAttr,eF,eI,eH,eG,fy,dv,aO,bl,cL,bX,hl,bm,eM,bW,fu,cT,or_self,ne_eq,Int.reduceEq,hs,c0,s1,o1,o2,o3,eq_true o4,eq_true r1,eq_true r4,r3,r5,eq_true r6,Bool.false_or]
         .simp -implicitDefEqProofs(maxSteps:=9^9)only[Tryz.f175,↓zA,sevalprocAttr,eF,eI,eH,eG,fy,dv,aO,bl,cL,bX,hl,bm,eM,bW,fu,cT,or_self,ne_eq,Int.reduceEq,hs,c0,s1,o1,o2,o3,eq_true o4,eq_true r1,eq_true r4,r3,r5,r6,Bool.false_or]
      .simp -implicitDefEqProofs(maxSteps:=9^9)only[Tryz.f175,↓zA,sevalprocAttr,eF,eI,eH,eG,fy,dv,aO,bl,cL,bX,hl,bm,eM,bW,fu,cT,or_self,ne_eq,Int.reduceEq,hs,c0,s1,o1,o2,o3,eq_true o4,eq_true r1,r4]
     .simp -implicitDefEqProofs(maxSteps:=9^9)only[Tryz.f175,↓zA,sevalprocAttr,eF,eI,eH,eG,fy,dv,aO,bl,cL,bX,hl,bm,eM,bW,fu,cT,or_self,ne_eq,Int.reduceEq,hs,c0,s1,o1,o2,o3,eq_true o4,r1]
    .simp -implicitDefEqProofs(maxSteps:=9^9)only[Tryz.f175,↓zA,sevalprocAttr,eF,eI,eH,eG,fy,dv,aO,bl,cL,bX,hl,bm,eM,bW,fu,cT,or_self,ne_eq,Int.reduceEq,hs,c0,s1,o1,o2,o3,o4]
     try rfl
def aim (l:List Xp):Prop:=∀ x∈l,G1 125 [.of (.agg (xpC x))] (ah (aK x))
def ant (l:List Qy):Prop:=∀ x∈l,G1 214 [.of (.agg (qyC x))] (ah (bA x))
def af5:=ai (ai (ai @zq @alg) (ai @aji @bK)) (ai (ai @dR @zT0) (ai @av4 (aw aKd)))
theorem cN (l:List Xp) (a b:Int) (hw:lsW xpW l≤WL) (h:aim l):G1 164 [.of (slC xpC l),.of (ci a),.of (ci b)] (ah (am l a b aK)):=by
 have h1:=bh xpW l fun x _=>gW x
 simp only[WL] at hw
 refine aj rfl aKd av4 rfl ?_
 by_cases a1:a≤(l.length:Int)
 rotate_left
 .simp -implicitDefEqProofs(maxSteps:=9^9)only[Tryz.f164,↓zA,sevalprocAttr,af5,a1,show (l.length:Int)<a from by omega,am]
 have a1':¬(l.length:Int)<a:=by omega
 by_cases a2:(l.length:Int)≤b
 rotate_left
 .simp -implicitDefEqProofs(maxSteps:=9^9)only[Tryz.f164,↓zA,sevalprocAttr,af5,a1',show b<(l.length:Int) from by omega,a2,am]
 have a2':¬b<(l.length:Int):=by omega
 have e0:am l a b aK=l.all aK:=by simp only[am,a1,a2,decide_true,Bool.true_and]
 rw[e0]
 simp -implicitDefEqProofs(maxSteps:=9^9)only[Tryz.f164,↓zA,sevalprocAttr,af5,a1',a2']
 refine aL l.length (fun k t=>t.fr 0=.of (slC xpC l)∧t.fr 7=ak k∧t.objs=[]∧l.all aK=(l.drop k).all aK) ?_ ?_
 .simp -implicitDefEqProofs(maxSteps:=9^9)only[Tryz.f164,↓zA,sevalprocAttr,af5]
  try exact rfl
 .rintro k t hk ⟨f0,f7,ho,E⟩
  rcases Nat.lt_or_ge k l.length with d1|d1
  .have hwk:=aQ k (by omega)
   have kx:=fun K=>ae.k (h l[k] (List.getElem_mem d1)) K
   rw[aJ d1,hM] at E
   cases d2:aK l[k]
   .rw[d2,Bool.false_and] at E
    simp -implicitDefEqProofs(maxSteps:=9^9)only[Tryz.f164,↓zA,sevalprocAttr,af5,f0,f7,ho,aa,d1,ap d1,hwk,kx,d2,E]
   .rw[d2,Bool.true_and] at E
    simp -implicitDefEqProofs(maxSteps:=9^9)only[Tryz.f164,↓zA,sevalprocAttr,af5,f0,f7,ho,aa,d1,ap d1,hwk,kx,d2,E]
  .have e:k=l.length:=by omega
   subst e
   rw[List.drop_length,List.all_nil] at E
   simp -implicitDefEqProofs(maxSteps:=9^9)only[Tryz.f164,↓zA,sevalprocAttr,af5,f0,f7,ho,aa,Nat.lt_irrefl,E]
def aiG:=ai (ai (ai @zq @aPX) (ai @aNz @dY)) (ai (ai @ec @zT0) (ai @av6 (aw aKf)))
theorem cP (l:List Qy) (n:Int) (hw:lsW qyW l≤WL) (h:ant l):G1 162 [.of (slC qyC l),.of (ci n)] (ah (decide ((l.length:Int)=n)&&l.all bA)):=by
 have h1:=bh qyW l fun x _=>aaE x
 simp only[WL] at hw
 refine aj rfl aKf av6 rfl ?_
 by_cases a1:(l.length:Int)=n
 rotate_left
 .simp -implicitDefEqProofs(maxSteps:=9^9)only[Tryz.f162,↓zA,sevalprocAttr,aiG,a1]
 simp -implicitDefEqProofs(maxSteps:=9^9)only[Tryz.f162,↓zA,sevalprocAttr,aiG,eq_true a1]
 refine aL l.length (fun k t=>t.fr 0=.of (slC qyC l)∧t.fr 5=ak k∧t.objs=[]∧l.all bA=(l.drop k).all bA) ?_ ?_
 .simp -implicitDefEqProofs(maxSteps:=9^9)only[Tryz.f162,↓zA,sevalprocAttr,aiG]
  try exact rfl
 .rintro k t hk ⟨f0,f5,ho,E⟩
  rcases Nat.lt_or_ge k l.length with d1|d1
  .have hwk:=aQ k (by omega)
   have kx:=fun K=>ae.k (h l[k] (List.getElem_mem d1)) K
   rw[aJ d1,hM] at E
   cases d2:bA l[k]
   .rw[d2,Bool.false_and] at E
    simp -implicitDefEqProofs(maxSteps:=9^9)only[Tryz.f162,↓zA,sevalprocAttr,aiG,f0,f5,ho,aa,d1,ap d1,hwk,kx,d2,E]
   .rw[d2,Bool.true_and] at E
    simp -implicitDefEqProofs(maxSteps:=9^9)only[Tryz.f162,↓zA,sevalprocAttr,aiG,f0,f5,ho,aa,d1,ap d1,hwk,kx,d2,E]
  .have e:k=l.length:=by omega
   subst e
   rw[List.drop_length,List.all_nil] at E
   simp -implicitDefEqProofs(maxSteps:=9^9)only[Tryz.f162,↓zA,sevalprocAttr,aiG,f0,f5,ho,aa,Nat.lt_irrefl,E]
theorem aee (n:Nat):((n:Int)≤64)=(n≤64):=propext (by omega)
def adt:=ai (ai (ai @zq @ab8) (ai @aaQ (ai @abx @ac5))) (ai (ai @Q9 (ai @P3 @Q3)) (ai @zT0 (ai @auN (aw aIZ))))
theorem atk (l:List Od) (hl:l.length≤4611686018427387903):G1 245 [.of (slC odC l)] (ah (l.all fA&&decide (l.length≤64))):=by
 refine aj rfl aIZ auN rfl ?_
 simp -implicitDefEqProofs(maxSteps:=9^9)only[Tryz.f245,↓zA,sevalprocAttr,adt]
 refine aL l.length (fun k t=>t.fr 0=.of (slC odC l)∧t.fr 3=ak k∧t.objs=[]∧l.all fA=(l.drop k).all fA) ?_ ?_
 .simp -implicitDefEqProofs(maxSteps:=9^9)only[Tryz.f245,↓zA,sevalprocAttr,adt]
  try exact rfl
 .rintro k t hk ⟨f0,f3,ho,E⟩
  rcases Nat.lt_or_ge k l.length with d1|d1
  .have hwk:=aQ k (by omega)
   have gx:=ap d1
   rw[aJ d1,hM] at E
   generalize l[k]=o at *
   by_cases c0:o.nm=[]
   .have n0:aA o.nm=false:=by rw[c0];rfl
    by_cases c1:1≤o.pl
    .by_cases c2:o.pl≤1000000000000000
     .have F:l.all fA=(l.drop (k+1)).all fA:=by rw[E];simp[fA,jD,c0,c1,c2]
      simp -implicitDefEqProofs(maxSteps:=9^9)only[Tryz.f245,↓zA,sevalprocAttr,adt,f0,f3,ho,aa,d1,gx,hwk,aO,n0,eq_true c0,c1,c2,F]
     .have F:l.all fA=false:=by rw[E];simp[fA,jD,c0,c1,c2]
      simp -implicitDefEqProofs(maxSteps:=9^9)only[Tryz.f245,↓zA,sevalprocAttr,adt,f0,f3,ho,aa,d1,gx,hwk,aO,n0,eq_true c0,c1,c2,F]
    .have F:l.all fA=false:=by rw[E];simp[fA,jD,c0,c1]
     simp -implicitDefEqProofs(maxSteps:=9^9)only[Tryz.f245,↓zA,sevalprocAttr,adt,f0,f3,ho,aa,d1,gx,hwk,aO,n0,eq_true c0,c1,F]
   .cases c1:aA o.nm
    .have F:l.all fA=false:=by rw[E];simp[fA,c0,c1]
     simp -implicitDefEqProofs(maxSteps:=9^9)only[Tryz.f245,↓zA,sevalprocAttr,adt,f0,f3,ho,aa,d1,gx,hwk,aO,c0,c1,F]
    .by_cases c2:o.pl=0
     .have F:l.all fA=(l.drop (k+1)).all fA:=by rw[E];simp[fA,c0,c1,c2]
      simp -implicitDefEqProofs(maxSteps:=9^9)only[Tryz.f245,↓zA,sevalprocAttr,adt,f0,f3,ho,aa,d1,gx,hwk,aO,c0,c1,eq_true c2,F]
     .have F:l.all fA=false:=by rw[E];simp[fA,c0,c1,c2]
      simp -implicitDefEqProofs(maxSteps:=9^9)only[Tryz.f245,↓zA,sevalprocAttr,adt,f0,f3,ho,aa,d1,gx,hwk,aO,c0,c1,c2,F]
  .have e:k=l.length:=by omega
   subst e
   rw[List.drop_length,List.all_nil] at E
   simp -implicitDefEqProofs(maxSteps:=9^9)only[Tryz.f245,↓zA,sevalprocAttr,adt,f0,f3,ho,aa,Nat.lt_irrefl,E,aee]
theorem aBp {op:Int} {a b n:Nat} (h:jd op=some (a,b,n)):n=adm op:=by
 unfold jd at h
 unfold adm
 split at h
 .simp at h;rw[if_neg (by omega)];exact h.2.2.symm
 split at h
 .simp at h;rw[if_pos (by omega)];exact h.2.2.symm
 split at h
 .simp at h;rw[if_neg (by omega)];exact h.2.2.symm
 split at h
 .simp at h;rw[if_pos (by omega)];exact h.2.2.symm
 split at h
 .simp at h;rw[if_neg (by omega)];exact h.2.2.symm
 split at h
 .simp at h;rw[if_neg (by omega)];exact h.2.2.symm
 split at h
 .simp at h;rw[if_neg (by omega)];exact h.2.2.symm
 split at h
 .simp at h;rw[if_neg (by omega)];exact h.2.2.symm
 split at h
 .simp at h;rw[if_neg (by omega)];exact h.2.2.symm
 split at h
 .simp at h;rw[if_neg (by omega)];exact h.2.2.symm
 .cases h
def apw:=ai (ai (ai (ai @zq @a1R) (ai @aQe @aNR)) (ai (ai @aQd @aNQ) (ai @aft (ai @adS @alc)))) (ai (ai (ai @ajf @bK) (ai @dY @ec)) (ai (ai @P3 @Q3) (ai @zT0 (ai @awH (aw aKP)))))
theorem ate (e:Xp) (hw:xpW e≤WL) (i1:aim e.ks) (i2:ant e.sb):G1 125 [.of (.agg (xpC e))] (ah (aK e)):=by
 have hw':=jB e
 simp only[WL] at hw
 have kx:=fun a b K=>ae.k (cN e.ks a b (by simp only[WL];omega) i1) K
 have kq:=fun n K=>ae.k (cP e.sb n (by simp only[WL];omega) i2) K
 have ko:=fun K=>ae.k (aGa e (by simp only[ap5] at hw';omega)) K
 have kk:=fun K=>ae.k (aCQ e.op) K
 refine aj rfl aKP awH rfl ?_
 cases hs:jd e.op with
 | none =>
  rw[anT hs]
  have k0:adE e.op=(-1,-1):=by rw[adE,hs]
  simp -implicitDefEqProofs(maxSteps:=9^9)only[Tryz.f125,↓zA,sevalprocAttr,apw,kk,k0]
 | some p =>
  obtain⟨lo,hi,n⟩:=p
  have k0:adE e.op=((lo:Int),(hi:Int)):=by rw[adE,hs]
  have hn:=aBp hs
  have e1:aK e=(fu e&&am e.ks lo hi aK&&e.sb.all bA):=by
   rw[anS hs,fu,hn]
   have:am e.sb (adm e.op) (adm e.op) bA=(decide (e.sb.length=adm e.op)&&e.sb.all bA):=by
    rw[ay]
    congr 1
    rw[Bool.eq_iff_iff];simp only[aE,Bool.and_eq_true,decide_eq_true_eq];omega
   rw[this]
   generalize am e.ks lo hi aK=q1
   generalize decide (e.sb.length=adm e.op)=q2
   generalize e.sb.all bA=q3
   generalize cT _ _ _ _ _ _=q4
   cases q1 <;> cases q2 <;> cases q3 <;> cases q4 <;> rfl
  have z0:(0:Int)≤(lo:Int):=by omega
  rw[e1]
  cases c1:fu e
  .simp -implicitDefEqProofs(maxSteps:=9^9)only[Tryz.f125,↓zA,sevalprocAttr,apw,kk,k0,z0,ko,c1]
  .cases c2:am e.ks lo hi aK
   .simp -implicitDefEqProofs(maxSteps:=9^9)only[Tryz.f125,↓zA,sevalprocAttr,apw,kk,k0,z0,ko,c1,kx,c2]
   .simp -implicitDefEqProofs(maxSteps:=9^9)only[Tryz.f125,↓zA,sevalprocAttr,apw,kk,k0,z0,ko,c1,kx,c2,kq]
theorem agB (f:Fm):dy f=(if f.kd=1∨f.kd=2 then 1 else 0)+(f.ks.map dy).sum:=by
 have h:∀ l:List Fm,agA l=(l.map dy).sum:=fun l=>by
  induction l with
  | nil=>rfl
  | cons x r ih=>rw[agA,ih];simp
 cases f;rw[dy,h];rfl
theorem aCO (n:Nat):∀ f:Fm,fmW f≤n→dy f≤fmW f:=by
 induction n with
 | zero=>intro f h;have:=iX f;omega
 | succ n ih =>
  intro f h
  rw[agB]
  rw[gK] at h ⊢
  have:∀ l:List Fm,lsW fmW l≤n+1→(l.map dy).sum+1≤lsW fmW l:=fun l=>by
   induction l with
   | nil=>simp[lsW]
   | cons x r ih2 =>
    intro hl
    have hx:=bg (w:=fmW) (l:=x::r) (x:=x) (by simp)
    have h1:=ih x (by omega)
    simp only[lsW,List.map_cons,List.sum_cons] at hl ih2 ⊢
    have h2:=ih2 (by omega)
    omega
  have:=this f.ks (by omega)
  split <;> omega
theorem aOS (l:List Fm):(l.map dy).sum+1≤lsW fmW l:=by
 induction l with
 | nil=>simp[lsW]
 | cons x r ih =>
  have:=aCO (fmW x) x (Nat.le_refl _)
  simp only[lsW,List.map_cons,List.sum_cons] at ih ⊢
  omega
theorem atv (n:Nat):∀ f:Fm,fmW f≤n→fw f=true→dy f=dz f:=by
 induction n with
 | zero=>intro f h;have:=iX f;omega
 | succ n ih =>
  intro f h ok
  rw[gK] at h
  rw[agB,agD]
  rw[amQ] at ok
  by_cases k1:f.kd=1
  .simp only[k1,if_true,Bool.and_eq_true,decide_eq_true_eq] at ok
   have:f.ks=[]:=List.length_eq_zero_iff.1 (by omega)
   simp[k1,this]
  .by_cases k2:f.kd=2
   .rw[if_neg k1,if_pos k2] at ok
    simp only[Bool.and_eq_true,decide_eq_true_eq] at ok
    have:f.ks=[]:=List.length_eq_zero_iff.1 (by omega)
    simp[k2,this]
   .rw[if_neg k1,if_neg k2] at ok
    have hk:¬(f.kd=1∨f.kd=2):=by simp[k1,k2]
    rw[if_neg hk,if_neg hk,Nat.zero_add]
    split at ok
    .simp only[Bool.and_eq_true,am] at ok
     have hall:=ok.1.2.2
     rw[List.all_eq_true] at hall
     have:f.ks.map dy=f.ks.map dz:=List.map_congr_left fun x hx=>ih x (by have:=bg (w:=fmW) hx;omega) (hall x hx)
     rw[this]
    .cases ok
def aHM (l:List Fm):Prop:=∀ x∈l,G1 249 [.of (.agg (fmC x))] (ak (dy x))
def aHI (l:List Fm):Prop:=∀ x∈l,G1 248 [.of (.agg (fmC x))] (ah (fw x))
def abw:=ai (ai (ai @zq @a1P) (ai @aBS (ai @axi @gV))) (ai (ai @hU (ai @P3 @Q3)) (ai @zT0 (ai @auJ (aw aIV))))
theorem at5 (f:Fm) (hw:fmW f≤WL) (h:aHM f.ks):G1 249 [.of (.agg (fmC f))] (ak (dy f)):=by
 have hw2:=hw
 rw[gK] at hw2
 simp only[WL] at hw2
 have hsum:=aOS f.ks
 have hlen:=bh fmW f.ks fun x _=>iX x
 rw[agB]
 generalize hA:(if f.kd=1∨f.kd=2 then 1 else 0)=A
 have hA1:A≤1:=by rw[← hA];split <;> omega
 refine aj rfl aIV auJ rfl ?_
 have key:∀ s:S,s.fr 1=.of (.ref [ci f.kd,ao (ar f.nm),ao (ar f.az),slC qyC f.sb,slC fmC f.ks,slC xpC f.on])→True:=fun _ _=>trivial
 by_cases k1:f.kd=1
 .simp only[k1,true_or,if_true] at hA
  subst hA
  simp -implicitDefEqProofs(maxSteps:=9^9)only[Tryz.f249,↓zA,sevalprocAttr,abw,eq_true k1]
  refine aL f.ks.length (fun k s=>∃ a:Nat,s.fr 3=ak a∧s.fr 1=.of (.ref [ci f.kd,ao (ar f.nm),ao (ar f.az),slC qyC f.sb,slC fmC f.ks,slC xpC f.on])∧s.fr 4=ak k∧s.objs=[]∧a+((f.ks.drop k).map dy).sum=1+(f.ks.map dy).sum) ?_ ?_
  .refine⟨1,?_⟩
   simp -implicitDefEqProofs(maxSteps:=9^9)only[Tryz.f249,↓zA,sevalprocAttr,abw]
   try exact rfl
  .rintro k s hk ⟨a,f3,f1,f4,ho,E⟩
   rcases Nat.lt_or_ge k f.ks.length with c1|c1
   .have hwk:=aQ k (by omega)
    have hx:=fun K=>ae.k (h f.ks[k] (List.getElem_mem c1)) K
    rw[aJ c1,List.map_cons,List.sum_cons] at E
    have hw3:IntKind.i64.wrap ((a:Int)+(dy f.ks[k]:Int))=((a+dy f.ks[k]:Nat):Int):=by rw[da _ (by omega) (by omega)];rfl
    simp -implicitDefEqProofs(maxSteps:=9^9)only[Tryz.f249,↓zA,sevalprocAttr,abw,f3,f1,f4,ho,aa,c1,ap c1,hwk,hx,hw3]
    exact⟨_,rfl,by omega⟩
   .have e:k=f.ks.length:=by omega
    subst e
    rw[List.drop_length,List.map_nil,List.sum_nil,Nat.add_zero] at E
    simp -implicitDefEqProofs(maxSteps:=9^9)only[Tryz.f249,↓zA,sevalprocAttr,abw,f3,f1,f4,ho,aa,Nat.lt_irrefl,E]
 .by_cases k2:f.kd=2
  .simp only[k2,or_true,if_true] at hA
   subst hA
   simp -implicitDefEqProofs(maxSteps:=9^9)only[Tryz.f249,↓zA,sevalprocAttr,abw,k1,eq_true k2]
   refine aL f.ks.length (fun k s=>∃ a:Nat,s.fr 3=ak a∧s.fr 1=.of (.ref [ci f.kd,ao (ar f.nm),ao (ar f.az),slC qyC f.sb,slC fmC f.ks,slC xpC f.on])∧s.fr 4=ak k∧s.objs=[]∧a+((f.ks.drop k).map dy).sum=1+(f.ks.map dy).sum) ?_ ?_
   .refine⟨1,?_⟩
    simp -implicitDefEqProofs(maxSteps:=9^9)only[Tryz.f249,↓zA,sevalprocAttr,abw]
    try exact rfl
   .rintro k s hk ⟨a,f3,f1,f4,ho,E⟩
    rcases Nat.lt_or_ge k f.ks.length with c1|c1
    .have hwk:=aQ k (by omega)
     have hx:=fun K=>ae.k (h f.ks[k] (List.getElem_mem c1)) K
     rw[aJ c1,List.map_cons,List.sum_cons] at E
     have hw3:IntKind.i64.wrap ((a:Int)+(dy f.ks[k]:Int))=((a+dy f.ks[k]:Nat):Int):=by rw[da _ (by omega) (by omega)];rfl
     simp -implicitDefEqProofs(maxSteps:=9^9)only[Tryz.f249,↓zA,sevalprocAttr,abw,f3,f1,f4,ho,aa,c1,ap c1,hwk,hx,hw3]
     exact⟨_,rfl,by omega⟩
    .have e:k=f.ks.length:=by omega
     subst e
     rw[List.drop_length,List.map_nil,List.sum_nil,Nat.add_zero] at E
     simp -implicitDefEqProofs(maxSteps:=9^9)only[Tryz.f249,↓zA,sevalprocAttr,abw,f3,f1,f4,ho,aa,Nat.lt_irrefl,E]
  .simp only[k1,k2,or_self,if_false] at hA
   subst hA
   simp -implicitDefEqProofs(maxSteps:=9^9)only[Tryz.f249,↓zA,sevalprocAttr,abw,k1,k2]
   refine aL f.ks.length (fun k s=>∃ a:Nat,s.fr 3=ak a∧s.fr 1=.of (.ref [ci f.kd,ao (ar f.nm),ao (ar f.az),slC qyC f.sb,slC fmC f.ks,slC xpC f.on])∧s.fr 4=ak k∧s.objs=[]∧a+((f.ks.drop k).map dy).sum=0+(f.ks.map dy).sum) ?_ ?_
   .refine⟨0,?_⟩
    simp -implicitDefEqProofs(maxSteps:=9^9)only[Tryz.f249,↓zA,sevalprocAttr,abw]
    try exact rfl
   .rintro k s hk ⟨a,f3,f1,f4,ho,E⟩
    rcases Nat.lt_or_ge k f.ks.length with c1|c1
    .have hwk:=aQ k (by omega)
     have hx:=fun K=>ae.k (h f.ks[k] (List.getElem_mem c1)) K
     rw[aJ c1,List.map_cons,List.sum_cons] at E
     have hw3:IntKind.i64.wrap ((a:Int)+(dy f.ks[k]:Int))=((a+dy f.ks[k]:Nat):Int):=by rw[da _ (by omega) (by omega)];rfl
     simp -implicitDefEqProofs(maxSteps:=9^9)only[Tryz.f249,↓zA,sevalprocAttr,abw,f3,f1,f4,ho,aa,c1,ap c1,hwk,hx,hw3]
     exact⟨_,rfl,by omega⟩
    .have e:k=f.ks.length:=by omega
     subst e
     rw[List.drop_length,List.map_nil,List.sum_nil,Nat.add_zero] at E
     simp -implicitDefEqProofs(maxSteps:=9^9)only[Tryz.f249,↓zA,sevalprocAttr,abw,f3,f1,f4,ho,aa,Nat.lt_irrefl,E]
theorem ji (n:Nat):((n:Int)=2)=(n=2):=propext (by omega)
def jg:=ai (ai (ai (ai @zq (ai @a1O @ab8)) (ai @aaQ (ai @aqY @am7))) (ai (ai @alc (ai @ajf @aft)) (ai @adS (ai @aBT @axj)))) (ai (ai (ai @bK (ai @dY @gV)) (ai @dR (ai @ec @hU))) (ai (ai @P3 (ai @Q3 @Q9)) (ai @zT0 (ai @auK (aw aIW)))))
theorem aoM (f:Fm) (hw:fmW f≤WL) (h1:ant f.sb) (h2:aHI f.ks) (h3:aim f.on):G1 248 [.of (.agg (fmC f))] (ah (fw f)):=by
 have hw2:=hw
 rw[gK] at hw2
 simp only[WL] at hw2
 have kq:=fun n K=>ae.k (cP f.sb n (by simp only[WL];omega) h1) K
 have kx:=fun a b K=>ae.k (cN f.on a b (by simp only[WL];omega) h3) K
 have len3:∀ a b c:Nat,decide (a+b+c=0)=(decide (a=0)&&decide (b=0)&&decide (c=0)):=fun a b c=>by
  rw[Bool.eq_iff_iff];simp only[Bool.and_eq_true,decide_eq_true_eq];omega
 have len2:∀ b c:Nat,decide (b+c=0)=(decide (b=0)&&decide (c=0)):=fun b c=>by
  rw[Bool.eq_iff_iff];simp only[Bool.and_eq_true,decide_eq_true_eq];omega
 have sq:am f.sb 1 1 bA=(decide ((f.sb.length:Int)=1)&&f.sb.all bA):=by
  simp only[am]
  congr 1
  rw[Bool.eq_iff_iff];simp only[Bool.and_eq_true,decide_eq_true_eq];omega
 rw[amQ,len3,len2]
 refine aj rfl aIW auK rfl ?_
 by_cases k1:f.kd=1
 .cases c1:aA f.nm
  .simp -implicitDefEqProofs(maxSteps:=9^9)only[Tryz.f248,↓zA,sevalprocAttr,jg,aO,bl,kq,kx,bm,ji,Int.reduceEq,or_true,true_or,eq_true k1,c1]
  .cases c2:ff f.az
   .simp -implicitDefEqProofs(maxSteps:=9^9)only[Tryz.f248,↓zA,sevalprocAttr,jg,aO,bl,kq,kx,bm,ji,Int.reduceEq,or_true,true_or,eq_true k1,c1,c2]
   .by_cases c3:f.sb.length=0
    .by_cases c4:f.ks.length=0
     .simp -implicitDefEqProofs(maxSteps:=9^9)only[Tryz.f248,↓zA,sevalprocAttr,jg,aO,bl,kq,kx,bm,ji,Int.reduceEq,or_true,true_or,eq_true k1,c1,c2,eq_true c3,eq_true c4]
     .simp -implicitDefEqProofs(maxSteps:=9^9)only[Tryz.f248,↓zA,sevalprocAttr,jg,aO,bl,kq,kx,bm,ji,Int.reduceEq,or_true,true_or,eq_true k1,c1,c2,eq_true c3,c4]
    .simp -implicitDefEqProofs(maxSteps:=9^9)only[Tryz.f248,↓zA,sevalprocAttr,jg,aO,bl,kq,kx,bm,ji,Int.reduceEq,or_true,true_or,eq_true k1,c1,c2,c3]
 .by_cases k2:f.kd=2
  .by_cases c1:f.nm=[]
   .cases c2:aA f.az
    .simp -implicitDefEqProofs(maxSteps:=9^9)only[Tryz.f248,↓zA,sevalprocAttr,jg,aO,bl,kq,kx,bm,ji,Int.reduceEq,or_true,true_or,k1,eq_true k2,eq_true c1,c2]
    .cases c3:(decide ((f.sb.length:Int)=1)&&f.sb.all bA)
     .simp -implicitDefEqProofs(maxSteps:=9^9)only[Tryz.f248,↓zA,sevalprocAttr,jg,aO,bl,kq,kx,bm,ji,Int.reduceEq,or_true,true_or,k1,eq_true k2,eq_true c1,c2,sq,c3]
     .by_cases c4:f.ks.length=0
      .simp -implicitDefEqProofs(maxSteps:=9^9)only[Tryz.f248,↓zA,sevalprocAttr,jg,aO,bl,kq,kx,bm,ji,Int.reduceEq,or_true,true_or,k1,eq_true k2,eq_true c1,c2,sq,c3,eq_true c4]
      .simp -implicitDefEqProofs(maxSteps:=9^9)only[Tryz.f248,↓zA,sevalprocAttr,jg,aO,bl,kq,kx,bm,ji,Int.reduceEq,or_true,true_or,k1,eq_true k2,eq_true c1,c2,sq,c3,c4]
   .simp -implicitDefEqProofs(maxSteps:=9^9)only[Tryz.f248,↓zA,sevalprocAttr,jg,aO,bl,kq,kx,bm,ji,Int.reduceEq,or_true,true_or,k1,eq_true k2,c1]
  .by_cases k3:f.kd=3∨f.kd=4∨f.kd=5
   rotate_left
   .simp only[not_or] at k3
    simp -implicitDefEqProofs(maxSteps:=9^9)only[Tryz.f248,↓zA,sevalprocAttr,jg,aO,bl,kq,kx,bm,ji,Int.reduceEq,or_true,true_or,k1,k2,k3,or_self]
   generalize hon:(if f.kd=3 then (0:Int) else 1)=on
   have fin:∀ b:Bool,(decide (f.nm=[])&&decide (f.az=[])&&decide (f.sb.length=0)&&am f.ks 2 2 fw&&am f.on on on aK)=b→(if f.kd=1 then aA f.nm&&ff f.az&&(decide (f.sb.length=0)&&decide (f.ks.length=0)&&decide (f.on.length=0))
     else if f.kd=2 then decide (f.nm=[])&&aA f.az&&am f.sb 1 1 bA&&(decide (f.ks.length=0)&&decide (f.on.length=0))
     else if f.kd=3∨f.kd=4∨f.kd=5 then decide (f.nm=[])&&decide (f.az=[])&&decide (f.sb.length=0)&&am f.ks 2 2 fw&&am f.on on on aK else false)=b:=fun b hb=>by
    rw[if_neg k1,if_neg k2,if_pos k3,hb]
   by_cases c1:f.nm=[]
   rotate_left
   .rw[fin false (by simp[c1])]
    rcases k3 with k3|k3|k3 <;> simp -implicitDefEqProofs(maxSteps:=9^9)only[Tryz.f248,↓zA,sevalprocAttr,jg,aO,bl,kq,kx,bm,ji,Int.reduceEq,or_true,true_or,k3,c1]
   by_cases c2:f.az=[]
   rotate_left
   .rw[fin false (by simp[c2])]
    rcases k3 with k3|k3|k3 <;> simp -implicitDefEqProofs(maxSteps:=9^9)only[Tryz.f248,↓zA,sevalprocAttr,jg,aO,bl,kq,kx,bm,ji,Int.reduceEq,or_true,true_or,k3,eq_true c1,c2]
   by_cases c3:f.sb.length=0
   rotate_left
   .rw[fin false (by simp[c3])]
    rcases k3 with k3|k3|k3 <;> simp -implicitDefEqProofs(maxSteps:=9^9)only[Tryz.f248,↓zA,sevalprocAttr,jg,aO,bl,kq,kx,bm,ji,Int.reduceEq,or_true,true_or,k3,eq_true c1,eq_true c2,c3]
   by_cases c4:f.ks.length=2
   rotate_left
   .rw[fin false (by
     have:am f.ks 2 2 fw=false:=by
      rw[Bool.eq_false_iff]
      intro e
      simp only[am,Bool.and_eq_true,decide_eq_true_eq] at e
      omega
     rw[this];simp)]
    rcases k3 with k3|k3|k3 <;> simp -implicitDefEqProofs(maxSteps:=9^9)only[Tryz.f248,↓zA,sevalprocAttr,jg,aO,bl,kq,kx,bm,ji,Int.reduceEq,or_true,true_or,k3,eq_true c1,eq_true c2,eq_true c3,c4]
   have d0:0<f.ks.length:=by omega
   have d1:1<f.ks.length:=by omega
   have g0:ey f.ks 0=some f.ks[0]:=ap d0
   have g1:ey f.ks 1=some f.ks[1]:=ap d1
   have s0:=fun K=>ae.k (h2 f.ks[0] (List.getElem_mem d0)) K
   have s1:=fun K=>ae.k (h2 f.ks[1] (List.getElem_mem d1)) K
   have sk:am f.ks 2 2 fw=(fw f.ks[0]&&fw f.ks[1]):=by
    have hl:f.ks=[f.ks[0],f.ks[1]]:=by
     apply List.ext_getElem
     .simp[c4]
     .intro i hi1 hi2
      rcases i with _|_|i
      .rfl
      .rfl
      .omega
    have hall:f.ks.all fw=(fw f.ks[0]&&fw f.ks[1]):=by
     conv=>lhs;rw[hl]
     simp
    simp only[am,hall,c4]
    simp
   have c5':am f.on on on aK=false∨am f.on on on aK=true:=by cases am f.on on on aK <;> simp
   rcases c5' with c5|c5
   .rw[fin false (by rw[c5,Bool.and_false])]
    rcases k3 with k3|k3|k3 <;> (simp only[k3,if_true,Int.reduceEq,if_false] at hon;subst hon;simp -implicitDefEqProofs(maxSteps:=9^9)only[Tryz.f248,↓zA,sevalprocAttr,jg,aO,bl,kq,kx,bm,ji,Int.reduceEq,or_true,true_or,k3,eq_true c1,eq_true c2,eq_true c3,eq_true c4,c5])
   rw[fin (fw f.ks[0]&&fw f.ks[1]) (by rw[c5,sk];simp[c1,c2,c3])]
   cases c6:fw f.ks[0]
   .rcases k3 with k3|k3|k3 <;> (simp only[k3,if_true,Int.reduceEq,if_false] at hon;subst hon;simp -implicitDefEqProofs(maxSteps:=9^9)only[Tryz.f248,↓zA,sevalprocAttr,jg,aO,bl,kq,kx,bm,ji,Int.reduceEq,or_true,true_or,k3,eq_true c1,eq_true c2,eq_true c3,eq_true c4,c5,g0,g1,s0,s1,c6])
   .rcases k3 with k3|k3|k3 <;> (simp only[k3,if_true,Int.reduceEq,if_false] at hon;subst hon;simp -implicitDefEqProofs(maxSteps:=9^9)only[Tryz.f248,↓zA,sevalprocAttr,jg,aO,bl,kq,kx,bm,ji,Int.reduceEq,or_true,true_or,k3,eq_true c1,eq_true c2,eq_true c3,eq_true c4,c5,g0,g1,s0,s1,c6])
def aUS (l:List Im):Prop:=∀ x∈l,G1 247 [.of (.agg (imC x))] (ah (je x))
def aiy:=ai (ai (ai @zq (ai @a1J @bK)) (ai @dY (ai @jh @gV))) (ai (ai @dR (ai @kQ @hU)) (ai (ai @Q4 @zT0) (ai @auM (aw aIY))))
theorem ayO (q:Qy):G1 246 [.of (.agg (qyC q))] (ah (!q.di&&decide (q.its.length=0)&&decide (q.fr.length=0)&&decide (q.wh.length=0)&&decide (q.gr.length=0)&&decide (q.hv.length=0))):=by
 refine aj rfl aIY auM rfl ?_
 cases c0:q.di
 rotate_left
 .simp -implicitDefEqProofs(maxSteps:=9^9)only[Tryz.f246,↓zA,sevalprocAttr,aiy,c0]
 by_cases c1:q.its.length=0
 rotate_left
 .simp -implicitDefEqProofs(maxSteps:=9^9)only[Tryz.f246,↓zA,sevalprocAttr,aiy,bm,c0,c1]
 by_cases c2:q.fr.length=0
 rotate_left
 .simp -implicitDefEqProofs(maxSteps:=9^9)only[Tryz.f246,↓zA,sevalprocAttr,aiy,bm,c0,eq_true c1,c2]
 by_cases c3:q.wh.length=0
 rotate_left
 .simp -implicitDefEqProofs(maxSteps:=9^9)only[Tryz.f246,↓zA,sevalprocAttr,aiy,bm,c0,eq_true c1,eq_true c2,c3]
 by_cases c4:q.gr.length=0
 .simp -implicitDefEqProofs(maxSteps:=9^9)only[Tryz.f246,↓zA,sevalprocAttr,aiy,bm,c0,eq_true c1,eq_true c2,eq_true c3,eq_true c4]
 .simp -implicitDefEqProofs(maxSteps:=9^9)only[Tryz.f246,↓zA,sevalprocAttr,aiy,bm,c0,eq_true c1,eq_true c2,eq_true c3,c4]
theorem aLO (q:Qy) (K:An→Prop):aG Tryz.prog pr 246 [.of (.agg (qyC q))] [] K↔K ⟨false,[ah (!q.di&&decide (q.its.length=0)&&decide (q.fr.length=0)&&decide (q.wh.length=0)&&decide (q.gr.length=0)&&decide (q.hv.length=0))],[]⟩:=ae.k (ayO q) K
theorem jj (n:Nat):((64:Int)<(n:Int))=(64<n):=propext (by omega)
theorem aaA (n:Nat):((1:Int)<(n:Int))=(1<n):=propext (by omega)
theorem aQZ (n:Nat):((8:Int)<(n:Int))=(8<n):=propext (by omega)
abbrev qyL (q:Qy):List C:=[ci q.op,cb q.al,slC qyC q.ks,cb q.di,slC imC q.its,slC fmC q.fr,slC xpC q.wh,slC xpC q.gr,slC xpC q.hv,slC odC q.od,ci q.li,ci q.sk]
def eZ:=ai (ai (ai (ai @zq (ai @a1I @aPF)) (ai (ai @aNg @aPE) (ai @aNf @alc))) (ai (ai (ai @ajf @aPD) (ai @aNe @aBT)) (ai (ai @axj @aBS) (ai @axi @aft)))) (ai (ai (ai @adS (ai @dY @jh)) (ai (ai @gV @abx) (ai @bK @ec))) (ai (ai (ai @kQ @hU) (ai @P3 @Q3)) (ai (ai @Q4 @zT0) (ai @avf (aw aJr)))))
theorem aqE (q:Qy) (hw:qyW q≤WL) (h1:ant q.ks) (h2:aUS q.its) (h3:aHI q.fr) (h3':aHM q.fr) (h4:aim q.wh) (h5:aim q.gr) (h6:aim q.hv):G1 214 [.of (.agg (qyC q))] (ah (bA q)):=by
 have hw2:=hw
 rw[gI] at hw2
 simp only[WL] at hw2
 have n0:=bh odW q.od fun x _=>by simp[odW]
 have n2:=bh imW q.its fun x _=>abE x
 have n3:=bh fmW q.fr fun x _=>iX x
 have kO:=fun K=>ae.k (atk q.od (by omega)) K
 have kp:=aLO q
 have kq:=fun n K=>ae.k (cP q.ks n (by simp only[WL];omega) h1) K
 have kw:=fun a b K=>ae.k (cN q.wh a b (by simp only[WL];omega) h4) K
 have kg:=fun a b K=>ae.k (cN q.gr a b (by simp only[WL];omega) h5) K
 have kh:=fun a b K=>ae.k (cN q.hv a b (by simp only[WL];omega) h6) K
 have eo:am q.od 0 64 fA=(q.od.all fA&&decide (q.od.length≤64)):=by
  simp only[am]
  rw[Bool.eq_iff_iff];simp only[Bool.and_eq_true,decide_eq_true_eq]
  constructor
  .rintro⟨⟨_,h⟩,g⟩;exact⟨g,by omega⟩
  .rintro⟨g,h⟩;exact⟨⟨by omega,by omega⟩,g⟩
 have e5:decide (q.its.length+q.fr.length+q.wh.length+q.gr.length+q.hv.length=0)=(decide (q.its.length=0)&&decide (q.fr.length=0)&&decide (q.wh.length=0)&&decide (q.gr.length=0)&&decide (q.hv.length=0)):=by
  rw[Bool.eq_iff_iff];simp only[Bool.and_eq_true,decide_eq_true_eq];omega
 rw[aux,eo]
 simp only[jD]
 refine aj rfl aJr avf rfl ?_
 by_cases a1:-1≤q.li
 rotate_left
 .simp -implicitDefEqProofs(maxSteps:=9^9)only[Tryz.f214,↓zA,sevalprocAttr,eZ,kO,kp,kq,kw,kg,kh,bm,jT,jj,aaA,or_self,a1,show q.li < -1 from by omega]
 have a1':¬q.li < -1:=by omega
 by_cases a2:q.li≤1000000000000000
 rotate_left
 .simp -implicitDefEqProofs(maxSteps:=9^9)only[Tryz.f214,↓zA,sevalprocAttr,eZ,kO,kp,kq,kw,kg,kh,bm,jT,jj,aaA,or_self,a1',a2,show 1000000000000000<q.li from by omega]
 have a2':¬1000000000000000<q.li:=by omega
 by_cases a3:0≤q.sk
 rotate_left
 .simp -implicitDefEqProofs(maxSteps:=9^9)only[Tryz.f214,↓zA,sevalprocAttr,eZ,kO,kp,kq,kw,kg,kh,bm,jT,jj,aaA,or_self,a1',a2',a3,show q.sk<0 from by omega]
 have a3':¬q.sk<0:=by omega
 by_cases a4:q.sk≤1000000000000000
 rotate_left
 .simp -implicitDefEqProofs(maxSteps:=9^9)only[Tryz.f214,↓zA,sevalprocAttr,eZ,kO,kp,kq,kw,kg,kh,bm,jT,jj,aaA,or_self,a1',a2',a3',a4,show 1000000000000000<q.sk from by omega]
 have a4':¬1000000000000000<q.sk:=by omega
 have a5':(q.od.all fA&&decide (q.od.length≤64))=false∨(q.od.all fA&&decide (q.od.length≤64))=true:=by cases (q.od.all fA&&decide (q.od.length≤64)) <;> simp
 rcases a5' with a5|a5
 .simp -implicitDefEqProofs(maxSteps:=9^9)only[Tryz.f214,↓zA,sevalprocAttr,eZ,kO,kp,kq,kw,kg,kh,bm,jT,jj,aaA,or_self,a1',a2',a3',a4',a5]
 by_cases o2:q.op=2∨q.op=3∨q.op=4
 .have e6:(am q.ks 2 2 bA&&!q.di&&decide (q.its.length+q.fr.length+q.wh.length+q.gr.length+q.hv.length=0))=((!q.di&&decide (q.its.length=0)&&decide (q.fr.length=0)&&decide (q.wh.length=0)&&decide (q.gr.length=0)&&decide (q.hv.length=0))&&(decide ((q.ks.length:Int)=2)&&q.ks.all bA)):=by
   rw[e5]
   have:am q.ks 2 2 bA=(decide ((q.ks.length:Int)=2)&&q.ks.all bA):=by
    simp only[am];congr 1
    rw[Bool.eq_iff_iff];simp only[Bool.and_eq_true,decide_eq_true_eq];omega
   rw[this]
   generalize (decide ((q.ks.length:Int)=2)&&q.ks.all bA)=z
   cases z <;> cases q.di <;> simp[Bool.and_assoc]
  have ne1:¬q.op=1:=by omega
  rw[if_neg ne1,if_pos o2,e6]
  cases b1:(!q.di&&decide (q.its.length=0)&&decide (q.fr.length=0)&&decide (q.wh.length=0)&&decide (q.gr.length=0)&&decide (q.hv.length=0))
  .rcases o2 with o2|o2|o2
   .simp -implicitDefEqProofs(maxSteps:=9^9)only[Tryz.f214,↓zA,sevalprocAttr,eZ,kO,kp,kq,kw,kg,kh,bm,jT,jj,aaA,or_self,a1,a2,a3,a4,a1',a2',a3',a4',a5,b1,eq_true o2]
   .simp -implicitDefEqProofs(maxSteps:=9^9)only[Tryz.f214,↓zA,sevalprocAttr,eZ,kO,kp,kq,kw,kg,kh,bm,jT,jj,aaA,or_self,a1,a2,a3,a4,a1',a2',a3',a4',a5,b1,show ¬q.op=2 from by omega,eq_true o2]
   .simp -implicitDefEqProofs(maxSteps:=9^9)only[Tryz.f214,↓zA,sevalprocAttr,eZ,kO,kp,kq,kw,kg,kh,bm,jT,jj,aaA,or_self,a1,a2,a3,a4,a1',a2',a3',a4',a5,b1,show ¬q.op=2 from by omega,show ¬q.op=3 from by omega,eq_true o2]
  .rcases o2 with o2|o2|o2
   .simp -implicitDefEqProofs(maxSteps:=9^9)only[Tryz.f214,↓zA,sevalprocAttr,eZ,kO,kp,kq,kw,kg,kh,bm,jT,jj,aaA,or_self,a1,a2,a3,a4,a1',a2',a3',a4',a5,b1,eq_true o2]
   .simp -implicitDefEqProofs(maxSteps:=9^9)only[Tryz.f214,↓zA,sevalprocAttr,eZ,kO,kp,kq,kw,kg,kh,bm,jT,jj,aaA,or_self,a1,a2,a3,a4,a1',a2',a3',a4',a5,b1,show ¬q.op=2 from by omega,eq_true o2]
   .simp -implicitDefEqProofs(maxSteps:=9^9)only[Tryz.f214,↓zA,sevalprocAttr,eZ,kO,kp,kq,kw,kg,kh,bm,jT,jj,aaA,or_self,a1,a2,a3,a4,a1',a2',a3',a4',a5,b1,show ¬q.op=2 from by omega,show ¬q.op=3 from by omega,eq_true o2]
 simp only[not_or] at o2
 have s2:¬(q.op=2∨q.op=3∨q.op=4):=by simp[o2]
 by_cases o1:q.op=1
 rotate_left
 .rw[if_neg o1,if_neg s2]
  simp -implicitDefEqProofs(maxSteps:=9^9)only[Tryz.f214,↓zA,sevalprocAttr,eZ,kO,kp,kq,kw,kg,kh,bm,jT,jj,aaA,or_self,a1,a2,a3,a4,a1',a2',a3',a4',a5,o1,o2]
 rw[if_pos o1]
 cases b1:q.al
 rotate_left
 .simp -implicitDefEqProofs(maxSteps:=9^9)only[Tryz.f214,↓zA,sevalprocAttr,eZ,kO,kp,kq,kw,kg,kh,bm,jT,jj,aaA,or_self,a1,a2,a3,a4,a1',a2',a3',a4',a5,eq_true o1,o2,b1]
 by_cases b2:q.ks.length=0
 rotate_left
 .simp -implicitDefEqProofs(maxSteps:=9^9)only[Tryz.f214,↓zA,sevalprocAttr,eZ,kO,kp,kq,kw,kg,kh,bm,jT,jj,aaA,or_self,a1,a2,a3,a4,a1',a2',a3',a4',a5,eq_true o1,o2,b1,b2]
 by_cases b3:q.its.length=0
 .have z:am q.its 1 64 je=false:=by
   rw[Bool.eq_false_iff];intro e;simp only[am,Bool.and_eq_true,decide_eq_true_eq] at e;omega
  simp -implicitDefEqProofs(maxSteps:=9^9)only[Tryz.f214,↓zA,sevalprocAttr,eZ,kO,kp,kq,kw,kg,kh,bm,jT,jj,aaA,or_self,a1,a2,a3,a4,a1',a2',a3',a4',a5,eq_true o1,o2,b1,eq_true b2,eq_true b3,z]
 by_cases b4:64<q.its.length
 .have z:am q.its 1 64 je=false:=by
   rw[Bool.eq_false_iff];intro e;simp only[am,Bool.and_eq_true,decide_eq_true_eq] at e;omega
  simp -implicitDefEqProofs(maxSteps:=9^9)only[Tryz.f214,↓zA,sevalprocAttr,eZ,kO,kp,kq,kw,kg,kh,bm,jT,jj,aaA,or_self,a1,a2,a3,a4,a1',a2',a3',a4',a5,eq_true o1,o2,b1,eq_true b2,b3,b4,z]
 by_cases b5:1<q.fr.length
 .have z:am q.fr 0 1 gv=false:=by
   rw[Bool.eq_false_iff];intro e;simp only[am,Bool.and_eq_true,decide_eq_true_eq] at e;omega
  simp -implicitDefEqProofs(maxSteps:=9^9)only[Tryz.f214,↓zA,sevalprocAttr,eZ,kO,kp,kq,kw,kg,kh,bm,jT,jj,aaA,or_self,a1,a2,a3,a4,a1',a2',a3',a4',a5,eq_true o1,o2,b1,eq_true b2,b3,b4,b5,z]
 have z1:am q.its 1 64 je=q.its.all je:=by
  simp only[am];rw[decide_eq_true (show (1:Int)≤q.its.length from by omega),decide_eq_true (show (q.its.length:Int)≤64 from by omega)];rfl
 have z2:am q.fr 0 1 gv=q.fr.all gv:=by
  simp only[am];rw[decide_eq_true (show (0:Int)≤q.fr.length from by omega),decide_eq_true (show (q.fr.length:Int)≤1 from by omega)];rfl
 simp only[a1,a2,a3,a4,a5,b2,z1,z2,decide_true,Bool.true_and,Bool.not_false]
 simp -implicitDefEqProofs(maxSteps:=9^9)only[Tryz.f214,↓zA,sevalprocAttr,eZ,kO,kp,kq,kw,kg,kh,bm,jT,jj,aaA,or_self,a1',a2',a3',a4',a5,eq_true o1,o2,b1,eq_true b2,b3,b4,b5]
 refine aL q.its.length (fun k t=>t.fr 1=.of (.ref (qyL q))∧t.fr 3=ak k∧t.objs=[]∧q.its.all je=(q.its.drop k).all je) ?_ ?_
 .simp -implicitDefEqProofs(maxSteps:=9^9)only[Tryz.f214,↓zA,sevalprocAttr,eZ]
  simp only[qyL,b1]
 rintro k t hk ⟨f1,f3,ho,E⟩
 rcases Nat.lt_or_ge k q.its.length with d1|d1
 .have hwk:=aQ k (by omega)
  have kx:=fun K=>ae.k (h2 q.its[k] (List.getElem_mem d1)) K
  rw[aJ d1,hM] at E
  cases d2:je q.its[k]
  .rw[d2,Bool.false_and] at E
   simp -implicitDefEqProofs(maxSteps:=9^9)only[Tryz.f214,↓zA,sevalprocAttr,eZ,f1,f3,ho,aa,d1,ap d1,hwk,kx,d2,E]
  .rw[d2,Bool.true_and] at E
   simp -implicitDefEqProofs(maxSteps:=9^9)only[Tryz.f214,↓zA,sevalprocAttr,eZ,f1,f3,ho,aa,d1,ap d1,hwk,kx,d2,E]
 have e:k=q.its.length:=by omega
 subst e
 rw[List.drop_length,List.all_nil] at E
 simp -implicitDefEqProofs(maxSteps:=9^9)only[Tryz.f214,↓zA,sevalprocAttr,eZ,f1,f3,ho,aa,Nat.lt_irrefl,E]
 refine aL q.fr.length (fun k t=>t.fr 1=.of (.ref (qyL q))∧t.fr 4=ak k∧t.objs=[]∧q.fr.all gv=(q.fr.drop k).all gv) ?_ ?_
 .simp -implicitDefEqProofs(maxSteps:=9^9)only[Tryz.f214,↓zA,sevalprocAttr,eZ,f1,f3,ho]
  try exact rfl
 rintro j u hj ⟨g1,g4,go,F⟩
 rcases Nat.lt_or_ge j q.fr.length with e1|e1
 .have hwj:=aQ j (by omega)
  have hm:q.fr[j]∈q.fr:=List.getElem_mem e1
  have kx:=fun K=>ae.k (h3 q.fr[j] hm) K
  have kl:=fun K=>ae.k (h3' q.fr[j] hm) K
  have same:=atv (fmW q.fr[j]) q.fr[j] (Nat.le_refl _)
  rw[aJ e1,hM] at F
  cases d2:fw q.fr[j]
  .have F2:q.fr.all gv=false:=by rw[F];simp[gv,d2]
   simp -implicitDefEqProofs(maxSteps:=9^9)only[Tryz.f214,↓zA,sevalprocAttr,eZ,g1,g4,go,aa,e1,ap e1,hwj,kx,d2,F2]
  .have hs:=same d2
   by_cases d3:8<dy q.fr[j]
   .have F2:q.fr.all gv=false:=by
     rw[F];simp only[gv,d2,Bool.true_and,decide_eq_false (show ¬dz q.fr[j]≤8 from by omega),Bool.false_and]
    simp -implicitDefEqProofs(maxSteps:=9^9)only[Tryz.f214,↓zA,sevalprocAttr,eZ,g1,g4,go,aa,e1,ap e1,hwj,kx,kl,d2,aQZ,d3,F2]
   .have F2:q.fr.all gv=(q.fr.drop (j+1)).all gv:=by
     rw[F];simp only[gv,d2,Bool.true_and,decide_eq_true (show dz q.fr[j]≤8 from by omega)]
    simp -implicitDefEqProofs(maxSteps:=9^9)only[Tryz.f214,↓zA,sevalprocAttr,eZ,g1,g4,go,aa,e1,ap e1,hwj,kx,kl,d2,aQZ,d3,F2]
 have e:j=q.fr.length:=by omega
 subst e
 rw[List.drop_length,List.all_nil] at F
 cases c1:am q.wh 0 1 aK
 .simp -implicitDefEqProofs(maxSteps:=9^9)only[Tryz.f214,↓zA,sevalprocAttr,eZ,g1,g4,go,aa,Nat.lt_irrefl,F,kw,kg,kh,c1]
 cases c2:am q.gr 0 64 aK
 .simp -implicitDefEqProofs(maxSteps:=9^9)only[Tryz.f214,↓zA,sevalprocAttr,eZ,g1,g4,go,aa,Nat.lt_irrefl,F,kw,kg,kh,c1,c2]
 simp -implicitDefEqProofs(maxSteps:=9^9)only[Tryz.f214,↓zA,sevalprocAttr,eZ,g1,g4,go,aa,Nat.lt_irrefl,F,kw,kg,kh,c1,c2]
theorem cC (a b:Bool):(a != b)=!decide (a=b):=by cases a <;> cases b <;> rfl
def anr (l:List Xp):Prop:=G1 114 [.of (slC xpC l),.of (slC xpC l)] (ah true)
def aAG (l:List Qy):Prop:=G1 115 [.of (slC qyC l),.of (slC qyC l)] (ah true)
def aUI (l:List Im):Prop:=G1 215 [.of (slC imC l),.of (slC imC l)] (ah true)
def aHH (l:List Fm):Prop:=G1 216 [.of (slC fmC l),.of (slC fmC l)] (ah true)
def aeB:=ai (ai (ai @zq @apD) (ai @al2 @bK)) (ai (ai @dR @zT0) (ai @amW (aw azQ)))
theorem aoK (l:List Xp) (hl:l.length≤4611686018427387903):G1 114 [.of (slC xpC l),.of (slC xpC ([]:List Xp))] (ah (decide (l.length=0))):=by
 refine aj rfl azQ amW rfl ?_
 simp -implicitDefEqProofs(maxSteps:=9^9)only[Tryz.f114,↓zA,sevalprocAttr,aeB]
 refine aL 0 (fun k s=>s.fr 0=.of (slC xpC l)∧s.fr 1=.of (slC xpC ([]:List Xp))∧s.fr 5=ak 0∧s.objs=[]) ?_ ?_
 .simp -implicitDefEqProofs(maxSteps:=9^9)only[Tryz.f114,↓zA,sevalprocAttr,aeB]
  try exact rfl
 .rintro k ⟨fr,ob,ck⟩ hk ⟨f0,f1,f5,ho⟩
  dsimp only at f0 f1 f5 ho
  have e0:∀ n:Nat,((n:Int)=0)=(n=0):=fun n=>propext (by omega)
  have e1:∀ n:Nat,((0:Int)<(n:Int))=(0<n):=fun n=>propext (by omega)
  by_cases d:0<l.length
  .have d':¬l.length=0:=by omega
   simp -implicitDefEqProofs(maxSteps:=9^9)only[Tryz.f114,↓zA,sevalprocAttr,aeB,f0,f1,f5,ho,e0,e1,d,d']
  .have d':l.length=0:=by omega
   simp -implicitDefEqProofs(maxSteps:=9^9)only[Tryz.f114,↓zA,sevalprocAttr,aeB,f0,f1,f5,ho,e0,e1,d']
def aeA:=ai (ai (ai @zq @aQi) (ai @aNV @dY)) (ai (ai @ec @zT0) (ai @amV (aw azP)))
theorem akU (l:List Qy) (hl:l.length≤4611686018427387903):G1 115 [.of (slC qyC l),.of (slC qyC ([]:List Qy))] (ah (decide (l.length=0))):=by
 refine aj rfl azP amV rfl ?_
 simp -implicitDefEqProofs(maxSteps:=9^9)only[Tryz.f115,↓zA,sevalprocAttr,aeA]
 refine aL 0 (fun k s=>s.fr 0=.of (slC qyC l)∧s.fr 1=.of (slC qyC ([]:List Qy))∧s.fr 5=ak 0∧s.objs=[]) ?_ ?_
 .simp -implicitDefEqProofs(maxSteps:=9^9)only[Tryz.f115,↓zA,sevalprocAttr,aeA]
  try exact rfl
 .rintro k ⟨fr,ob,ck⟩ hk ⟨f0,f1,f5,ho⟩
  dsimp only at f0 f1 f5 ho
  have e0:∀ n:Nat,((n:Int)=0)=(n=0):=fun n=>propext (by omega)
  have e1:∀ n:Nat,((0:Int)<(n:Int))=(0<n):=fun n=>propext (by omega)
  by_cases d:0<l.length
  .have d':¬l.length=0:=by omega
   simp -implicitDefEqProofs(maxSteps:=9^9)only[Tryz.f115,↓zA,sevalprocAttr,aeA,f0,f1,f5,ho,e0,e1,d,d']
  .have d':l.length=0:=by omega
   simp -implicitDefEqProofs(maxSteps:=9^9)only[Tryz.f115,↓zA,sevalprocAttr,aeA,f0,f1,f5,ho,e0,e1,d']
def afM:=ai (ai (ai (ai @zq @a0T) (ai @a0S @aq6)) (ai (ai @ang @aq5) (ai @anf @adY))) (ai (ai (ai @bK @dY) (ai @P3 @Q3)) (ai (ai @Q9 @Q4) (ai @zT0 (ai @ars (aw aG0)))))
theorem ak0 (a:Xp) (hw:xpW a≤WL):G1 71 [.of (.agg (xpC a)),.of (.agg (xpC ip))] (ah (decide (a=ip))):=by
 have h':=jB a
 simp only[WL] at hw
 have n1:=bh xpW a.ks fun x _=>gW x
 have n2:=bh qyW a.sb fun x _=>aaE x
 have k0:=fun K=>ae.k (aoK a.ks (by omega)) K
 have k1:=fun K=>ae.k (akU a.sb (by omega)) K
 have z:ip.op=0∧ip.v=ij∧ip.tb=[]∧ip.nm=[]∧ip.di=false∧ip.ks=[]∧ip.sb=[]:=⟨rfl,rfl,rfl,rfl,rfl,rfl,rfl⟩
 obtain⟨z0,z1,z2,z3,z4,z5,z6⟩:=z
 have hz:decide (a=ip)=jY a:=by rw[Bool.eq_iff_iff,ag2,decide_eq_true_eq]
 rw[hz]
 have ez:=aaG ip
 rw[z0,z1,z2,z3,z4,z5,z6] at ez
 have zv:ij=(⟨0,0,{data:=#[]}⟩ : V):=rfl
 have ev0:ij.k=0∧ij.n=0∧ij.s={data:=#[]}:=⟨rfl,rfl,rfl⟩
 rw[ev0.1,ev0.2.1,ev0.2.2] at ez
 rw[ez]
 refine aj rfl aG0 ars rfl ?_
 by_cases c0:a.op=0
 rotate_left
 .simp -implicitDefEqProofs(maxSteps:=9^9)only[Tryz.f71,↓zA,sevalprocAttr,afM,c0,k0,k1,aX,zv,av,bI,aR,cC,List.append_eq,List.append_toArray,List.cons_append,List.nil_append,jY,decide_false,Bool.false_and,Bool.and_false]
 by_cases c1:a.v=(⟨0,0,{data:=#[]}⟩ : V)
 rotate_left
 .simp -implicitDefEqProofs(maxSteps:=9^9)only[Tryz.f71,↓zA,sevalprocAttr,afM,eq_true c0,c1,k0,k1,aX,zv,av,bI,aR,cC,List.append_eq,List.append_toArray,List.cons_append,List.nil_append,jY,decide_false,Bool.false_and,Bool.and_false]
 by_cases c2:a.tb=[]
 rotate_left
 .simp -implicitDefEqProofs(maxSteps:=9^9)only[Tryz.f71,↓zA,sevalprocAttr,afM,eq_true c0,eq_true c1,c2,k0,k1,aX,zv,av,bI,aR,cC,List.append_eq,List.append_toArray,List.cons_append,List.nil_append,jY,decide_false,Bool.false_and,Bool.and_false]
 by_cases c3:a.nm=[]
 rotate_left
 .simp -implicitDefEqProofs(maxSteps:=9^9)only[Tryz.f71,↓zA,sevalprocAttr,afM,eq_true c0,eq_true c1,eq_true c2,c3,k0,k1,aX,zv,av,bI,aR,cC,List.append_eq,List.append_toArray,List.cons_append,List.nil_append,jY,decide_false,Bool.false_and,Bool.and_false]
 by_cases c4:a.di=false
 rotate_left
 .simp -implicitDefEqProofs(maxSteps:=9^9)only[Tryz.f71,↓zA,sevalprocAttr,afM,eq_true c0,eq_true c1,eq_true c2,eq_true c3,c4,k0,k1,aX,zv,av,bI,aR,cC,List.append_eq,List.append_toArray,List.cons_append,List.nil_append,jY,decide_false,Bool.false_and,Bool.and_false]
 by_cases c5:a.ks.length=0
 rotate_left
 .simp -implicitDefEqProofs(maxSteps:=9^9)only[Tryz.f71,↓zA,sevalprocAttr,afM,eq_true c0,eq_true c1,eq_true c2,eq_true c3,c4,c5,k0,k1,aX,zv,av,bI,aR,cC,List.append_eq,List.append_toArray,List.cons_append,List.nil_append,jY,decide_false,Bool.false_and,Bool.and_false]
 by_cases c6:a.sb.length=0
 rotate_left
 .simp -implicitDefEqProofs(maxSteps:=9^9)only[Tryz.f71,↓zA,sevalprocAttr,afM,eq_true c0,eq_true c1,eq_true c2,eq_true c3,c4,eq_true c5,c6,k0,k1,aX,zv,av,bI,aR,cC,List.append_eq,List.append_toArray,List.cons_append,List.nil_append,jY,decide_false,Bool.false_and,Bool.and_false]
 simp -implicitDefEqProofs(maxSteps:=9^9)only[Tryz.f71,↓zA,sevalprocAttr,afM,eq_true c0,eq_true c1,eq_true c2,eq_true c3,c4,eq_true c5,eq_true c6,k0,k1,aX,zv,av,bI,aR,cC,List.append_eq,List.append_toArray,List.cons_append,List.nil_append,jY,decide_false,Bool.false_and,Bool.and_false]
theorem ak1 (a:Xp) (i0:anr a.ks) (i1:aAG a.sb):G1 71 [.of (.agg (xpC a)),.of (.agg (xpC a))] (ah true):=by
 have k0:=fun K=>ae.k i0 K
 have k1:=fun K=>ae.k i1 K
 refine aj rfl aG0 ars rfl ?_
 simp -implicitDefEqProofs(maxSteps:=9^9)only[Tryz.f71,↓zA,sevalprocAttr,afM,k0,k1,av,aR,cC,aX,kP,List.append_eq,List.append_toArray,List.cons_append,List.nil_append,decide_true,Bool.not_true]
theorem amE (l:List Xp) (hl:l.length≤4611686018427387903) (h:∀ x∈l,G1 71 [.of (.agg (xpC x)),.of (.agg (xpC x))] (ah true)):G1 114 [.of (slC xpC l),.of (slC xpC l)] (ah true):=by
 refine aj rfl azQ amW rfl ?_
 simp -implicitDefEqProofs(maxSteps:=9^9)only[Tryz.f114,↓zA,sevalprocAttr,aeB]
 refine aL l.length (fun k s=>s.fr 0=.of (slC xpC l)∧s.fr 1=.of (slC xpC l)∧s.fr 5=ak k∧s.objs=[]) ?_ ?_
 .simp -implicitDefEqProofs(maxSteps:=9^9)only[Tryz.f114,↓zA,sevalprocAttr,aeB]
  try exact rfl
 .rintro k ⟨fr,ob,ck⟩ hk ⟨f0,f1,f5,ho⟩
  dsimp only at f0 f1 f5 ho
  by_cases d:k<l.length
  .have hw:=aQ k (by omega)
   have gx:=ap d
   have kx:=fun K=>ae.k (h l[k] (List.getElem_mem d)) K
   generalize l[k]=x at *
   simp -implicitDefEqProofs(maxSteps:=9^9)only[Tryz.f114,↓zA,sevalprocAttr,aeB,f0,f1,f5,ho,aa,d,gx,hw,kx,av,aR,cC,aX,kP,List.append_eq,List.append_toArray,List.cons_append,List.nil_append,decide_true,Bool.not_true]
  .simp -implicitDefEqProofs(maxSteps:=9^9)only[Tryz.f114,↓zA,sevalprocAttr,aeB,f0,f1,f5,ho,aa,d,decide_true]
theorem ajW (l:List Qy) (hl:l.length≤4611686018427387903) (h:∀ x∈l,G1 165 [.of (.agg (qyC x)),.of (.agg (qyC x))] (ah true)):G1 115 [.of (slC qyC l),.of (slC qyC l)] (ah true):=by
 refine aj rfl azP amV rfl ?_
 simp -implicitDefEqProofs(maxSteps:=9^9)only[Tryz.f115,↓zA,sevalprocAttr,aeA]
 refine aL l.length (fun k s=>s.fr 0=.of (slC qyC l)∧s.fr 1=.of (slC qyC l)∧s.fr 5=ak k∧s.objs=[]) ?_ ?_
 .simp -implicitDefEqProofs(maxSteps:=9^9)only[Tryz.f115,↓zA,sevalprocAttr,aeA]
  try exact rfl
 .rintro k ⟨fr,ob,ck⟩ hk ⟨f0,f1,f5,ho⟩
  dsimp only at f0 f1 f5 ho
  by_cases d:k<l.length
  .have hw:=aQ k (by omega)
   have gx:=ap d
   have kx:=fun K=>ae.k (h l[k] (List.getElem_mem d)) K
   generalize l[k]=x at *
   simp -implicitDefEqProofs(maxSteps:=9^9)only[Tryz.f115,↓zA,sevalprocAttr,aeA,f0,f1,f5,ho,aa,d,gx,hw,kx,av,aR,cC,aX,kP,List.append_eq,List.append_toArray,List.cons_append,List.nil_append,decide_true,Bool.not_true]
  .simp -implicitDefEqProofs(maxSteps:=9^9)only[Tryz.f115,↓zA,sevalprocAttr,aeA,f0,f1,f5,ho,aa,d,decide_true]
def apg:=ai (ai @zq (ai @abx @ac5)) (ai @zT0 (ai @avc (aw aJo)))
theorem akV (l:List Od) (hl:l.length≤4611686018427387903)  : G1 217 [.of (slC odC l),.of (slC odC l)] (ah true):=by
 refine aj rfl aJo avc rfl ?_
 simp -implicitDefEqProofs(maxSteps:=9^9)only[Tryz.f217,↓zA,sevalprocAttr,apg]
 refine aL l.length (fun k s=>s.fr 0=.of (slC odC l)∧s.fr 1=.of (slC odC l)∧s.fr 5=ak k∧s.objs=[]) ?_ ?_
 .simp -implicitDefEqProofs(maxSteps:=9^9)only[Tryz.f217,↓zA,sevalprocAttr,apg]
  try exact rfl
 .rintro k ⟨fr,ob,ck⟩ hk ⟨f0,f1,f5,ho⟩
  dsimp only at f0 f1 f5 ho
  by_cases d:k<l.length
  .have hw:=aQ k (by omega)
   have gx:=ap d
   generalize l[k]=x at *
   simp -implicitDefEqProofs(maxSteps:=9^9)only[Tryz.f217,↓zA,sevalprocAttr,apg,f0,f1,f5,ho,aa,d,gx,hw,av,aR,cC,aX,kP,List.append_eq,List.append_toArray,List.cons_append,List.nil_append,decide_true,Bool.not_true]
  .simp -implicitDefEqProofs(maxSteps:=9^9)only[Tryz.f217,↓zA,sevalprocAttr,apg,f0,f1,f5,ho,aa,d,decide_true]
def api:=ai (ai (ai @zq @apD) (ai @al2 (ai @bK @jh))) (ai (ai @kQ (ai @Q4 @Q9)) (ai @zT0 (ai @ave (aw aJq))))
theorem amC (l:List Im) (hl:l.length≤4611686018427387903) (h:∀ x∈l,G1 71 [.of (.agg (xpC x.e)),.of (.agg (xpC x.e))] (ah true)):G1 215 [.of (slC imC l),.of (slC imC l)] (ah true):=by
 refine aj rfl aJq ave rfl ?_
 simp -implicitDefEqProofs(maxSteps:=9^9)only[Tryz.f215,↓zA,sevalprocAttr,api]
 refine aL l.length (fun k s=>s.fr 0=.of (slC imC l)∧s.fr 1=.of (slC imC l)∧s.fr 5=ak k∧s.objs=[]) ?_ ?_
 .simp -implicitDefEqProofs(maxSteps:=9^9)only[Tryz.f215,↓zA,sevalprocAttr,api]
  try exact rfl
 .rintro k ⟨fr,ob,ck⟩ hk ⟨f0,f1,f5,ho⟩
  dsimp only at f0 f1 f5 ho
  by_cases d:k<l.length
  .have hw:=aQ k (by omega)
   have gx:=ap d
   have kx:=fun K=>ae.k (h l[k] (List.getElem_mem d)) K
   generalize l[k]=x at *
   simp -implicitDefEqProofs(maxSteps:=9^9)only[Tryz.f215,↓zA,sevalprocAttr,api,f0,f1,f5,ho,aa,d,gx,hw,kx,av,aR,cC,aX,kP,List.append_eq,List.append_toArray,List.cons_append,List.nil_append,decide_true,Bool.not_true]
  .simp -implicitDefEqProofs(maxSteps:=9^9)only[Tryz.f215,↓zA,sevalprocAttr,api,f0,f1,f5,ho,aa,d,decide_true]
def aph:=ai (ai (ai (ai @zq @a0Q) (ai @a0P @aq5)) (ai (ai @anf @aB1) (ai @axr (ai @aq6 @ang)))) (ai (ai (ai @gV @dY) (ai @bK (ai @hU @P3))) (ai (ai @Q3 @Q9) (ai @zT0 (ai @avd (aw aJp)))))
theorem amD (l:List Fm) (hl:l.length≤4611686018427387903) (h1:∀ x∈l,aAG x.sb) (h2:∀ x∈l,aHH x.ks) (h3:∀ x∈l,anr x.on):G1 216 [.of (slC fmC l),.of (slC fmC l)] (ah true):=by
 refine aj rfl aJp avd rfl ?_
 simp -implicitDefEqProofs(maxSteps:=9^9)only[Tryz.f216,↓zA,sevalprocAttr,aph]
 refine aL l.length (fun k s=>s.fr 0=.of (slC fmC l)∧s.fr 1=.of (slC fmC l)∧s.fr 5=ak k∧s.objs=[]) ?_ ?_
 .simp -implicitDefEqProofs(maxSteps:=9^9)only[Tryz.f216,↓zA,sevalprocAttr,aph]
  try exact rfl
 .rintro k ⟨fr,ob,ck⟩ hk ⟨f0,f1,f5,ho⟩
  dsimp only at f0 f1 f5 ho
  by_cases d:k<l.length
  .have hw:=aQ k (by omega)
   have gx:=ap d
   have k1:=fun K=>ae.k (h1 l[k] (List.getElem_mem d)) K
   have k2:=fun K=>ae.k (h2 l[k] (List.getElem_mem d)) K
   have k3:=fun K=>ae.k (h3 l[k] (List.getElem_mem d)) K
   generalize l[k]=x at *
   simp -implicitDefEqProofs(maxSteps:=9^9)only[Tryz.f216,↓zA,sevalprocAttr,aph,f0,f1,f5,ho,aa,d,gx,hw,k1,k2,k3,av,aR,cC,aX,kP,List.append_eq,List.append_toArray,List.cons_append,List.nil_append,decide_true,Bool.not_true]
  .simp -implicitDefEqProofs(maxSteps:=9^9)only[Tryz.f216,↓zA,sevalprocAttr,aph,f0,f1,f5,ho,aa,d,decide_true]
def aVn:=ai (ai (ai (ai @zq (ai @a0O @a0N)) (ai @aq5 (ai @anf @aPW))) (ai (ai @aNx (ai @aB1 @axr)) (ai @aPV (ai @aNw @aq6)))) (ai (ai (ai @ang (ai @dY @jh)) (ai @gV (ai @abx @bK))) (ai (ai @P3 (ai @Q3 @Q4)) (ai @zT0 (ai @av3 (aw aKc)))))
theorem aj0 (a:Qy) (hl:a.od.length≤4611686018427387903) (i0:aAG a.ks) (i1:aUI a.its) (i2:aHH a.fr) (i3:anr a.wh) (i4:anr a.gr) (i5:anr a.hv):G1 165 [.of (.agg (qyC a)),.of (.agg (qyC a))] (ah true):=by
 have k0:=fun K=>ae.k i0 K
 have k1:=fun K=>ae.k i1 K
 have k2:=fun K=>ae.k i2 K
 have k3:=fun K=>ae.k i3 K
 have k4:=fun K=>ae.k i4 K
 have k5:=fun K=>ae.k i5 K
 have k6:=fun K=>ae.k (akV a.od hl) K
 refine aj rfl aKc av3 rfl ?_
 simp -implicitDefEqProofs(maxSteps:=9^9)only[Tryz.f165,↓zA,sevalprocAttr,aVn,k0,k1,k2,k3,k4,k5,k6,av,aR,cC,aX,kP,List.append_eq,List.append_toArray,List.cons_append,List.nil_append,decide_true,Bool.not_true]
theorem akZ:∀ n,n≤WL→(∀ a,xpW a≤n→G1 71 [.of (.agg (xpC a)),.of (.agg (xpC a))] (ah true))∧(∀ a,qyW a≤n→G1 165 [.of (.agg (qyC a)),.of (.agg (qyC a))] (ah true))∧(∀ l,lsW fmW l≤n→aHH l)
 | 0,_=>⟨fun e h=>by have:=gW e;omega,fun e h=>by have:=aaE e;omega,fun l h=>by simp[lsW] at h⟩
 | n+1,hn=>by
  obtain⟨i1,i2,i3⟩:=akZ n (by omega)
  have hn':n+1≤1152921504606846976:=hn
  have sX:∀ l:List Xp,lsW xpW l≤n+1→anr l:=fun l h=>amE l (by have:=bh xpW l (fun x _=>gW x);omega) (fun x hx=>i1 x (by have:=bg (w:=xpW) hx;omega))
  have sQ:∀ l:List Qy,lsW qyW l≤n+1→aAG l:=fun l h=>ajW l (by have:=bh qyW l (fun x _=>aaE x);omega) (fun x hx=>i2 x (by have:=bg (w:=qyW) hx;omega))
  have sI:∀ l:List Im,lsW imW l≤n+1→aUI l:=fun l h=>amC l (by have:=bh imW l (fun x _=>abE x);omega) (fun x hx=>i1 x.e (by have:=bg (w:=imW) hx;have:=abo x;omega))
  refine⟨fun e h=>?_,fun e h=>?_,fun l h=>?_⟩
  .have h':=jB e
   exact ak1 e (sX _ (by omega)) (sQ _ (by omega))
  .have h':=gI e
   exact aj0 e (by have:=bh odW e.od (fun x _=>by simp[odW]);omega) (sQ _ (by omega)) (sI _ (by omega)) (i3 _ (by omega)) (sX _ (by omega)) (sX _ (by omega)) (sX _ (by omega))
  .refine amD l (by have:=bh fmW l (fun x _=>iX x);omega) (fun x hx=>sQ _ ?_) (fun x hx=>i3 _ ?_) (fun x hx=>sX _ ?_) <;> (have h1:=bg (w:=fmW) hx;have h2:=gK x;omega)
theorem aqH (a:Xp) (h:xpW a≤WL) (K:An→Prop):aG Tryz.prog pr 71 [.of (.agg (xpC a)),.of (.agg (xpC a))] [] K↔K ⟨false,[ah true],[]⟩:=ae.k ((akZ WL (Nat.le_refl _)).1 a h) K
def aiw:=ai (ai (ai @zq (ai @a1Q @aqY)) (ai (ai @am7 @apD) (ai @al2 @alg))) (ai (ai (ai @aji @bK) (ai @jh @Q4)) (ai (ai @Q9 @zT0) (ai @auL (aw aIX))))
theorem atd (i:Im) (hw:xpW i.e≤WL) (h:G1 125 [.of (.agg (xpC i.e))] (ah (aK i.e))):G1 247 [.of (.agg (imC i))] (ah (je i)):=by
 have kx:=fun K=>ae.k h K
 have kS:=fun K=>ae.k (ak0 i.e hw) K
 have hz:decide (i.e=ip)=jY i.e:=by rw[Bool.eq_iff_iff,ag2,decide_eq_true_eq]
 rw[hz] at kS
 have ez:[ci 0,ci 0,ci 0,ao {data:=#[]},ao {data:=#[]},ao {data:=#[]},cb false,C.sl [] 0,C.sl [] 0]=xpC ip:=by rw[aaG];rfl
 rw[auy]
 refine aj rfl aIX auL rfl ?_
 cases s1:i.st
 .by_cases s2:i.tb=[]
  .cases s3:ff i.az
   .simp -implicitDefEqProofs(maxSteps:=9^9)only[Tryz.f247,↓zA,sevalprocAttr,aiw,s1,eq_true s2,s3,bl]
   .simp -implicitDefEqProofs(maxSteps:=9^9)only[Tryz.f247,↓zA,sevalprocAttr,aiw,s1,eq_true s2,s3,bl,kx]
  .simp -implicitDefEqProofs(maxSteps:=9^9)only[Tryz.f247,↓zA,sevalprocAttr,aiw,s1,s2]
 .cases s2:ff i.tb
  .simp -implicitDefEqProofs(maxSteps:=9^9)only[Tryz.f247,↓zA,sevalprocAttr,aiw,s1,s2,bl]
  .cases s3:jY i.e
   .simp -implicitDefEqProofs(maxSteps:=9^9)only[Tryz.f247,↓zA,sevalprocAttr,aiw,s1,s2,s3,bl,ez,kS]
   .simp -implicitDefEqProofs(maxSteps:=9^9)only[Tryz.f247,↓zA,sevalprocAttr,aiw,s1,s2,s3,bl,ez,kS]
theorem ad7:∀ n,n≤WL→(∀ e,xpW e≤n→G1 125 [.of (.agg (xpC e))] (ah (aK e)))∧(∀ e,qyW e≤n→G1 214 [.of (.agg (qyC e))] (ah (bA e)))
  ∧ (∀ e,imW e≤n→G1 247 [.of (.agg (imC e))] (ah (je e)))∧(∀ e,fmW e≤n→G1 248 [.of (.agg (fmC e))] (ah (fw e))∧G1 249 [.of (.agg (fmC e))] (ak (dy e)))
 | 0,_=>⟨fun e h=>by have:=gW e;omega,fun e h=>by have:=aaE e;omega,fun e h=>by have:=abE e;omega,fun e h=>by have:=iX e;omega⟩
 | n+1,hn=>by
  obtain⟨i1,i2,i3,i4⟩:=ad7 n (by omega)
  have sX:∀ l:List Xp,lsW xpW l≤n+1→aim l:=fun l h x hx=>i1 x (by have:=bg (w:=xpW) hx;omega)
  have sQ:∀ l:List Qy,lsW qyW l≤n+1→ant l:=fun l h x hx=>i2 x (by have:=bg (w:=qyW) hx;omega)
  have sI:∀ l:List Im,lsW imW l≤n+1→aUS l:=fun l h x hx=>i3 x (by have:=bg (w:=imW) hx;omega)
  have sS:∀ l:List Fm,lsW fmW l≤n+1→aHI l:=fun l h x hx=>(i4 x (by have:=bg (w:=fmW) hx;omega)).1
  have sT:∀ l:List Fm,lsW fmW l≤n+1→aHM l:=fun l h x hx=>(i4 x (by have:=bg (w:=fmW) hx;omega)).2
  refine⟨fun e h=>?_,fun e h=>?_,fun e h=>?_,fun e h=>?_⟩
  .have h':=jB e
   exact ate e (by omega) (sX _ (by omega)) (sQ _ (by omega))
  .have h':=gI e
   exact aqE e (by omega) (sQ _ (by omega)) (sI _ (by omega)) (sS _ (by omega)) (sT _ (by omega)) (sX _ (by omega)) (sX _ (by omega)) (sX _ (by omega))
  .have h':=abo e
   exact atd e (by omega) (i1 _ (by omega))
  .have h':=gK e
   exact⟨aoM e (by omega) (sQ _ (by omega)) (sS _ (by omega)) (sX _ (by omega)),at5 e (by omega) (sT _ (by omega))⟩
theorem iP (l:List Xp) (h:lsW xpW l≤WL):aim l:=fun x hx=>(ad7 WL (Nat.le_refl _)).1 x (by have:=bg (w:=xpW) hx;omega)
theorem jM (l:List Qy) (h:lsW qyW l≤WL):ant l:=fun x hx=>(ad7 WL (Nat.le_refl _)).2.1 x (by have:=bg (w:=qyW) hx;omega)
def aOG:=ai (ai (ai @zq (ai @a0W @alg)) (ai @aji (ai @ahH @afI))) (ai (ai @aCx (ai @axX @bK)) (ai (ai @dR @zT0) (ai @aC1 (aw aR0))))
theorem atf (e:Xp) (hw:xpW e≤1152921504606846000):G1 89 [.of (.agg (xpC e))] (ah (dZ e)):=by
 have k1:=fun K=>ae.k ((ad7 WL (Nat.le_refl _)).1 e (by simp only[WL];omega)) K
 have w1:lsW xpW [e]≤WL:=by simp only[lsW,List.map_cons,List.map_nil,List.sum_cons,List.sum_nil,WL];omega
 have e1:aH bk [e]=bk e:=by rw[aH,aH,eX]
 have er:dZ e=(aK e&&iB (bk e)):=by rw[dZ,Bool.and_comm]
 rw[er]
 refine aj rfl aR0 aC1 rfl ?_
 cases c:aK e
 .simp -implicitDefEqProofs(maxSteps:=9^9)only[Tryz.f89,↓zA,sevalprocAttr,aOG,k1,c]
 .simp -implicitDefEqProofs(maxSteps:=9^9)only[Tryz.f89,↓zA,sevalprocAttr,aOG,k1,c,aqR,aAI,w1,e1,aF1]
end Go.Proofs.YtjajlmjfddohfaaGreatDoor

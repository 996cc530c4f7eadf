/-
  Chapter 9's document: a statement. Conditions: none.
-/
import Derived.Test.YtjajlmjfddohfaaGreatDoorPa14
set_option linter.defProp false
set_option linter.unusedSectionVars false
set_option maxRecDepth 100000
set_option maxHeartbeats 32000000
namespace Go.Proofs.YtjajlmjfddohfaaGreatDoor
open Go Go.Pe Go.Tab
def aky:=ai (ai (ai @zq @aft) (ai @adS @bK)) (ai (ai @fT @zT0) (ai @av7 (aw aKg)))
theorem fL (l:List (List Xp)) (hw:lsW (lsW xpW) l≤WL):G1 161 [.of (slC (lsC xpC) l)] (ah ((l.all fun r=>am r 1 16 aK)&&decide (l.length≤64))):=by
 have h1:=bh (lsW xpW) l fun x _=>by simp[lsW]
 have hw2:=hw
 simp only[WL] at hw2
 refine aj rfl aKg av7 rfl ?_
 simp -implicitDefEqProofs(maxSteps:=9^9)only[Tryz.f161,↓zA,sevalprocAttr,aky]
 refine aL l.length (fun k t=>t.fr 0=.of (slC (lsC xpC) l)∧t.fr 3=ak k∧t.objs=[]∧(l.all fun r=>am r 1 16 aK)=((l.drop k).all fun r=>am r 1 16 aK)) ?_ ?_
 .simp -implicitDefEqProofs(maxSteps:=9^9)only[Tryz.f161,↓zA,sevalprocAttr,aky]
  try exact rfl
 .rintro k t hk ⟨f0,f3,ho,E⟩
  rcases Nat.lt_or_ge k l.length with d1|d1
  .have hwk:=aQ k (by omega)
   have hr:lsW xpW l[k]≤WL:=by have:=bg (w:=lsW xpW) (List.getElem_mem d1);simp only[WL];omega
   have kx:=fun a b K=>ae.k (cN l[k] a b hr (iP l[k] hr)) K
   rw[aJ d1,hM] at E
   cases d2:am l[k] 1 16 aK
   .rw[d2,Bool.false_and] at E
    simp -implicitDefEqProofs(maxSteps:=9^9)only[Tryz.f161,↓zA,sevalprocAttr,aky,f0,f3,ho,aa,d1,ap d1,hwk,kx,d2,E]
   .rw[d2,Bool.true_and] at E
    simp -implicitDefEqProofs(maxSteps:=9^9)only[Tryz.f161,↓zA,sevalprocAttr,aky,f0,f3,ho,aa,d1,ap d1,hwk,kx,d2,E]
  .have e:k=l.length:=by omega
   subst e
   rw[List.drop_length,List.all_nil] at E
   simp -implicitDefEqProofs(maxSteps:=9^9)only[Tryz.f161,↓zA,sevalprocAttr,aky,f0,f3,ho,aa,Nat.lt_irrefl,E,aee]
theorem aef (n:Nat):((n:Int)≤16)=(n≤16):=propext (by omega)
theorem akc (n:Nat):((1:Int)≤(n:Int))=(1≤n):=propext (by omega)
def af6:=ai (ai (ai @zq (ai @ab8 @aaQ)) (ai @alg (ai @aji @bK))) (ai (ai @j0 (ai @kT @Q9)) (ai @zT0 (ai @av5 (aw aKe))))
theorem fJ (l:List As) (hw:lsW asW l≤WL):G1 163 [.of (slC asC l)] (ah (l.all cA&&(decide (1≤l.length)&&decide (l.length≤16)))):=by
 have h1:=bh asW l fun x _=>by simp[asW]
 have hw2:=hw
 simp only[WL] at hw2
 refine aj rfl aKe av5 rfl ?_
 simp -implicitDefEqProofs(maxSteps:=9^9)only[Tryz.f163,↓zA,sevalprocAttr,af6]
 refine aL l.length (fun k t=>t.fr 0=.of (slC asC l)∧t.fr 3=ak k∧t.objs=[]∧l.all cA=(l.drop k).all cA) ?_ ?_
 .simp -implicitDefEqProofs(maxSteps:=9^9)only[Tryz.f163,↓zA,sevalprocAttr,af6]
  try exact rfl
 .rintro k t hk ⟨f0,f3,ho,E⟩
  rcases Nat.lt_or_ge k l.length with d1|d1
  .have hwk:=aQ k (by omega)
   have hr:xpW l[k].e≤WL:=by have:=bg (w:=asW) (List.getElem_mem d1);simp only[asW,WL] at *;omega
   have kx:=fun K=>ae.k ((ad7 WL (Nat.le_refl _)).1 l[k].e hr) K
   rw[aJ d1,hM] at E
   cases d2:aA l[k].nm
   .have F:l.all cA=false:=by rw[E];simp[cA,d2]
    simp -implicitDefEqProofs(maxSteps:=9^9)only[Tryz.f163,↓zA,sevalprocAttr,af6,f0,f3,ho,aa,d1,ap d1,hwk,aO,d2,F]
   .cases d3:aK l[k].e
    .have F:l.all cA=false:=by rw[E];simp[cA,d2,d3]
     simp -implicitDefEqProofs(maxSteps:=9^9)only[Tryz.f163,↓zA,sevalprocAttr,af6,f0,f3,ho,aa,d1,ap d1,hwk,aO,kx,d2,d3,F]
    .have F:l.all cA=(l.drop (k+1)).all cA:=by rw[E];simp[cA,d2,d3]
     simp -implicitDefEqProofs(maxSteps:=9^9)only[Tryz.f163,↓zA,sevalprocAttr,af6,f0,f3,ho,aa,d1,ap d1,hwk,aO,kx,d2,d3,F]
  .have e:k=l.length:=by omega
   subst e
   rw[List.drop_length,List.all_nil] at E
   by_cases d2:1≤l.length
   .simp -implicitDefEqProofs(maxSteps:=9^9)only[Tryz.f163,↓zA,sevalprocAttr,af6,f0,f3,ho,aa,Nat.lt_irrefl,E,aef,akc,d2]
   .simp -implicitDefEqProofs(maxSteps:=9^9)only[Tryz.f163,↓zA,sevalprocAttr,af6,f0,f3,ho,aa,Nat.lt_irrefl,E,aef,akc,d2]
theorem apI (n:Int):(n<1)=¬(1≤n):=propext (by omega)
theorem apL (n:Int):(3<n)=¬(n≤3):=propext (by omega)
def fS (s:Sm):Bool:=s.cs.all bR&&(s.kys.all cK&&(s.rfs.all cz&&(decide (1≤s.cs.length)&&decide (s.cs.length≤16)&&decide (s.kys.length≤64)&&decide (s.rfs.length≤64)&&am s.chs 0 64 aK)))
abbrev smL (s:Sm):List C:=[ci s.kd,ao (ar s.tb),ao (ar s.nm),slC cdC s.cs,slC bd s.ns,cb s.un,slC kdC s.kys,slC rdC s.rfs,slC xpC s.chs,slC (lsC xpC) s.rws,slC asC s.sts,slC xpC s.wh,slC qyC s.q]
def ik:=ai (ai (ai (ai @zq (ai @aQM @ab8)) (ai @aaQ (ai @aCk @axK))) (ai (ai @a1D (ai @aft @adS)) (ai @fa (ai @dw @jz)))) (ai (ai (ai @jy (ai @bK @cE)) (ai @gG (ai @jA @bH))) (ai (ai @Q9 (ai @P3 @Q3)) (ai @zT0 (ai @av9 (aw aKi)))))
theorem eD (s:Sm) (hw:smW s≤WL):G1 159 [.of (.agg (smC s))] (ah (fS s)):=by
 have hw2:=hw
 simp only[WL,smW] at hw2
 have n1:=bh cdW s.cs fun x _=>by simp[cdW]
 have n2:=bh kdW s.kys fun x _=>by simp[kdW]
 have n3:=bh rdW s.rfs fun x _=>by simp[rdW]
 have wc:lsW xpW s.chs≤WL:=by simp only[WL];omega
 have kc:=fun a b K=>ae.k (cN s.chs a b wc (iP s.chs wc)) K
 refine aj rfl aKi av9 rfl ?_
 simp -implicitDefEqProofs(maxSteps:=9^9)only[Tryz.f159,↓zA,sevalprocAttr,ik]
 refine aL s.cs.length (fun k t=>t.fr 1=.of (.ref (smL s))∧t.fr 3=ak k∧t.objs=[]∧s.cs.all bR=(s.cs.drop k).all bR) ?_ ?_
 .simp -implicitDefEqProofs(maxSteps:=9^9)only[Tryz.f159,↓zA,sevalprocAttr,ik]
  try exact rfl
 rintro k t hk ⟨f1,f3,ho,E⟩
 rcases Nat.lt_or_ge k s.cs.length with d1|d1
 .have hwk:=aQ k (by omega)
  have gx:=ap d1
  rw[aJ d1,hM] at E
  generalize s.cs[k]=x at *
  cases b1:aA x.nm
  .have F:s.cs.all bR=false:=by rw[E];simp[bR,b1]
   simp -implicitDefEqProofs(maxSteps:=9^9)only[Tryz.f159,↓zA,sevalprocAttr,ik,f1,f3,ho,aa,d1,gx,hwk,aO,apI,apL,b1,fS,F]
  by_cases b2:1≤x.ty
  rotate_left
  .have F:s.cs.all bR=false:=by rw[E];simp[bR,b1,b2]
   simp -implicitDefEqProofs(maxSteps:=9^9)only[Tryz.f159,↓zA,sevalprocAttr,ik,f1,f3,ho,aa,d1,gx,hwk,aO,apI,apL,b1,b2,fS,F]
  by_cases b3:x.ty≤3
  .have F:s.cs.all bR=(s.cs.drop (k+1)).all bR:=by rw[E];simp[bR,b1,b2,b3]
   simp -implicitDefEqProofs(maxSteps:=9^9)only[Tryz.f159,↓zA,sevalprocAttr,ik,f1,f3,ho,aa,d1,gx,hwk,aO,apI,apL,b1,b2,b3,F]
  .have F:s.cs.all bR=false:=by rw[E];simp[bR,b1,b2,b3]
   simp -implicitDefEqProofs(maxSteps:=9^9)only[Tryz.f159,↓zA,sevalprocAttr,ik,f1,f3,ho,aa,d1,gx,hwk,aO,apI,apL,b1,b2,b3,fS,F]
 have e:k=s.cs.length:=by omega
 subst e
 rw[List.drop_length,List.all_nil] at E
 simp -implicitDefEqProofs(maxSteps:=9^9)only[Tryz.f159,↓zA,sevalprocAttr,ik,f1,f3,ho,aa,Nat.lt_irrefl,fS,E]
 refine aL s.kys.length (fun k t=>t.fr 1=.of (.ref (smL s))∧t.fr 4=ak k∧t.objs=[]∧s.kys.all cK=(s.kys.drop k).all cK) ?_ ?_
 .simp -implicitDefEqProofs(maxSteps:=9^9)only[Tryz.f159,↓zA,sevalprocAttr,ik,f1,f3,ho]
  try exact rfl
 rintro j u hj ⟨g1,g4,go,F⟩
 rcases Nat.lt_or_ge j s.kys.length with d1|d1
 .have hwj:=aQ j (by omega)
  have hn:s.kys[j].ns.length≤4611686018427387903:=by
   have h1:=bg (w:=kdW) (List.getElem_mem d1)
   have h2:=bh aZ s.kys[j].ns fun x _=>by simp[aZ]
   simp only[kdW] at h1
   omega
  rw[aJ d1,hM] at F
  have eK:cK s.kys[j]=am s.kys[j].ns 1 16 aA:=by rw[cK,bt,abJ]
  cases b1:am s.kys[j].ns 1 16 aA
  .rw[eK,b1,Bool.false_and] at F
   simp -implicitDefEqProofs(maxSteps:=9^9)only[Tryz.f159,↓zA,sevalprocAttr,ik,g1,g4,go,aa,d1,ap d1,hwj,bo,hn,b1,F]
  .rw[eK,b1,Bool.true_and] at F
   simp -implicitDefEqProofs(maxSteps:=9^9)only[Tryz.f159,↓zA,sevalprocAttr,ik,g1,g4,go,aa,d1,ap d1,hwj,bo,hn,b1,F]
 have e:j=s.kys.length:=by omega
 subst e
 rw[List.drop_length,List.all_nil] at F
 simp -implicitDefEqProofs(maxSteps:=9^9)only[Tryz.f159,↓zA,sevalprocAttr,ik,g1,g4,go,aa,Nat.lt_irrefl,F]
 refine aL s.rfs.length (fun k t=>t.fr 1=.of (.ref (smL s))∧t.fr 5=ak k∧t.objs=[]∧s.rfs.all cz=(s.rfs.drop k).all cz) ?_ ?_
 .simp -implicitDefEqProofs(maxSteps:=9^9)only[Tryz.f159,↓zA,sevalprocAttr,ik,g1,g4,go]
  try exact rfl
 rintro i v hi ⟨p1,p5,po,G⟩
 rcases Nat.lt_or_ge i s.rfs.length with d1|d1
 .have hwi:=aQ i (by omega)
  have h1:=bg (w:=rdW) (List.getElem_mem d1)
  have gx:=ap d1
  rw[aJ d1,hM] at G
  generalize s.rfs[i]=r at *
  have h2:=bh aZ r.ns fun x _=>by simp[aZ]
  have h3:=bh aZ r.to fun x _=>by simp[aZ]
  simp only[rdW] at h1
  have hn:r.ns.length≤4611686018427387903:=by omega
  have ht:r.to.length≤4611686018427387903:=by omega
  have eR:cz r=(am r.ns 1 16 aA&&aA r.tb&&am r.to 1 16 aA):=by rw[cz,bt,bt,abJ,abJ]
  cases b1:am r.ns 1 16 aA
  .have F2:s.rfs.all cz=false:=by rw[G,eR,b1];simp
   simp -implicitDefEqProofs(maxSteps:=9^9)only[Tryz.f159,↓zA,sevalprocAttr,ik,p1,p5,po,aa,d1,gx,hwi,bo,aO,hn,ht,b1,F2]
  cases b2:aA r.tb
  .have F2:s.rfs.all cz=false:=by rw[G,eR,b1,b2];simp
   simp -implicitDefEqProofs(maxSteps:=9^9)only[Tryz.f159,↓zA,sevalprocAttr,ik,p1,p5,po,aa,d1,gx,hwi,bo,aO,hn,ht,b1,b2,F2]
  cases b3:am r.to 1 16 aA
  .have F2:s.rfs.all cz=false:=by rw[G,eR,b1,b2,b3];simp
   simp -implicitDefEqProofs(maxSteps:=9^9)only[Tryz.f159,↓zA,sevalprocAttr,ik,p1,p5,po,aa,d1,gx,hwi,bo,aO,hn,ht,b1,b2,b3,F2]
  .have F2:s.rfs.all cz=(s.rfs.drop (i+1)).all cz:=by rw[G,eR,b1,b2,b3];simp
   simp -implicitDefEqProofs(maxSteps:=9^9)only[Tryz.f159,↓zA,sevalprocAttr,ik,p1,p5,po,aa,d1,gx,hwi,bo,aO,hn,ht,b1,b2,b3,F2]
 have e:i=s.rfs.length:=by omega
 subst e
 rw[List.drop_length,List.all_nil] at G
 by_cases c1:1≤s.cs.length
 rotate_left
 .simp -implicitDefEqProofs(maxSteps:=9^9)only[Tryz.f159,↓zA,sevalprocAttr,ik,p1,p5,po,aa,Nat.lt_irrefl,G,akc,aef,aee,c1]
 by_cases c2:s.cs.length≤16
 rotate_left
 .simp -implicitDefEqProofs(maxSteps:=9^9)only[Tryz.f159,↓zA,sevalprocAttr,ik,p1,p5,po,aa,Nat.lt_irrefl,G,akc,aef,aee,c1,c2]
 by_cases c3:s.kys.length≤64
 rotate_left
 .simp -implicitDefEqProofs(maxSteps:=9^9)only[Tryz.f159,↓zA,sevalprocAttr,ik,p1,p5,po,aa,Nat.lt_irrefl,G,akc,aef,aee,c1,c2,c3]
 by_cases c4:s.rfs.length≤64
 .simp -implicitDefEqProofs(maxSteps:=9^9)only[Tryz.f159,↓zA,sevalprocAttr,ik,p1,p5,po,aa,Nat.lt_irrefl,G,akc,aef,aee,c1,c2,c3,c4,kc]
 .simp -implicitDefEqProofs(maxSteps:=9^9)only[Tryz.f159,↓zA,sevalprocAttr,ik,p1,p5,po,aa,Nat.lt_irrefl,G,akc,aef,aee,c1,c2,c3,c4]
theorem abl (s:Sm) (hw:smW s≤LB):s.kys.length≤LB∧s.rfs.length≤LB∧s.cs.length≤LB∧s.ns.length≤LB∧s.tb.length≤LB∧(∀ k∈s.kys,k.ns.length≤LB)∧(∀ f∈s.rfs,f.ns.length≤LB∧f.to.length≤LB)∧s.nm.length≤LB:=by
 unfold smW at hw
 have n1:=eA cdW s.cs fun x=>by simp[cdW]
 have n2:=eA kdW s.kys fun x=>by simp[kdW]
 have n3:=eA rdW s.rfs fun x=>by simp[rdW]
 have n4:=eA aZ s.ns ab1
 refine⟨by omega,by omega,by omega,by omega,by simp only[aZ] at hw;omega,fun k hk=>?_,fun f hf=>?_,by simp only[aZ] at hw;omega⟩
 .have h4:=bg (w:=kdW) hk
  have h5:=eA aZ k.ns ab1
  simp only[kdW] at h4
  omega
 .have h4:=bg (w:=rdW) hf
  have h5:=eA aZ f.ns ab1
  have h6:=eA aZ f.to ab1
  simp only[rdW] at h4
  omega
theorem an7 (c:Ct) (nm:List UInt8):(0≤bE (fun x:Ix=>decide (x.nm=nm)) c.ixs)=(gg c nm=true):=by
 have:=aMd (fun x:Ix=>decide (x.nm=nm)) c.ixs
 unfold gg
 rw[← this,decide_eq_true_eq]
theorem aEi (c:Ct) (nm:List UInt8):(0≤bE (fun t:Tb=>decide (t.nm=nm)) c.tbs)=((bx c nm).isSome=true):=by
 have:=arx (fun t:Tb=>decide (t.nm=nm)) c.tbs
 unfold bx
 rw[← this,decide_eq_true_eq]
theorem ad1 (c:Ct) (tb:List UInt8) (n:Nat) (k:Kd) (r:List Kd):eW c tb n (k::r)=(!decide k.ns.Nodup||gg c (cy tb (n+1))||eW c tb (n+1) r):=rfl
theorem adl (c:Ct) (tb:List UInt8) (n:Nat):eW c tb n []=false:=rfl
def abI:=ai (ai (ai (ai @zq (ai @a1B @a1A)) (ai @aIu (ai @aEY @ay0))) (ai (ai @ar5 (ai @apF @al4)) (ai (ai @agt @aep) (ai @aQF @aOj)))) (ai (ai (ai @cU (ai @fa @jz)) (ai @jy (ai @dw @gG))) (ai (ai @jA (ai @bH @Q4)) (ai (ai @Q9 @zT0) (ai @aDt (aw aSr)))))
theorem atH (c:Ct) (s:Sm) (hc:CtB c) (hs:smW s≤LB):G1 60 [.of (.agg (ctC c)),.of (.agg (smC s))] (ah (dc c s)):=by
 obtain⟨h1,h2,h3,_,h4,h5,h6,_⟩:=abl s hs
 have h7:=hc.x
 have h8:=hc.t
 have hlb:LB=1073741824:=rfl
 rw[← azX]
 have hP:∀ k (h:k<s.kys.length),((s.kys.take (k+1)).filter Kd.pr).length=((s.kys.take k).filter Kd.pr).length+(if s.kys[k].pr then 1 else 0):=fun k h=>by
   rw[gR h,List.filter_append,List.length_append]
   cases hb:s.kys[k].pr <;> simp[hb]
 refine aj rfl aSr aDt rfl ?_
 simp -implicitDefEqProofs(maxSteps:=9^9)only[Tryz.f60,↓zA,sevalprocAttr,abI]
 refine aL (s.kys.length) (fun k tk=>tk.fr 2=.of (.ref [slC tbC c.tbs,slC ixC c.ixs,ci c.nx])∧tk.fr 3=.of (.ref (smL s))∧tk.fr 5=ak (((s.kys.take k).filter Kd.pr).length:Nat)∧tk.fr 6=ak k∧tk.objs=[]∧eW c s.tb 0 s.kys=eW c s.tb k (s.kys.drop k)) ?_ ?_
 .simp -implicitDefEqProofs(maxSteps:=9^9)only[Tryz.f60,↓zA,sevalprocAttr,abI]
  try exact rfl
 rintro k ⟨frk,obk,ckk⟩ hk ⟨f2,f3,f5,f6,fo,Ek⟩
 dsimp only at f2 f3 f5 f6 fo
 rcases Nat.lt_or_ge k (s.kys.length) with dk|dk
 .have hw:=aQ k (by omega)
  have gx:=ap dk
  have hp:=hP k dk
  have hlen:((s.kys.take k).filter Kd.pr).length≤k:=Nat.le_trans (List.length_filter_le ..) (by rw[List.length_take];omega)
  have hwc:=aQ ((s.kys.take k).filter Kd.pr).length (by omega)
  have hq:=h5 _ (List.getElem_mem dk)
  rw[aJ dk,ad1] at Ek
  generalize s.kys[k]=y at *
  have hq':y.ns.length≤4611686018427387903:=by omega
  have ki:=fun K=>ady c (cy s.tb (k+1)) (by omega) K
  have hk':k<LB:=by omega
  have en:=an7 c (cy s.tb (k+1))
  cases bp:y.pr
  .rw[bp] at hp
   simp only[Bool.false_eq_true,if_false,if_true,Nat.add_zero] at hp
   rw[hp]
   by_cases c0:y.ns.Nodup
   rotate_left
   .have F:fQ c s=true:=by unfold fQ;rw[Ek];simp[c0]
    simp -implicitDefEqProofs(maxSteps:=9^9)only[Tryz.f60,↓zA,sevalprocAttr,abI,f2,f3,f5,f6,fo,aa,dk,gx,hw,bp,hwc,cY,hq',ab7,h4,hk',and_self,ki,en,c0,F]
   cases b1:gg c (cy s.tb (k+1))
   rotate_left
   .have F:fQ c s=true:=by unfold fQ;rw[Ek];simp[b1]
    simp -implicitDefEqProofs(maxSteps:=9^9)only[Tryz.f60,↓zA,sevalprocAttr,abI,f2,f3,f5,f6,fo,aa,dk,gx,hw,bp,hwc,cY,hq',ab7,h4,hk',and_self,ki,en,c0,b1,F]
   rw[decide_eq_true c0,b1,Bool.not_true,Bool.false_or,Bool.false_or] at Ek
   simp -implicitDefEqProofs(maxSteps:=9^9)only[Tryz.f60,↓zA,sevalprocAttr,abI,f2,f3,f5,f6,fo,aa,dk,gx,hw,bp,hwc,cY,hq',ab7,h4,hk',and_self,ki,en,c0,b1,Ek]
  .rw[bp] at hp
   simp only[Bool.false_eq_true,if_false,if_true,Nat.add_zero] at hp
   rw[hp]
   by_cases c0:y.ns.Nodup
   rotate_left
   .have F:fQ c s=true:=by unfold fQ;rw[Ek];simp[c0]
    simp -implicitDefEqProofs(maxSteps:=9^9)only[Tryz.f60,↓zA,sevalprocAttr,abI,f2,f3,f5,f6,fo,aa,dk,gx,hw,bp,hwc,cY,hq',ab7,h4,hk',and_self,ki,en,c0,F]
   cases b1:gg c (cy s.tb (k+1))
   rotate_left
   .have F:fQ c s=true:=by unfold fQ;rw[Ek];simp[b1]
    simp -implicitDefEqProofs(maxSteps:=9^9)only[Tryz.f60,↓zA,sevalprocAttr,abI,f2,f3,f5,f6,fo,aa,dk,gx,hw,bp,hwc,cY,hq',ab7,h4,hk',and_self,ki,en,c0,b1,F]
   rw[decide_eq_true c0,b1,Bool.not_true,Bool.false_or,Bool.false_or] at Ek
   simp -implicitDefEqProofs(maxSteps:=9^9)only[Tryz.f60,↓zA,sevalprocAttr,abI,f2,f3,f5,f6,fo,aa,dk,gx,hw,bp,hwc,cY,hq',ab7,h4,hk',and_self,ki,en,c0,b1,Ek]
 have e:k=s.kys.length:=by omega
 subst e
 rw[List.drop_length,adl] at Ek
 rw[List.take_length] at f5
 simp -implicitDefEqProofs(maxSteps:=9^9)only[Tryz.f60,↓zA,sevalprocAttr,abI,f2,f3,f5,f6,fo,aa,Nat.lt_irrefl]
 refine aL (s.rfs.length) (fun m tm=>tm.fr 2=.of (.ref [slC tbC c.tbs,slC ixC c.ixs,ci c.nx])∧tm.fr 3=.of (.ref (smL s))∧tm.fr 5=ak ((s.kys.filter Kd.pr).length:Nat)∧tm.fr 7=ak m∧tm.objs=[]∧(s.rfs.any fun f=>!decide f.ns.Nodup)=(s.rfs.drop m).any fun f=>!decide f.ns.Nodup) ?_ ?_
 .simp -implicitDefEqProofs(maxSteps:=9^9)only[Tryz.f60,↓zA,sevalprocAttr,abI,f2,f3,f5,f6,fo,aa]
  try exact rfl
 rintro m ⟨frm,obm,ckm⟩ hm ⟨g2,g3,g5,g7,go,Em⟩
 dsimp only at g2 g3 g5 g7 go
 rcases Nat.lt_or_ge m (s.rfs.length) with dm|dm
 .have hw:=aQ m (by omega)
  have gx:=ap dm
  have hq:=(h6 _ (List.getElem_mem dm)).1
  rw[aJ dm,List.any_cons] at Em
  generalize s.rfs[m]=y at *
  have hq':y.ns.length≤4611686018427387903:=by omega
  by_cases c0:y.ns.Nodup
  rotate_left
  .have F:fQ c s=true:=by unfold fQ;rw[Ek,Em];simp[c0]
   simp -implicitDefEqProofs(maxSteps:=9^9)only[Tryz.f60,↓zA,sevalprocAttr,abI,g2,g3,g5,g7,go,aa,dm,gx,hw,cY,hq',c0,F]
  rw[decide_eq_true c0,Bool.not_true,Bool.false_or] at Em
  simp -implicitDefEqProofs(maxSteps:=9^9)only[Tryz.f60,↓zA,sevalprocAttr,abI,g2,g3,g5,g7,go,aa,dm,gx,hw,cY,hq',c0]
  exact Em
 have e:m=s.rfs.length:=by omega
 subst e
 rw[List.drop_length,List.any_nil] at Em
 have ka:=fun K=>ae.k (acJ c s.tb (by omega)) K
 have en:=aEi c s.tb
 have hl:s.cs.length≤4611686018427387903:=by omega
 have dg:∀ n:Nat,decide ((1:Int)<(n:Int))=decide (1<n):=fun n=>decide_eq_decide.2 (by omega)
 cases b1:(bx c s.tb).isSome
 rotate_left
 .have F:fQ c s=true:=by unfold fQ;rw[Ek,Em,b1];rfl
  simp -implicitDefEqProofs(maxSteps:=9^9)only[Tryz.f60,↓zA,sevalprocAttr,abI,g2,g3,g5,g7,go,aa,Nat.lt_irrefl,ka,en,b1,F]
 by_cases c2:(s.cs.map Cd.nm).Nodup
 rotate_left
 .have F:fQ c s=true:=by unfold fQ;rw[Ek,Em,b1];simp[c2]
  simp -implicitDefEqProofs(maxSteps:=9^9)only[Tryz.f60,↓zA,sevalprocAttr,abI,g2,g3,g5,g7,go,aa,Nat.lt_irrefl,ka,en,b1,ak2,h3,cY,hl,c2,F]
 have F:fQ c s=decide (1<(s.kys.filter Kd.pr).length):=by unfold fQ;rw[Ek,Em,b1];simp[c2]
 simp -implicitDefEqProofs(maxSteps:=9^9)only[Tryz.f60,↓zA,sevalprocAttr,abI,g2,g3,g5,g7,go,aa,Nat.lt_irrefl,ka,en,b1,ak2,h3,cY,hl,c2,F,dg]
theorem aG8 (c:Ct) (s:Sm) (hc:CtB c) (hs:smW s≤LB) (K:An→Prop):aG Tryz.prog pr 60 [.of (.agg (ctC c)),.of (.agg (smC s))] [] K↔K ⟨false,[ah (dc c s)],[]⟩:=ae.k (atH c s hc hs) K
def kR:Option (List Ky)→List X
 | some a=>[.of (slC kyC a),ak 0]
 | none=>[.of (.sl [] 0),ak 6]
theorem ai4 (a:List Ky):kR (some a)=[.of (slC kyC a),ak 0]:=rfl
theorem ju:1≤LIM:=by decide
theorem aw4:kR none=[.of (.sl [] 0),ak 6]:=rfl
theorem aiQ (n:Int) (h0:0≤n) (h:n<4611686018427387904):IntKind.i64.wrap (n+1)=n+1:=da _ (by omega) (by omega)
theorem apz (n:Int) (k:Nat) (h0:0≤n) (h:n+k<4611686018427387904):IntKind.i64.wrap (n+(k:Int))=n+(k:Int):=da _ (by omega) (by omega)
def ajK:=ai (ai (ai @zq (ai @a1y @ayZ)) (ai (ai @ar4 @fa) (ai @jz @il))) (ai (ai (ai @dw @gG) (ai @kb @bH)) (ai (ai @Q4 @zT0) (ai @aDs (aw aSq))))
theorem azs (s:Sm) (id:Int) (hs:smW s≤LB) (h0:0≤id) (h9:id≤ee):GN 61 [.of (.agg (smC s)),ak id] (kR (fO s.cs (id+1) s.kys)):=by
 obtain⟨h1,h2,h3,_,h4,h5,h6,_⟩:=abl s hs
 have hlb:LB=1073741824:=rfl
 have hln:ee=1099511627776:=rfl
 have hw1:=aiQ id h0 (by omega)
 refine aj rfl aSq aDs rfl ?_
 simp -implicitDefEqProofs(maxSteps:=9^9)only[Tryz.f61,↓zA,sevalprocAttr,ajK]
 refine aL (s.kys.length) (fun k tk=>tk.fr 1=ak id∧tk.fr 2=.of (.ref (smL s))∧tk.fr 7=ak k∧tk.objs=[]∧∃ A,((A=[]∧tk.fr 6=.nil)∨∃ s6,Old tk.clk s6∧tk.fr 6=.own s6 93 3 (fl kyC A) A.length)∧A.length≤k∧fO s.cs (id+1) s.kys=aaL s.cs A (id+1+(k:Int)) (s.kys.drop k)) ?_ ?_
 .simp -implicitDefEqProofs(maxSteps:=9^9)only[Tryz.f61,↓zA,sevalprocAttr,ajK]
  exact⟨[],.inl rfl,Nat.le_refl _,by rw[Int.add_zero,arr]⟩
 rintro k ⟨frk,obk,ckk⟩ hk ⟨f1,f2,f7,fo,A,hO,hA,E⟩
 dsimp only at f1 f2 f7 fo hO
 rcases Nat.lt_or_ge k (s.kys.length) with dk|dk
 .have hw:=aQ k (by omega)
  have gx:=ap dk
  have hq:=h5 _ (List.getElem_mem dk)
  rw[aJ dk] at E
  generalize s.kys[k]=y at *
  have kp:=fun K=>abg s.cs y.ns (by omega) hq K
  have hw2:=apz (id+1) k (by omega) (by omega)
  have hn:A.length+1≤LIM:=by unfold LIM;omega
  cases hp:bC s.cs y.ns with
  | none =>
   rw[an3 hp] at E
   simp -implicitDefEqProofs(maxSteps:=9^9)only[Tryz.f61,↓zA,sevalprocAttr,ajK,f1,f2,f7,fo,aa,dk,gx,hw,kp,hp,ia,E,aw4]
  | some l =>
   rw[an2 hp] at E
   have e1:id+1+(k:Int)+1=id+1+((k+1:Nat):Int):=by omega
   rw[e1] at E
   rcases hO with ⟨rfl,f6⟩|⟨s6,so,f6⟩
   .have E':=E
    simp -implicitDefEqProofs(maxSteps:=9^9)only[Tryz.f61,↓zA,sevalprocAttr,ajK,f1,f2,f7,fo,aa,f6,dk,gx,hw,kp,hp,bP,hw1,hw2,ju]
    refine⟨[⟨y.pr,l,id+1+(k:Int)⟩],⟨_,?_,rfl⟩,by simp,E⟩
    rw[Z68];omega
   .have E':=E
    simp -implicitDefEqProofs(maxSteps:=9^9)only[Tryz.f61,↓zA,sevalprocAttr,ajK,f1,f2,f7,fo,aa,f6,dk,gx,hw,kp,hp,bP,hw1,hw2,hn]
    refine⟨okT so (by omega) _,A++[⟨y.pr,l,id+1+(k:Int)⟩],⟨_,?_,by rw[dD,d6,List.length_append];rfl⟩,by rw[List.length_append];simp;omega,E⟩
    rw[Z68];omega
 .have e:k=s.kys.length:=by omega
  subst e
  rw[List.drop_length,aly] at E
  rcases hO with ⟨rfl,f6⟩|⟨s6,so,f6⟩
  .simp -implicitDefEqProofs(maxSteps:=9^9)only[Tryz.f61,↓zA,sevalprocAttr,ajK,f1,f2,f7,fo,aa,f6,Nat.lt_irrefl,E,ai4]
   try rfl
  .simp -implicitDefEqProofs(maxSteps:=9^9)only[Tryz.f61,↓zA,sevalprocAttr,ajK,f1,f2,f7,fo,aa,f6,Nat.lt_irrefl,E,ai4]
theorem aMb (s:Sm) (id:Int) (hs:smW s≤LB) (h0:0≤id) (h9:id≤ee) (K:An→Prop):aG Tryz.prog pr 61 [.of (.agg (smC s)),.of (ci id)] [] K↔K ⟨false,kR (fO s.cs (id+1) s.kys),[]⟩:=ae.k (azs s id hs h0 h9) K
def fR:List Rf ⊕ Int→List X
 | .inl a=>[.of (slC rfC a),ak 0]
 | .inr e=>[.of (.sl [] 0),ak e]
theorem aG1 (a:List Rf):fR (.inl a)=[.of (slC rfC a),ak 0]:=rfl
theorem ael (e:Int):fR (.inr e)=[.of (.sl [] 0),ak e]:=rfl
theorem ahQ {cs:List Cd}:∀ {ks:List Kd} {id:Int} {a:List Ky},fO cs id ks=some a→∀ k∈a,k.cs.length≤cs.length∨∃ y∈ks,k.cs.length=y.ns.length
 | [],_,a,h=>by cases h;exact fun k hk=>by cases hk
 | y::r,id,a,h=>by
  unfold fO at h
  split at h
  .rename_i l q hl hq
   cases h
   intro k hk
   rcases List.mem_cons.1 hk with rfl|hk
   .exact .inr ⟨y,List.mem_cons_self ..,eJ hl⟩
   .rcases ahQ hq k hk with h1|⟨z,h1,h2⟩
    .exact .inl h1
    .exact .inr ⟨z,List.mem_cons_of_mem _ h1,h2⟩
  .cases h
def aav:=ai (ai (ai (ai @zq (ai @a1x @a1w)) (ai (ai @a1u @ayZ) (ai @ar4 @a1t))) (ai (ai @agt (ai @aep @aIn)) (ai (ai @aER @aIm) (ai @aEQ @cU)))) (ai (ai (ai @fa (ai @dH @jy)) (ai (ai @aaC @il) (ai @dw @d9))) (ai (ai (ai @jA @abM) (ai @cV @bH)) (ai (ai @Q9 @zT0) (ai @aDr (aw aSp)))))
theorem aoL (c:Ct) (s:Sm) (kys:List Ky) (hc:CtB c) (hs:smW s≤LB) (hy1:kys.length≤LB) (hy2:∀ k∈kys,k.cs.length≤LB):GN 62 [.of (.agg (ctC c)),.of (.agg (smC s)),.of (slC kyC kys)] (fR (eE c s.tb s.cs kys s.rfs)):=by
 obtain⟨h1,h2,h3,_,h4,h5,h6,_⟩:=abl s hs
 have h7:=hc.t
 have h8:=hc.tb
 have hlb:LB=1073741824:=rfl
 refine aj rfl aSp aDr rfl ?_
 simp -implicitDefEqProofs(maxSteps:=9^9)only[Tryz.f62,↓zA,sevalprocAttr,aav]
 refine aL (s.rfs.length) (fun k tk=>tk.fr 2=.of (slC kyC kys)∧tk.fr 3=.of (.ref [slC tbC c.tbs,slC ixC c.ixs,ci c.nx])∧tk.fr 4=.of (.ref (smL s))∧tk.fr 9=ak k∧∃ J A,tk.objs=J∧((A=[]∧tk.fr 8=.nil)∨∃ s8,Old tk.clk s8∧tk.fr 8=.own s8 99 3 (fl rfC A) A.length)∧A.length≤k∧eE c s.tb s.cs kys s.rfs=abz c s.tb s.cs kys A (s.rfs.drop k)) ?_ ?_
 .simp -implicitDefEqProofs(maxSteps:=9^9)only[Tryz.f62,↓zA,sevalprocAttr,aav]
  exact⟨[],[],rfl,.inl rfl,Nat.le_refl _,(amF c s.tb s.cs kys s.rfs).symm⟩
 rintro k ⟨frk,obk,ckk⟩ hk ⟨f2,f3,f4,f9,J,A,fo,hO,hA,E⟩
 dsimp only at f2 f3 f4 f9 fo hO
 rcases Nat.lt_or_ge k (s.rfs.length) with dk|dk
 .have hw:=aQ k (by omega)
  have gx:=ap dk
  obtain⟨hq,hq2⟩:=h6 _ (List.getElem_mem dk)
  rw[aJ dk] at E
  generalize s.rfs[k]=y at *
  have kp:=fun K=>abg s.cs y.ns (by omega) hq K
  have hn:A.length+1≤LIM:=by unfold LIM;omega
  cases hp:bC s.cs y.ns with
  | none =>
   have hr:cq c s.tb s.cs kys y=.inr 6:=by unfold cq;rw[hp]
   rw[gH hr] at E
   simp -implicitDefEqProofs(maxSteps:=9^9)only[Tryz.f62,↓zA,sevalprocAttr,aav,f2,f3,f4,f9,aa,fo,dk,gx,hw,kp,hp,ia,E,ael]
  | some l =>
   have hl:=eJ hp
   have hlr:=kE hp
   by_cases ht:y.tb=s.tb
   .have hk2:=hy2
    have kp2:=fun K=>abg s.cs y.to (by omega) hq2 K
    cases hp2:bC s.cs y.to with
    | none =>
     have hr:cq c s.tb s.cs kys y=.inr 6:=by unfold cq;simp only[hp,if_pos ht,hp2]
     rw[gH hr] at E
     simp -implicitDefEqProofs(maxSteps:=9^9)only[Tryz.f62,↓zA,sevalprocAttr,aav,f2,f3,f4,f9,aa,fo,dk,gx,hw,kp,hp,bP,av,aU,aN,List.length_append,eq_true ht,kp2,hp2,ia,E,ael]
    | some q =>
     have hl2:=eJ hp2
     have hqr:=kE hp2
     have e11:((l.length:Int)=(q.length:Int))=(l.length=q.length):=propext (by omega)
     by_cases c1:l.length=q.length
     rotate_left
     .have hr:cq c s.tb s.cs kys y=.inr 11:=by unfold cq;simp only[hp,if_pos ht,hp2];rw[if_pos c1]
      rw[gH hr] at E
      simp -implicitDefEqProofs(maxSteps:=9^9)only[Tryz.f62,↓zA,sevalprocAttr,aav,f2,f3,f4,f9,aa,fo,dk,gx,hw,kp,hp,bP,av,aU,aN,List.length_append,eq_true ht,kp2,hp2,e11,c1,E,ael]
     have kh:=fun K=>ae.k (ae9 kys q (by omega) (fun z hz=>by have:=hk2 z hz;omega)) K
     cases b2:fF kys q
     .have hr:cq c s.tb s.cs kys y=.inr 21:=by unfold cq;simp only[hp,if_pos ht,hp2];rw[if_neg (fun h=>h c1),b2];rfl
      rw[gH hr] at E
      simp -implicitDefEqProofs(maxSteps:=9^9)only[Tryz.f62,↓zA,sevalprocAttr,aav,f2,f3,f4,f9,aa,fo,dk,gx,hw,kp,hp,bP,av,aU,aN,List.length_append,eq_true ht,kp2,hp2,e11,eq_true c1,kh,b2,E,ael]
     have kt:=fun K=>ae.k (agb s.cs s.cs l q (by omega) hlr hqr) K
     have et:=aeF s.cs s.cs l q hqr
     cases b3:iI s.cs s.cs l q
     .have hr:cq c s.tb s.cs kys y=.inr 9:=by unfold cq;simp only[hp,if_pos ht,hp2];rw[if_neg (fun h=>h c1),b2,← et,b3];rfl
      rw[gH hr] at E
      simp -implicitDefEqProofs(maxSteps:=9^9)only[Tryz.f62,↓zA,sevalprocAttr,aav,f2,f3,f4,f9,aa,fo,dk,gx,hw,kp,hp,bP,av,aU,aN,List.length_append,eq_true ht,kp2,hp2,e11,eq_true c1,kh,b2,kt,b3,E,ael]
     have hr:cq c s.tb s.cs kys y=.inl ⟨l,y.tb,q⟩:=by unfold cq;simp only[hp,if_pos ht,hp2];rw[if_neg (fun h=>h c1),b2,← et,b3];rfl
     rw[acA hr] at E
     rcases hO with ⟨rfl,f8⟩|⟨s8,so,f8⟩
     .have E':=E
      simp -implicitDefEqProofs(maxSteps:=9^9)only[Tryz.f62,↓zA,sevalprocAttr,aav,f2,f3,f4,f9,aa,fo,dk,gx,hw,kp,hp,bP,av,aU,aN,List.length_append,eq_true ht,kp2,hp2,e11,eq_true c1,kh,b2,kt,b3,f8,ju]
      refine⟨_,[⟨l,y.tb,q⟩],rfl,⟨_,?_,rfl⟩,by simp,E⟩
      rw[Z68];omega
     .have hne:=fun ix i=>ib so (Nat.le_succ ckk) ix i
      simp -implicitDefEqProofs(maxSteps:=9^9)only[Tryz.f62,↓zA,sevalprocAttr,aav,f2,f3,f4,f9,aa,fo,dk,gx,hw,kp,hp,bP,av,aU,aN,List.length_append,eq_true ht,kp2,hp2,e11,eq_true c1,kh,b2,kt,b3,f8,hn,hne]
      refine⟨okT so (by omega) _,_,A++[⟨l,y.tb,q⟩],rfl,⟨_,?_,by rw[dD,d6,List.length_append];rfl⟩,by rw[List.length_append];simp;omega,E⟩
      rw[Z68];omega
   have ka:=fun K=>ae.k (acJ c y.tb (by omega)) K
   rcases jV (fun t:Tb=>decide (t.nm=y.tb)) c.tbs with ⟨hi,hf⟩|⟨j,hj,hi,hf⟩
   .have hfn:bx c y.tb=none:=hf
    have hr:cq c s.tb s.cs kys y=.inr 6:=by unfold cq;simp only[hp,if_neg ht,hfn,Option.map_none]
    rw[gH hr] at E
    simp -implicitDefEqProofs(maxSteps:=9^9)only[Tryz.f62,↓zA,sevalprocAttr,aav,f2,f3,f4,f9,aa,fo,dk,gx,hw,kp,hp,bP,av,aU,aN,List.length_append,ht,ka,hi,E,ael]
   have gj:=ap hj
   have hu:=h8 _ (List.getElem_mem hj)
   have hfn:bx c y.tb=some c.tbs[j]:=hf
   generalize c.tbs[j]=u at *
   have hu1:=hu.c
   have hu2:=hu.k
   have hk2:=hu.kc
   have kp2:=fun K=>abg u.cs y.to (by omega) hq2 K
   cases hp2:bC u.cs y.to with
   | none =>
    have hr:cq c s.tb s.cs kys y=.inr 6:=by unfold cq;simp only[hp,if_neg ht,hfn,Option.map_some,hp2]
    rw[gH hr] at E
    simp -implicitDefEqProofs(maxSteps:=9^9)only[Tryz.f62,↓zA,sevalprocAttr,aav,f2,f3,f4,f9,aa,fo,dk,gx,hw,kp,hp,bP,av,aU,aN,List.length_append,ht,ka,hi,fB,gj,kp2,hp2,ia,E,ael]
   | some q =>
    have hl2:=eJ hp2
    have hqr:=kE hp2
    have e11:((l.length:Int)=(q.length:Int))=(l.length=q.length):=propext (by omega)
    by_cases c1:l.length=q.length
    rotate_left
    .have hr:cq c s.tb s.cs kys y=.inr 11:=by unfold cq;simp only[hp,if_neg ht,hfn,Option.map_some,hp2];rw[if_pos c1]
     rw[gH hr] at E
     simp -implicitDefEqProofs(maxSteps:=9^9)only[Tryz.f62,↓zA,sevalprocAttr,aav,f2,f3,f4,f9,aa,fo,dk,gx,hw,kp,hp,bP,av,aU,aN,List.length_append,ht,ka,hi,fB,gj,kp2,hp2,e11,c1,E,ael]
    have kh:=fun K=>ae.k (ae9 u.kys q (by omega) (fun z hz=>by have:=hk2 z hz;omega)) K
    cases b2:fF u.kys q
    .have hr:cq c s.tb s.cs kys y=.inr 21:=by unfold cq;simp only[hp,if_neg ht,hfn,Option.map_some,hp2];rw[if_neg (fun h=>h c1),b2];rfl
     rw[gH hr] at E
     simp -implicitDefEqProofs(maxSteps:=9^9)only[Tryz.f62,↓zA,sevalprocAttr,aav,f2,f3,f4,f9,aa,fo,dk,gx,hw,kp,hp,bP,av,aU,aN,List.length_append,ht,ka,hi,fB,gj,kp2,hp2,e11,eq_true c1,kh,b2,E,ael]
    have kt:=fun K=>ae.k (agb s.cs u.cs l q (by omega) hlr hqr) K
    have et:=aeF s.cs u.cs l q hqr
    cases b3:iI s.cs u.cs l q
    .have hr:cq c s.tb s.cs kys y=.inr 9:=by unfold cq;simp only[hp,if_neg ht,hfn,Option.map_some,hp2];rw[if_neg (fun h=>h c1),b2,← et,b3];rfl
     rw[gH hr] at E
     simp -implicitDefEqProofs(maxSteps:=9^9)only[Tryz.f62,↓zA,sevalprocAttr,aav,f2,f3,f4,f9,aa,fo,dk,gx,hw,kp,hp,bP,av,aU,aN,List.length_append,ht,ka,hi,fB,gj,kp2,hp2,e11,eq_true c1,kh,b2,kt,b3,E,ael]
    have hr:cq c s.tb s.cs kys y=.inl ⟨l,y.tb,q⟩:=by unfold cq;simp only[hp,if_neg ht,hfn,Option.map_some,hp2];rw[if_neg (fun h=>h c1),b2,← et,b3];rfl
    rw[acA hr] at E
    rcases hO with ⟨rfl,f8⟩|⟨s8,so,f8⟩
    .have E':=E
     simp -implicitDefEqProofs(maxSteps:=9^9)only[Tryz.f62,↓zA,sevalprocAttr,aav,f2,f3,f4,f9,aa,fo,dk,gx,hw,kp,hp,bP,av,aU,aN,List.length_append,ht,ka,hi,fB,gj,kp2,hp2,e11,eq_true c1,kh,b2,kt,b3,f8,ju]
     refine⟨_,[⟨l,y.tb,q⟩],rfl,⟨_,?_,rfl⟩,by simp,E⟩
     rw[Z68];omega
    .have hne:=fun ix i=>ib so (Nat.le_succ ckk) ix i
     simp -implicitDefEqProofs(maxSteps:=9^9)only[Tryz.f62,↓zA,sevalprocAttr,aav,f2,f3,f4,f9,aa,fo,dk,gx,hw,kp,hp,bP,av,aU,aN,List.length_append,ht,ka,hi,fB,gj,kp2,hp2,e11,eq_true c1,kh,b2,kt,b3,f8,hn,hne]
     refine⟨okT so (by omega) _,_,A++[⟨l,y.tb,q⟩],rfl,⟨_,?_,by rw[dD,d6,List.length_append];rfl⟩,by rw[List.length_append];simp;omega,E⟩
     rw[Z68];omega
 .have e:k=s.rfs.length:=by omega
  subst e
  rw[List.drop_length,ahs] at E
  rcases hO with ⟨rfl,f8⟩|⟨s8,so,f8⟩
  .simp -implicitDefEqProofs(maxSteps:=9^9)only[Tryz.f62,↓zA,sevalprocAttr,aav,f2,f3,f4,f9,aa,fo,f8,Nat.lt_irrefl,E,aG1]
   try rfl
  .simp -implicitDefEqProofs(maxSteps:=9^9)only[Tryz.f62,↓zA,sevalprocAttr,aav,f2,f3,f4,f9,aa,fo,f8,Nat.lt_irrefl,E,aG1]
theorem ayJ (c:Ct) (s:Sm) (kys:List Ky) (hc:CtB c) (hs:smW s≤LB) (hy1:kys.length≤LB) (hy2:∀ k∈kys,k.cs.length≤LB) (K:An→Prop):aG Tryz.prog pr 62 [.of (.agg (ctC c)),.of (.agg (smC s)),.of (slC kyC kys)] [] K↔K ⟨false,fR (eE c s.tb s.cs kys s.rfs),[]⟩:=ae.k (aoL c s kys hc hs hy1 hy2) K
def aVE:=ai (ai @zq (ai @aYW @dw)) (ai (ai @Q9 @zT0) (ai @aw0 (aw aK8)))
theorem aqN (y:Cd) (x:List UInt8):G1 102 [.of (.agg (cdC y)),.of (.ref [ao (ar x)])] (ah (decide (y.nm=x))):=by
 refine aj rfl aK8 aw0 rfl ?_
 simp -implicitDefEqProofs(maxSteps:=9^9)only[Tryz.f102,↓zA,sevalprocAttr,aVE,av]
def aVA:=ai (ai @zq (ai @aYN @fb)) (ai (ai @Q9 @zT0) (ai @awT (aw aK1)))
theorem aoI (y:Ix) (x:List UInt8):G1 109 [.of (.agg (ixC y)),.of (.ref [ao (ar x)])] (ah (decide (y.nm=x))):=by
 refine aj rfl aK1 awT rfl ?_
 simp -implicitDefEqProofs(maxSteps:=9^9)only[Tryz.f109,↓zA,sevalprocAttr,aVA,av]
def ajM:=ai (ai (ai @zq (ai @aYX @T9)) (ai (ai @aCA @ax0) (ai @dw @bH))) (ai (ai @cV (ai @aCz @axZ)) (ai (ai @Q9 @zT0) (ai @aDz (aw aSx))))
theorem js (l:List Cd) (ns:List (List UInt8)) (hl:l.length≤4611686018427387903) (h:ns.length≤LB):GN 53 [.of (slC cdC l),.of (slC bd ns)] (plR (bC l ns)):=by
 simp only[LB] at h
 refine aj rfl aSx aDz rfl ?_
 simp -implicitDefEqProofs(maxSteps:=9^9)only[Tryz.f53,↓zA,sevalprocAttr,ajM]
 refine aL (ns.length) (fun k tk=>tk.fr 0=.of (slC cdC l)∧tk.fr 10=.of (slC bd ns)∧tk.fr 11=ak ns.length∧tk.fr 12=ak k∧tk.objs=[]∧∃ A,A.length≤k∧bC l ns=kG l A (ns.drop k)∧((A=[]∧tk.fr 6=.nil)∨∃ s6,Old tk.clk s6∧tk.fr 6=.own s6 3 1 (fl aV A) A.length)) ?_ ?_
 .simp -implicitDefEqProofs(maxSteps:=9^9)only[Tryz.f53,↓zA,sevalprocAttr,ajM]
  exact⟨[],Nat.le_refl _,(anQ l ns).symm,.inl rfl⟩
 rintro k ⟨frk,obk,ckk⟩ hk ⟨f0,f10,f11,f12,fo,A,hA,E,hO⟩
 dsimp only at f0 f10 f11 f12 fo hO
 rcases Nat.lt_or_ge k (ns.length) with dk|dk
 .have hw:=aQ k (by omega)
  have gx:=ap dk
  rw[aJ dk] at E
  generalize ns[k]=x at *
  have kc:=fun K=>amf l (fun c=>decide (c.nm=x)) 102 [.ref [ao (ar x)]] ⟨hl,aCz,axZ,fun y _=>aqN y x⟩ K
  have hn:A.length+1≤LIM:=by unfold LIM;omega
  rcases aoj l x with ⟨hc,hi⟩|⟨j,hc,hi⟩
  .rw[ak4 hc] at E
   simp -implicitDefEqProofs(maxSteps:=9^9)only[Tryz.f53,↓zA,sevalprocAttr,ajM,f0,f10,f11,f12,fo,aa,dk,gx,hw,kc,hi,E,ia]
  .rw[ak3 hc] at E
   rcases hO with ⟨hA0,f6⟩|⟨s6,so,f6⟩
   .subst hA0
    simp -implicitDefEqProofs(maxSteps:=9^9)only[Tryz.f53,↓zA,sevalprocAttr,ajM,f0,f10,f11,f12,fo,aa,f6,dk,gx,hw,kc,hi,fB,jS]
    exact⟨[(j:Int)],by simp,E,_,by rw[Z68];omega,rfl⟩
   .have hne:=fun ix i=>ib so (Nat.le_succ ckk) ix i
    simp -implicitDefEqProofs(maxSteps:=9^9)only[Tryz.f53,↓zA,sevalprocAttr,ajM,f0,f10,f11,f12,fo,aa,f6,dk,gx,hw,kc,hi,fB,hn,hne]
    refine⟨okT so (by omega) _,A++[(j:Int)],by rw[List.length_append];simp;omega,E,_,?_,by rw[dD,d6,List.length_append];rfl⟩
    rw[Z68];omega
 .have e:k=ns.length:=by omega
  subst e
  rw[List.drop_length,ajC] at E
  rcases hO with ⟨hA0,f6⟩|⟨s6,so,f6⟩
  .subst hA0
   simp -implicitDefEqProofs(maxSteps:=9^9)only[Tryz.f53,↓zA,sevalprocAttr,ajM,f0,f10,f11,f12,fo,aa,f6,Nat.lt_irrefl,E,bP]
   try rfl
  .skip
   simp -implicitDefEqProofs(maxSteps:=9^9)only[Tryz.f53,↓zA,sevalprocAttr,ajM,f0,f10,f11,f12,fo,aa,f6,Nat.lt_irrefl,E,bP]
   try rfl
def a0w:=ai (ai (ai @zq (ai @aYP @aYO)) (ai (ai @T9 @aIB) (ai @aE5 @cU))) (ai (ai @fb (ai @aCy @axY)) (ai (ai @Q9 @zT0) (ai @aDv (aw aSt))))
theorem ad5 (c:Ct) (x:List UInt8) (h:c.ixs.length≤4611686018427387903):G1 58 [.of (.agg (ctC c)),.of (ao (ar x))] (ah (gg c x)):=by
 have k:=fun K=>aot c.ixs (fun y=>decide (y.nm=x)) 109 [.ref [ao (ar x)]] ⟨h,aCy,axY,fun y _=>aoI y x⟩ K
 have e:(c.ixs.any fun y=>decide (y.nm=x))=gg c x:=rfl
 refine aj rfl aSt aDv rfl ?_
 simp -implicitDefEqProofs(maxSteps:=9^9)only[Tryz.f58,↓zA,sevalprocAttr,a0w,k,e]
def aVF:=ai (ai (ai @zq @aYQ) (ai @ak9 @aif)) (ai (ai @jy @bH) (ai @zT0 (ai @aw2 (aw aLa))))
theorem asN (f:Rd) (h:f.ns.length≤LB):G1 100 [.of (.agg (rdC f))] (ah (!decide f.ns.Nodup)):=by
 have hl:f.ns.length≤4611686018427387903:=by simp only[LB] at h;omega
 refine aj rfl aLa aw2 rfl ?_
 simp -implicitDefEqProofs(maxSteps:=9^9)only[Tryz.f100,↓zA,sevalprocAttr,aVF,co,hl]
def gS:=ai (ai (ai (ai (ai @zq @aYV) (ai @aYU @agu)) (ai (ai @aeq @aYT) (ai @aYS @ak9))) (ai (ai (ai @aif @aYR) (ai @ay2 @ar7)) (ai (ai @aIv @aEZ) (ai @aIh @aEL)))) (ai (ai (ai (ai @cU @fa) (ai @dH @dw)) (ai (ai @jz @jy) (ai @cE @bH))) (ai (ai (ai @gG @aCB) (ai @ax1 @Q9)) (ai (ai @Q4 @zT0) (ai @aDA (aw aSy)))))
theorem aqt (c:Ct) (s:Sm) (hc:CtB c) (hs:smW s≤LB):G1 49 [.of (.agg (ctC c)),.of (.agg (smC s))] (ah (dc c s)):=by
 obtain⟨h1,h2,h3,_,h4,h5,h6,_⟩:=abl s hs
 have h7:=hc.x
 have h8:=hc.t
 have hlb:LB=1073741824:=rfl
 have hT:dc c s=((bx c s.tb).isSome||!decide (s.cs.map Cd.nm).Nodup||decide (1<(s.kys.filter Kd.pr).length)||eW c s.tb 0 s.kys||s.rfs.any fun f=>!decide f.ns.Nodup):=rfl
 have hP:∀ k (h:k<s.kys.length),((s.kys.take (k+1)).filter Kd.pr).length=((s.kys.take k).filter Kd.pr).length+(if s.kys[k].pr then 1 else 0):=fun k h=>by
   rw[gR h,List.filter_append,List.length_append]
   cases hb:s.kys[k].pr <;> simp[hb]
 have hPl:∀ k,((s.kys.take k).filter Kd.pr).length≤(s.kys.filter Kd.pr).length:=fun k=>by
   conv=>rhs;rw[← List.take_append_drop k s.kys,List.filter_append,List.length_append]
   omega
 have kF:=fun K=>ae.k (aaT c s.tb (by omega)) K
 have kr:=fun K=>amg s.rfs (fun f=>!decide f.ns.Nodup) 100 [] ⟨by omega,aCB,ax1,fun f hf=>asN f (h6 f hf).1⟩ K
 have nS:∀ K,aG Tryz.prog pr 24 [.of (.sl [] 0)] [] K↔K ⟨false,[ah true],[]⟩:=fun K=>ae.k (jc [] (Nat.zero_le _)) K
 have hu3:(s.cs.map Cd.nm).length≤4611686018427387903:=by rw[List.length_map];omega
 have q3:=fun K=>ae.k (jc (s.cs.map Cd.nm) hu3) K
 have es3:C.sl (fl bd (s.cs.map Cd.nm)) s.cs.length=slC bd (s.cs.map Cd.nm):=by unfold slC;rw[List.length_map]
 have e1:∀ n:Nat,((1:Int)<(n:Int))=(1<n):=fun n=>propext (by omega)
 refine aj rfl aSy aDA rfl ?_
 cases bf:bx c s.tb with
 | some t =>
  have F:dc c s=true:=by rw[hT,bf];rfl
  simp -implicitDefEqProofs(maxSteps:=9^9)only[Tryz.f49,↓zA,sevalprocAttr,gS,kF,bf,fq,F]
 | none =>
  simp -implicitDefEqProofs(maxSteps:=9^9)only[Tryz.f49,↓zA,sevalprocAttr,gS,kF,bf,aaH]
  refine aL (s.cs.length) (fun k tk=>tk.fr 2=.of (.ref [slC tbC c.tbs,slC ixC c.ixs,ci c.nx])∧tk.fr 3=.of (.ref (smL s))∧tk.fr 22=.of (slC cdC s.cs)∧tk.fr 23=ak s.cs.length∧tk.fr 24=ak k∧tk.objs=[]∧((k=0∧tk.fr 7=.nil)∨∃ s7,Old tk.clk s7∧tk.fr 7=.own s7 9 1 (fl bd ((s.cs.map Cd.nm).take k)) k)) ?_ ?_
  .simp -implicitDefEqProofs(maxSteps:=9^9)only[Tryz.f49,↓zA,sevalprocAttr,gS]
   try exact .inl trivial
  rintro k ⟨frk,obk,ckk⟩ hk ⟨f2,f3,f22,f23,f24,fo,hO⟩
  dsimp only at f2 f3 f22 f23 f24 fo hO
  rcases Nat.lt_or_ge k (s.cs.length) with dk|dk
  .have hw:=aQ k (by omega)
   have gx:=ap dk
   have d1:k<(s.cs.map Cd.nm).length:=by rw[List.length_map];exact dk
   have ek1:(s.cs.map Cd.nm).take (k+1)=(s.cs.map Cd.nm).take k++[s.cs[k].nm]:=by rw[gR d1,List.getElem_map]
   rw[ek1,dD,d6]
   generalize s.cs[k]=x at *
   have hk1:k+1≤LIM:=by unfold LIM;omega
   rcases hO with ⟨hk0,f7⟩|⟨s7,o7,f7⟩
   .skip
    simp -implicitDefEqProofs(maxSteps:=9^9)only[Tryz.f49,↓zA,sevalprocAttr,gS,f2,f3,f22,f23,f24,fo,aa,dk,gx,hw,f7,hk1,jS]
    subst hk0
    exact⟨_,by rw[Z68];omega,rfl⟩
   .have hne:=fun ix i=>ib o7 (Nat.le_succ ckk) ix i
    simp -implicitDefEqProofs(maxSteps:=9^9)only[Tryz.f49,↓zA,sevalprocAttr,gS,f2,f3,f22,f23,f24,fo,aa,dk,gx,hw,f7,hk1,hne]
    exact⟨okT o7 (by omega) _,_,by rw[Z68];omega,rfl⟩
  have e:k=s.cs.length:=by omega
  subst e
  rw[List.take_of_length_le (by rw[List.length_map];omega)] at hO
  rcases hO with ⟨hk0,f7⟩|⟨s7,o7,f7⟩
  .have zt:s.cs=[]:=List.eq_nil_of_length_eq_zero hk0
   have n1:(s.cs.map Cd.nm).Nodup:=by rw[zt];exact List.nodup_nil
   have lt0:((0:Int)<(s.cs.length:Int))=False:=by simp only[eq_iff_iff,iff_false];omega
   simp -implicitDefEqProofs(maxSteps:=9^9)only[Tryz.f49,↓zA,sevalprocAttr,gS,f2,f3,f22,f23,f24,fo,aa,f7,nS,lt0,Nat.lt_irrefl]
   refine aL (s.kys.length) (fun m tm=>tm.fr 2=.of (.ref [slC tbC c.tbs,slC ixC c.ixs,ci c.nx])∧tm.fr 3=.of (.ref (smL s))∧tm.fr 38=.of (slC kdC s.kys)∧tm.fr 39=ak s.kys.length∧tm.fr 10=ak (((s.kys.take m).filter Kd.pr).length:Nat)∧tm.fr 40=ak m∧tm.objs=[]∧eW c s.tb 0 s.kys=eW c s.tb m (s.kys.drop m)∧((s.kys.take m).filter Kd.pr).length≤1) ?_ ?_
   .simp -implicitDefEqProofs(maxSteps:=9^9)only[Tryz.f49,↓zA,sevalprocAttr,gS,f2,f3,f22,f23,f24,fo,aa,f7,nS,lt0]
    try exact⟨rfl,Nat.zero_le _⟩
   rintro m ⟨frm,obm,ckm⟩ hm ⟨g2,g3,g38,g39,g10,g40,go,Em,hle⟩
   dsimp only at g2 g3 g38 g39 g10 g40 go
   rcases Nat.lt_or_ge m (s.kys.length) with dm|dm
   .have hw:=aQ m (by omega)
    have gx:=ap dm
    have hp:=hP m dm
    have hpl:=hPl (m+1)
    have hwc:=aQ ((s.kys.take m).filter Kd.pr).length (by omega)
    have hq:=h5 _ (List.getElem_mem dm)
    rw[aJ dm,ad1] at Em
    generalize s.kys[m]=y at *
    have hq':y.ns.length≤4611686018427387903:=by omega
    have kn:=fun K=>ae.k (ad5 c (cy s.tb (m+1)) (by omega)) K
    have hm':m≤LB:=by omega
    generalize hj:((s.kys.take m).filter Kd.pr).length=j at *
    cases bp:y.pr
    .rw[bp] at hp
     simp only[Bool.false_eq_true,if_false,if_true,Nat.add_zero] at hp
     rw[hp] at hpl ⊢
     have bq:(y.pr=true)=False:=by rw[bp];simp
     by_cases c0:y.ns.Nodup
     rotate_left
     .have F:dc c s=true:=by rw[hT,Em];simp[c0]
      simp -implicitDefEqProofs(maxSteps:=9^9)only[Tryz.f49,↓zA,sevalprocAttr,gS,g2,g3,g38,g39,g10,g40,go,aa,dm,gx,hw,bq,hwc,co,hq',du,h4,hm',and_self,kn,e1,c0,F]
     by_cases c1:1<j
     .have F:dc c s=true:=by rw[hT,decide_eq_true (show 1<(s.kys.filter Kd.pr).length by omega)];simp
      simp -implicitDefEqProofs(maxSteps:=9^9)only[Tryz.f49,↓zA,sevalprocAttr,gS,g2,g3,g38,g39,g10,g40,go,aa,dm,gx,hw,bq,hwc,co,hq',du,h4,hm',and_self,kn,e1,c0,c1,F]
     cases b1:gg c (cy s.tb (m+1))
     rotate_left
     .have F:dc c s=true:=by rw[hT,Em];simp[b1]
      simp -implicitDefEqProofs(maxSteps:=9^9)only[Tryz.f49,↓zA,sevalprocAttr,gS,g2,g3,g38,g39,g10,g40,go,aa,dm,gx,hw,bq,hwc,co,hq',du,h4,hm',and_self,kn,e1,c0,c1,b1,F]
     rw[decide_eq_true c0,b1,Bool.not_true,Bool.false_or,Bool.false_or] at Em
     simp -implicitDefEqProofs(maxSteps:=9^9)only[Tryz.f49,↓zA,sevalprocAttr,gS,g2,g3,g38,g39,g10,g40,go,aa,dm,gx,hw,bq,hwc,co,hq',du,h4,hm',and_self,kn,e1,c0,c1,b1]
     exact⟨Em,by omega⟩
    .rw[bp] at hp
     simp only[Bool.false_eq_true,if_false,if_true,Nat.add_zero] at hp
     rw[hp] at hpl ⊢
     have bq:(y.pr=true)=True:=by rw[bp];simp
     by_cases c0:y.ns.Nodup
     rotate_left
     .have F:dc c s=true:=by rw[hT,Em];simp[c0]
      simp -implicitDefEqProofs(maxSteps:=9^9)only[Tryz.f49,↓zA,sevalprocAttr,gS,g2,g3,g38,g39,g10,g40,go,aa,dm,gx,hw,bq,hwc,co,hq',du,h4,hm',and_self,kn,e1,c0,F]
     by_cases c1:1<j+1
     .have F:dc c s=true:=by rw[hT,decide_eq_true (show 1<(s.kys.filter Kd.pr).length by omega)];simp
      simp -implicitDefEqProofs(maxSteps:=9^9)only[Tryz.f49,↓zA,sevalprocAttr,gS,g2,g3,g38,g39,g10,g40,go,aa,dm,gx,hw,bq,hwc,co,hq',du,h4,hm',and_self,kn,e1,c0,c1,F]
     cases b1:gg c (cy s.tb (m+1))
     rotate_left
     .have F:dc c s=true:=by rw[hT,Em];simp[b1]
      simp -implicitDefEqProofs(maxSteps:=9^9)only[Tryz.f49,↓zA,sevalprocAttr,gS,g2,g3,g38,g39,g10,g40,go,aa,dm,gx,hw,bq,hwc,co,hq',du,h4,hm',and_self,kn,e1,c0,c1,b1,F]
     rw[decide_eq_true c0,b1,Bool.not_true,Bool.false_or,Bool.false_or] at Em
     simp -implicitDefEqProofs(maxSteps:=9^9)only[Tryz.f49,↓zA,sevalprocAttr,gS,g2,g3,g38,g39,g10,g40,go,aa,dm,gx,hw,bq,hwc,co,hq',du,h4,hm',and_self,kn,e1,c0,c1,b1]
     exact⟨Em,by omega⟩
   have e:m=s.kys.length:=by omega
   subst e
   rw[List.drop_length,adl] at Em
   rw[List.take_length] at g10 hle
   have F:dc c s=s.rfs.any fun f=>!decide f.ns.Nodup:=by rw[hT,bf,Em,decide_eq_true n1,decide_eq_false (show ¬1<(s.kys.filter Kd.pr).length by omega)];rfl
   simp -implicitDefEqProofs(maxSteps:=9^9)only[Tryz.f49,↓zA,sevalprocAttr,gS,g2,g3,g38,g39,g10,g40,go,aa,Nat.lt_irrefl,kr,F]
  .by_cases n1:(s.cs.map Cd.nm).Nodup
   rotate_left
   .have F:dc c s=true:=by rw[hT,decide_eq_false n1];simp
    simp -implicitDefEqProofs(maxSteps:=9^9)only[Tryz.f49,↓zA,sevalprocAttr,gS,f2,f3,f22,f23,f24,fo,aa,f7,Nat.lt_irrefl,es3,q3,n1,F]
   simp -implicitDefEqProofs(maxSteps:=9^9)only[Tryz.f49,↓zA,sevalprocAttr,gS,f2,f3,f22,f23,f24,fo,aa,f7,es3,q3,n1,Nat.lt_irrefl]
   refine aL (s.kys.length) (fun m tm=>tm.fr 2=.of (.ref [slC tbC c.tbs,slC ixC c.ixs,ci c.nx])∧tm.fr 3=.of (.ref (smL s))∧tm.fr 38=.of (slC kdC s.kys)∧tm.fr 39=ak s.kys.length∧tm.fr 10=ak (((s.kys.take m).filter Kd.pr).length:Nat)∧tm.fr 40=ak m∧tm.objs=[]∧eW c s.tb 0 s.kys=eW c s.tb m (s.kys.drop m)∧((s.kys.take m).filter Kd.pr).length≤1) ?_ ?_
   .simp -implicitDefEqProofs(maxSteps:=9^9)only[Tryz.f49,↓zA,sevalprocAttr,gS,f2,f3,f22,f23,f24,fo,aa,f7,es3,q3,n1]
    try exact⟨rfl,Nat.zero_le _⟩
   rintro m ⟨frm,obm,ckm⟩ hm ⟨g2,g3,g38,g39,g10,g40,go,Em,hle⟩
   dsimp only at g2 g3 g38 g39 g10 g40 go
   rcases Nat.lt_or_ge m (s.kys.length) with dm|dm
   .have hw:=aQ m (by omega)
    have gx:=ap dm
    have hp:=hP m dm
    have hpl:=hPl (m+1)
    have hwc:=aQ ((s.kys.take m).filter Kd.pr).length (by omega)
    have hq:=h5 _ (List.getElem_mem dm)
    rw[aJ dm,ad1] at Em
    generalize s.kys[m]=y at *
    have hq':y.ns.length≤4611686018427387903:=by omega
    have kn:=fun K=>ae.k (ad5 c (cy s.tb (m+1)) (by omega)) K
    have hm':m≤LB:=by omega
    generalize hj:((s.kys.take m).filter Kd.pr).length=j at *
    cases bp:y.pr
    .rw[bp] at hp
     simp only[Bool.false_eq_true,if_false,if_true,Nat.add_zero] at hp
     rw[hp] at hpl ⊢
     have bq:(y.pr=true)=False:=by rw[bp];simp
     by_cases c0:y.ns.Nodup
     rotate_left
     .have F:dc c s=true:=by rw[hT,Em];simp[c0]
      simp -implicitDefEqProofs(maxSteps:=9^9)only[Tryz.f49,↓zA,sevalprocAttr,gS,g2,g3,g38,g39,g10,g40,go,aa,dm,gx,hw,bq,hwc,co,hq',du,h4,hm',and_self,kn,e1,c0,F]
     by_cases c1:1<j
     .have F:dc c s=true:=by rw[hT,decide_eq_true (show 1<(s.kys.filter Kd.pr).length by omega)];simp
      simp -implicitDefEqProofs(maxSteps:=9^9)only[Tryz.f49,↓zA,sevalprocAttr,gS,g2,g3,g38,g39,g10,g40,go,aa,dm,gx,hw,bq,hwc,co,hq',du,h4,hm',and_self,kn,e1,c0,c1,F]
     cases b1:gg c (cy s.tb (m+1))
     rotate_left
     .have F:dc c s=true:=by rw[hT,Em];simp[b1]
      simp -implicitDefEqProofs(maxSteps:=9^9)only[Tryz.f49,↓zA,sevalprocAttr,gS,g2,g3,g38,g39,g10,g40,go,aa,dm,gx,hw,bq,hwc,co,hq',du,h4,hm',and_self,kn,e1,c0,c1,b1,F]
     rw[decide_eq_true c0,b1,Bool.not_true,Bool.false_or,Bool.false_or] at Em
     simp -implicitDefEqProofs(maxSteps:=9^9)only[Tryz.f49,↓zA,sevalprocAttr,gS,g2,g3,g38,g39,g10,g40,go,aa,dm,gx,hw,bq,hwc,co,hq',du,h4,hm',and_self,kn,e1,c0,c1,b1]
     exact⟨Em,by omega⟩
    .rw[bp] at hp
     simp only[Bool.false_eq_true,if_false,if_true,Nat.add_zero] at hp
     rw[hp] at hpl ⊢
     have bq:(y.pr=true)=True:=by rw[bp];simp
     by_cases c0:y.ns.Nodup
     rotate_left
     .have F:dc c s=true:=by rw[hT,Em];simp[c0]
      simp -implicitDefEqProofs(maxSteps:=9^9)only[Tryz.f49,↓zA,sevalprocAttr,gS,g2,g3,g38,g39,g10,g40,go,aa,dm,gx,hw,bq,hwc,co,hq',du,h4,hm',and_self,kn,e1,c0,F]
     by_cases c1:1<j+1
     .have F:dc c s=true:=by rw[hT,decide_eq_true (show 1<(s.kys.filter Kd.pr).length by omega)];simp
      simp -implicitDefEqProofs(maxSteps:=9^9)only[Tryz.f49,↓zA,sevalprocAttr,gS,g2,g3,g38,g39,g10,g40,go,aa,dm,gx,hw,bq,hwc,co,hq',du,h4,hm',and_self,kn,e1,c0,c1,F]
     cases b1:gg c (cy s.tb (m+1))
     rotate_left
     .have F:dc c s=true:=by rw[hT,Em];simp[b1]
      simp -implicitDefEqProofs(maxSteps:=9^9)only[Tryz.f49,↓zA,sevalprocAttr,gS,g2,g3,g38,g39,g10,g40,go,aa,dm,gx,hw,bq,hwc,co,hq',du,h4,hm',and_self,kn,e1,c0,c1,b1,F]
     rw[decide_eq_true c0,b1,Bool.not_true,Bool.false_or,Bool.false_or] at Em
     simp -implicitDefEqProofs(maxSteps:=9^9)only[Tryz.f49,↓zA,sevalprocAttr,gS,g2,g3,g38,g39,g10,g40,go,aa,dm,gx,hw,bq,hwc,co,hq',du,h4,hm',and_self,kn,e1,c0,c1,b1]
     exact⟨Em,by omega⟩
   have e:m=s.kys.length:=by omega
   subst e
   rw[List.drop_length,adl] at Em
   rw[List.take_length] at g10 hle
   have F:dc c s=s.rfs.any fun f=>!decide f.ns.Nodup:=by rw[hT,bf,Em,decide_eq_true n1,decide_eq_false (show ¬1<(s.kys.filter Kd.pr).length by omega)];rfl
   simp -implicitDefEqProofs(maxSteps:=9^9)only[Tryz.f49,↓zA,sevalprocAttr,gS,g2,g3,g38,g39,g10,g40,go,aa,Nat.lt_irrefl,kr,F]
theorem aBC (c:Ct) (s:Sm) (hc:CtB c) (hs:smW s≤LB) (K:An→Prop):aG Tryz.prog pr 49 [.of (.agg (ctC c)),.of (.agg (smC s))] [] K↔K ⟨false,[ah (dc c s)],[]⟩:=ae.k (aqt c s hc hs) K
def afO:=ai (ai (ai (ai @zq (ai @a1N @a1M)) (ai @a1L (ai @agt @aep))) (ai (ai @ayW (ai @ar2 @aIn)) (ai @aER (ai @aIm @aEQ)))) (ai (ai (ai @cU (ai @dH @dw)) (ai @aaC (ai @il @d9))) (ai (ai @cE (ai @abM @cV)) (ai (ai @Q9 @zT0) (ai @aDJ (aw aSG)))))
theorem aBF (c:Ct) (t:Tb) (hc:CtB c) (ht:TbB t):G1 40 [.of (.agg (ctC c)),.of (.agg (tbC t))] (ah (t.rfs.all (aab c t))):=by
 have h1:=ht.f
 have h2:=ht.fc
 have h3:=ht.ft
 have h4:=hc.t
 have h5:=hc.tb
 have hlb:LB=1073741824:=rfl
 refine aj rfl aSG aDJ rfl ?_
 simp -implicitDefEqProofs(maxSteps:=9^9)only[Tryz.f40,↓zA,sevalprocAttr,afO]
 refine aL (t.rfs.length) (fun k tk=>tk.fr 2=.of (.ref [slC tbC c.tbs,slC ixC c.ixs,ci c.nx])∧tk.fr 3=.of (.ref [ao (ar t.nm),ci t.id,slC cdC t.cs,slC kyC t.kys,slC rfC t.rfs,slC xpC t.chs])∧tk.fr 5=ak k∧tk.objs=[]∧t.rfs.all (aab c t)=(t.rfs.drop k).all (aab c t)) ?_ ?_
 .simp -implicitDefEqProofs(maxSteps:=9^9)only[Tryz.f40,↓zA,sevalprocAttr,afO]
  try exact rfl
 rintro k ⟨frk,obk,ckk⟩ hk ⟨f2,f3,f5,fo,Ek⟩
 dsimp only at f2 f3 f5 fo
 rcases Nat.lt_or_ge k (t.rfs.length) with dk|dk
 .have hw:=aQ k (by omega)
  have gx:=ap dk
  have hx:=h2 _ (List.getElem_mem dk)
  have hy:=h3 _ (List.getElem_mem dk)
  rw[aJ dk,hM] at Ek
  generalize t.rfs[k]=f at *
  have hx':f.cs.length≤4611686018427387903:=by omega
  have hy':f.to.length≤4611686018427387903:=by omega
  have ka:=fun K=>ae.k (acJ c f.tb (by omega)) K
  rcases jV (fun t:Tb=>decide (t.nm=f.tb)) c.tbs with ⟨hi,hf⟩|⟨j,hj,hi,hf⟩
  .have hr:aab c t f=false:=by unfold aab bx;rw[hf]
   rw[hr,Bool.false_and] at Ek
   simp -implicitDefEqProofs(maxSteps:=9^9)only[Tryz.f40,↓zA,sevalprocAttr,afO,f2,f3,f5,fo,aa,dk,gx,hw,ka,hi,Ek]
  have gj:=ap hj
  have hu:=h5 _ (List.getElem_mem hj)
  generalize c.tbs[j]=u at *
  have hr:aab c t f=(bN f.cs t.cs.length&&(bN f.to u.cs.length&&(fF u.kys f.to&&(iI t.cs u.cs f.cs f.to&&decide (f.cs.length=f.to.length))))):=by unfold aab bx;rw[hf]
  rw[hr] at Ek
  have hk1:=hu.k
  have hk2:=hu.kc
  have kh:=fun K=>ae.k (ae9 u.kys f.to (by omega) (fun q hq=>by have:=hk2 q hq;omega)) K
  cases b0:bN f.cs t.cs.length
  .have F:t.rfs.all (aab c t)=false:=by rw[Ek];simp[b0]
   simp -implicitDefEqProofs(maxSteps:=9^9)only[Tryz.f40,↓zA,sevalprocAttr,afO,f2,f3,f5,fo,aa,dk,gx,hw,ka,hi,fB,gj,iO,hx',hy',kh,b0,F]
  cases b1:bN f.to u.cs.length
  .have F:t.rfs.all (aab c t)=false:=by rw[Ek];simp[b0,b1]
   simp -implicitDefEqProofs(maxSteps:=9^9)only[Tryz.f40,↓zA,sevalprocAttr,afO,f2,f3,f5,fo,aa,dk,gx,hw,ka,hi,fB,gj,iO,hx',hy',kh,b0,b1,F]
  cases b2:fF u.kys f.to
  .have F:t.rfs.all (aab c t)=false:=by rw[Ek];simp[b0,b1,b2]
   simp -implicitDefEqProofs(maxSteps:=9^9)only[Tryz.f40,↓zA,sevalprocAttr,afO,f2,f3,f5,fo,aa,dk,gx,hw,ka,hi,fB,gj,iO,hx',hy',kh,b0,b1,b2,F]
  have kt:=fun K=>ae.k (agb t.cs u.cs f.cs f.to hx' ((Go.Tab.within_iff _ _).1 b0).2.2 ((Go.Tab.within_iff _ _).1 b1).2.2) K
  cases b3:(iI t.cs u.cs f.cs f.to&&decide (f.cs.length=f.to.length))
  .have F:t.rfs.all (aab c t)=false:=by rw[Ek];simp[b0,b1,b2,b3]
   simp -implicitDefEqProofs(maxSteps:=9^9)only[Tryz.f40,↓zA,sevalprocAttr,afO,f2,f3,f5,fo,aa,dk,gx,hw,ka,hi,fB,gj,iO,hx',hy',kh,kt,b0,b1,b2,b3,F]
  have F:t.rfs.all (aab c t)=(t.rfs.drop (k+1)).all (aab c t):=by rw[Ek,b0,b1,b2,b3];rfl
  simp -implicitDefEqProofs(maxSteps:=9^9)only[Tryz.f40,↓zA,sevalprocAttr,afO,f2,f3,f5,fo,aa,dk,gx,hw,ka,hi,fB,gj,iO,hx',hy',kh,kt,b0,b1,b2,b3,F]
 .have e:k=t.rfs.length:=by omega
  subst e
  rw[List.drop_length,List.all_nil] at Ek
  simp -implicitDefEqProofs(maxSteps:=9^9)only[Tryz.f40,↓zA,sevalprocAttr,afO,f2,f3,f5,fo,aa,Nat.lt_irrefl,Ek]
def apW:=ai (ai (ai @zq @aWo) (ai @aTJ @bK)) (ai (ai @dR @zT0) (ai @aDI (aw aSF)))
theorem atN (l:List Xp) (h:lsW xpW l≤LB):G1 41 [.of (slC xpC l)] (ah (l.all dZ)):=by
 have h1:=bh xpW l fun x _=>gW x
 have hb:LB=1073741824:=rfl
 refine aj rfl aSF aDI rfl ?_
 simp -implicitDefEqProofs(maxSteps:=9^9)only[Tryz.f41,↓zA,sevalprocAttr,apW]
 refine aL (l.length) (fun k tk=>tk.fr 0=.of (slC xpC l)∧tk.fr 3=ak k∧tk.objs=[]∧l.all dZ=(l.drop k).all dZ) ?_ ?_
 .simp -implicitDefEqProofs(maxSteps:=9^9)only[Tryz.f41,↓zA,sevalprocAttr,apW]
  try exact rfl
 rintro k ⟨frk,obk,ckk⟩ hk ⟨f0,f3,fo,Ek⟩
 dsimp only at f0 f3 fo
 rcases Nat.lt_or_ge k (l.length) with dk|dk
 .have hw:=aQ k (by omega)
  have gx:=ap dk
  have hx:=bg (w:=xpW) (List.getElem_mem dk)
  have kx:=fun K=>ae.k (atf l[k] (by omega)) K
  rw[aJ dk,hM] at Ek
  generalize l[k]=x at *
  cases c2:dZ x
  .rw[c2,Bool.false_and] at Ek
   simp -implicitDefEqProofs(maxSteps:=9^9)only[Tryz.f41,↓zA,sevalprocAttr,apW,f0,f3,fo,aa,dk,gx,hw,kx,c2,Ek]
  .rw[c2,Bool.true_and] at Ek
   simp -implicitDefEqProofs(maxSteps:=9^9)only[Tryz.f41,↓zA,sevalprocAttr,apW,f0,f3,fo,aa,dk,gx,hw,kx,c2,Ek]
 .have e:k=l.length:=by omega
  subst e
  rw[List.drop_length,List.all_nil] at Ek
  simp -implicitDefEqProofs(maxSteps:=9^9)only[Tryz.f41,↓zA,sevalprocAttr,apW,f0,f3,fo,aa,Nat.lt_irrefl,Ek]
def iR:=ai (ai (ai @zq (ai @a1K @cU)) (ai @dH (ai @fb @d9))) (ai (ai @cW (ai @P3 @Q3)) (ai @zT0 (ai @aDP (aw aSM))))
theorem aGE (c:Ct) (hc:CtB c):G1 34 [.of (.agg (ctC c))] (ah (aae c)):=by
 have h1:=hc.x
 have h2:=hc.t
 have hlb:LB=1073741824:=rfl
 have e00:((0:Nat):Int)=0:=rfl
 refine aj rfl aSM aDP rfl ?_
 simp -implicitDefEqProofs(maxSteps:=9^9)only[Tryz.f34,↓zA,sevalprocAttr,iR]
 refine aL (c.tbs.length) (fun k tk=>tk.fr 1=.of (.ref [slC tbC c.tbs,slC ixC c.ixs,ci c.nx])∧tk.fr 3=ak k∧tk.objs=[]∧bi (bT Tb.id c.tbs c.nx) 0 c.tbs=bi (bT Tb.id c.tbs c.nx) k (c.tbs.drop k)) ?_ ?_
 .simp -implicitDefEqProofs(maxSteps:=9^9)only[Tryz.f34,↓zA,sevalprocAttr,iR]
  try exact rfl
 rintro k ⟨frk,obk,ckk⟩ hk ⟨f1,f3,fo,Ek⟩
 dsimp only at f1 f3 fo
 rcases Nat.lt_or_ge k (c.tbs.length) with dk|dk
 .have hkw:=aQ k (by omega)
  have gx:=ap dk
  rw[aJ dk,jw] at Ek
  have hpr:∀ j,k=j+1→∃ y,ey c.tbs (j:Int)=some y∧c.tbs[j]?=some y:=fun j hj=>⟨c.tbs[j]'(by omega),ap (by omega),List.getElem?_eq_getElem (by omega)⟩
  generalize c.tbs[k]=x at *
  have e1:(x.id<1)=¬(1≤x.id):=arh _
  have e2:(c.nx≤x.id)=¬(x.id<c.nx):=agE _ _
  by_cases c1:1≤x.id
  rotate_left
  .have F:bi (bT Tb.id c.tbs c.nx) 0 c.tbs=false:=by rw[Ek];simp[bT,c1]
   simp -implicitDefEqProofs(maxSteps:=9^9)only[Tryz.f34,↓zA,sevalprocAttr,iR,f1,f3,fo,aa,dk,gx,hkw,e1,e2,aae,c1,F]
  by_cases c2:x.id<c.nx
  rotate_left
  .have F:bi (bT Tb.id c.tbs c.nx) 0 c.tbs=false:=by rw[Ek];simp[bT,c2]
   simp -implicitDefEqProofs(maxSteps:=9^9)only[Tryz.f34,↓zA,sevalprocAttr,iR,f1,f3,fo,aa,dk,gx,hkw,e1,e2,aae,c1,c2,F]
  cases k with
  | zero =>
   rw[e00] at *
   have F:bi (bT Tb.id c.tbs c.nx) 0 c.tbs=bi (bT Tb.id c.tbs c.nx) (0+1) (c.tbs.drop (0+1)):=by rw[Ek];simp[bT,aaj,c1,c2]
   simp -implicitDefEqProofs(maxSteps:=9^9)only[Tryz.f34,↓zA,sevalprocAttr,iR,f1,f3,fo,aa,dk,gx,hkw,e1,e2,aae,c1,c2,bS,Nat.lt_irrefl,Int.reduceLT,akB,F]
  | succ j =>
   obtain⟨y,gy,hy⟩:=hpr j rfl
   have es:IntKind.i64.wrap (((j+1:Nat):Int)-1)=(j:Int):=by rw[da _ (by omega) (by omega)];omega
   have e3:(x.id≤y.id)=¬(y.id<x.id):=agE _ _
   have e4:(0<j+1)=True:=by simp
   by_cases c3:y.id<x.id
   rotate_left
   .have F:bi (bT Tb.id c.tbs c.nx) 0 c.tbs=false:=by rw[Ek];simp[bT,aaj,hy,c3]
    simp -implicitDefEqProofs(maxSteps:=9^9)only[Tryz.f34,↓zA,sevalprocAttr,iR,f1,f3,fo,aa,dk,gx,hkw,e1,e2,aae,c1,c2,bS,e4,es,gy,e3,c3,F]
   have F:bi (bT Tb.id c.tbs c.nx) 0 c.tbs=bi (bT Tb.id c.tbs c.nx) (j+1+1) (c.tbs.drop (j+1+1)):=by rw[Ek];simp[bT,aaj,hy,c1,c2,c3]
   simp -implicitDefEqProofs(maxSteps:=9^9)only[Tryz.f34,↓zA,sevalprocAttr,iR,f1,f3,fo,aa,dk,gx,hkw,e1,e2,aae,c1,c2,bS,e4,es,gy,e3,c3,F]
 have e:k=c.tbs.length:=by omega
 subst e
 rw[List.drop_length,iH] at Ek
 simp -implicitDefEqProofs(maxSteps:=9^9)only[Tryz.f34,↓zA,sevalprocAttr,iR,f1,f3,fo,aa,Nat.lt_irrefl]
 refine aL (c.ixs.length) (fun m tm=>tm.fr 1=.of (.ref [slC tbC c.tbs,slC ixC c.ixs,ci c.nx])∧tm.fr 5=ak m∧tm.objs=[]∧bi (fun i x=>bT Ix.id c.ixs c.nx i x&&!(c.tbs.any fun t=>decide (t.id=x.id))) 0 c.ixs=bi (fun i x=>bT Ix.id c.ixs c.nx i x&&!(c.tbs.any fun t=>decide (t.id=x.id))) m (c.ixs.drop m)) ?_ ?_
 .simp -implicitDefEqProofs(maxSteps:=9^9)only[Tryz.f34,↓zA,sevalprocAttr,iR,f1,f3,fo,aa]
  try exact rfl
 rintro m ⟨frm,obm,ckm⟩ hm ⟨g1,g5,go,Em⟩
 dsimp only at g1 g5 go
 rcases Nat.lt_or_ge m (c.ixs.length) with dm|dm
 .have hmw:=aQ m (by omega)
  have gx:=ap dm
  rw[aJ dm,jw] at Em
  have hpr:∀ j,m=j+1→∃ y,ey c.ixs (j:Int)=some y∧c.ixs[j]?=some y:=fun j hj=>⟨c.ixs[j]'(by omega),ap (by omega),List.getElem?_eq_getElem (by omega)⟩
  generalize c.ixs[m]=x at *
  have e1:(x.id<1)=¬(1≤x.id):=arh _
  have e2:(c.nx≤x.id)=¬(x.id<c.nx):=agE _ _
  by_cases c1:1≤x.id
  rotate_left
  .have F:bi (fun i x=>bT Ix.id c.ixs c.nx i x&&!(c.tbs.any fun t=>decide (t.id=x.id))) 0 c.ixs=false:=by rw[Em];simp[bT,c1]
   simp -implicitDefEqProofs(maxSteps:=9^9)only[Tryz.f34,↓zA,sevalprocAttr,iR,g1,g5,go,aa,dm,gx,hmw,e1,e2,aae,Ek,c1,F]
  by_cases c2:x.id<c.nx
  rotate_left
  .have F:bi (fun i x=>bT Ix.id c.ixs c.nx i x&&!(c.tbs.any fun t=>decide (t.id=x.id))) 0 c.ixs=false:=by rw[Em];simp[bT,c2]
   simp -implicitDefEqProofs(maxSteps:=9^9)only[Tryz.f34,↓zA,sevalprocAttr,iR,g1,g5,go,aa,dm,gx,hmw,e1,e2,aae,Ek,c1,c2,F]
  cases m with
  | zero =>
   rw[e00] at *
   have Em':bi (fun i x=>bT Ix.id c.ixs c.nx i x&&!(c.tbs.any fun t=>decide (t.id=x.id))) 0 c.ixs=(!(c.tbs.any fun t=>decide (t.id=x.id))&&bi (fun i x=>bT Ix.id c.ixs c.nx i x&&!(c.tbs.any fun t=>decide (t.id=x.id))) (0+1) (c.ixs.drop (0+1))):=by rw[Em];simp[bT,aaj,c1,c2]
   simp -implicitDefEqProofs(maxSteps:=9^9)only[Tryz.f34,↓zA,sevalprocAttr,iR,g1,g5,go,aa,dm,gx,hmw,e1,e2,aae,Ek,c1,c2,bS,Nat.lt_irrefl,Int.reduceLT,akB,Ek]
   refine aL (c.tbs.length) (fun i ti=>ti.fr 1=.of (.ref [slC tbC c.tbs,slC ixC c.ixs,ci c.nx])∧ti.fr 6=ak x.id∧ti.fr 5=ak 0∧ti.fr 7=ak i∧ti.objs=[]∧(c.tbs.any fun t=>decide (t.id=x.id))=(c.tbs.drop i).any fun t=>decide (t.id=x.id)) ?_ ?_
   .simp -implicitDefEqProofs(maxSteps:=9^9)only[Tryz.f34,↓zA,sevalprocAttr,iR,g1,g5,go,aa]
    try exact rfl
   rintro i ⟨fri,obi,cki⟩ hi ⟨p1,p6,p5,p7,po,Ei⟩
   dsimp only at p1 p6 p5 p7 po
   rcases Nat.lt_or_ge i (c.tbs.length) with di|di
   .have hiw:=aQ i (by omega)
    have gt:=ap di
    rw[aJ di,List.any_cons] at Ei
    generalize c.tbs[i]=t at *
    by_cases c0:t.id=x.id
    .rw[decide_eq_true c0,Bool.true_or] at Ei
     rw[Ei,Bool.not_true,Bool.false_and] at Em'
     simp -implicitDefEqProofs(maxSteps:=9^9)only[Tryz.f34,↓zA,sevalprocAttr,iR,p1,p6,p5,p7,po,aa,di,gt,hiw,eq_true c0,aae,Ek,Em']
    .rw[decide_eq_false c0,Bool.false_or] at Ei
     simp -implicitDefEqProofs(maxSteps:=9^9)only[Tryz.f34,↓zA,sevalprocAttr,iR,p1,p6,p5,p7,po,aa,di,gt,hiw,c0]
     exact Ei
   .have e:i=c.tbs.length:=by omega
    subst e
    rw[List.drop_length,List.any_nil] at Ei
    rw[Ei,Bool.not_false,Bool.true_and] at Em'
    simp -implicitDefEqProofs(maxSteps:=9^9)only[Tryz.f34,↓zA,sevalprocAttr,iR,p1,p6,p5,p7,po,aa,Nat.lt_irrefl,hmw,akB]
    exact Em'
  | succ j =>
   obtain⟨y,gy,hy⟩:=hpr j rfl
   have es:IntKind.i64.wrap (((j+1:Nat):Int)-1)=(j:Int):=by rw[da _ (by omega) (by omega)];omega
   have e3:(x.id≤y.id)=¬(y.id<x.id):=agE _ _
   have e4:(0<j+1)=True:=by simp
   by_cases c3:y.id<x.id
   rotate_left
   .have F:bi (fun i x=>bT Ix.id c.ixs c.nx i x&&!(c.tbs.any fun t=>decide (t.id=x.id))) 0 c.ixs=false:=by rw[Em];simp[bT,aaj,hy,c3]
    simp -implicitDefEqProofs(maxSteps:=9^9)only[Tryz.f34,↓zA,sevalprocAttr,iR,g1,g5,go,aa,dm,gx,hmw,e1,e2,aae,Ek,c1,c2,bS,e4,es,gy,e3,c3,F]
   have Em':bi (fun i x=>bT Ix.id c.ixs c.nx i x&&!(c.tbs.any fun t=>decide (t.id=x.id))) 0 c.ixs=(!(c.tbs.any fun t=>decide (t.id=x.id))&&bi (fun i x=>bT Ix.id c.ixs c.nx i x&&!(c.tbs.any fun t=>decide (t.id=x.id))) (j+1+1) (c.ixs.drop (j+1+1))):=by rw[Em];simp[bT,aaj,hy,c1,c2,c3]
   simp -implicitDefEqProofs(maxSteps:=9^9)only[Tryz.f34,↓zA,sevalprocAttr,iR,g1,g5,go,aa,dm,gx,hmw,e1,e2,aae,Ek,c1,c2,bS,e4,es,gy,e3,c3,Ek]
   refine aL (c.tbs.length) (fun i ti=>ti.fr 1=.of (.ref [slC tbC c.tbs,slC ixC c.ixs,ci c.nx])∧ti.fr 6=ak x.id∧ti.fr 5=ak ((j+1):Nat)∧ti.fr 7=ak i∧ti.objs=[]∧(c.tbs.any fun t=>decide (t.id=x.id))=(c.tbs.drop i).any fun t=>decide (t.id=x.id)) ?_ ?_
   .simp -implicitDefEqProofs(maxSteps:=9^9)only[Tryz.f34,↓zA,sevalprocAttr,iR,g1,g5,go,aa]
    try exact rfl
   rintro i ⟨fri,obi,cki⟩ hi ⟨p1,p6,p5,p7,po,Ei⟩
   dsimp only at p1 p6 p5 p7 po
   rcases Nat.lt_or_ge i (c.tbs.length) with di|di
   .have hiw:=aQ i (by omega)
    have gt:=ap di
    rw[aJ di,List.any_cons] at Ei
    generalize c.tbs[i]=t at *
    by_cases c0:t.id=x.id
    .rw[decide_eq_true c0,Bool.true_or] at Ei
     rw[Ei,Bool.not_true,Bool.false_and] at Em'
     simp -implicitDefEqProofs(maxSteps:=9^9)only[Tryz.f34,↓zA,sevalprocAttr,iR,p1,p6,p5,p7,po,aa,di,gt,hiw,eq_true c0,aae,Ek,Em']
    .rw[decide_eq_false c0,Bool.false_or] at Ei
     simp -implicitDefEqProofs(maxSteps:=9^9)only[Tryz.f34,↓zA,sevalprocAttr,iR,p1,p6,p5,p7,po,aa,di,gt,hiw,c0]
     exact Ei
   .have e:i=c.tbs.length:=by omega
    subst e
    rw[List.drop_length,List.any_nil] at Ei
    rw[Ei,Bool.not_false,Bool.true_and] at Em'
    simp -implicitDefEqProofs(maxSteps:=9^9)only[Tryz.f34,↓zA,sevalprocAttr,iR,p1,p6,p5,p7,po,aa,Nat.lt_irrefl,hmw,akB]
    exact Em'
 have e:m=c.ixs.length:=by omega
 subst e
 rw[List.drop_length,iH] at Em
 have el:ee=1099511627776:=rfl
 by_cases c1:1≤c.nx
 .simp -implicitDefEqProofs(maxSteps:=9^9)only[Tryz.f34,↓zA,sevalprocAttr,iR,g1,g5,go,aa,Nat.lt_irrefl,Ek,Em,aae,c1,el]
 .simp -implicitDefEqProofs(maxSteps:=9^9)only[Tryz.f34,↓zA,sevalprocAttr,iR,g1,g5,go,aa,Nat.lt_irrefl,Ek,Em,aae,c1,el]
def acw:=ai (ai (ai (ai @zq (ai @a1E @aWO)) (ai (ai @aT9 @aWN) (ai @aT8 @a1C))) (ai (ai @ab8 (ai @aaQ @agt)) (ai (ai @aep @aWM) (ai @aT7 @aWL)))) (ai (ai (ai @aT6 (ai @aWK @aT5)) (ai (ai @aWJ @aT4) (ai @cU @dH))) (ai (ai @dw (ai @bK @d9)) (ai (ai @Q9 @zT0) (ai @aEb (aw aS8)))))
theorem aoR (c:Ct) (hc:CtB c):G1 12 [.of (.agg (ctC c))] (ah (bz c)):=by
 have h1:=hc.x
 have h2:=hc.t
 have hlb:LB=1073741824:=rfl
 rw[← aBE]
 have ki:=fun K=>ae.k (aGE c hc) K
 have kx:=fun K=>ae.k (aru c hc) K
 have e32:((32:Int)<(c.tbs.length:Int))=¬(c.tbs.length≤32):=propext (by omega)
 refine aj rfl aS8 aEb rfl ?_
 by_cases a0:c.tbs.length≤32
 rotate_left
 .have F:abf c=false:=by simp[abf,a0]
  simp -implicitDefEqProofs(maxSteps:=9^9)only[Tryz.f12,↓zA,sevalprocAttr,acw,e32,a0,F]
 cases a1:aae c
 .have F:abf c=false:=by simp[abf,a1]
  simp -implicitDefEqProofs(maxSteps:=9^9)only[Tryz.f12,↓zA,sevalprocAttr,acw,e32,a0,ki,a1,F]
 cases a2:jf c
 .have F:abf c=false:=by simp[abf,a2]
  simp -implicitDefEqProofs(maxSteps:=9^9)only[Tryz.f12,↓zA,sevalprocAttr,acw,e32,a0,ki,a1,kx,a2,F]
 have F:abf c=bi (fD c) 0 c.tbs:=by simp[abf,a0,a1,a2]
 rw[F]
 simp -implicitDefEqProofs(maxSteps:=9^9)only[Tryz.f12,↓zA,sevalprocAttr,acw,e32,a0,ki,a1,kx,a2]
 refine aL (c.tbs.length) (fun k tk=>tk.fr 1=.of (.ref [slC tbC c.tbs,slC ixC c.ixs,ci c.nx])∧tk.fr 3=ak k∧tk.objs=[]∧bi (fD c) 0 c.tbs=bi (fD c) k (c.tbs.drop k)) ?_ ?_
 .simp -implicitDefEqProofs(maxSteps:=9^9)only[Tryz.f12,↓zA,sevalprocAttr,acw]
  try exact rfl
 rintro k ⟨frk,obk,ckk⟩ hk ⟨f1,f3,fo,Ek⟩
 dsimp only at f1 f3 fo
 rcases Nat.lt_or_ge k (c.tbs.length) with dk|dk
 .have hw:=aQ k (by omega)
  have gx:=ap dk
  have ht:=hc.tb _ (List.getElem_mem dk)
  rw[aJ dk,jw] at Ek
  generalize c.tbs[k]=t at *
  have q1:=ht.c
  have q2:=ht.h
  have ka:=fun K=>ae.k (acJ c t.nm (by omega)) K
  have kd:=fun K=>ae.k (aEF t.cs (by omega)) K
  have kk:=fun K=>ae.k (aCR c t hc ht) K
  have kr:=fun K=>ae.k (aBF c t hc ht) K
  have kc:=fun K=>ae.k (atN t.chs q2) K
  cases b0:aA t.nm
  .have F:bi (fD c) 0 c.tbs=false:=by rw[Ek];simp[fD,b0]
   simp -implicitDefEqProofs(maxSteps:=9^9)only[Tryz.f12,↓zA,sevalprocAttr,acw,f1,f3,fo,aa,dk,gx,hw,aO,ka,kd,kk,kr,kc,b0,F]
  by_cases c1:bE (fun u=>decide (u.nm=t.nm)) c.tbs=(k:Int)
  rotate_left
  .have F:bi (fD c) 0 c.tbs=false:=by rw[Ek];simp[fD,b0,c1]
   simp -implicitDefEqProofs(maxSteps:=9^9)only[Tryz.f12,↓zA,sevalprocAttr,acw,f1,f3,fo,aa,dk,gx,hw,aO,ka,kd,kk,kr,kc,b0,c1,F]
  cases b2:j8 t.cs
  .have F:bi (fD c) 0 c.tbs=false:=by rw[Ek];simp[fD,b0,c1,b2]
   simp -implicitDefEqProofs(maxSteps:=9^9)only[Tryz.f12,↓zA,sevalprocAttr,acw,f1,f3,fo,aa,dk,gx,hw,aO,ka,kd,kk,kr,kc,b0,eq_true c1,b2,F]
  cases b3:aad c t
  .have F:bi (fD c) 0 c.tbs=false:=by rw[Ek];simp[fD,b0,c1,b2,b3]
   simp -implicitDefEqProofs(maxSteps:=9^9)only[Tryz.f12,↓zA,sevalprocAttr,acw,f1,f3,fo,aa,dk,gx,hw,aO,ka,kd,kk,kr,kc,b0,eq_true c1,b2,b3,F]
  cases b4:t.rfs.all (aab c t)
  .have F:bi (fD c) 0 c.tbs=false:=by rw[Ek];simp[fD,b0,c1,b2,b3,b4]
   simp -implicitDefEqProofs(maxSteps:=9^9)only[Tryz.f12,↓zA,sevalprocAttr,acw,f1,f3,fo,aa,dk,gx,hw,aO,ka,kd,kk,kr,kc,b0,eq_true c1,b2,b3,b4,F]
  cases b5:t.chs.all dZ
  .have F:bi (fD c) 0 c.tbs=false:=by rw[Ek];simp[fD,b0,c1,b2,b3,b4,b5]
   simp -implicitDefEqProofs(maxSteps:=9^9)only[Tryz.f12,↓zA,sevalprocAttr,acw,f1,f3,fo,aa,dk,gx,hw,aO,ka,kd,kk,kr,kc,b0,eq_true c1,b2,b3,b4,b5,F]
  have F:bi (fD c) 0 c.tbs=bi (fD c) (k+1) (c.tbs.drop (k+1)):=by rw[Ek];simp[fD,b0,c1,b2,b3,b4,b5]
  simp -implicitDefEqProofs(maxSteps:=9^9)only[Tryz.f12,↓zA,sevalprocAttr,acw,f1,f3,fo,aa,dk,gx,hw,aO,ka,kd,kk,kr,kc,b0,eq_true c1,b2,b3,b4,b5,F]
 .have e:k=c.tbs.length:=by omega
  subst e
  rw[List.drop_length,iH] at Ek
  simp -implicitDefEqProofs(maxSteps:=9^9)only[Tryz.f12,↓zA,sevalprocAttr,acw,f1,f3,fo,aa,Nat.lt_irrefl,Ek]
theorem adz (c:Ct) (hc:CtB c) (K:An→Prop):aG Tryz.prog pr 12 [.of (.agg (ctC c))] [] K↔K ⟨false,[ah (bz c)],[]⟩:=ae.k (aoR c hc) K
end Go.Proofs.YtjajlmjfddohfaaGreatDoor
namespace Go.Tab
open Go Go.Pe
def cZ:List UInt8:=[116,110,99,109,117,107,102,104,114,115,119,113]
def pick:List Bool→List UInt8→List UInt8
 | b::r,c::l=>if b then c::pick r l else pick r l
 | _,_=>[]
def dI (s:Sm):List Bool:=[!decide (s.tb=[]),!decide (s.nm=[]),decide (0<s.cs.length),decide (0<s.ns.length),s.un,decide (0<s.kys.length),decide (0<s.rfs.length),decide (0<s.chs.length),decide (0<s.rws.length),decide (0<s.sts.length),decide (0<s.wh.length),decide (0<s.q.length)]
def bj (s:Sm):List UInt8:=pick (dI s) cZ
def bu (of:List UInt8) (c:UInt8):Bool:=of.any fun d=>decide (d=c)
def dP (s of:List UInt8):Bool:=s.all (bu of)
def abD (of:List UInt8):List Bool→List UInt8→Bool
 | b::r,c::l=>(!b||bu of c)&&abD of r l
 | _,_=>true
theorem an4 (of:List UInt8):∀ (bs:List Bool) (ls:List UInt8),dP (pick bs ls) of=abD of bs ls
 | [],_=>by simp[pick,dP,abD]
 | _::_,[]=>by simp[pick,dP,abD]
 | b::r,c::l=>by
  have ih:=an4 of r l
  cases b with
  | true=>simp only[pick,abD,dP,if_true,List.all_cons,Bool.not_true,Bool.false_or];rw[← ih];rfl
  | false=>simp only[pick,abD,Bool.false_eq_true,if_false,Bool.not_false,Bool.true_or,Bool.true_and];exact ih
def acc:List Bool→Bool
 | []=>true
 | b::r=>!b&&acc r
theorem aj4 {c:UInt8}:∀ {bs:List Bool} {ls:List UInt8},c∈pick bs ls→c∈ls
 | [],_,h=>by simp[pick] at h
 | _::_,[],h=>by simp[pick] at h
 | true::r,d::l,h=>by
  simp only[pick,if_true,List.mem_cons] at h ⊢
  exact h.imp id aj4
 | false::r,d::l,h=>List.mem_cons_of_mem _ (aj4 (bs:=r) (by simpa [pick] using h))
theorem aj3:∀ (bs:List Bool) (ls:List UInt8),bs.length=ls.length→(pick bs ls=[]↔acc bs=true)
 | [],[],_=>by simp[pick,acc]
 | true::r,d::l,h=>by simp[pick,acc]
 | false::r,d::l,h=>by
  simp only[pick,acc,Bool.false_eq_true,if_false,Bool.not_false,Bool.true_and]
  exact aj3 r l (by simpa using h)
def aeL (c:UInt8):List Bool→List UInt8→Bool
 | b::r,d::l=>if d=c then b&&acc r else !b&&aeL c r l
 | _,_=>false
theorem aqQ (c:UInt8):∀ (bs:List Bool) (ls:List UInt8),bs.length=ls.length→ls.Nodup→(pick bs ls=[c]↔aeL c bs ls=true)
 | [],[],_,_=>by simp[pick,aeL]
 | b::r,d::l,h,hn=>by
  rw[List.nodup_cons] at hn
  have hl:r.length=l.length:=by simpa using h
  unfold aeL
  by_cases e:d=c
  .subst e
   rw[if_pos rfl]
   cases b with
   | true =>
    simp only[pick,if_true,Bool.true_and,List.cons.injEq,true_and]
    exact aj3 r l hl
   | false =>
    simp only[pick,Bool.false_eq_true,if_false,Bool.false_and,iff_false]
    intro hp
    exact hn.1 (aj4 (bs:=r) (by rw[hp];simp))
  .rw[if_neg e]
   cases b with
   | true=>simp[pick,e]
   | false =>
    simp only[pick,Bool.false_eq_true,if_false,Bool.not_false,Bool.true_and]
    exact aqQ c r l hl hn.2
theorem azN (s:Sm):decide (bj s=[])=acc (dI s):=by
 rw[Bool.eq_iff_iff,decide_eq_true_eq]
 exact aj3 _ _ rfl
theorem agH (s:Sm) (c:UInt8):decide (bj s=[c])=aeL c (dI s) cZ:=by
 rw[Bool.eq_iff_iff,decide_eq_true_eq]
 exact aqQ c _ _ rfl (by decide)
theorem abr (s:Sm) (of:List UInt8):dP (bj s) of=abD of (dI s) cZ:=an4 of _ _
theorem acb (n:Nat):decide (0<n)=!decide (n=0):=by cases n <;> rfl
theorem ace (l:List UInt8):decide (l≠[])=!decide (l=[]):=by cases l <;> rfl
def ayT (s:Sm):Bool:=(decide (0<s.rws.length)&&decide (s.q.length=0))||(decide (s.rws.length=0)&&decide (s.q.length=1))
def ayD (s:Sm) (cr:Bool):Bool :=
 if s.kd=1 then dP (bj s) [116,99,107,102,104]&&(aA s.tb&&cr)
 else if s.kd=2 then dP (bj s) [116,110,109,117]&&(aA s.tb&&(aA s.nm&&bt s.ns 1 16))
 else if s.kd=3 then (decide (bj s=[116])&&aA s.tb)||(decide (bj s=[110])&&aA s.nm)
 else if s.kd=4 then dP (bj s) [116,109,114,113]&&(ayT s&&(aA s.tb&&(bt s.ns 0 16&&((s.rws.all (fun l=>bL l 1 16)&&decide (s.rws.length≤64))&&s.q.all bA))))
 else if s.kd=5 then dP (bj s) [116,115,119]&&(aA s.tb&&((s.sts.all cA&&(decide (1≤s.sts.length)&&decide (s.sts.length≤16)))&&bL s.wh 0 1))
 else if s.kd=6 then dP (bj s) [116,119]&&(aA s.tb&&bL s.wh 0 1)
 else if s.kd=7∨s.kd=11 then decide (bj s=[113])&&(decide (s.q.length=1)&&s.q.all bA)
 else if s.kd=8∨s.kd=9∨s.kd=10∨s.kd=12∨s.kd=13∨s.kd=14 then decide (bj s=[])
 else false
def ajb (s:Sm):Bool:=s.cs.all bR&&(s.kys.all cK&&(s.rfs.all cz&&(decide (1≤s.cs.length)&&decide (s.cs.length≤16)&&decide (s.kys.length≤64)&&decide (s.rfs.length≤64)&&bL s.chs 0 64)))
theorem aQU (s:Sm):dP (bj s) [116,99,107,102,104]=(decide (s.nm=[])&&decide (s.ns.length=0)&&!s.un&&decide (s.rws.length=0)&&decide (s.sts.length=0)&&decide (s.wh.length=0)&&decide (s.q.length=0)):=by
 rw[abr]
 simp only[dI,cZ,abD,show bu [116,99,107,102,104] 116=true from by decide,show bu [116,99,107,102,104] 110=false from by decide,show bu [116,99,107,102,104] 99=true from by decide,show bu [116,99,107,102,104] 109=false from by decide,show bu [116,99,107,102,104] 117=false from by decide,show bu [116,99,107,102,104] 107=true from by decide,show bu [116,99,107,102,104] 102=true from by decide,show bu [116,99,107,102,104] 104=true from by decide,show bu [116,99,107,102,104] 114=false from by decide,show bu [116,99,107,102,104] 115=false from by decide,show bu [116,99,107,102,104] 119=false from by decide,show bu [116,99,107,102,104] 113=false from by decide,acb,ace,Bool.not_not,Bool.or_true,Bool.or_false,Bool.true_and,Bool.and_true,Bool.and_assoc]
theorem aQS (s:Sm):dP (bj s) [116,110,109,117]=(decide (s.cs.length=0)&&decide (s.kys.length=0)&&decide (s.rfs.length=0)&&decide (s.chs.length=0)&&decide (s.rws.length=0)&&decide (s.sts.length=0)&&decide (s.wh.length=0)&&decide (s.q.length=0)):=by
 rw[abr]
 simp only[dI,cZ,abD,show bu [116,110,109,117] 116=true from by decide,show bu [116,110,109,117] 110=true from by decide,show bu [116,110,109,117] 99=false from by decide,show bu [116,110,109,117] 109=true from by decide,show bu [116,110,109,117] 117=true from by decide,show bu [116,110,109,117] 107=false from by decide,show bu [116,110,109,117] 102=false from by decide,show bu [116,110,109,117] 104=false from by decide,show bu [116,110,109,117] 114=false from by decide,show bu [116,110,109,117] 115=false from by decide,show bu [116,110,109,117] 119=false from by decide,show bu [116,110,109,117] 113=false from by decide,acb,ace,Bool.not_not,Bool.or_true,Bool.or_false,Bool.true_and,Bool.and_true,Bool.and_assoc]
theorem aQR (s:Sm):dP (bj s) [116,109,114,113]=(decide (s.nm=[])&&decide (s.cs.length=0)&&!s.un&&decide (s.kys.length=0)&&decide (s.rfs.length=0)&&decide (s.chs.length=0)&&decide (s.sts.length=0)&&decide (s.wh.length=0)):=by
 rw[abr]
 simp only[dI,cZ,abD,show bu [116,109,114,113] 116=true from by decide,show bu [116,109,114,113] 110=false from by decide,show bu [116,109,114,113] 99=false from by decide,show bu [116,109,114,113] 109=true from by decide,show bu [116,109,114,113] 117=false from by decide,show bu [116,109,114,113] 107=false from by decide,show bu [116,109,114,113] 102=false from by decide,show bu [116,109,114,113] 104=false from by decide,show bu [116,109,114,113] 114=true from by decide,show bu [116,109,114,113] 115=false from by decide,show bu [116,109,114,113] 119=false from by decide,show bu [116,109,114,113] 113=true from by decide,acb,ace,Bool.not_not,Bool.or_true,Bool.or_false,Bool.true_and,Bool.and_true,Bool.and_assoc]
theorem aQQ (s:Sm):dP (bj s) [116,115,119]=(decide (s.nm=[])&&decide (s.cs.length=0)&&decide (s.ns.length=0)&&!s.un&&decide (s.kys.length=0)&&decide (s.rfs.length=0)&&decide (s.chs.length=0)&&decide (s.rws.length=0)&&decide (s.q.length=0)):=by
 rw[abr]
 simp only[dI,cZ,abD,show bu [116,115,119] 116=true from by decide,show bu [116,115,119] 110=false from by decide,show bu [116,115,119] 99=false from by decide,show bu [116,115,119] 109=false from by decide,show bu [116,115,119] 117=false from by decide,show bu [116,115,119] 107=false from by decide,show bu [116,115,119] 102=false from by decide,show bu [116,115,119] 104=false from by decide,show bu [116,115,119] 114=false from by decide,show bu [116,115,119] 115=true from by decide,show bu [116,115,119] 119=true from by decide,show bu [116,115,119] 113=false from by decide,acb,ace,Bool.not_not,Bool.or_true,Bool.or_false,Bool.true_and,Bool.and_true,Bool.and_assoc]
theorem aQT (s:Sm):dP (bj s) [116,119]=(decide (s.nm=[])&&decide (s.cs.length=0)&&decide (s.ns.length=0)&&!s.un&&decide (s.kys.length=0)&&decide (s.rfs.length=0)&&decide (s.chs.length=0)&&decide (s.rws.length=0)&&decide (s.sts.length=0)&&decide (s.q.length=0)):=by
 rw[abr]
 simp only[dI,cZ,abD,show bu [116,119] 116=true from by decide,show bu [116,119] 110=false from by decide,show bu [116,119] 99=false from by decide,show bu [116,119] 109=false from by decide,show bu [116,119] 117=false from by decide,show bu [116,119] 107=false from by decide,show bu [116,119] 102=false from by decide,show bu [116,119] 104=false from by decide,show bu [116,119] 114=false from by decide,show bu [116,119] 115=false from by decide,show bu [116,119] 119=true from by decide,show bu [116,119] 113=false from by decide,acb,ace,Bool.not_not,Bool.or_true,Bool.or_false,Bool.true_and,Bool.and_true,Bool.and_assoc]
theorem aPr (s:Sm):decide (bj s=[116])=(!decide (s.tb=[])&&decide (s.nm=[])&&decide (s.cs.length=0)&&decide (s.ns.length=0)&&!s.un&&decide (s.kys.length=0)&&decide (s.rfs.length=0)&&decide (s.chs.length=0)&&decide (s.rws.length=0)&&decide (s.sts.length=0)&&decide (s.wh.length=0)&&decide (s.q.length=0)):=by
 rw[agH]
 simp only[dI,cZ,aeL,acc,show (116:UInt8)=116↔True from by decide,if_true,if_false,acb,ace,Bool.not_not,Bool.and_true,Bool.and_assoc]
theorem aPt (s:Sm):decide (bj s=[110])=(decide (s.tb=[])&&!decide (s.nm=[])&&decide (s.cs.length=0)&&decide (s.ns.length=0)&&!s.un&&decide (s.kys.length=0)&&decide (s.rfs.length=0)&&decide (s.chs.length=0)&&decide (s.rws.length=0)&&decide (s.sts.length=0)&&decide (s.wh.length=0)&&decide (s.q.length=0)):=by
 rw[agH]
 simp only[dI,cZ,aeL,acc,show (116:UInt8)=110↔False from by decide,show (110:UInt8)=110↔True from by decide,if_true,if_false,acb,ace,Bool.not_not,Bool.and_true,Bool.and_assoc]
theorem aPs (s:Sm):decide (bj s=[113])=(decide (s.tb=[])&&decide (s.nm=[])&&decide (s.cs.length=0)&&decide (s.ns.length=0)&&!s.un&&decide (s.kys.length=0)&&decide (s.rfs.length=0)&&decide (s.chs.length=0)&&decide (s.rws.length=0)&&decide (s.sts.length=0)&&decide (s.wh.length=0)&&!decide (s.q.length=0)):=by
 rw[agH]
 simp only[dI,cZ,aeL,acc,show (116:UInt8)=113↔False from by decide,show (110:UInt8)=113↔False from by decide,show (99:UInt8)=113↔False from by decide,show (109:UInt8)=113↔False from by decide,show (117:UInt8)=113↔False from by decide,show (107:UInt8)=113↔False from by decide,show (102:UInt8)=113↔False from by decide,show (104:UInt8)=113↔False from by decide,show (114:UInt8)=113↔False from by decide,show (115:UInt8)=113↔False from by decide,show (119:UInt8)=113↔False from by decide,show (113:UInt8)=113↔True from by decide,if_true,if_false,acb,ace,Bool.not_not,Bool.and_true,Bool.and_assoc]
theorem aBO (s:Sm):decide (bj s=[])=(decide (s.tb=[])&&decide (s.nm=[])&&decide (s.cs.length=0)&&decide (s.ns.length=0)&&!s.un&&decide (s.kys.length=0)&&decide (s.rfs.length=0)&&decide (s.chs.length=0)&&decide (s.rws.length=0)&&decide (s.sts.length=0)&&decide (s.wh.length=0)&&decide (s.q.length=0)):=by
 rw[azN]
 simp only[dI,acc,acb,ace,Bool.not_not,Bool.and_true,Bool.and_assoc]
theorem aFT (s:Sm):ayD s (ajb s)=bO s:=by
 have hn:∀ l,aA l=true→decide (l=[])=false:=fun l h=>decide_eq_false fun e=>by rw[e] at h;cases h
 unfold ayD bO
 rw[aQU,aQS,aQR,aQQ,aQT,aPr,aPt,aPs,aBO]
 by_cases k1:s.kd=1
 .rw[if_pos k1,if_pos k1]
  have e:decide (s.ns=[])=decide (s.ns.length=0):=decide_eq_decide.2 List.length_eq_zero_iff.symm
  rw[e]
  unfold ajb
  simp only[aE,Nat.zero_le,decide_true,Bool.true_and,Bool.and_assoc]
  ac_rfl
 rw[if_neg k1,if_neg k1]
 by_cases k2:s.kd=2
 .rw[if_pos k2,if_pos k2]
  simp only[Bool.and_assoc]
  ac_rfl
 rw[if_neg k2,if_neg k2]
 by_cases k3:s.kd=3
 .rw[if_pos k3,if_pos k3]
  generalize decide (s.cs.length=0)=a2
  generalize decide (s.ns.length=0)=a3
  generalize decide (s.kys.length=0)=a5
  generalize decide (s.rfs.length=0)=a6
  generalize decide (s.chs.length=0)=a7
  generalize decide (s.rws.length=0)=a8
  generalize decide (s.sts.length=0)=a9
  generalize decide (s.wh.length=0)=a10
  generalize decide (s.q.length=0)=a11
  have h1:=hn s.tb
  have h2:=hn s.nm
  generalize decide (s.tb=[])=b1 at *
  generalize decide (s.nm=[])=b2 at *
  generalize aA s.tb=c1 at *
  generalize aA s.nm=c2 at *
  cases c1 <;> cases c2 <;> cases b1 <;> cases b2 <;> simp at h1 h2 <;> simp[Bool.and_assoc]
 rw[if_neg k3,if_neg k3]
 by_cases k4:s.kd=4
 .rw[if_pos k4,if_pos k4]
  unfold ayT
  have hs:aE s.q.length 1 1=decide (s.q.length=1):=by
   rw[Bool.eq_iff_iff];simp only[aE,Bool.and_eq_true,decide_eq_true_eq];omega
  rw[hs]
  by_cases r0:s.rws=[]
  .rw[r0]
   simp only[List.length_nil,Nat.lt_irrefl,decide_false,decide_true,Bool.false_and,Bool.true_and,Bool.false_or,List.all_nil,aE,Nat.not_succ_le_zero,Bool.and_false,Bool.or_false,Nat.zero_le,Nat.reduceLeDiff,Bool.and_assoc]
   ac_rfl
  .have r1:0<s.rws.length:=List.length_pos_iff.2 r0
   have r2:¬s.rws.length=0:=by omega
   have r3:1≤s.rws.length:=r1
   by_cases q0:s.q=[]
   .rw[q0]
    simp only[List.length_nil,decide_eq_true r1,decide_eq_false r2,decide_true,Bool.false_and,Bool.and_false,Bool.true_and,Bool.and_true,Bool.false_or,Bool.or_false,List.all_nil,aE,decide_eq_true r3,Bool.and_assoc]
    ac_rfl
   .have q1:¬s.q.length=0:=fun h=>q0 (List.eq_nil_of_length_eq_zero h)
    simp only[decide_eq_false q1,decide_eq_false r2,Bool.false_and,Bool.and_false,Bool.or_false,Bool.or_self]
 rw[if_neg k4,if_neg k4]
 by_cases k5:s.kd=5
 .rw[if_pos k5,if_pos k5]
  unfold aE
  simp only[Bool.and_assoc]
  ac_rfl
 rw[if_neg k5,if_neg k5]
 by_cases k6:s.kd=6
 .rw[if_pos k6,if_pos k6]
  simp only[Bool.and_assoc]
  ac_rfl
 rw[if_neg k6,if_neg k6]
 by_cases k7:s.kd=7∨s.kd=11
 .rw[if_pos k7,if_pos k7]
  have hs:aE s.q.length 1 1=decide (s.q.length=1):=by
   rw[Bool.eq_iff_iff];simp only[aE,Bool.and_eq_true,decide_eq_true_eq];omega
  rw[hs]
  by_cases q1:s.q.length=1
  .have q0:¬s.q.length=0:=by omega
   simp only[decide_eq_true q1,decide_eq_false q0,Bool.not_false,Bool.true_and,Bool.and_true,Bool.and_assoc]
   ac_rfl
  .simp only[decide_eq_false q1,Bool.false_and,Bool.and_false]
 rw[if_neg k7,if_neg k7]
end Go.Tab
namespace Go.Proofs.YtjajlmjfddohfaaGreatDoor
open Go Go.Pe Go.Tab
theorem aAj (tk:Tk) (a b c d e f g h i j k l:Bool):bM tk 12 (Pe.elemOf (TT.of Tryz.prog) 238) (some [(0,[ah a]),(1,[ah b]),(2,[ah c]),(3,[ah d]),(4,[ah e]),(5,[ah f]),(6,[ah g]),(7,[ah h]),(8,[ah i]),(9,[ah j]),(10,[ah k]),(11,[ah l])])=out (.own tk 4 1 [cb a,cb b,cb c,cb d,cb e,cb f,cb g,cb h,cb i,cb j,cb k,cb l] 12):=by rw[aAZ];kernel_rfl
theorem aka (tk:Tk) (e z n:Nat) (cs:List C):fh (some (.slice 4)) (.own tk e z cs n)=out (ak n):=rfl
theorem ahZ (tk:Tk) (e z:Nat) (s:Sm) (i:Int):bF (TT.of Tryz.prog) 238 (.own tk e z (fl eP (dI s)) 12) (.of (.lit (.int .i64 i)))=fv (ey (dI s) i) fun x=>.of (.ref (eP x++fl eP ((dI s).drop (i.toNat+1)))):=by
 rw[← fW aAZ (fun _=>rfl) (by decide) (dI s) i,aaM aAZ (fl eP (dI s)) 12 i _ rfl,aaM aAZ _ _ i _ rfl]
 rfl
theorem aL7:∀ (k:Nat) (h:k<12),fE (TT.of Tryz.prog) 9 (dA {data:=#[116,110,99,109,117,107,102,104,114,115,119,113]}) (some (ak k)) (some (ak ((k+1:Nat):Int)))=out (dA (ar [cZ[k]'(by exact h)]))
 | 0,_=>by kernel_rfl
 | 1,_=>by kernel_rfl
 | 2,_=>by kernel_rfl
 | 3,_=>by kernel_rfl
 | 4,_=>by kernel_rfl
 | 5,_=>by kernel_rfl
 | 6,_=>by kernel_rfl
 | 7,_=>by kernel_rfl
 | 8,_=>by kernel_rfl
 | 9,_=>by kernel_rfl
 | 10,_=>by kernel_rfl
 | 11,_=>by kernel_rfl
 | k+12,h=>absurd h (by omega)
theorem Z6q {bs:List Bool} {ls:List UInt8} {k:Nat} (h1:k<bs.length) (h2:k<ls.length):pick (bs.drop k) (ls.drop k)=(if bs[k] then [ls[k]] else [])++pick (bs.drop (k+1)) (ls.drop (k+1)):=by
 rw[aJ h1,aJ h2,pick]
 cases bs[k] <;> rfl
def akz:=ai (ai (ai (ai @zq @a1z) (ai @fa (ai @dw @jz))) (ai (ai @bK (ai @jy @j0)) (ai @dY (ai @cE @bH)))) (ai (ai (ai @gG @jA) (ai @dR (ai @fT @kT))) (ai (ai @ec (ai @Q9 @Q4)) (ai @zT0 (ai @awb (aw aKk)))))
theorem atE (s:Sm):G1 157 [.of (.agg (smC s))] (dA (ar (bj s))):=by
 refine aj rfl aKk awb rfl ?_
 simp -implicitDefEqProofs(maxSteps:=9^9)only[Tryz.f157,↓zA,sevalprocAttr,akz,bS,aAj]
 refine aL 12 (fun k t=>t.fr 4=.own (.nm 3 44 0) 4 1 (fl eP (dI s)) 12∧t.fr 5=dA {data:=#[116,110,99,109,117,107,102,104,114,115,119,113]}∧t.fr 6=ak k∧t.objs=[]∧∃ a:List UInt8,t.fr 3=dA (ar a)∧a.length≤k∧bj s=a++pick ((dI s).drop k) (cZ.drop k)) ?_ ?_
 .simp -implicitDefEqProofs(maxSteps:=9^9)only[Tryz.f157,↓zA,sevalprocAttr,akz]
  exact⟨rfl,[],rfl,Nat.le_refl _,rfl⟩
 rintro k ⟨fr,ob,ck⟩ hk ⟨f4,f5,f6,ho,a,f3,ha,E⟩
 dsimp only at f4 f5 f6 ho f3
 have e12:((k:Int)<12)=(k<12):=propext (by omega)
 rcases Nat.lt_or_ge k 12 with d1|d1
 .have hw:=aQ k (by omega)
  have gx:ey (dI s) (k:Int)=some ((dI s)[k]'d1):=ap d1
  have hp:=Z6q (bs:=dI s) (ls:=cZ) d1 d1
  have hl:=aL7 k d1
  have hs:a.length+1≤aba:=by unfold aba;omega
  cases b1:(dI s)[k]'d1
  .rw[b1] at gx hp
   simp only[Bool.false_eq_true,if_false,List.nil_append] at hp
   simp -implicitDefEqProofs(maxSteps:=9^9)only[Tryz.f157,↓zA,sevalprocAttr,akz,f3,f4,f5,f6,ho,e12,d1,gx,hw,aHz,aAC,aka,ahZ,amH]
   exact⟨a,rfl,by omega,by rw[E,hp]⟩
  .rw[b1] at gx hp
   simp only[if_true] at hp
   simp -implicitDefEqProofs(maxSteps:=9^9)only[Tryz.f157,↓zA,sevalprocAttr,akz,f3,f4,f5,f6,ho,e12,d1,gx,hw,hl,aHz,aAC,aka,ahZ,amH,al1,hs]
   exact⟨a++[cZ[k]'d1],rfl,by rw[List.length_append];simp;omega,by rw[E,hp,List.append_assoc]⟩
 .have e:k=12:=by omega
  subst e
  have e:bj s=a:=by rw[E];exact List.append_nil a
  simp -implicitDefEqProofs(maxSteps:=9^9)only[Tryz.f157,↓zA,sevalprocAttr,akz,f3,f4,f5,f6,ho,aHz,aka,e]
theorem bD (s:Sm) (K:An→Prop):aG Tryz.prog pr 157 [.of (.agg (smC s))] [] K↔K ⟨false,[dA (ar (bj s))],[]⟩:=ae.k (atE s) K
theorem aHv (of:List UInt8) (c:UInt8):bu of c=of.any fun d=>decide (d=c):=rfl
theorem aBg (a b:UInt8):(((a.toNat:Nat):Int)=((b.toNat:Nat):Int))=(a=b):=propext ⟨fun h=>UInt8.toNat_inj.1 (by omega),fun h=>by rw[h]⟩
def acO:=ai (ai @zq @zT0) (ai @awa (aw aKj))
theorem ac9 (l of:List UInt8) (h1:l.length≤4611686018427387903) (h2:of.length≤4611686018427387903):G1 158 [.of (ao (ar l)),.of (ao (ar of))] (ah (dP l of)):=by
 refine aj rfl aKj awa rfl ?_
 simp -implicitDefEqProofs(maxSteps:=9^9)only[Tryz.f158,↓zA,sevalprocAttr,acO]
 refine aL l.length (fun k t=>t.fr 0=dA (ar l)∧t.fr 1=dA (ar of)∧t.fr 5=ak k∧t.objs=[]∧dP l of=(l.drop k).all (bu of)) ?_ ?_
 .simp -implicitDefEqProofs(maxSteps:=9^9)only[Tryz.f158,↓zA,sevalprocAttr,acO]
  try exact rfl
 rintro k ⟨frk,obk,ckk⟩ hk ⟨f0,f1,f5,fo,Ek⟩
 dsimp only at f0 f1 f5 fo
 rcases Nat.lt_or_ge k l.length with dk|dk
 .have hw:=aQ k (by omega)
  have gx:=ap dk
  rw[aJ dk,List.all_cons] at Ek
  generalize l[k]=x at *
  simp -implicitDefEqProofs(maxSteps:=9^9)only[Tryz.f158,↓zA,sevalprocAttr,acO,f0,f1,f5,fo,aa,dk]
  refine aL of.length (fun j t=>t.fr 0=dA (ar l)∧t.fr 1=dA (ar of)∧t.fr 5=ak k∧t.fr 7=ak j∧t.objs=[]∧∃ b:Bool,t.fr 6=ah b∧bu of x=(b||(of.drop j).any fun d=>decide (d=x))) ?_ ?_
  .simp -implicitDefEqProofs(maxSteps:=9^9)only[Tryz.f158,↓zA,sevalprocAttr,acO,f0,f1,f5,fo]
   exact⟨false,rfl,by rw[aHv,Bool.false_or]⟩
  rintro j ⟨frj,obj,ckj⟩ hj ⟨g0,g1,g5,g7,go,b,g6,Ej⟩
  dsimp only at g0 g1 g5 g6 g7 go
  rcases Nat.lt_or_ge j of.length with dj|dj
  .have hwj:=aQ j (by omega)
   have gy:=ap dj
   rw[aJ dj,List.any_cons] at Ej
   generalize of[j]=y at *
   cases b
   .by_cases c0:y=x
    .rw[decide_eq_true c0,Bool.true_or,Bool.false_or] at Ej
     simp -implicitDefEqProofs(maxSteps:=9^9)only[Tryz.f158,↓zA,sevalprocAttr,acO,g0,g1,g5,g6,g7,go,aa,dj,gx,gy,hwj,eq_true c0]
     exact⟨true,by rw[decide_eq_true (by rw[aBg];exact c0)],by rw[Ej];rfl⟩
    .rw[decide_eq_false c0,Bool.false_or] at Ej
     simp -implicitDefEqProofs(maxSteps:=9^9)only[Tryz.f158,↓zA,sevalprocAttr,acO,g0,g1,g5,g6,g7,go,aa,dj,gx,gy,hwj,c0]
     exact⟨false,by rw[decide_eq_false (by rw[aBg];exact c0)],Ej⟩
   .simp -implicitDefEqProofs(maxSteps:=9^9)only[Tryz.f158,↓zA,sevalprocAttr,acO,g0,g1,g5,g6,g7,go,aa,dj,gx,gy,hwj]
    exact⟨true,rfl,by rw[Ej];rfl⟩
  .have e:j=of.length:=by omega
   subst e
   rw[List.drop_length,List.any_nil,Bool.or_false] at Ej
   cases b
   .rw[Ej,Bool.false_and] at Ek
    simp -implicitDefEqProofs(maxSteps:=9^9)only[Tryz.f158,↓zA,sevalprocAttr,acO,g0,g1,g5,g6,g7,go,aa,Nat.lt_irrefl,Ek]
   .rw[Ej,Bool.true_and] at Ek
    simp -implicitDefEqProofs(maxSteps:=9^9)only[Tryz.f158,↓zA,sevalprocAttr,acO,g0,g1,g5,g6,g7,go,aa,Nat.lt_irrefl,hw,Ek]
 .have e:k=l.length:=by omega
  subst e
  rw[List.drop_length,List.all_nil] at Ek
  simp -implicitDefEqProofs(maxSteps:=9^9)only[Tryz.f158,↓zA,sevalprocAttr,acO,f0,f1,f5,fo,aa,Nat.lt_irrefl,Ek]
end Go.Proofs.YtjajlmjfddohfaaGreatDoor

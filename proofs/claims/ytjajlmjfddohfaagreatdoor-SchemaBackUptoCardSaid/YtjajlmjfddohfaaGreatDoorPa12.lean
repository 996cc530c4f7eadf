/-
  Chapter 9: which expressions may be, as the program tells it. Conditions: none.
-/
import Derived.Test.YtjajlmjfddohfaaGreatDoorPa11
set_option linter.defProp false
set_option linter.unusedSectionVars false
set_option maxRecDepth 100000
set_option maxHeartbeats 32000000
namespace Go.Proofs.YtjajlmjfddohfaaGreatDoor
open Go Go.Pe Go.Tab
def aVu:=ai (ai (ai @zq @aXJ) (ai @aXI (ai @aXH @jZ))) (ai (ai @P3 @Q3) (ai @zT0 (ai @awB (aw aKJ))))
theorem aHu (a b:Nat×Nat) (h:a.1+b.1≤4611686018427387903):G1 131 [.of (.agg (szC (szP a))),.of (.agg (szC (szP b)))] (.of (.agg (szC (szP (aM a b))))):=by
 have hw:IntKind.i64.wrap ((a.1:Int)+b.1)=((a.1+b.1:Nat):Int):=by rw[da _ (by omega) (by omega)];rfl
 have hm:(if (a.2:Int)<b.2 then (b.2:Int) else a.2)=((max a.2 b.2:Nat):Int):=by split <;> omega
 have e:szC (szP (aM a b))=[ci ((a.1+b.1:Nat):Int),ci ((max a.2 b.2:Nat):Int)]:=rfl
 refine aj rfl aKJ awB rfl ?_
 simp -implicitDefEqProofs(maxSteps:=9^9)only[Tryz.f131,↓zA,sevalprocAttr,aVu,akM,akN,hw,hm,e]
theorem ac3 (a b:Nat×Nat) (K:An→Prop):aG Tryz.prog pr 131 [.of (.agg (szC (szP a))),.of (.agg (szC (szP b)))] [] K↔ifP (a.1+b.1≤4611686018427387903) (K ⟨false,[.of (.agg (szC (szP (aM a b))))],[]⟩) (fp Tryz.prog pr 131 [.of (.agg (szC (szP a))),.of (.agg (szC (szP b)))] K):=hZ (aHu a b) K
def aVl:=ai (ai (ai @zq @aXG) (ai @aXF @jZ)) (ai (ai @P3 @Q3) (ai @zT0 (ai @av1 (aw aKa))))
theorem aLi (a:Nat×Nat) (h:a.1≤4611686018427387903∧a.2≤4611686018427387903):G1 167 [.of (.agg (szC (szP a)))] (.of (.agg (szC (szP (upN a))))):=by
 have hw:=aQ a.1 (by omega)
 have hw2:=aQ a.2 (by omega)
 have e:szC (szP (upN a))=[ci ((a.1+1:Nat):Int),ci ((a.2+1:Nat):Int)]:=rfl
 refine aj rfl aKa av1 rfl ?_
 simp -implicitDefEqProofs(maxSteps:=9^9)only[Tryz.f167,↓zA,sevalprocAttr,aVl,akM,akN,hw,hw2,e]
theorem aFC (a:Nat×Nat) (K:An→Prop):aG Tryz.prog pr 167 [.of (.agg (szC (szP a)))] [] K↔ifP (a.1≤4611686018427387903∧a.2≤4611686018427387903) (K ⟨false,[.of (.agg (szC (szP (upN a))))],[]⟩) (fp Tryz.prog pr 167 [.of (.agg (szC (szP a)))] K):=hZ (aLi a) K
def aOF:=ai (ai (ai @zq @aXo) (ai @jZ @P3)) (ai (ai @Q3 @zT0) (ai @aCZ (aw aRY)))
theorem aEt (a:Nat×Nat):G1 91 [.of (.agg (szC (szP a)))] (ah (iB a)):=by
 have e1:((a.1:Int)≤400)=(a.1≤400):=propext (by omega)
 have e2:((a.2:Int)≤40)=(a.2≤40):=propext (by omega)
 refine aj rfl aRY aCZ rfl ?_
 by_cases c1:a.1≤400
 .simp -implicitDefEqProofs(maxSteps:=9^9)only[Tryz.f91,↓zA,sevalprocAttr,aOF,akM,akN,e1,e2,iB,c1,decide_true,Bool.true_and]
 .simp -implicitDefEqProofs(maxSteps:=9^9)only[Tryz.f91,↓zA,sevalprocAttr,aOF,akM,akN,e1,e2,iB,c1,decide_false,Bool.false_and]
theorem alI (a:Nat×Nat) (K:An→Prop):aG Tryz.prog pr 91 [.of (.agg (szC (szP a)))] [] K↔K ⟨false,[ah (iB a)],[]⟩:=ae.k (aEt a) K
def apv:=ai (ai (ai @zq @aiZ) (ai @aiY (ai @abj @aat))) (ai (ai @jZ (ai @bK @fT)) (ai @zT0 (ai @awG (aw aKO))))
theorem akP (l:List (List Xp)) (w:(List Xp)→Nat×Nat) (g:Nat) (cp:List C) (h:l.length≤4611686018427387903∧(aH w l).1≤4611686018427387903∧FnS (slC xpC) g cp w l):G1 126 [.of (slC (lsC xpC) l),.of (.fn g cp)] (.of (.agg (szC (szP (aH w l))))):=by
 obtain⟨hl,hs,ho,hc,hg⟩:=h
 refine aj rfl aKO awG rfl ?_
 simp -implicitDefEqProofs(maxSteps:=9^9)only[Tryz.f126,↓zA,sevalprocAttr,apv,ho]
 refine aL l.length (fun k s=>∃ a,s.fr 1=.of (.fn g cp)∧s.fr 4=.ptr 0 0∧s.fr 5=.ptr 1 0∧s.fr 8=.of (slC (lsC xpC) l)∧s.fr 9=ak l.length∧s.fr 10=ak k∧s.objs=[.var 126 [ak 0,ak 0],.var 126 [.of (ci ((a:Nat×Nat).1:Int)),.of (ci (a.2:Int))]]∧aM a (aH w (l.drop k))=aH w l) ?_ ?_
 .refine⟨(0,0),?_⟩
  simp -implicitDefEqProofs(maxSteps:=9^9)only[Tryz.f126,↓zA,sevalprocAttr,apv,jx]
  try exact rfl
 .rintro k s hk ⟨a,f1,f4,f5,f8,f9,f10,hob,E⟩
  have ea:szC (szP a)=[ci (a.1:Int),ci (a.2:Int)]:=rfl
  rcases Nat.lt_or_ge k l.length with c1|c1
  .have hw:=aQ k (by omega)
   have hx:=fun K=>ae.k (hg l[k] (List.getElem_mem c1)) K
   rw[aJ c1,jr,← fZ] at E
   have hb:a.1+(w l[k]).1≤4611686018427387903:=by have:=congrArg Prod.fst E;simp only[afK] at this;omega
   have eb:szC (szP (aM a (w l[k])))=[ci ((aM a (w l[k])).1:Int),ci ((aM a (w l[k])).2:Int)]:=rfl
   simp -implicitDefEqProofs(maxSteps:=9^9)only[Tryz.f126,↓zA,sevalprocAttr,apv,f1,f4,f5,f8,f9,f10,hob,ho,hc,aa,c1,ap c1,hw,hx,← ea,ac3,hb,eb]
   exact⟨_,rfl,E⟩
  .have e:k=l.length:=by omega
   subst e
   rw[List.drop_length,aH,eX] at E
   subst E
   simp -implicitDefEqProofs(maxSteps:=9^9)only[Tryz.f126,↓zA,sevalprocAttr,apv,f1,f4,f5,f8,f9,f10,hob,aa,Nat.lt_irrefl,ea]
theorem aqh (l:List (List Xp)) (w:(List Xp)→Nat×Nat) (g:Nat) (cp:List C) (h:l.length≤4611686018427387903∧(aH w l).1≤4611686018427387903∧FnS (slC xpC) g cp w l) (K:An→Prop):aG Tryz.prog pr 126 [.of (slC (lsC xpC) l),.of (.fn g cp)] [] K↔K ⟨false,[.of (.agg (szC (szP (aH w l))))],[]⟩:=ae.k (akP l w g cp h) K
def apu:=ai (ai (ai @zq (ai @aiZ @aiY)) (ai @alo (ai @abj @aat))) (ai (ai @bK (ai @jZ @dR)) (ai @zT0 (ai @awE (aw aKM))))
theorem aqg (l:List Xp) (w:Xp→Nat×Nat) (g:Nat) (cp:List C) (h:l.length≤4611686018427387903∧(aH w l).1≤4611686018427387903∧FnS (fun x=>.agg (xpC x)) g cp w l):G1 128 [.of (slC xpC l),.of (.fn g cp)] (.of (.agg (szC (szP (aH w l))))):=by
 obtain⟨hl,hs,ho,hc,hg⟩:=h
 refine aj rfl aKM awE rfl ?_
 simp -implicitDefEqProofs(maxSteps:=9^9)only[Tryz.f128,↓zA,sevalprocAttr,apu,ho]
 refine aL l.length (fun k s=>∃ a,s.fr 1=.of (.fn g cp)∧s.fr 4=.ptr 0 0∧s.fr 5=.ptr 1 0∧s.fr 8=.of (slC xpC l)∧s.fr 9=ak l.length∧s.fr 10=ak k∧s.objs=[.var 126 [ak 0,ak 0],.var 126 [.of (ci ((a:Nat×Nat).1:Int)),.of (ci (a.2:Int))]]∧aM a (aH w (l.drop k))=aH w l) ?_ ?_
 .refine⟨(0,0),?_⟩
  simp -implicitDefEqProofs(maxSteps:=9^9)only[Tryz.f128,↓zA,sevalprocAttr,apu,jx]
  try exact rfl
 .rintro k s hk ⟨a,f1,f4,f5,f8,f9,f10,hob,E⟩
  have ea:szC (szP a)=[ci (a.1:Int),ci (a.2:Int)]:=rfl
  rcases Nat.lt_or_ge k l.length with c1|c1
  .have hw:=aQ k (by omega)
   have hx:=fun K=>ae.k (hg l[k] (List.getElem_mem c1)) K
   rw[aJ c1,jr,← fZ] at E
   have hb:a.1+(w l[k]).1≤4611686018427387903:=by have:=congrArg Prod.fst E;simp only[afK] at this;omega
   have eb:szC (szP (aM a (w l[k])))=[ci ((aM a (w l[k])).1:Int),ci ((aM a (w l[k])).2:Int)]:=rfl
   simp -implicitDefEqProofs(maxSteps:=9^9)only[Tryz.f128,↓zA,sevalprocAttr,apu,f1,f4,f5,f8,f9,f10,hob,ho,hc,aa,c1,ap c1,hw,hx,← ea,ac3,hb,eb]
   exact⟨_,rfl,E⟩
  .have e:k=l.length:=by omega
   subst e
   rw[List.drop_length,aH,eX] at E
   subst E
   simp -implicitDefEqProofs(maxSteps:=9^9)only[Tryz.f128,↓zA,sevalprocAttr,apu,f1,f4,f5,f8,f9,f10,hob,aa,Nat.lt_irrefl,ea]
theorem aBo (l:List Xp) (w:Xp→Nat×Nat) (g:Nat) (cp:List C) (h:l.length≤4611686018427387903∧(aH w l).1≤4611686018427387903∧FnS (fun x=>.agg (xpC x)) g cp w l) (K:An→Prop):aG Tryz.prog pr 128 [.of (slC xpC l),.of (.fn g cp)] [] K↔K ⟨false,[.of (.agg (szC (szP (aH w l))))],[]⟩:=ae.k (aqg l w g cp h) K
def apt:=ai (ai (ai @zq (ai @aiZ @aiY)) (ai @alo (ai @abj @aat))) (ai (ai @jZ (ai @j0 @kT)) (ai @zT0 (ai @awD (aw aKL))))
theorem amz (l:List As) (w:As→Nat×Nat) (g:Nat) (cp:List C) (h:l.length≤4611686018427387903∧(aH w l).1≤4611686018427387903∧FnS (fun x=>.agg (asC x)) g cp w l):G1 129 [.of (slC asC l),.of (.fn g cp)] (.of (.agg (szC (szP (aH w l))))):=by
 obtain⟨hl,hs,ho,hc,hg⟩:=h
 refine aj rfl aKL awD rfl ?_
 simp -implicitDefEqProofs(maxSteps:=9^9)only[Tryz.f129,↓zA,sevalprocAttr,apt,ho]
 refine aL l.length (fun k s=>∃ a,s.fr 1=.of (.fn g cp)∧s.fr 4=.ptr 0 0∧s.fr 5=.ptr 1 0∧s.fr 8=.of (slC asC l)∧s.fr 9=ak l.length∧s.fr 10=ak k∧s.objs=[.var 126 [ak 0,ak 0],.var 126 [.of (ci ((a:Nat×Nat).1:Int)),.of (ci (a.2:Int))]]∧aM a (aH w (l.drop k))=aH w l) ?_ ?_
 .refine⟨(0,0),?_⟩
  simp -implicitDefEqProofs(maxSteps:=9^9)only[Tryz.f129,↓zA,sevalprocAttr,apt,jx]
  try exact rfl
 .rintro k s hk ⟨a,f1,f4,f5,f8,f9,f10,hob,E⟩
  have ea:szC (szP a)=[ci (a.1:Int),ci (a.2:Int)]:=rfl
  rcases Nat.lt_or_ge k l.length with c1|c1
  .have hw:=aQ k (by omega)
   have hx:=fun K=>ae.k (hg l[k] (List.getElem_mem c1)) K
   rw[aJ c1,jr,← fZ] at E
   have hb:a.1+(w l[k]).1≤4611686018427387903:=by have:=congrArg Prod.fst E;simp only[afK] at this;omega
   have eb:szC (szP (aM a (w l[k])))=[ci ((aM a (w l[k])).1:Int),ci ((aM a (w l[k])).2:Int)]:=rfl
   simp -implicitDefEqProofs(maxSteps:=9^9)only[Tryz.f129,↓zA,sevalprocAttr,apt,f1,f4,f5,f8,f9,f10,hob,ho,hc,aa,c1,ap c1,hw,hx,← ea,ac3,hb,eb]
   exact⟨_,rfl,E⟩
  .have e:k=l.length:=by omega
   subst e
   rw[List.drop_length,aH,eX] at E
   subst E
   simp -implicitDefEqProofs(maxSteps:=9^9)only[Tryz.f129,↓zA,sevalprocAttr,apt,f1,f4,f5,f8,f9,f10,hob,aa,Nat.lt_irrefl,ea]
theorem asU (l:List As) (w:As→Nat×Nat) (g:Nat) (cp:List C) (h:l.length≤4611686018427387903∧(aH w l).1≤4611686018427387903∧FnS (fun x=>.agg (asC x)) g cp w l) (K:An→Prop):aG Tryz.prog pr 129 [.of (slC asC l),.of (.fn g cp)] [] K↔K ⟨false,[.of (.agg (szC (szP (aH w l))))],[]⟩:=ae.k (amz l w g cp h) K
def aps:=ai (ai (ai @zq (ai @aiZ @aiY)) (ai @alo (ai @abj @aat))) (ai (ai @jZ (ai @dY @ec)) (ai @zT0 (ai @awA (aw aKI))))
theorem aoz (l:List Qy) (w:Qy→Nat×Nat) (g:Nat) (cp:List C) (h:l.length≤4611686018427387903∧(aH w l).1≤4611686018427387903∧FnS (fun x=>.agg (qyC x)) g cp w l):G1 132 [.of (slC qyC l),.of (.fn g cp)] (.of (.agg (szC (szP (aH w l))))):=by
 obtain⟨hl,hs,ho,hc,hg⟩:=h
 refine aj rfl aKI awA rfl ?_
 simp -implicitDefEqProofs(maxSteps:=9^9)only[Tryz.f132,↓zA,sevalprocAttr,aps,ho]
 refine aL l.length (fun k s=>∃ a,s.fr 1=.of (.fn g cp)∧s.fr 4=.ptr 0 0∧s.fr 5=.ptr 1 0∧s.fr 8=.of (slC qyC l)∧s.fr 9=ak l.length∧s.fr 10=ak k∧s.objs=[.var 126 [ak 0,ak 0],.var 126 [.of (ci ((a:Nat×Nat).1:Int)),.of (ci (a.2:Int))]]∧aM a (aH w (l.drop k))=aH w l) ?_ ?_
 .refine⟨(0,0),?_⟩
  simp -implicitDefEqProofs(maxSteps:=9^9)only[Tryz.f132,↓zA,sevalprocAttr,aps,jx]
  try exact rfl
 .rintro k s hk ⟨a,f1,f4,f5,f8,f9,f10,hob,E⟩
  have ea:szC (szP a)=[ci (a.1:Int),ci (a.2:Int)]:=rfl
  rcases Nat.lt_or_ge k l.length with c1|c1
  .have hw:=aQ k (by omega)
   have hx:=fun K=>ae.k (hg l[k] (List.getElem_mem c1)) K
   rw[aJ c1,jr,← fZ] at E
   have hb:a.1+(w l[k]).1≤4611686018427387903:=by have:=congrArg Prod.fst E;simp only[afK] at this;omega
   have eb:szC (szP (aM a (w l[k])))=[ci ((aM a (w l[k])).1:Int),ci ((aM a (w l[k])).2:Int)]:=rfl
   simp -implicitDefEqProofs(maxSteps:=9^9)only[Tryz.f132,↓zA,sevalprocAttr,aps,f1,f4,f5,f8,f9,f10,hob,ho,hc,aa,c1,ap c1,hw,hx,← ea,ac3,hb,eb]
   exact⟨_,rfl,E⟩
  .have e:k=l.length:=by omega
   subst e
   rw[List.drop_length,aH,eX] at E
   subst E
   simp -implicitDefEqProofs(maxSteps:=9^9)only[Tryz.f132,↓zA,sevalprocAttr,aps,f1,f4,f5,f8,f9,f10,hob,aa,Nat.lt_irrefl,ea]
theorem ayz (l:List Qy) (w:Qy→Nat×Nat) (g:Nat) (cp:List C) (h:l.length≤4611686018427387903∧(aH w l).1≤4611686018427387903∧FnS (fun x=>.agg (qyC x)) g cp w l) (K:An→Prop):aG Tryz.prog pr 132 [.of (slC qyC l),.of (.fn g cp)] [] K↔K ⟨false,[.of (.agg (szC (szP (aH w l))))],[]⟩:=ae.k (aoz l w g cp h) K
def apn:=ai (ai (ai @zq (ai @aiZ @aiY)) (ai @alo (ai @abj @aat))) (ai (ai @jZ (ai @jh @kQ)) (ai @zT0 (ai @avT (aw aJ2))))
theorem aqe (l:List Im) (w:Im→Nat×Nat) (g:Nat) (cp:List C) (h:l.length≤4611686018427387903∧(aH w l).1≤4611686018427387903∧FnS (fun x=>.agg (imC x)) g cp w l):G1 176 [.of (slC imC l),.of (.fn g cp)] (.of (.agg (szC (szP (aH w l))))):=by
 obtain⟨hl,hs,ho,hc,hg⟩:=h
 refine aj rfl aJ2 avT rfl ?_
 simp -implicitDefEqProofs(maxSteps:=9^9)only[Tryz.f176,↓zA,sevalprocAttr,apn,ho]
 refine aL l.length (fun k s=>∃ a,s.fr 1=.of (.fn g cp)∧s.fr 4=.ptr 0 0∧s.fr 5=.ptr 1 0∧s.fr 8=.of (slC imC l)∧s.fr 9=ak l.length∧s.fr 10=ak k∧s.objs=[.var 126 [ak 0,ak 0],.var 126 [.of (ci ((a:Nat×Nat).1:Int)),.of (ci (a.2:Int))]]∧aM a (aH w (l.drop k))=aH w l) ?_ ?_
 .refine⟨(0,0),?_⟩
  simp -implicitDefEqProofs(maxSteps:=9^9)only[Tryz.f176,↓zA,sevalprocAttr,apn,jx]
  try exact rfl
 .rintro k s hk ⟨a,f1,f4,f5,f8,f9,f10,hob,E⟩
  have ea:szC (szP a)=[ci (a.1:Int),ci (a.2:Int)]:=rfl
  rcases Nat.lt_or_ge k l.length with c1|c1
  .have hw:=aQ k (by omega)
   have hx:=fun K=>ae.k (hg l[k] (List.getElem_mem c1)) K
   rw[aJ c1,jr,← fZ] at E
   have hb:a.1+(w l[k]).1≤4611686018427387903:=by have:=congrArg Prod.fst E;simp only[afK] at this;omega
   have eb:szC (szP (aM a (w l[k])))=[ci ((aM a (w l[k])).1:Int),ci ((aM a (w l[k])).2:Int)]:=rfl
   simp -implicitDefEqProofs(maxSteps:=9^9)only[Tryz.f176,↓zA,sevalprocAttr,apn,f1,f4,f5,f8,f9,f10,hob,ho,hc,aa,c1,ap c1,hw,hx,← ea,ac3,hb,eb]
   exact⟨_,rfl,E⟩
  .have e:k=l.length:=by omega
   subst e
   rw[List.drop_length,aH,eX] at E
   subst E
   simp -implicitDefEqProofs(maxSteps:=9^9)only[Tryz.f176,↓zA,sevalprocAttr,apn,f1,f4,f5,f8,f9,f10,hob,aa,Nat.lt_irrefl,ea]
theorem aBm (l:List Im) (w:Im→Nat×Nat) (g:Nat) (cp:List C) (h:l.length≤4611686018427387903∧(aH w l).1≤4611686018427387903∧FnS (fun x=>.agg (imC x)) g cp w l) (K:An→Prop):aG Tryz.prog pr 176 [.of (slC imC l),.of (.fn g cp)] [] K↔K ⟨false,[.of (.agg (szC (szP (aH w l))))],[]⟩:=ae.k (aqe l w g cp h) K
def apm:=ai (ai (ai @zq (ai @aiZ @aiY)) (ai @alo (ai @abj @aat))) (ai (ai @jZ (ai @gV @hU)) (ai @zT0 (ai @avR (aw aJ0))))
theorem aqf (l:List Fm) (w:Fm→Nat×Nat) (g:Nat) (cp:List C) (h:l.length≤4611686018427387903∧(aH w l).1≤4611686018427387903∧FnS (fun x=>.agg (fmC x)) g cp w l):G1 178 [.of (slC fmC l),.of (.fn g cp)] (.of (.agg (szC (szP (aH w l))))):=by
 obtain⟨hl,hs,ho,hc,hg⟩:=h
 refine aj rfl aJ0 avR rfl ?_
 simp -implicitDefEqProofs(maxSteps:=9^9)only[Tryz.f178,↓zA,sevalprocAttr,apm,ho]
 refine aL l.length (fun k s=>∃ a,s.fr 1=.of (.fn g cp)∧s.fr 4=.ptr 0 0∧s.fr 5=.ptr 1 0∧s.fr 8=.of (slC fmC l)∧s.fr 9=ak l.length∧s.fr 10=ak k∧s.objs=[.var 126 [ak 0,ak 0],.var 126 [.of (ci ((a:Nat×Nat).1:Int)),.of (ci (a.2:Int))]]∧aM a (aH w (l.drop k))=aH w l) ?_ ?_
 .refine⟨(0,0),?_⟩
  simp -implicitDefEqProofs(maxSteps:=9^9)only[Tryz.f178,↓zA,sevalprocAttr,apm,jx]
  try exact rfl
 .rintro k s hk ⟨a,f1,f4,f5,f8,f9,f10,hob,E⟩
  have ea:szC (szP a)=[ci (a.1:Int),ci (a.2:Int)]:=rfl
  rcases Nat.lt_or_ge k l.length with c1|c1
  .have hw:=aQ k (by omega)
   have hx:=fun K=>ae.k (hg l[k] (List.getElem_mem c1)) K
   rw[aJ c1,jr,← fZ] at E
   have hb:a.1+(w l[k]).1≤4611686018427387903:=by have:=congrArg Prod.fst E;simp only[afK] at this;omega
   have eb:szC (szP (aM a (w l[k])))=[ci ((aM a (w l[k])).1:Int),ci ((aM a (w l[k])).2:Int)]:=rfl
   simp -implicitDefEqProofs(maxSteps:=9^9)only[Tryz.f178,↓zA,sevalprocAttr,apm,f1,f4,f5,f8,f9,f10,hob,ho,hc,aa,c1,ap c1,hw,hx,← ea,ac3,hb,eb]
   exact⟨_,rfl,E⟩
  .have e:k=l.length:=by omega
   subst e
   rw[List.drop_length,aH,eX] at E
   subst E
   simp -implicitDefEqProofs(maxSteps:=9^9)only[Tryz.f178,↓zA,sevalprocAttr,apm,f1,f4,f5,f8,f9,f10,hob,aa,Nat.lt_irrefl,ea]
theorem aBn (l:List Fm) (w:Fm→Nat×Nat) (g:Nat) (cp:List C) (h:l.length≤4611686018427387903∧(aH w l).1≤4611686018427387903∧FnS (fun x=>.agg (fmC x)) g cp w l) (K:An→Prop):aG Tryz.prog pr 178 [.of (slC fmC l),.of (.fn g cp)] [] K↔K ⟨false,[.of (.agg (szC (szP (aH w l))))],[]⟩:=ae.k (aqf l w g cp h) K
end Go.Proofs.YtjajlmjfddohfaaGreatDoor
namespace Go.Tab
open Go Go.Pe
theorem amv (e:Xp):bk e=upN (aM (aH bk e.ks) (aH cS e.sb)):=by cases e;rw[bk,abP,aeJ];rfl
theorem amw (q:Qy):cS q=upN (aM (aM (aM (aM (aM (aH cS q.ks) (aH gc q.its)) (aH eT q.fr)) (aH bk q.wh)) (aH bk q.gr)) (aH bk q.hv)):=by
 cases q;rw[cS,aeJ,anJ,ahh,abP,abP,abP];rfl
theorem amx (i:Im):gc i=if i.st then (0,0) else bk i.e:=by cases i;rw[gc];rfl
theorem amy (f:Fm):eT f=upN (aM (aM (aH cS f.sb) (aH eT f.ks)) (aH bk f.on)):=by cases f;rw[eT,aeJ,ahh,abP];rfl
def leW (a:Nat×Nat) (n:Nat):Prop:=a.1≤n∧a.2≤n
theorem fU {α:Type} (f:α→Nat×Nat) (w:α→Nat):∀ l:List α,(∀ x∈l,leW (f x) (w x))→leW (aH f l) (lsW w l)∧(aH f l).1<lsW w l
 | [],_=>by simp[aH,lsW,leW]
 | x::r,h=>by
  have h1:=h x (by simp)
  have h2:=fU f w r (fun y hy=>h y (by simp[hy]))
  simp only[leW,aH,aM,lsW,List.map_cons,List.sum_cons] at h1 h2 ⊢
  omega
theorem bh {α:Type} (w:α→Nat):∀ l:List α,(∀ x∈l,1≤w x)→l.length<lsW w l
 | [],_=>by simp[lsW]
 | x::r,h=>by
  have h1:=h x (by simp)
  have h2:=bh w r (fun y hy=>h y (by simp[hy]))
  simp only[lsW,List.map_cons,List.sum_cons,List.length_cons] at h2 ⊢
  omega
theorem gW (x:Xp):1≤xpW x:=by rw[jB];omega
theorem aaE (x:Qy):1≤qyW x:=by rw[gI];omega
theorem abE (x:Im):1≤imW x:=by rw[abo];omega
theorem iX (x:Fm):1≤fmW x:=by rw[gK];omega
theorem acx:∀ n,(∀ e,xpW e≤n→leW (bk e) (xpW e))∧(∀ e,qyW e≤n→leW (cS e) (qyW e))∧(∀ e,imW e≤n→leW (gc e) (imW e))∧(∀ e,fmW e≤n→leW (eT e) (fmW e))
 | 0=>⟨fun e h=>by have:=gW e;omega,fun e h=>by have:=aaE e;omega,fun e h=>by have:=abE e;omega,fun e h=>by have:=iX e;omega⟩
 | n+1=>by
  obtain⟨i1,i2,i3,i4⟩:=acx n
  have sX:∀ l:List Xp,lsW xpW l≤n+1→leW (aH bk l) (lsW xpW l):=fun l h=>(fU _ _ l fun x hx=>i1 x (by have:=bg (w:=xpW) hx;omega)).1
  have sQ:∀ l:List Qy,lsW qyW l≤n+1→leW (aH cS l) (lsW qyW l):=fun l h=>(fU _ _ l fun x hx=>i2 x (by have:=bg (w:=qyW) hx;omega)).1
  have sI:∀ l:List Im,lsW imW l≤n+1→leW (aH gc l) (lsW imW l):=fun l h=>(fU _ _ l fun x hx=>i3 x (by have:=bg (w:=imW) hx;omega)).1
  have sF:∀ l:List Fm,lsW fmW l≤n+1→leW (aH eT l) (lsW fmW l):=fun l h=>(fU _ _ l fun x hx=>i4 x (by have:=bg (w:=fmW) hx;omega)).1
  refine⟨fun e h=>?_,fun e h=>?_,fun e h=>?_,fun e h=>?_⟩
  .rw[jB] at h ⊢
   have h1:=sX e.ks (by omega)
   have h2:=sQ e.sb (by omega)
   rw[amv]
   simp only[leW,upN,aM] at h1 h2 ⊢
   omega
  .rw[gI] at h ⊢
   have h1:=sQ e.ks (by omega)
   have h2:=sI e.its (by omega)
   have h3:=sF e.fr (by omega)
   have h4:=sX e.wh (by omega)
   have h5:=sX e.gr (by omega)
   have h6:=sX e.hv (by omega)
   rw[amw]
   simp only[leW,upN,aM] at h1 h2 h3 h4 h5 h6 ⊢
   omega
  .rw[abo] at h ⊢
   have h1:=i1 e.e (by omega)
   rw[amx]
   simp only[leW] at h1 ⊢
   split
   .simp
   .omega
  .rw[gK] at h ⊢
   have h1:=sQ e.sb (by omega)
   have h2:=sF e.ks (by omega)
   have h3:=sX e.on (by omega)
   rw[amy]
   simp only[leW,upN,aM] at h1 h2 h3 ⊢
   omega
end Go.Tab
namespace Go.Proofs.YtjajlmjfddohfaaGreatDoor
open Go Go.Pe Go.Tab
abbrev sX (e:Xp):X:=.of (.agg (szC (szP (bk e))))
def aik (l:List Xp):Prop:=∀ x∈l,G1 121 [.of (.agg (xpC x))] (.of (.agg (szC (szP (bk x)))))
def anq (l:List Qy):Prop:=∀ x∈l,G1 133 [.of (.agg (qyC x))] (.of (.agg (szC (szP (cS x)))))
def aHE (l:List Im):Prop:=∀ x∈l,G1 177 [.of (.agg (imC x))] (.of (.agg (szC (szP (gc x)))))
def aAE (l:List Fm):Prop:=∀ x∈l,G1 179 [.of (.agg (fmC x))] (.of (.agg (szC (szP (eT x)))))
abbrev WL:Nat:=1152921504606846976
theorem ahi {l:List Xp} (h:aik l) (hw:lsW xpW l≤WL) (K:An→Prop):aG Tryz.prog pr 128 [.of (slC xpC l),.of (.fn 121 [])] [] K↔K ⟨false,[.of (.agg (szC (szP (aH bk l))))],[]⟩:=by
 have h1:=bh xpW l fun x _=>gW x
 have h2:=fU bk xpW l fun x _=>(acx _).1 x (Nat.le_refl _)
 simp only[leW,WL] at *
 exact aBo l bk _ [] ⟨by omega,by omega,aca,aa5,h⟩ K
theorem ayA {l:List Qy} (h:anq l) (hw:lsW qyW l≤WL) (K:An→Prop):aG Tryz.prog pr 132 [.of (slC qyC l),.of (.fn 133 [])] [] K↔K ⟨false,[.of (.agg (szC (szP (aH cS l))))],[]⟩:=by
 have h1:=bh qyW l fun x _=>aaE x
 have h2:=fU cS qyW l fun x _=>(acx _).2.1 x (Nat.le_refl _)
 simp only[leW,WL] at *
 exact ayz l cS _ [] ⟨by omega,by omega,ahF,afF,h⟩ K
theorem a0G {l:List Im} (h:aHE l) (hw:lsW imW l≤WL) (K:An→Prop):aG Tryz.prog pr 176 [.of (slC imC l),.of (.fn 177 [])] [] K↔K ⟨false,[.of (.agg (szC (szP (aH gc l))))],[]⟩:=by
 have h1:=bh imW l fun x _=>abE x
 have h2:=fU gc imW l fun x _=>(acx _).2.2.1 x (Nat.le_refl _)
 simp only[leW,WL] at *
 exact aBm l gc _ [] ⟨by omega,by omega,aCi,axI,h⟩ K
theorem aOT {l:List Fm} (h:aAE l) (hw:lsW fmW l≤WL) (K:An→Prop):aG Tryz.prog pr 178 [.of (slC fmC l),.of (.fn 179 [])] [] K↔K ⟨false,[.of (.agg (szC (szP (aH eT l))))],[]⟩:=by
 have h1:=bh fmW l fun x _=>iX x
 have h2:=fU eT fmW l fun x _=>(acx _).2.2.2 x (Nat.le_refl _)
 simp only[leW,WL] at *
 exact aBn l eT _ [] ⟨by omega,by omega,aq0,am9,h⟩ K
theorem sbX (l:List Xp):leW (aH bk l) (lsW xpW l):=(fU bk xpW l fun x _=>(acx _).1 x (Nat.le_refl _)).1
theorem sbQ (l:List Qy):leW (aH cS l) (lsW qyW l):=(fU cS qyW l fun x _=>(acx _).2.1 x (Nat.le_refl _)).1
theorem sbI (l:List Im):leW (aH gc l) (lsW imW l):=(fU gc imW l fun x _=>(acx _).2.2.1 x (Nat.le_refl _)).1
theorem sbF (l:List Fm):leW (aH eT l) (lsW fmW l):=(fU eT fmW l fun x _=>(acx _).2.2.2 x (Nat.le_refl _)).1
def aVy:=ai (ai (ai (ai @zq @aXE) (ai @aXD (ai @ahG @afG))) (ai (ai @alf @ajh) (ai @abj (ai @aat @aq2)))) (ai (ai (ai @anb @bK) (ai @jZ (ai @dY @aca))) (ai (ai @aa5 (ai @ahF @afF)) (ai @zT0 (ai @awL (aw aKT)))))
theorem aoD (e:Xp) (hw:xpW e≤WL) (i1:aik e.ks) (i2:anq e.sb):G1 121 [.of (.agg (xpC e))] (.of (.agg (szC (szP (bk e))))):=by
 rw[jB] at hw
 simp only[WL] at hw
 have k1:=ahi i1 (by simp only[WL];omega)
 have k2:=ayA i2 (by simp only[WL];omega)
 have b1:=sbX e.ks
 have b2:=sbQ e.sb
 simp only[leW] at b1 b2
 have h1:(aH bk e.ks).1+(aH cS e.sb).1≤4611686018427387903:=by omega
 have h2:(aM (aH bk e.ks) (aH cS e.sb)).1≤4611686018427387903∧(aM (aH bk e.ks) (aH cS e.sb)).2≤4611686018427387903:=by simp only[aM];omega
 rw[amv]
 refine aj rfl aKT awL rfl ?_
 simp -implicitDefEqProofs(maxSteps:=9^9)only[Tryz.f121,↓zA,sevalprocAttr,aVy,k1,k2,ac3,h1,aFC,h2]
def aH7:=ai (ai (ai @zq (ai @aXC @aXB)) (ai @aca (ai @aa5 @bK))) (ai (ai @jZ (ai @jh @Q4)) (ai @zT0 (ai @avS (aw aJ1))))
theorem aoB (e:Im) (i1:G1 121 [.of (.agg (xpC e.e))] (.of (.agg (szC (szP (bk e.e)))))):G1 177 [.of (.agg (imC e))] (.of (.agg (szC (szP (gc e))))):=by
 have k1:=fun K=>ae.k i1 K
 have ez:szC (szP (0,0))=[ci 0,ci 0]:=rfl
 rw[amx]
 refine aj rfl aJ1 avS rfl ?_
 cases c:e.st
 .simp -implicitDefEqProofs(maxSteps:=9^9)only[Tryz.f177,↓zA,sevalprocAttr,aH7,c,k1]
 .simp -implicitDefEqProofs(maxSteps:=9^9)only[Tryz.f177,↓zA,sevalprocAttr,aH7,c,ez]
def aVj:=ai (ai (ai (ai @zq (ai @aXA @aXz)) (ai @alf (ai @ajh @aCh))) (ai (ai @axH (ai @abj @aat)) (ai (ai @ahG @afG) (ai @aq2 @anb)))) (ai (ai (ai @jZ (ai @gV @dY)) (ai @bK (ai @ahF @afF))) (ai (ai @aq0 (ai @am9 @aca)) (ai (ai @aa5 @zT0) (ai @avQ (aw aJZ)))))
theorem aoC (e:Fm) (hw:fmW e≤WL) (i1:anq e.sb) (i2:aAE e.ks) (i3:aik e.on):G1 179 [.of (.agg (fmC e))] (.of (.agg (szC (szP (eT e))))):=by
 rw[gK] at hw
 simp only[WL] at hw
 have k1:=ayA i1 (by simp only[WL];omega)
 have k2:=aOT i2 (by simp only[WL];omega)
 have k3:=ahi i3 (by simp only[WL];omega)
 have b1:=sbQ e.sb
 have b2:=sbF e.ks
 have b3:=sbX e.on
 simp only[leW] at b1 b2 b3
 have h1:(aH cS e.sb).1+(aH eT e.ks).1≤4611686018427387903:=by omega
 have h2:(aM (aH cS e.sb) (aH eT e.ks)).1+(aH bk e.on).1≤4611686018427387903:=by simp only[aM];omega
 have h3:(aM (aM (aH cS e.sb) (aH eT e.ks)) (aH bk e.on)).1≤4611686018427387903∧(aM (aM (aH cS e.sb) (aH eT e.ks)) (aH bk e.on)).2≤4611686018427387903:=by simp only[aM];omega
 rw[amy]
 refine aj rfl aJZ avQ rfl ?_
 simp -implicitDefEqProofs(maxSteps:=9^9)only[Tryz.f179,↓zA,sevalprocAttr,aVj,k1,k2,k3,ac3,h1,h2,aFC,h3]
def aVt:=ai (ai (ai (ai (ai @zq @aXy) (ai @aXx @alf)) (ai (ai @ajh @aQc) (ai @aNP @abj))) (ai (ai (ai @aat @aCh) (ai @axH @aXw)) (ai (ai @ahG @afG) (ai @aq2 @anb)))) (ai (ai (ai (ai @jZ @dY) (ai @jh @gV)) (ai (ai @bK @ahF) (ai @afF @aCi))) (ai (ai (ai @axI @aq0) (ai @am9 @aca)) (ai (ai @aa5 @zT0) (ai @awz (aw aKH)))))
theorem amB (e:Qy) (hw:qyW e≤WL) (i1:anq e.ks) (i2:aHE e.its) (i3:aAE e.fr) (i4:aik e.wh) (i5:aik e.gr) (i6:aik e.hv):G1 133 [.of (.agg (qyC e))] (.of (.agg (szC (szP (cS e))))):=by
 rw[gI] at hw
 simp only[WL] at hw
 have k1:=ayA i1 (by simp only[WL];omega)
 have k2:=a0G i2 (by simp only[WL];omega)
 have k3:=aOT i3 (by simp only[WL];omega)
 have k4:=ahi i4 (by simp only[WL];omega)
 have k5:=ahi i5 (by simp only[WL];omega)
 have k6:=ahi i6 (by simp only[WL];omega)
 have b1:=sbQ e.ks
 have b2:=sbI e.its
 have b3:=sbF e.fr
 have b4:=sbX e.wh
 have b5:=sbX e.gr
 have b6:=sbX e.hv
 simp only[leW] at b1 b2 b3 b4 b5 b6
 rw[amw]
 generalize aH cS e.ks=a1 at *
 generalize aH gc e.its=a2 at *
 generalize aH eT e.fr=a3 at *
 generalize aH bk e.wh=a4 at *
 generalize aH bk e.gr=a5 at *
 generalize aH bk e.hv=a6 at *
 have h1:a1.1+a2.1≤4611686018427387903:=by omega
 have h2:(aM a1 a2).1+a3.1≤4611686018427387903:=by simp only[aM];omega
 have h3:(aM (aM a1 a2) a3).1+a4.1≤4611686018427387903:=by simp only[aM];omega
 have h4:(aM (aM (aM a1 a2) a3) a4).1+a5.1≤4611686018427387903:=by simp only[aM];omega
 have h5:(aM (aM (aM (aM a1 a2) a3) a4) a5).1+a6.1≤4611686018427387903:=by simp only[aM];omega
 have h6:(aM (aM (aM (aM (aM a1 a2) a3) a4) a5) a6).1≤4611686018427387903∧(aM (aM (aM (aM (aM a1 a2) a3) a4) a5) a6).2≤4611686018427387903:=by simp only[aM];omega
 refine aj rfl aKH awz rfl ?_
 simp -implicitDefEqProofs(maxSteps:=9^9)only[Tryz.f133,↓zA,sevalprocAttr,aVt,k1,k2,k3,k4,k5,k6,ac3,h1,h2,h3,h4,h5,aFC,h6]
theorem ad4:∀ n,n≤WL→(∀ e,xpW e≤n→G1 121 [.of (.agg (xpC e))] (.of (.agg (szC (szP (bk e))))))∧(∀ e,qyW e≤n→G1 133 [.of (.agg (qyC e))] (.of (.agg (szC (szP (cS e))))))
  ∧ (∀ e,imW e≤n→G1 177 [.of (.agg (imC e))] (.of (.agg (szC (szP (gc e))))))∧(∀ e,fmW e≤n→G1 179 [.of (.agg (fmC e))] (.of (.agg (szC (szP (eT e))))))
 | 0,_=>⟨fun e h=>by have:=gW e;omega,fun e h=>by have:=aaE e;omega,fun e h=>by have:=abE e;omega,fun e h=>by have:=iX e;omega⟩
 | n+1,hn=>by
  obtain⟨i1,i2,i3,i4⟩:=ad4 n (by omega)
  have sX:∀ l:List Xp,lsW xpW l≤n+1→aik l:=fun l h x hx=>i1 x (by have:=bg (w:=xpW) hx;omega)
  have sQ:∀ l:List Qy,lsW qyW l≤n+1→anq l:=fun l h x hx=>i2 x (by have:=bg (w:=qyW) hx;omega)
  have sI:∀ l:List Im,lsW imW l≤n+1→aHE l:=fun l h x hx=>i3 x (by have:=bg (w:=imW) hx;omega)
  have sF:∀ l:List Fm,lsW fmW l≤n+1→aAE l:=fun l h x hx=>i4 x (by have:=bg (w:=fmW) hx;omega)
  refine⟨fun e h=>?_,fun e h=>?_,fun e h=>?_,fun e h=>?_⟩
  .have h':=jB e
   exact aoD e (by omega) (sX _ (by omega)) (sQ _ (by omega))
  .have h':=gI e
   exact amB e (by omega) (sQ _ (by omega)) (sI _ (by omega)) (sF _ (by omega)) (sX _ (by omega)) (sX _ (by omega)) (sX _ (by omega))
  .have h':=abo e
   exact aoB e (i1 _ (by omega))
  .have h':=gK e
   exact aoC e (by omega) (sQ _ (by omega)) (sF _ (by omega)) (sX _ (by omega))
theorem ass (l:List Xp) (h:lsW xpW l≤WL):aik l:=fun x hx=>(ad4 WL (Nat.le_refl _)).1 x (by have:=bg (w:=xpW) hx;omega)
theorem aUG (l:List Qy) (h:lsW qyW l≤WL):anq l:=fun x hx=>(ad4 WL (Nat.le_refl _)).2.1 x (by have:=bg (w:=qyW) hx;omega)
theorem aBl (s:Sm):leW (ky s) (smW s):=by
 have b1:=sbX s.chs
 have b2:=(fU (fun l=>aH bk l) (lsW xpW) s.rws fun x _=>sbX x).1
 have b3:=(fU (fun a:As=>bk a.e) asW s.sts fun x _=>by have:=(acx _).1 x.e (Nat.le_refl _);simp only[leW,asW] at this ⊢;omega).1
 have b4:=sbX s.wh
 have b5:=sbQ s.q
 simp only[leW,ky,aM,smW] at *
 omega
def aVw:=ai (ai (ai @zq @aXt) (ai @ahG (ai @afG @jZ))) (ai (ai @bK (ai @aca @aa5)) (ai @zT0 (ai @awF (aw aKN))))
theorem aqq (l:List Xp) (h:lsW xpW l≤WL):G1 127 [.of (slC xpC l)] (.of (.agg (szC (szP (aH bk l))))):=by
 refine aj rfl aKN awF rfl ?_
 simp -implicitDefEqProofs(maxSteps:=9^9)only[Tryz.f127,↓zA,sevalprocAttr,aVw,ahi (ass l h) h]
def aVv:=ai (ai (ai @zq @aXr) (ai @aXq (ai @aca @aa5))) (ai (ai @bK (ai @jZ @j0)) (ai @zT0 (ai @awC (aw aKK))))
theorem asZ (a:As) (h:asW a≤WL):G1 130 [.of (.agg (asC a))] (.of (.agg (szC (szP (bk a.e))))):=by
 have k1:=fun K=>ae.k ((ad4 WL (Nat.le_refl _)).1 a.e (by simp only[asW] at h;omega)) K
 refine aj rfl aKK awC rfl ?_
 simp -implicitDefEqProofs(maxSteps:=9^9)only[Tryz.f130,↓zA,sevalprocAttr,aVv,k1]
theorem a0F {l:List (List Xp)} (hw:lsW (lsW xpW) l≤WL) (K:An→Prop):aG Tryz.prog pr 126 [.of (slC (lsC xpC) l),.of (.fn 127 [])] [] K↔K ⟨false,[.of (.agg (szC (szP (aH (fun l=>aH bk l) l))))],[]⟩:=by
 have h1:=bh (lsW xpW) l fun x _=>by simp[lsW]
 have h2:=fU (fun l=>aH bk l) (lsW xpW) l fun x _=>sbX x
 simp only[leW,WL] at *
 exact aqh l (fun l=>aH bk l) _ [] ⟨by omega,by omega,aCt,axT,fun x hx=>aqq x (by have:=bg (w:=lsW xpW) hx;simp only[WL];omega)⟩ K
theorem a0H {l:List As} (hw:lsW asW l≤WL) (K:An→Prop):aG Tryz.prog pr 129 [.of (slC asC l),.of (.fn 130 [])] [] K↔K ⟨false,[.of (.agg (szC (szP (aH (fun a:As=>bk a.e) l))))],[]⟩:=by
 have h1:=bh asW l fun x _=>by simp[asW]
 have h2:=(fU (fun a:As=>bk a.e) asW l fun x _=>by have:=(acx _).1 x.e (Nat.le_refl _);simp only[leW,asW] at this ⊢;omega)
 simp only[leW,WL] at *
 exact asU l (fun a:As=>bk a.e) _ [] ⟨by omega,by omega,aCs,axS,fun x hx=>asZ x (by have:=bg (w:=asW) hx;simp only[WL];omega)⟩ K
def a0q:=ai (ai (ai (ai (ai @zq @aXv) (ai @aXu @aQz)) (ai (ai @aOd @aXs) (ai @aQy @aOc))) (ai (ai (ai @aXp @ahG) (ai @afG @abj)) (ai (ai @aat @alf) (ai @ajh @fa)))) (ai (ai (ai (ai @jZ @j0) (ai @bK @dY)) (ai (ai @fT @aCt) (ai @axT @aCs))) (ai (ai (ai @axS @aca) (ai @aa5 @ahF)) (ai (ai @afF @zT0) (ai @aC0 (aw aRZ)))))
theorem aoA (e:Sm) (hw:smW e≤WL):G1 90 [.of (.agg (smC e))] (.of (.agg (szC (szP (ky e))))):=by
 have b0:=aBl e
 simp only[WL,smW] at hw
 have k1:=ahi (l:=e.chs) (ass _ (by simp only[WL];omega)) (by simp only[WL];omega)
 have k2:=a0F (l:=e.rws) (by simp only[WL];omega)
 have k3:=a0H (l:=e.sts) (by simp only[WL];omega)
 have k4:=ahi (l:=e.wh) (ass _ (by simp only[WL];omega)) (by simp only[WL];omega)
 have k5:=ayA (l:=e.q) (aUG _ (by simp only[WL];omega)) (by simp only[WL];omega)
 have b1:=sbX e.chs
 have b2:=(fU (fun l=>aH bk l) (lsW xpW) e.rws fun x _=>sbX x).1
 have b3:=(fU (fun a:As=>bk a.e) asW e.sts fun x _=>by have:=(acx _).1 x.e (Nat.le_refl _);simp only[leW,asW] at this ⊢;omega).1
 have b4:=sbX e.wh
 have b5:=sbQ e.q
 simp only[leW] at b1 b2 b3 b4 b5
 rw[ky]
 generalize aH bk e.chs=a1 at *
 generalize aH (fun l=>aH bk l) e.rws=a2 at *
 generalize aH (fun a:As=>bk a.e) e.sts=a3 at *
 generalize aH bk e.wh=a4 at *
 generalize aH cS e.q=a5 at *
 have h1:a1.1+a2.1≤4611686018427387903:=by omega
 have h2:(aM a1 a2).1+a3.1≤4611686018427387903:=by simp only[aM];omega
 have h3:(aM (aM a1 a2) a3).1+a4.1≤4611686018427387903:=by simp only[aM];omega
 have h4:(aM (aM (aM a1 a2) a3) a4).1+a5.1≤4611686018427387903:=by simp only[aM];omega
 refine aj rfl aRZ aC0 rfl ?_
 simp -implicitDefEqProofs(maxSteps:=9^9)only[Tryz.f90,↓zA,sevalprocAttr,a0q,k1,k2,k3,k4,k5,ac3,h1,h2,h3,h4]
end Go.Proofs.YtjajlmjfddohfaaGreatDoor
namespace Go.Tab
open Go Go.Pe
noncomputable instance:DecidableEq Xp:=fun _ _=>Classical.propDecidable _
noncomputable instance:DecidableEq Qy:=fun _ _=>Classical.propDecidable _
noncomputable instance:DecidableEq Im:=fun _ _=>Classical.propDecidable _
noncomputable instance:DecidableEq Fm:=fun _ _=>Classical.propDecidable _
noncomputable instance:DecidableEq Kd:=fun _ _=>Classical.propDecidable _
noncomputable instance:DecidableEq Rd:=fun _ _=>Classical.propDecidable _
noncomputable instance:DecidableEq As:=fun _ _=>Classical.propDecidable _
noncomputable instance:DecidableEq Sm:=fun _ _=>Classical.propDecidable _
theorem adu (a b:Xp):(a=b)=(a.op=b.op∧a.v=b.v∧a.tb=b.tb∧a.nm=b.nm∧a.di=b.di∧a.ks=b.ks∧a.sb=b.sb):=by
 apply propext
 constructor
 .rintro rfl;simp
 .rintro⟨h0,h1,h2,h3,h4,h5,h6⟩
  cases a;cases b
  simp only[Xp.op,Xp.v,Xp.tb,Xp.nm,Xp.di,Xp.ks,Xp.sb] at *
  subst_vars
  rfl
theorem aaX (a b:Qy):(a=b)=(a.op=b.op∧a.al=b.al∧a.di=b.di∧a.li=b.li∧a.sk=b.sk∧a.od=b.od∧a.ks=b.ks∧a.its=b.its∧a.fr=b.fr∧a.wh=b.wh∧a.gr=b.gr∧a.hv=b.hv):=by
 apply propext
 constructor
 .rintro rfl;simp
 .rintro⟨h0,h1,h2,h3,h4,h5,h6,h7,h8,h9,h10,h11⟩
  cases a;cases b
  simp only[Qy.op,Qy.al,Qy.di,Qy.li,Qy.sk,Qy.od,Qy.ks,Qy.its,Qy.fr,Qy.wh,Qy.gr,Qy.hv] at *
  subst_vars
  rfl
theorem alD (a b:Im):(a=b)=(a.st=b.st∧a.tb=b.tb∧a.az=b.az∧a.e=b.e):=by
 apply propext
 constructor
 .rintro rfl;simp
 .rintro⟨h0,h1,h2,h3⟩
  cases a;cases b
  simp only[Im.st,Im.tb,Im.az,Im.e] at *
  subst_vars
  rfl
theorem agF (a b:Fm):(a=b)=(a.kd=b.kd∧a.nm=b.nm∧a.az=b.az∧a.sb=b.sb∧a.ks=b.ks∧a.on=b.on):=by
 apply propext
 constructor
 .rintro rfl;simp
 .rintro⟨h0,h1,h2,h3,h4,h5⟩
  cases a;cases b
  simp only[Fm.kd,Fm.nm,Fm.az,Fm.sb,Fm.ks,Fm.on] at *
  subst_vars
  rfl
theorem azt (a b:Kd):(a=b)=(a.pr=b.pr∧a.ns=b.ns):=by
 apply propext
 constructor
 .rintro rfl;simp
 .rintro⟨h0,h1⟩
  cases a;cases b
  simp only[Kd.pr,Kd.ns] at *
  subst_vars
  rfl
theorem apB (a b:Rd):(a=b)=(a.tb=b.tb∧a.ns=b.ns∧a.to=b.to):=by
 apply propext
 constructor
 .rintro rfl;simp
 .rintro⟨h0,h1,h2⟩
  cases a;cases b
  simp only[Rd.tb,Rd.ns,Rd.to] at *
  subst_vars
  rfl
theorem aAo (a b:As):(a=b)=(a.nm=b.nm∧a.e=b.e):=by
 apply propext
 constructor
 .rintro rfl;simp
 .rintro⟨h0,h1⟩
  cases a;cases b
  simp only[As.nm,As.e] at *
  subst_vars
  rfl
theorem gX (a b:Sm):(a=b)=(a.kd=b.kd∧a.tb=b.tb∧a.nm=b.nm∧a.un=b.un∧a.cs=b.cs∧a.ns=b.ns∧a.kys=b.kys∧a.rfs=b.rfs∧a.chs=b.chs∧a.rws=b.rws∧a.sts=b.sts∧a.wh=b.wh∧a.q=b.q):=by
 apply propext
 constructor
 .rintro rfl;simp
 .rintro⟨h0,h1,h2,h3,h4,h5,h6,h7,h8,h9,h10,h11,h12⟩
  cases a;cases b
  simp only[Sm.kd,Sm.tb,Sm.nm,Sm.un,Sm.cs,Sm.ns,Sm.kys,Sm.rfs,Sm.chs,Sm.rws,Sm.sts,Sm.wh,Sm.q] at *
  subst_vars
  rfl
end Go.Tab
namespace Go.Proofs.YtjajlmjfddohfaaGreatDoor
open Go Go.Pe Go.Tab
theorem kL {α:Type} [DecidableEq α] (l m:List α):eqR (fun x y=>decide (x=y)) l m=decide (l=m):=afB _ l m fun _ _ _ _=>rfl
theorem aR (a b:Bool):(a == b)=decide (a=b):=by cases a <;> cases b <;> rfl
theorem aHT (l m:List Od) (hw:lsW odW l≤WL) (K:An→Prop):aG Tryz.prog pr 239 [.of (slC odC l),.of (slC odC m)] [] K↔K ⟨false,[ah (decide (l=m))],[]⟩:=by
 have:=aFu l m (by have:=bh odW l (fun x _=>by simp[odW]);simp only[WL] at hw;omega) K
 rwa [kL] at this
theorem dl (l m:List (List UInt8)) (K:An→Prop):aG Tryz.prog pr 201 [.of (slC bd l),.of (slC bd m)] [] K↔ifP (l.length≤4611686018427387903) (K ⟨false,[ah (decide (l=m))],[]⟩) (fp Tryz.prog pr 201 [.of (slC bd l),.of (slC bd m)] K):=hZ (fun h=>by have:=ao3 l m h;rwa [kL] at this) K
theorem fP (l m:List Cd) (K:An→Prop):aG Tryz.prog pr 206 [.of (slC cdC l),.of (slC cdC m)] [] K↔ifP (l.length≤4611686018427387903) (K ⟨false,[ah (decide (l=m))],[]⟩) (fp Tryz.prog pr 206 [.of (slC cdC l),.of (slC cdC m)] K):=hZ (fun h=>by have:=ao4 l m h;rwa [kL] at this) K
def agW (l:List Xp):Prop:=∀ x∈l,∀ y,G1 172 [.of (.agg (xpC x)),.of (.agg (xpC y))] (ah (decide (x=y)))
theorem efX {l:List Xp} (h:agW l) (hw:lsW xpW l≤WL) (m:List Xp) (K:An→Prop):aG Tryz.prog pr 204 [.of (slC xpC l),.of (slC xpC m),.of (.fn 172 [])] [] K↔K ⟨false,[ah (decide (l=m))],[]⟩:=by
 have h1:=bh xpW l fun x _=>gW x
 simp only[WL] at hw
 have:=aHX l m (fun x y=>decide (x=y)) 172 [] ⟨by omega,ab9,aa4,fun x hx y _=>h x hx y⟩ K
 rwa [kL] at this
def anA (l:List Qy):Prop:=∀ x∈l,∀ y,G1 212 [.of (.agg (qyC x)),.of (.agg (qyC y))] (ah (decide (x=y)))
theorem efQ {l:List Qy} (h:anA l) (hw:lsW qyW l≤WL) (m:List Qy) (K:An→Prop):aG Tryz.prog pr 211 [.of (slC qyC l),.of (slC qyC m),.of (.fn 212 [])] [] K↔K ⟨false,[ah (decide (l=m))],[]⟩:=by
 have h1:=bh qyW l fun x _=>aaE x
 simp only[WL] at hw
 have:=aFv l m (fun x y=>decide (x=y)) 212 [] ⟨by omega,ahD,afD,fun x hx y _=>h x hx y⟩ K
 rwa [kL] at this
def aHU (l:List Im):Prop:=∀ x∈l,∀ y,G1 241 [.of (.agg (imC x)),.of (.agg (imC y))] (ah (decide (x=y)))
theorem efI {l:List Im} (h:aHU l) (hw:lsW imW l≤WL) (m:List Im) (K:An→Prop):aG Tryz.prog pr 240 [.of (slC imC l),.of (slC imC m),.of (.fn 241 [])] [] K↔K ⟨false,[ah (decide (l=m))],[]⟩:=by
 have h1:=bh imW l fun x _=>abE x
 simp only[WL] at hw
 have:=aHV l m (fun x y=>decide (x=y)) 241 [] ⟨by omega,aBV,axl,fun x hx y _=>h x hx y⟩ K
 rwa [kL] at this
def aAV (l:List Fm):Prop:=∀ x∈l,∀ y,G1 243 [.of (.agg (fmC x)),.of (.agg (fmC y))] (ah (decide (x=y)))
theorem efF {l:List Fm} (h:aAV l) (hw:lsW fmW l≤WL) (m:List Fm) (K:An→Prop):aG Tryz.prog pr 242 [.of (slC fmC l),.of (slC fmC m),.of (.fn 243 [])] [] K↔K ⟨false,[ah (decide (l=m))],[]⟩:=by
 have h1:=bh fmW l fun x _=>iX x
 simp only[WL] at hw
 have:=aHW l m (fun x y=>decide (x=y)) 243 [] ⟨by omega,aqW,am5,fun x hx y _=>h x hx y⟩ K
 rwa [kL] at this
def aey:=ai (ai (ai (ai @zq @aXl) (ai @aXk (ai @alb @aje))) (ai (ai @ala @ajd) (ai @adY (ai @bK @dY)))) (ai (ai (ai @ab9 @aa4) (ai @ahD (ai @afD @P3))) (ai (ai @Q3 (ai @Q9 @Q4)) (ai @zT0 (ai @avW (aw aJ5)))))
theorem ajx (a b:Xp) (hw:lsW xpW a.ks+lsW qyW a.sb≤WL) (i0:agW a.ks) (i1:anA a.sb):G1 172 [.of (.agg (xpC a)),.of (.agg (xpC b))] (ah (decide (a=b))):=by
 simp only[WL] at hw
 have k0:=efX i0 (by simp only[WL];omega)
 have k1:=efQ i1 (by simp only[WL];omega)
 refine aj rfl aJ5 avW rfl ?_
 by_cases c0:a.op=b.op
 rotate_left
 .simp -implicitDefEqProofs(maxSteps:=9^9)only[Tryz.f172,↓zA,sevalprocAttr,aey,c0,k0,k1,av,aR,aX,List.append_eq,List.append_toArray,List.cons_append,List.nil_append,adu a b,false_and,and_false]
 by_cases c1:a.v=b.v
 rotate_left
 .simp -implicitDefEqProofs(maxSteps:=9^9)only[Tryz.f172,↓zA,sevalprocAttr,aey,eq_true c0,c1,k0,k1,av,aR,aX,List.append_eq,List.append_toArray,List.cons_append,List.nil_append,adu a b,false_and,and_false]
 by_cases c2:a.tb=b.tb
 rotate_left
 .simp -implicitDefEqProofs(maxSteps:=9^9)only[Tryz.f172,↓zA,sevalprocAttr,aey,eq_true c0,eq_true c1,c2,k0,k1,av,aR,aX,List.append_eq,List.append_toArray,List.cons_append,List.nil_append,adu a b,false_and,and_false]
 by_cases c3:a.nm=b.nm
 rotate_left
 .simp -implicitDefEqProofs(maxSteps:=9^9)only[Tryz.f172,↓zA,sevalprocAttr,aey,eq_true c0,eq_true c1,eq_true c2,c3,k0,k1,av,aR,aX,List.append_eq,List.append_toArray,List.cons_append,List.nil_append,adu a b,false_and,and_false]
 by_cases c4:a.di=b.di
 rotate_left
 .simp -implicitDefEqProofs(maxSteps:=9^9)only[Tryz.f172,↓zA,sevalprocAttr,aey,eq_true c0,eq_true c1,eq_true c2,eq_true c3,c4,k0,k1,av,aR,aX,List.append_eq,List.append_toArray,List.cons_append,List.nil_append,adu a b,false_and,and_false]
 by_cases c5:a.ks=b.ks
 rotate_left
 .simp -implicitDefEqProofs(maxSteps:=9^9)only[Tryz.f172,↓zA,sevalprocAttr,aey,eq_true c0,eq_true c1,eq_true c2,eq_true c3,eq_true c4,c5,k0,k1,av,aR,aX,List.append_eq,List.append_toArray,List.cons_append,List.nil_append,adu a b,false_and,and_false]
 by_cases c6:a.sb=b.sb
 rotate_left
 .simp -implicitDefEqProofs(maxSteps:=9^9)only[Tryz.f172,↓zA,sevalprocAttr,aey,eq_true c0,eq_true c1,eq_true c2,eq_true c3,eq_true c4,eq_true c5,c6,k0,k1,av,aR,aX,List.append_eq,List.append_toArray,List.cons_append,List.nil_append,adu a b,false_and,and_false]
 simp -implicitDefEqProofs(maxSteps:=9^9)only[Tryz.f172,↓zA,sevalprocAttr,aey,eq_true c0,eq_true c1,eq_true c2,eq_true c3,eq_true c4,eq_true c5,eq_true c6,k0,k1,av,aR,aX,List.append_eq,List.append_toArray,List.cons_append,List.nil_append,adu a b,and_self,decide_true]
def aaU:=ai (ai (ai (ai (ai @zq @aXf) (ai @aXe @aPH)) (ai (ai @aNi @ala) (ai @ajd @aPG))) (ai (ai (ai @aNh @aBU) (ai @axk @alb)) (ai (ai @aje @dY) (ai @abx @jh)))) (ai (ai (ai (ai @gV @bK) (ai @ahD @afD)) (ai (ai @aBV @axl) (ai @aqW @am5))) (ai (ai (ai @ab9 @aa4) (ai @P3 @Q3)) (ai (ai @Q4 @zT0) (ai @avg (aw aJs)))))
theorem as3 (a b:Qy) (hw:qyW a≤WL) (i0:anA a.ks) (i1:aHU a.its) (i2:aAV a.fr) (i3:agW a.wh) (i4:agW a.gr) (i5:agW a.hv):G1 212 [.of (.agg (qyC a)),.of (.agg (qyC b))] (ah (decide (a=b))):=by
 rw[gI] at hw
 simp only[WL] at hw
 have ko:=fun m=>aHT a.od m (by simp only[WL];omega)
 have k0:=efQ i0 (by simp only[WL];omega)
 have k1:=efI i1 (by simp only[WL];omega)
 have k2:=efF i2 (by simp only[WL];omega)
 have k3:=efX i3 (by simp only[WL];omega)
 have k4:=efX i4 (by simp only[WL];omega)
 have k5:=efX i5 (by simp only[WL];omega)
 refine aj rfl aJs avg rfl ?_
 by_cases c0:a.op=b.op
 rotate_left
 .simp -implicitDefEqProofs(maxSteps:=9^9)only[Tryz.f212,↓zA,sevalprocAttr,aaU,c0,ko,k0,k1,k2,k3,k4,k5,av,aR,aX,List.append_eq,List.append_toArray,List.cons_append,List.nil_append,aaX a b,false_and,and_false]
 by_cases c1:a.al=b.al
 rotate_left
 .simp -implicitDefEqProofs(maxSteps:=9^9)only[Tryz.f212,↓zA,sevalprocAttr,aaU,eq_true c0,c1,ko,k0,k1,k2,k3,k4,k5,av,aR,aX,List.append_eq,List.append_toArray,List.cons_append,List.nil_append,aaX a b,false_and,and_false]
 by_cases c2:a.di=b.di
 rotate_left
 .simp -implicitDefEqProofs(maxSteps:=9^9)only[Tryz.f212,↓zA,sevalprocAttr,aaU,eq_true c0,eq_true c1,c2,ko,k0,k1,k2,k3,k4,k5,av,aR,aX,List.append_eq,List.append_toArray,List.cons_append,List.nil_append,aaX a b,false_and,and_false]
 by_cases c3:a.li=b.li
 rotate_left
 .simp -implicitDefEqProofs(maxSteps:=9^9)only[Tryz.f212,↓zA,sevalprocAttr,aaU,eq_true c0,eq_true c1,eq_true c2,c3,ko,k0,k1,k2,k3,k4,k5,av,aR,aX,List.append_eq,List.append_toArray,List.cons_append,List.nil_append,aaX a b,false_and,and_false]
 by_cases c4:a.sk=b.sk
 rotate_left
 .simp -implicitDefEqProofs(maxSteps:=9^9)only[Tryz.f212,↓zA,sevalprocAttr,aaU,eq_true c0,eq_true c1,eq_true c2,eq_true c3,c4,ko,k0,k1,k2,k3,k4,k5,av,aR,aX,List.append_eq,List.append_toArray,List.cons_append,List.nil_append,aaX a b,false_and,and_false]
 by_cases c5:a.od=b.od
 rotate_left
 .simp -implicitDefEqProofs(maxSteps:=9^9)only[Tryz.f212,↓zA,sevalprocAttr,aaU,eq_true c0,eq_true c1,eq_true c2,eq_true c3,eq_true c4,c5,ko,k0,k1,k2,k3,k4,k5,av,aR,aX,List.append_eq,List.append_toArray,List.cons_append,List.nil_append,aaX a b,false_and,and_false]
 by_cases c6:a.ks=b.ks
 rotate_left
 .simp -implicitDefEqProofs(maxSteps:=9^9)only[Tryz.f212,↓zA,sevalprocAttr,aaU,eq_true c0,eq_true c1,eq_true c2,eq_true c3,eq_true c4,eq_true c5,c6,ko,k0,k1,k2,k3,k4,k5,av,aR,aX,List.append_eq,List.append_toArray,List.cons_append,List.nil_append,aaX a b,false_and,and_false]
 by_cases c7:a.its=b.its
 rotate_left
 .simp -implicitDefEqProofs(maxSteps:=9^9)only[Tryz.f212,↓zA,sevalprocAttr,aaU,eq_true c0,eq_true c1,eq_true c2,eq_true c3,eq_true c4,eq_true c5,eq_true c6,c7,ko,k0,k1,k2,k3,k4,k5,av,aR,aX,List.append_eq,List.append_toArray,List.cons_append,List.nil_append,aaX a b,false_and,and_false]
 by_cases c8:a.fr=b.fr
 rotate_left
 .simp -implicitDefEqProofs(maxSteps:=9^9)only[Tryz.f212,↓zA,sevalprocAttr,aaU,eq_true c0,eq_true c1,eq_true c2,eq_true c3,eq_true c4,eq_true c5,eq_true c6,eq_true c7,c8,ko,k0,k1,k2,k3,k4,k5,av,aR,aX,List.append_eq,List.append_toArray,List.cons_append,List.nil_append,aaX a b,false_and,and_false]
 by_cases c9:a.wh=b.wh
 rotate_left
 .simp -implicitDefEqProofs(maxSteps:=9^9)only[Tryz.f212,↓zA,sevalprocAttr,aaU,eq_true c0,eq_true c1,eq_true c2,eq_true c3,eq_true c4,eq_true c5,eq_true c6,eq_true c7,eq_true c8,c9,ko,k0,k1,k2,k3,k4,k5,av,aR,aX,List.append_eq,List.append_toArray,List.cons_append,List.nil_append,aaX a b,false_and,and_false]
 by_cases c10:a.gr=b.gr
 rotate_left
 .simp -implicitDefEqProofs(maxSteps:=9^9)only[Tryz.f212,↓zA,sevalprocAttr,aaU,eq_true c0,eq_true c1,eq_true c2,eq_true c3,eq_true c4,eq_true c5,eq_true c6,eq_true c7,eq_true c8,eq_true c9,c10,ko,k0,k1,k2,k3,k4,k5,av,aR,aX,List.append_eq,List.append_toArray,List.cons_append,List.nil_append,aaX a b,false_and,and_false]
 by_cases c11:a.hv=b.hv
 rotate_left
 .simp -implicitDefEqProofs(maxSteps:=9^9)only[Tryz.f212,↓zA,sevalprocAttr,aaU,eq_true c0,eq_true c1,eq_true c2,eq_true c3,eq_true c4,eq_true c5,eq_true c6,eq_true c7,eq_true c8,eq_true c9,eq_true c10,c11,ko,k0,k1,k2,k3,k4,k5,av,aR,aX,List.append_eq,List.append_toArray,List.cons_append,List.nil_append,aaX a b,false_and,and_false]
 simp -implicitDefEqProofs(maxSteps:=9^9)only[Tryz.f212,↓zA,sevalprocAttr,aaU,eq_true c0,eq_true c1,eq_true c2,eq_true c3,eq_true c4,eq_true c5,eq_true c6,eq_true c7,eq_true c8,eq_true c9,eq_true c10,eq_true c11,ko,k0,k1,k2,k3,k4,k5,av,aR,aX,List.append_eq,List.append_toArray,List.cons_append,List.nil_append,aaX a b,and_self,decide_true]
def akx:=ai (ai (ai @zq (ai @aXj @aXi)) (ai @ab9 (ai @aa4 @bK))) (ai (ai @jh (ai @Q4 @Q9)) (ai @zT0 (ai @auQ (aw aI2))))
theorem as5 (a b:Im) (hw:imW a≤WL) (i0:agW [a.e]):G1 241 [.of (.agg (imC a)),.of (.agg (imC b))] (ah (decide (a=b))):=by
 rw[abo] at hw
 simp only[WL] at hw
 have k0:=fun K=>ae.k (i0 a.e (by simp) b.e) K
 refine aj rfl aI2 auQ rfl ?_
 by_cases c0:a.st=b.st
 rotate_left
 .simp -implicitDefEqProofs(maxSteps:=9^9)only[Tryz.f241,↓zA,sevalprocAttr,akx,c0,k0,av,aR,aX,List.append_eq,List.append_toArray,List.cons_append,List.nil_append,alD a b,false_and,and_false]
 by_cases c1:a.tb=b.tb
 rotate_left
 .simp -implicitDefEqProofs(maxSteps:=9^9)only[Tryz.f241,↓zA,sevalprocAttr,akx,eq_true c0,c1,k0,av,aR,aX,List.append_eq,List.append_toArray,List.cons_append,List.nil_append,alD a b,false_and,and_false]
 by_cases c2:a.az=b.az
 rotate_left
 .simp -implicitDefEqProofs(maxSteps:=9^9)only[Tryz.f241,↓zA,sevalprocAttr,akx,eq_true c0,eq_true c1,c2,k0,av,aR,aX,List.append_eq,List.append_toArray,List.cons_append,List.nil_append,alD a b,false_and,and_false]
 by_cases c3:a.e=b.e
 rotate_left
 .simp -implicitDefEqProofs(maxSteps:=9^9)only[Tryz.f241,↓zA,sevalprocAttr,akx,eq_true c0,eq_true c1,eq_true c2,c3,k0,av,aR,aX,List.append_eq,List.append_toArray,List.cons_append,List.nil_append,alD a b,false_and,and_false]
 simp -implicitDefEqProofs(maxSteps:=9^9)only[Tryz.f241,↓zA,sevalprocAttr,akx,eq_true c0,eq_true c1,eq_true c2,eq_true c3,k0,av,aR,aX,List.append_eq,List.append_toArray,List.cons_append,List.nil_append,alD a b,and_self,decide_true]
def afS:=ai (ai (ai (ai @zq (ai @aXh @aXg)) (ai @ala (ai @ajd @aBU))) (ai (ai @axk (ai @alb @aje)) (ai @gV (ai @dY @bK)))) (ai (ai (ai @ahD (ai @afD @aqW)) (ai @am5 (ai @ab9 @aa4))) (ai (ai @P3 (ai @Q3 @Q9)) (ai @zT0 (ai @auO (aw aI0)))))
theorem as6 (a b:Fm) (hw:fmW a≤WL) (i0:anA a.sb) (i1:aAV a.ks) (i2:agW a.on):G1 243 [.of (.agg (fmC a)),.of (.agg (fmC b))] (ah (decide (a=b))):=by
 rw[gK] at hw
 simp only[WL] at hw
 have k0:=efQ i0 (by simp only[WL];omega)
 have k1:=efF i1 (by simp only[WL];omega)
 have k2:=efX i2 (by simp only[WL];omega)
 refine aj rfl aI0 auO rfl ?_
 by_cases c0:a.kd=b.kd
 rotate_left
 .simp -implicitDefEqProofs(maxSteps:=9^9)only[Tryz.f243,↓zA,sevalprocAttr,afS,c0,k0,k1,k2,av,aR,aX,List.append_eq,List.append_toArray,List.cons_append,List.nil_append,agF a b,false_and,and_false]
 by_cases c1:a.nm=b.nm
 rotate_left
 .simp -implicitDefEqProofs(maxSteps:=9^9)only[Tryz.f243,↓zA,sevalprocAttr,afS,eq_true c0,c1,k0,k1,k2,av,aR,aX,List.append_eq,List.append_toArray,List.cons_append,List.nil_append,agF a b,false_and,and_false]
 by_cases c2:a.az=b.az
 rotate_left
 .simp -implicitDefEqProofs(maxSteps:=9^9)only[Tryz.f243,↓zA,sevalprocAttr,afS,eq_true c0,eq_true c1,c2,k0,k1,k2,av,aR,aX,List.append_eq,List.append_toArray,List.cons_append,List.nil_append,agF a b,false_and,and_false]
 by_cases c3:a.sb=b.sb
 rotate_left
 .simp -implicitDefEqProofs(maxSteps:=9^9)only[Tryz.f243,↓zA,sevalprocAttr,afS,eq_true c0,eq_true c1,eq_true c2,c3,k0,k1,k2,av,aR,aX,List.append_eq,List.append_toArray,List.cons_append,List.nil_append,agF a b,false_and,and_false]
 by_cases c4:a.ks=b.ks
 rotate_left
 .simp -implicitDefEqProofs(maxSteps:=9^9)only[Tryz.f243,↓zA,sevalprocAttr,afS,eq_true c0,eq_true c1,eq_true c2,eq_true c3,c4,k0,k1,k2,av,aR,aX,List.append_eq,List.append_toArray,List.cons_append,List.nil_append,agF a b,false_and,and_false]
 by_cases c5:a.on=b.on
 rotate_left
 .simp -implicitDefEqProofs(maxSteps:=9^9)only[Tryz.f243,↓zA,sevalprocAttr,afS,eq_true c0,eq_true c1,eq_true c2,eq_true c3,eq_true c4,c5,k0,k1,k2,av,aR,aX,List.append_eq,List.append_toArray,List.cons_append,List.nil_append,agF a b,false_and,and_false]
 simp -implicitDefEqProofs(maxSteps:=9^9)only[Tryz.f243,↓zA,sevalprocAttr,afS,eq_true c0,eq_true c1,eq_true c2,eq_true c3,eq_true c4,eq_true c5,k0,k1,k2,av,aR,aX,List.append_eq,List.append_toArray,List.cons_append,List.nil_append,agF a b,and_self,decide_true]
theorem agi:∀ n,n≤WL→(∀ a,xpW a≤n→∀ b,G1 172 [.of (.agg (xpC a)),.of (.agg (xpC b))] (ah (decide (a=b))))∧(∀ a,qyW a≤n→∀ b,G1 212 [.of (.agg (qyC a)),.of (.agg (qyC b))] (ah (decide (a=b))))
  ∧ (∀ a,imW a≤n→∀ b,G1 241 [.of (.agg (imC a)),.of (.agg (imC b))] (ah (decide (a=b))))∧(∀ a,fmW a≤n→∀ b,G1 243 [.of (.agg (fmC a)),.of (.agg (fmC b))] (ah (decide (a=b))))
 | 0,_=>⟨fun e h=>by have:=gW e;omega,fun e h=>by have:=aaE e;omega,fun e h=>by have:=abE e;omega,fun e h=>by have:=iX e;omega⟩
 | n+1,hn=>by
  obtain⟨i1,i2,i3,i4⟩:=agi n (by omega)
  have sX:∀ l:List Xp,lsW xpW l≤n+1→agW l:=fun l h x hx=>i1 x (by have:=bg (w:=xpW) hx;omega)
  have sQ:∀ l:List Qy,lsW qyW l≤n+1→anA l:=fun l h x hx=>i2 x (by have:=bg (w:=qyW) hx;omega)
  have sI:∀ l:List Im,lsW imW l≤n+1→aHU l:=fun l h x hx=>i3 x (by have:=bg (w:=imW) hx;omega)
  have sF:∀ l:List Fm,lsW fmW l≤n+1→aAV l:=fun l h x hx=>i4 x (by have:=bg (w:=fmW) hx;omega)
  refine⟨fun e h b=>?_,fun e h b=>?_,fun e h b=>?_,fun e h b=>?_⟩
  .have h':=jB e
   exact ajx e b (by omega) (sX _ (by omega)) (sQ _ (by omega))
  .have h':=gI e
   exact as3 e b (by omega) (sQ _ (by omega)) (sI _ (by omega)) (sF _ (by omega)) (sX _ (by omega)) (sX _ (by omega)) (sX _ (by omega))
  .have h':=abo e
   exact as5 e b (by omega) (fun x hx=>by rw[List.mem_singleton.1 hx];exact i1 _ (by omega))
  .have h':=gK e
   exact as6 e b (by omega) (sQ _ (by omega)) (sF _ (by omega)) (sX _ (by omega))
theorem aUT (l:List Xp) (h:lsW xpW l≤WL):agW l:=fun x hx=>(agi WL (Nat.le_refl _)).1 x (by have:=bg (w:=xpW) hx;omega)
theorem aUU (l:List Qy) (h:lsW qyW l≤WL):anA l:=fun x hx=>(agi WL (Nat.le_refl _)).2.1 x (by have:=bg (w:=qyW) hx;omega)
theorem adN (a b:Xp) (K:An→Prop):aG Tryz.prog pr 172 [.of (.agg (xpC a)),.of (.agg (xpC b))] [] K↔ifP (xpW a≤WL) (K ⟨false,[ah (decide (a=b))],[]⟩) (fp Tryz.prog pr 172 [.of (.agg (xpC a)),.of (.agg (xpC b))] K):=hZ (fun h=>(agi WL (Nat.le_refl _)).1 a h b) K
def ayc:=ai (ai (ai @zq @aXb) (ai @aXa (ai @aqZ @am8))) (ai (ai @jz (ai @bH @Q4)) (ai @zT0 (ai @avv (aw aJE))))
theorem as4 (a b:Kd) (hw:kdW a≤WL):G1 200 [.of (.agg (kdC a)),.of (.agg (kdC b))] (ah (decide (a=b))):=by
 have hl:a.ns.length≤4611686018427387903:=by have:=bh aZ a.ns (fun x _=>by simp[aZ]);simp only[WL,kdW] at hw;omega
 refine aj rfl aJE avv rfl ?_
 by_cases c0:a.pr=b.pr
 rotate_left
 .simp -implicitDefEqProofs(maxSteps:=9^9)only[Tryz.f200,↓zA,sevalprocAttr,ayc,c0,dl,hl,av,aR,aX,List.append_eq,List.append_toArray,List.cons_append,List.nil_append,azt a b,false_and,and_false]
 by_cases c1:a.ns=b.ns
 rotate_left
 .simp -implicitDefEqProofs(maxSteps:=9^9)only[Tryz.f200,↓zA,sevalprocAttr,ayc,eq_true c0,c1,dl,hl,av,aR,aX,List.append_eq,List.append_toArray,List.cons_append,List.nil_append,azt a b,false_and,and_false]
 simp -implicitDefEqProofs(maxSteps:=9^9)only[Tryz.f200,↓zA,sevalprocAttr,ayc,eq_true c0,eq_true c1,dl,hl,av,aR,aX,List.append_eq,List.append_toArray,List.cons_append,List.nil_append,azt a b,and_self,decide_true]
def apj:=ai (ai (ai @zq @aW9) (ai @aW8 (ai @aqZ @am8))) (ai (ai @jy (ai @bH @Q9)) (ai @zT0 (ai @avt (aw aJC))))
theorem as2 (a b:Rd) (hw:rdW a≤WL):G1 202 [.of (.agg (rdC a)),.of (.agg (rdC b))] (ah (decide (a=b))):=by
 have hl:a.ns.length≤4611686018427387903:=by have:=bh aZ a.ns (fun x _=>by simp[aZ]);simp only[WL,rdW] at hw;omega
 have hl2:a.to.length≤4611686018427387903:=by have:=bh aZ a.to (fun x _=>by simp[aZ]);simp only[WL,rdW] at hw;omega
 refine aj rfl aJC avt rfl ?_
 by_cases c0:a.tb=b.tb
 rotate_left
 .simp -implicitDefEqProofs(maxSteps:=9^9)only[Tryz.f202,↓zA,sevalprocAttr,apj,c0,dl,hl,hl2,av,aR,aX,List.append_eq,List.append_toArray,List.cons_append,List.nil_append,apB a b,false_and,and_false]
 by_cases c1:a.ns=b.ns
 rotate_left
 .simp -implicitDefEqProofs(maxSteps:=9^9)only[Tryz.f202,↓zA,sevalprocAttr,apj,eq_true c0,c1,dl,hl,hl2,av,aR,aX,List.append_eq,List.append_toArray,List.cons_append,List.nil_append,apB a b,false_and,and_false]
 by_cases c2:a.to=b.to
 rotate_left
 .simp -implicitDefEqProofs(maxSteps:=9^9)only[Tryz.f202,↓zA,sevalprocAttr,apj,eq_true c0,eq_true c1,c2,dl,hl,hl2,av,aR,aX,List.append_eq,List.append_toArray,List.cons_append,List.nil_append,apB a b,false_and,and_false]
 simp -implicitDefEqProofs(maxSteps:=9^9)only[Tryz.f202,↓zA,sevalprocAttr,apj,eq_true c0,eq_true c1,eq_true c2,dl,hl,hl2,av,aR,aX,List.append_eq,List.append_toArray,List.cons_append,List.nil_append,apB a b,and_self,decide_true]
def ayb:=ai (ai (ai @zq @aW7) (ai @aW6 (ai @ab9 @aa4))) (ai (ai @bK (ai @j0 @Q9)) (ai @zT0 (ai @avp (aw aJz))))
theorem as7 (a b:As) (hw:asW a≤WL):G1 205 [.of (.agg (asC a)),.of (.agg (asC b))] (ah (decide (a=b))):=by
 have hl:xpW a.e≤WL:=by simp only[asW] at hw;omega
 refine aj rfl aJz avp rfl ?_
 by_cases c0:a.nm=b.nm
 rotate_left
 .simp -implicitDefEqProofs(maxSteps:=9^9)only[Tryz.f205,↓zA,sevalprocAttr,ayb,c0,adN,hl,av,aR,aX,List.append_eq,List.append_toArray,List.cons_append,List.nil_append,aAo a b,false_and,and_false]
 by_cases c1:a.e=b.e
 rotate_left
 .simp -implicitDefEqProofs(maxSteps:=9^9)only[Tryz.f205,↓zA,sevalprocAttr,ayb,eq_true c0,c1,adN,hl,av,aR,aX,List.append_eq,List.append_toArray,List.cons_append,List.nil_append,aAo a b,false_and,and_false]
 simp -implicitDefEqProofs(maxSteps:=9^9)only[Tryz.f205,↓zA,sevalprocAttr,ayb,eq_true c0,eq_true c1,adN,hl,av,aR,aX,List.append_eq,List.append_toArray,List.cons_append,List.nil_append,aAo a b,and_self,decide_true]
def aU6:=ai (ai (ai @zq @alb) (ai @aje @bK)) (ai (ai @ab9 @aa4) (ai @zT0 (ai @avr (aw aJB))))
theorem ahn (a b:List Xp) (hw:lsW xpW a≤WL):G1 203 [.of (slC xpC a),.of (slC xpC b)] (ah (decide (a=b))):=by
 refine aj rfl aJB avr rfl ?_
 simp -implicitDefEqProofs(maxSteps:=9^9)only[Tryz.f203,↓zA,sevalprocAttr,aU6,efX (aUT a hw) hw]
theorem fK (a b:List Xp) (K:An→Prop):aG Tryz.prog pr 203 [.of (slC xpC a),.of (slC xpC b)] [] K↔ifP (lsW xpW a≤WL) (K ⟨false,[ah (decide (a=b))],[]⟩) (fp Tryz.prog pr 203 [.of (slC xpC a),.of (slC xpC b)] K):=hZ (ahn a b) K
theorem a2g {l:List Kd} (hw:lsW kdW l≤WL) (m:List Kd) (K:An→Prop):aG Tryz.prog pr 207 [.of (slC kdC l),.of (slC kdC m),.of (.fn 200 [])] [] K↔K ⟨false,[ah (decide (l=m))],[]⟩:=by
 have h1:=bh kdW l fun x _=>by simp[kdW]
 have h2:=hw
 simp only[WL] at h2
 have:=aAX l m (fun x y=>decide (x=y)) 200 [] ⟨by omega,aB5,axv,fun x hx y _=>as4 x y (by have:=bg (w:=kdW) hx;omega)⟩ K
 rwa [kL] at this
theorem a2f {l:List Rd} (hw:lsW rdW l≤WL) (m:List Rd) (K:An→Prop):aG Tryz.prog pr 208 [.of (slC rdC l),.of (slC rdC m),.of (.fn 202 [])] [] K↔K ⟨false,[ah (decide (l=m))],[]⟩:=by
 have h1:=bh rdW l fun x _=>by simp[rdW]
 have h2:=hw
 simp only[WL] at h2
 have:=aAW l m (fun x y=>decide (x=y)) 202 [] ⟨by omega,aB4,axu,fun x hx y _=>as2 x y (by have:=bg (w:=rdW) hx;omega)⟩ K
 rwa [kL] at this
theorem a2h {l:List As} (hw:lsW asW l≤WL) (m:List As) (K:An→Prop):aG Tryz.prog pr 210 [.of (slC asC l),.of (slC asC m),.of (.fn 205 [])] [] K↔K ⟨false,[ah (decide (l=m))],[]⟩:=by
 have h1:=bh asW l fun x _=>by simp[asW]
 have h2:=hw
 simp only[WL] at h2
 have:=aAY l m (fun x y=>decide (x=y)) 205 [] ⟨by omega,aB2,axs,fun x hx y _=>as7 x y (by have:=bg (w:=asW) hx;omega)⟩ K
 rwa [kL] at this
theorem efR {l:List (List Xp)} (hw:lsW (lsW xpW) l≤WL) (m:List (List Xp)) (K:An→Prop):aG Tryz.prog pr 209 [.of (slC (lsC xpC) l),.of (slC (lsC xpC) m),.of (.fn 203 [])] [] K↔K ⟨false,[ah (decide (l=m))],[]⟩:=by
 have h1:=bh (lsW xpW) l fun x _=>by simp[lsW]
 have h2:=hw
 simp only[WL] at h2
 have:=aue l m (fun x y=>decide (x=y)) 203 [] ⟨by omega,aB3,axt,fun x hx y _=>ahn x y (by have:=bg (w:=lsW xpW) hx;omega)⟩ K
 rwa [kL] at this
def aaB:=ai (ai (ai (ai (ai @zq @aXd) (ai @aXc (ai @aP2 @aNF))) (ai (ai @aqZ @am8) (ai @aP1 (ai @aNE @aP0)))) (ai (ai (ai @aNC @aPZ) (ai @aNB (ai @aPY @aNA))) (ai (ai @ala (ai @ajd @fa)) (ai @dw (ai @jz @jy))))) (ai (ai (ai (ai @bK @j0) (ai @dY (ai @bH @fT))) (ai (ai @aB5 (ai @axv @aB4)) (ai @axu (ai @aB3 @axt)))) (ai (ai (ai @aB2 @axs) (ai @ahD (ai @afD @P3))) (ai (ai @Q3 (ai @Q9 @Q4)) (ai @zT0 (ai @awi (aw aKq))))))
theorem i7 (a b:Sm) (hw:smW a≤WL):G1 150 [.of (.agg (smC a)),.of (.agg (smC b))] (ah (decide (a=b))):=by
 have hw':=hw
 simp only[WL,smW] at hw
 have l1:a.cs.length≤4611686018427387903:=by have:=bh cdW a.cs (fun x _=>by simp[cdW]);omega
 have l2:a.ns.length≤4611686018427387903:=by have:=bh aZ a.ns (fun x _=>by simp[aZ]);omega
 have l3:lsW xpW a.chs≤WL:=by simp only[WL];omega
 have l4:lsW xpW a.wh≤WL:=by simp only[WL];omega
 have k1:=a2g (l:=a.kys) (by simp only[WL];omega)
 have k2:=a2f (l:=a.rfs) (by simp only[WL];omega)
 have k3:=efR (l:=a.rws) (by simp only[WL];omega)
 have k4:=a2h (l:=a.sts) (by simp only[WL];omega)
 have k5:=efQ (aUU a.q (by simp only[WL];omega)) (by simp only[WL];omega)
 refine aj rfl aKq awi rfl ?_
 by_cases c0:a.kd=b.kd
 rotate_left
 .simp -implicitDefEqProofs(maxSteps:=9^9)only[Tryz.f150,↓zA,sevalprocAttr,aaB,c0,fP,dl,fK,l1,l2,l3,l4,k1,k2,k3,k4,k5,av,aR,aX,List.append_eq,List.append_toArray,List.cons_append,List.nil_append,gX a b,false_and,and_false]
 by_cases c1:a.tb=b.tb
 rotate_left
 .simp -implicitDefEqProofs(maxSteps:=9^9)only[Tryz.f150,↓zA,sevalprocAttr,aaB,eq_true c0,c1,fP,dl,fK,l1,l2,l3,l4,k1,k2,k3,k4,k5,av,aR,aX,List.append_eq,List.append_toArray,List.cons_append,List.nil_append,gX a b,false_and,and_false]
 by_cases c2:a.nm=b.nm
 rotate_left
 .simp -implicitDefEqProofs(maxSteps:=9^9)only[Tryz.f150,↓zA,sevalprocAttr,aaB,eq_true c0,eq_true c1,c2,fP,dl,fK,l1,l2,l3,l4,k1,k2,k3,k4,k5,av,aR,aX,List.append_eq,List.append_toArray,List.cons_append,List.nil_append,gX a b,false_and,and_false]
 by_cases c3:a.un=b.un
 rotate_left
 .simp -implicitDefEqProofs(maxSteps:=9^9)only[Tryz.f150,↓zA,sevalprocAttr,aaB,eq_true c0,eq_true c1,eq_true c2,c3,fP,dl,fK,l1,l2,l3,l4,k1,k2,k3,k4,k5,av,aR,aX,List.append_eq,List.append_toArray,List.cons_append,List.nil_append,gX a b,false_and,and_false]
 by_cases c4:a.cs=b.cs
 rotate_left
 .simp -implicitDefEqProofs(maxSteps:=9^9)only[Tryz.f150,↓zA,sevalprocAttr,aaB,eq_true c0,eq_true c1,eq_true c2,eq_true c3,c4,fP,dl,fK,l1,l2,l3,l4,k1,k2,k3,k4,k5,av,aR,aX,List.append_eq,List.append_toArray,List.cons_append,List.nil_append,gX a b,false_and,and_false]
 by_cases c5:a.ns=b.ns
 rotate_left
 .simp -implicitDefEqProofs(maxSteps:=9^9)only[Tryz.f150,↓zA,sevalprocAttr,aaB,eq_true c0,eq_true c1,eq_true c2,eq_true c3,eq_true c4,c5,fP,dl,fK,l1,l2,l3,l4,k1,k2,k3,k4,k5,av,aR,aX,List.append_eq,List.append_toArray,List.cons_append,List.nil_append,gX a b,false_and,and_false]
 by_cases c6:a.kys=b.kys
 rotate_left
 .simp -implicitDefEqProofs(maxSteps:=9^9)only[Tryz.f150,↓zA,sevalprocAttr,aaB,eq_true c0,eq_true c1,eq_true c2,eq_true c3,eq_true c4,eq_true c5,c6,fP,dl,fK,l1,l2,l3,l4,k1,k2,k3,k4,k5,av,aR,aX,List.append_eq,List.append_toArray,List.cons_append,List.nil_append,gX a b,false_and,and_false]
 by_cases c7:a.rfs=b.rfs
 rotate_left
 .simp -implicitDefEqProofs(maxSteps:=9^9)only[Tryz.f150,↓zA,sevalprocAttr,aaB,eq_true c0,eq_true c1,eq_true c2,eq_true c3,eq_true c4,eq_true c5,eq_true c6,c7,fP,dl,fK,l1,l2,l3,l4,k1,k2,k3,k4,k5,av,aR,aX,List.append_eq,List.append_toArray,List.cons_append,List.nil_append,gX a b,false_and,and_false]
 by_cases c8:a.chs=b.chs
 rotate_left
 .simp -implicitDefEqProofs(maxSteps:=9^9)only[Tryz.f150,↓zA,sevalprocAttr,aaB,eq_true c0,eq_true c1,eq_true c2,eq_true c3,eq_true c4,eq_true c5,eq_true c6,eq_true c7,c8,fP,dl,fK,l1,l2,l3,l4,k1,k2,k3,k4,k5,av,aR,aX,List.append_eq,List.append_toArray,List.cons_append,List.nil_append,gX a b,false_and,and_false]
 by_cases c9:a.rws=b.rws
 rotate_left
 .simp -implicitDefEqProofs(maxSteps:=9^9)only[Tryz.f150,↓zA,sevalprocAttr,aaB,eq_true c0,eq_true c1,eq_true c2,eq_true c3,eq_true c4,eq_true c5,eq_true c6,eq_true c7,eq_true c8,c9,fP,dl,fK,l1,l2,l3,l4,k1,k2,k3,k4,k5,av,aR,aX,List.append_eq,List.append_toArray,List.cons_append,List.nil_append,gX a b,false_and,and_false]
 by_cases c10:a.sts=b.sts
 rotate_left
 .simp -implicitDefEqProofs(maxSteps:=9^9)only[Tryz.f150,↓zA,sevalprocAttr,aaB,eq_true c0,eq_true c1,eq_true c2,eq_true c3,eq_true c4,eq_true c5,eq_true c6,eq_true c7,eq_true c8,eq_true c9,c10,fP,dl,fK,l1,l2,l3,l4,k1,k2,k3,k4,k5,av,aR,aX,List.append_eq,List.append_toArray,List.cons_append,List.nil_append,gX a b,false_and,and_false]
 by_cases c11:a.wh=b.wh
 rotate_left
 .simp -implicitDefEqProofs(maxSteps:=9^9)only[Tryz.f150,↓zA,sevalprocAttr,aaB,eq_true c0,eq_true c1,eq_true c2,eq_true c3,eq_true c4,eq_true c5,eq_true c6,eq_true c7,eq_true c8,eq_true c9,eq_true c10,c11,fP,dl,fK,l1,l2,l3,l4,k1,k2,k3,k4,k5,av,aR,aX,List.append_eq,List.append_toArray,List.cons_append,List.nil_append,gX a b,false_and,and_false]
 by_cases c12:a.q=b.q
 rotate_left
 .simp -implicitDefEqProofs(maxSteps:=9^9)only[Tryz.f150,↓zA,sevalprocAttr,aaB,eq_true c0,eq_true c1,eq_true c2,eq_true c3,eq_true c4,eq_true c5,eq_true c6,eq_true c7,eq_true c8,eq_true c9,eq_true c10,eq_true c11,c12,fP,dl,fK,l1,l2,l3,l4,k1,k2,k3,k4,k5,av,aR,aX,List.append_eq,List.append_toArray,List.cons_append,List.nil_append,gX a b,false_and,and_false]
 simp -implicitDefEqProofs(maxSteps:=9^9)only[Tryz.f150,↓zA,sevalprocAttr,aaB,eq_true c0,eq_true c1,eq_true c2,eq_true c3,eq_true c4,eq_true c5,eq_true c6,eq_true c7,eq_true c8,eq_true c9,eq_true c10,eq_true c11,eq_true c12,fP,dl,fK,l1,l2,l3,l4,k1,k2,k3,k4,k5,av,aR,aX,List.append_eq,List.append_toArray,List.cons_append,List.nil_append,gX a b,and_self,decide_true]
theorem aAm (P:Program) (T:TT) (t:Nat) (u:Option TypeDesc) (n:Int):dX P T t u .andNot (.of (.lit (.int .i64 n))) (.of (.lit (.int .i64 1)))=out (ak (IntKind.i64.wrap ((BitVec.ofInt 64 n &&& ~~~BitVec.ofInt 64 1).toNat:Int))):=by simp[dX,dN,gp,kN,bB,out];rfl
theorem at4 (n:Int) (h:acy n=true):IntKind.i64.wrap ((BitVec.ofInt 64 n &&& ~~~BitVec.ofInt 64 1).toNat:Int)=0↔(n=0∨n=1):=by
 simp only[acy,decide_eq_true_eq] at h
 have hx:∀ b:BitVec 64,(b &&& ~~~(1#64))=0#64↔(b=0#64∨b=1#64):=by
  intro b
  constructor
  .intro e
   have h1:∀ i:Nat,0<i→b.getLsbD i=false:=fun i hi=>by
    have:=congrArg (fun x:BitVec 64=>x.getLsbD i) e
    by_cases h64:i<64
    .have hi0:¬ i=0:=by omega
     simp only[BitVec.getLsbD_and,BitVec.getLsbD_not,BitVec.getLsbD_one,BitVec.getLsbD_zero,h64,hi0,decide_true,decide_false,Bool.and_false,Bool.not_false,Bool.and_true,Bool.true_and] at this
     exact this
    .exact BitVec.getLsbD_of_ge b i (by omega)
   have z1:∀ i:Nat,(1#64).getLsbD i=decide (i=0):=fun i=>by simp[BitVec.getLsbD_one]
   rcases hb:b.getLsbD 0 with _|_
   .left
    apply BitVec.eq_of_getLsbD_eq
    intro i hi
    rw[BitVec.getLsbD_zero]
    rcases Nat.eq_zero_or_pos i with rfl|hp
    .exact hb
    .exact h1 i hp
   .right
    apply BitVec.eq_of_getLsbD_eq
    intro i hi
    rw[z1]
    rcases Nat.eq_zero_or_pos i with rfl|hp
    .rw[hb];rfl
    .rw[h1 i hp,decide_eq_false (by omega)]
  .rintro (rfl|rfl) <;> decide
 have ho:∀ m:Int,0≤m→m<18446744073709551616→(IntKind.i64.wrap m=0↔m=0):=fun m h0 h1=>by
  rw[IntKind.wrap_i64]
  omega
 have hlt:=(BitVec.ofInt 64 n &&& ~~~BitVec.ofInt 64 1).isLt
 rw[ho _ (by omega) (by omega)]
 have e1:(((BitVec.ofInt 64 n &&& ~~~BitVec.ofInt 64 1).toNat:Int)=0)↔(BitVec.ofInt 64 n &&& ~~~(1#64))=0#64:=by
  rw[← BitVec.toNat_inj]
  have:BitVec.ofInt 64 1=1#64:=by decide
  rw[this]
  simp
 rw[e1,hx]
 have e2:∀ k:Int,-9223372036854775808≤k→k≤9223372036854775807→(BitVec.ofInt 64 n=BitVec.ofInt 64 k↔n=k):=fun k h1 h2=>by
  constructor
  .intro e
   have:=congrArg BitVec.toInt e
   simp only[BitVec.toInt_ofInt] at this
   simp only[Int.bmod_def] at this
   omega
  .rintro rfl;rfl
 have z0:(0#64)=BitVec.ofInt 64 0:=by decide
 have z1:(1#64)=BitVec.ofInt 64 1:=by decide
 rw[z0,z1,e2 0 (by omega) (by omega),e2 1 (by omega) (by omega)]
def aH5:=ai (ai @zq @zT0) (ai @avb (aw aJn))
theorem aOw (n:Int):G1 220 [ak n] (ah (inB n)):=by
 refine aj rfl aJn avb rfl ?_
 by_cases h1:-1000000000000000≤n
 .simp -implicitDefEqProofs(maxSteps:=9^9)only[Tryz.f220,↓zA,sevalprocAttr,aH5,h1,inB]
 .simp -implicitDefEqProofs(maxSteps:=9^9)only[Tryz.f220,↓zA,sevalprocAttr,aH5,h1,inB]
theorem ain (n:Int) (K:An→Prop):aG Tryz.prog pr 220 [.of (ci n)] [] K↔K ⟨false,[ah (inB n)],[]⟩:=ae.k (aOw n) K
theorem ahS (s:ByteArray) (K:An→Prop):aG Tryz.prog pr 218 [.of (ao s),.of (.fn 219 [])] [] K↔K ⟨false,[ak (Lib.idxFunc acD true s)],[]⟩ :=
 ae.k (ae.of_prim (show ixP [.of (ao s),.of (.fn 219 [])] []=_ by unfold ixP;simp only[if_true])) K
theorem aax (v:V):(aay v).length=3:=rfl
theorem s0:(⟨#[]⟩ : ByteArray)=ByteArray.empty:=rfl
def aez:=ai (ai (ai @zq (ai @aW1 @aPU)) (ai @aNv (ai @aPT @aNu))) (ai (ai @adY (ai @P3 @Q3)) (ai (ai @Q9 @zT0) (ai @avZ (aw aJ8))))
theorem ap7 (v:V) (hv:I64 v.n):G1 169 [.of (.agg (aay v))] (ah (dL v)):=by
 refine aj rfl aJ8 avZ rfl ?_
 by_cases k3:v.k=3
 .have e:dL v=(decide (v.n=0)&&abh v.s):=by simp[dL,k3]
  by_cases hn:v.n=0
  .by_cases hl:(v.s.size:Int)≤100
   .have e2:abh v.s=decide (Lib.idxFunc acD true v.s<0):=by
     unfold abh
     have:v.s.size≤100:=by omega
     rw[decide_eq_true this,Bool.and_true]
     by_cases h:v.s.data.toList.all okB=true
     .rw[h,decide_eq_true ((aw6 v.s).2 h)]
     .rw[Bool.eq_false_iff.2 h,decide_eq_false fun e=>h ((aw6 v.s).1 e)]
    simp -implicitDefEqProofs(maxSteps:=9^9)only[Tryz.f169,↓zA,sevalprocAttr,aez,ain,ahS,Int.reduceEq,aax,k3,hn,hl,e,e2]
   .have e2:abh v.s=false:=by
     unfold abh
     have:¬ v.s.size≤100:=by omega
     rw[decide_eq_false this,Bool.and_false]
    simp -implicitDefEqProofs(maxSteps:=9^9)only[Tryz.f169,↓zA,sevalprocAttr,aez,ain,ahS,Int.reduceEq,aax,k3,hn,hl,e,e2]
  .simp -implicitDefEqProofs(maxSteps:=9^9)only[Tryz.f169,↓zA,sevalprocAttr,aez,ain,ahS,Int.reduceEq,aax,k3,hn,e]
 .by_cases hs:v.s=ByteArray.empty
  .by_cases k0:v.k=0
   .have e:dL v=decide (v.n=0):=by simp[dL,k0,hs]
    simp -implicitDefEqProofs(maxSteps:=9^9)only[Tryz.f169,↓zA,sevalprocAttr,aez,ain,ahS,Int.reduceEq,aax,k3,k0,s0,hs,e]
   .by_cases k1:v.k=1
    .have e:dL v=(decide (IntKind.i64.wrap ((BitVec.ofInt 64 v.n &&& ~~~BitVec.ofInt 64 1).toNat:Int)=0)):=by
      have h2:decide (IntKind.i64.wrap ((BitVec.ofInt 64 v.n &&& ~~~BitVec.ofInt 64 1).toNat:Int)=0)=decide (v.n=0∨v.n=1):=decide_eq_decide.2 (at4 v.n (decide_eq_true hv))
      rw[h2]
      simp[dL,k1,hs]
     simp -implicitDefEqProofs(maxSteps:=9^9)only[Tryz.f169,↓zA,sevalprocAttr,aez,ain,ahS,Int.reduceEq,aax,k3,k0,k1,s0,hs,e,aAm]
    .by_cases k2:v.k=2
     .have e:dL v=inB v.n:=by simp[dL,k2,hs]
      simp -implicitDefEqProofs(maxSteps:=9^9)only[Tryz.f169,↓zA,sevalprocAttr,aez,ain,ahS,Int.reduceEq,aax,k3,k0,k1,k2,s0,hs,e]
     .have e:dL v=false:=by simp[dL,k0,k1,k2,k3]
      simp -implicitDefEqProofs(maxSteps:=9^9)only[Tryz.f169,↓zA,sevalprocAttr,aez,ain,ahS,Int.reduceEq,aax,k3,k0,k1,k2,s0,hs,e]
  .have e:dL v=false:=by simp[dL,k3,hs]
   simp -implicitDefEqProofs(maxSteps:=9^9)only[Tryz.f169,↓zA,sevalprocAttr,aez,ain,ahS,Int.reduceEq,aax,k3,s0,hs,e]
theorem eV (v:V) (K:An→Prop):aG Tryz.prog pr 169 [.of (.agg (aay v))] [] K↔ifP (I64 v.n) (K ⟨false,[ah (dL v)],[]⟩) (fp Tryz.prog pr 169 [.of (.agg (aay v))] K):=hZ (ap7 v) K
theorem aIf (a b:Int):Instr.sameNow (.int .i64) (.int .i64 a) (.int .i64 b)=some (decide (a=b)):=by
 simp only[Instr.sameNow]
 by_cases h:a=b
 .subst h;simp
 .simp[h]
theorem auj (s:S) (d:Option Nat) (x:X) (r:Nat) (es:List (Value×C)):ayu s d x r (some es)=some ((s.withO (s.objs.set r (Ob.map es))).put d x):=rfl
abbrev d7 (a b c:Int):C:=.agg (shC ⟨a,b,c⟩)
def aLE:List (Value×C):=[(.int .i64 1,d7 0 0 0),(.int .i64 2,d7 0 0 0),(.int .i64 3,d7 1 1 0),(.int .i64 4,d7 1 1 0),(.int .i64 19,d7 1 1 0),(.int .i64 22,d7 3 3 0),(.int .i64 21,d7 2 65 0),(.int .i64 23,d7 2 129 0),(.int .i64 24,d7 0 64 0),(.int .i64 25,d7 0 1 0),(.int .i64 26,d7 0 0 1),(.int .i64 27,d7 0 0 1),(.int .i64 28,d7 1 1 1)]
def two:List Int:=[5,6,7,8,9,10,11,12,13,14,15,16,17,18,20]
def abS (k:Nat):List (Value×C):=aLE++(two.take k).map fun n=>(.int .i64 n,d7 2 2 0)
theorem aFd (tk:Tk) (a b c d e f g h i j k l m n o:Int):bM tk 15 (Pe.elemOf (TT.of Tryz.prog) 58) (some [(0,[ak a]),(1,[ak b]),(2,[ak c]),(3,[ak d]),(4,[ak e]),(5,[ak f]),(6,[ak g]),(7,[ak h]),(8,[ak i]),(9,[ak j]),(10,[ak k]),(11,[ak l]),(12,[ak m]),(13,[ak n]),(14,[ak o])])=out (.own tk 3 1 [ci a,ci b,ci c,ci d,ci e,ci f,ci g,ci h,ci i,ci j,ci k,ci l,ci m,ci n,ci o] 15):=by rw[E58];kernel_rfl
theorem atA (tk:Tk) (e z:Nat) (l:List Int) (n:Nat) (hn:n=l.length) (i:Int):bF (TT.of Tryz.prog) 58 (.own tk e z (fl aV l) n) (.of (.lit (.int .i64 i)))=bF (TT.of Tryz.prog) 58 (.of (slC aV l)) (.of (.lit (.int .i64 i))):=by
 subst hn
 rw[aaM E58 _ _ i _ rfl,aaM E58 _ _ i _ rfl]
theorem aWh:∀ k (h:k<two.length),agn (.int .i64) (.int .i64 two[k]) (.agg (shC ⟨2,2,0⟩)) (abS k)=some (abS (k+1))
 | 0,_=>rfl
 | 1,_=>rfl
 | 2,_=>rfl
 | 3,_=>rfl
 | 4,_=>rfl
 | 5,_=>rfl
 | 6,_=>rfl
 | 7,_=>rfl
 | 8,_=>rfl
 | 9,_=>rfl
 | 10,_=>rfl
 | 11,_=>rfl
 | 12,_=>rfl
 | 13,_=>rfl
 | 14,_=>rfl
 | k+15,h=>absurd h (by simp[two])
theorem afk:two.length=15:=rfl
def apo:=ai (ai (ai @zq @akw) (ai @aIe @cV)) (ai (ai @P3 @Q3) (ai @zT0 (ai @av0 (aw aJ9))))
theorem cM:ae Tryz.prog pr 168 [] [] ⟨false,[.mp 0],[.map (abS 15)]⟩:=by
 refine aj rfl aJ9 av0 rfl ?_
 simp -implicitDefEqProofs(maxSteps:=9^9)only[Tryz.f168,↓zA,sevalprocAttr,apo,aoq (ht:=akw),ail (ht:=akw),adP,amO,auj,aiX,agn,aaf,aIf,Int.reduceEq,List.cons_append,List.nil_append,aFd]
 refine aL two.length (fun k s=>s.fr 1=.mp 0∧s.fr 19=.own (.nm 3 0 0) 3 1 (fl aV two) 15∧s.fr 20=ak 15∧s.fr 21=ak k∧s.objs=[.map (abS k)]) ?_ ?_
 .simp -implicitDefEqProofs(maxSteps:=9^9)only[Tryz.f168,↓zA,sevalprocAttr,apo]
  exact⟨rfl,rfl⟩
 .rintro k s hk ⟨f1,f19,f20,f21,ho⟩
  have e15:((k:Int)<15)=(k<two.length):=propext (by rw[afk];omega)
  rcases Nat.lt_or_ge k two.length with c1|c1
  .have hw:=aQ k (by rw[afk] at hk;omega)
   simp -implicitDefEqProofs(maxSteps:=9^9)only[Tryz.f168,↓zA,sevalprocAttr,apo,f1,f19,f20,f21,ho,e15,c1,atA,afk,ap c1,hw,aoq (ht:=akw),ail (ht:=akw),adP,amO,auj,aiX,aWh k c1]
   have c2:k<15:=by rw[afk] at c1;exact c1
   simp only[c2,if_true]
  .have e:k=two.length:=by omega
   subst e
   simp -implicitDefEqProofs(maxSteps:=9^9)only[Tryz.f168,↓zA,sevalprocAttr,apo,f1,f19,f20,f21,ho,afk]
def shX (op:Int):X:=match jd op with
 | some (a,b,c)=>.tup [.of (.agg (shC ⟨a,b,c⟩)),ah true]
 | none=>.tup [.agg [ak 0,ak 0,ak 0],ah false]
theorem aEu (n m:Int) (c:C) (es:List (Value×C)) (i:Nat):aaf (.int .i64) (.int .i64 n) ((.int .i64 m,c)::es) i=if n=m then some (some i) else aaf (.int .i64) (.int .i64 n) es (i+1):=by
 simp only[aaf,aIf]
 by_cases h:n=m <;> simp[h]
theorem aGX (n:Int) (i:Nat):aaf (.int .i64) (.int .i64 n) [] i=some none:=rfl
theorem atr (objs:List Ob) (op:Int) (ho:objs[0]?=some (.map (abS 15))):aaq (TT.of Tryz.prog) objs 200 (.mp 0) (.of (.lit (.int .i64 op))) true=out (shX op):=by
 have hm:aci objs (.mp 0)=some (abS 15):=by simp only[aci,ho]
 simp only[aaq,akw,dN,hm]
 have e:abS 15=[(.int .i64 1,d7 0 0 0),(.int .i64 2,d7 0 0 0),(.int .i64 3,d7 1 1 0),(.int .i64 4,d7 1 1 0),(.int .i64 19,d7 1 1 0),(.int .i64 22,d7 3 3 0),(.int .i64 21,d7 2 65 0),(.int .i64 23,d7 2 129 0),(.int .i64 24,d7 0 64 0),(.int .i64 25,d7 0 1 0),(.int .i64 26,d7 0 0 1),(.int .i64 27,d7 0 0 1),(.int .i64 28,d7 1 1 1),
  (.int .i64 5,d7 2 2 0),(.int .i64 6,d7 2 2 0),(.int .i64 7,d7 2 2 0),(.int .i64 8,d7 2 2 0),(.int .i64 9,d7 2 2 0),(.int .i64 10,d7 2 2 0),(.int .i64 11,d7 2 2 0),(.int .i64 12,d7 2 2 0),(.int .i64 13,d7 2 2 0),(.int .i64 14,d7 2 2 0),(.int .i64 15,d7 2 2 0),(.int .i64 16,d7 2 2 0),(.int .i64 17,d7 2 2 0),(.int .i64 18,d7 2 2 0),(.int .i64 20,d7 2 2 0)]:=rfl
 have hz:aex (TT.of Tryz.prog) 198=some (.agg [ak 0,ak 0,ak 0]):=by kernel_rfl
 by_cases h:op=1∨op=2∨op=3∨op=4∨op=5∨op=6∨op=7∨op=8∨op=9∨op=10∨op=11∨op=12∨op=13∨op=14∨op=15∨op=16∨op=17∨op=18∨op=19∨op=20∨op=21∨op=22∨op=23∨op=24∨op=25∨op=26∨op=27∨op=28
 .rcases h with h|h|h|h|h|h|h|h|h|h|h|h|h|h|h|h|h|h|h|h|h|h|h|h|h|h|h|h <;> (subst h;rfl)
 .simp only[not_or] at h
  rw[e]
  simp only[aEu,h,if_false,aGX,hz]
  have hs:jd op=none:=by
   unfold jd
   simp only[h,or_self,or_false,false_or,if_false]
   rw[if_neg (by omega)]
  simp only[shX,hs]
  rfl
theorem ba (s:List UInt8) (K:An→Prop):aG Tryz.prog pr 134 [.of (ao (ar s))] [] K↔K ⟨false,[ah (aA s)],[]⟩:=ae.k (aln s) K
theorem aGU (l:List (List UInt8)):FnB (fun x=>ao (ar x)) 134 [] aA l:=⟨abi,aas,fun x _=>aln x⟩
theorem ay {α:Type} (l:List α) (a b:Nat) (p:α→Bool):am l (a:Int) (b:Int) p=(aE l.length a b&&l.all p):=by
 simp only[am,aE]
 congr 2 <;> simp
def aH8:=ai (ai @zq (ai @abi @aas)) (ai @zT0 (ai @avY (aw aJ7)))
theorem azf (s:List UInt8):G1 170 [.of (ao (ar s))] (ah (ff s)):=by
 refine aj rfl aJ7 avY rfl ?_
 by_cases c:s=[]
 .simp -implicitDefEqProofs(maxSteps:=9^9)only[Tryz.f170,↓zA,sevalprocAttr,aH8,ba,c,ff,Bool.true_or]
 .simp -implicitDefEqProofs(maxSteps:=9^9)only[Tryz.f170,↓zA,sevalprocAttr,aH8,ba,c,ff,Bool.false_or]
theorem ew (s:List UInt8) (K:An→Prop):aG Tryz.prog pr 170 [.of (ao (ar s))] [] K↔K ⟨false,[ah (ff s)],[]⟩:=ae.k (azf s) K
def aVr:=ai (ai (ai @zq @aP8) (ai @aNL @abi)) (ai (ai @aas @zT0) (ai @awq (aw aKy)))
theorem ay9 (l:List (List UInt8)) (a b:Int) (h:l.length≤4611686018427387903):G1 142 [.of (slC bd l),.of (ci a),.of (ci b)] (ah (am l a b aA)):=by
 refine aj rfl aKy awq rfl ?_
 simp -implicitDefEqProofs(maxSteps:=9^9)only[Tryz.f142,↓zA,sevalprocAttr,aVr,fun K=>asP l a b aA 134 [] ⟨h,aGU l⟩ K]
theorem bw (l:List (List UInt8)) (a b:Int) (K:An→Prop):aG Tryz.prog pr 142 [.of (slC bd l),.of (ci a),.of (ci b)] [] K↔ifP (l.length≤4611686018427387903) (K ⟨false,[ah (am l a b aA)],[]⟩) (fp Tryz.prog pr 142 [.of (slC bd l),.of (ci a),.of (ci b)] K):=hZ (ay9 l a b) K
theorem abJ {α:Type} (l:List α) (p:α→Bool):am l 1 16 p=(aE l.length 1 16&&l.all p):=ay l 1 16 p
def apq:=ai (ai (ai @zq @aXP) (ai @abi (ai @aas @dw))) (ai (ai @Q9 (ai @P3 @Q3)) (ai @zT0 (ai @aww (aw aKE))))
theorem aHd (c:Cd):G1 136 [.of (.agg (cdC c))] (ah (bR c)):=by
 refine aj rfl aKE aww rfl ?_
 cases c0:aA c.nm
 .simp -implicitDefEqProofs(maxSteps:=9^9)only[Tryz.f136,↓zA,sevalprocAttr,apq,ba,c0,bR]
 .by_cases c1:1≤c.ty
  .by_cases c2:c.ty≤3
   .simp -implicitDefEqProofs(maxSteps:=9^9)only[Tryz.f136,↓zA,sevalprocAttr,apq,ba,c0,c1,c2,bR]
   .simp -implicitDefEqProofs(maxSteps:=9^9)only[Tryz.f136,↓zA,sevalprocAttr,apq,ba,c0,c1,c2,bR]
  .simp -implicitDefEqProofs(maxSteps:=9^9)only[Tryz.f136,↓zA,sevalprocAttr,apq,ba,c0,c1,bR]
def aVs:=ai (ai (ai @zq @aXO) (ai @aq4 @ane)) (ai (ai @jz @bH) (ai @zT0 (ai @awu (aw aKC))))
theorem aGA (k:Kd) (h:k.ns.length≤4611686018427387903):G1 138 [.of (.agg (kdC k))] (ah (cK k)):=by
 refine aj rfl aKC awu rfl ?_
 simp -implicitDefEqProofs(maxSteps:=9^9)only[Tryz.f138,↓zA,sevalprocAttr,aVs,bw,h,abJ,cK,bt]
def ayn:=ai (ai (ai @zq (ai @aXN @aq4)) (ai @ane (ai @abi @aas))) (ai (ai @jy (ai @bH @Q9)) (ai @zT0 (ai @aws (aw aKA))))
theorem ayK (r:Rd) (h:r.ns.length≤4611686018427387903∧r.to.length≤4611686018427387903):G1 140 [.of (.agg (rdC r))] (ah (cz r)):=by
 refine aj rfl aKA aws rfl ?_
 cases c0:am r.ns 1 16 aA
 .simp -implicitDefEqProofs(maxSteps:=9^9)only[Tryz.f140,↓zA,sevalprocAttr,ayn,bw,ba,h,c0,cz,bt,← abJ]
 .cases c1:aA r.tb
  .simp -implicitDefEqProofs(maxSteps:=9^9)only[Tryz.f140,↓zA,sevalprocAttr,ayn,bw,ba,h,c0,c1,cz,bt,← abJ]
  .simp -implicitDefEqProofs(maxSteps:=9^9)only[Tryz.f140,↓zA,sevalprocAttr,ayn,bw,ba,h,c0,c1,cz,bt,← abJ]
def apk:=ai (ai (ai @zq @aXR) (ai @abi (ai @aas @abx))) (ai (ai @Q9 (ai @P3 @Q3)) (ai @zT0 (ai @avE (aw aJN))))
theorem aOm (o:Od):G1 191 [.of (.agg (odC o))] (ah (fA o)):=by
 refine aj rfl aJN avE rfl ?_
 by_cases c0:o.nm=[]
 .by_cases c1:1≤o.pl
  .simp -implicitDefEqProofs(maxSteps:=9^9)only[Tryz.f191,↓zA,sevalprocAttr,apk,c0,c1,fA,jD,ne_eq]
   try rfl
  .simp -implicitDefEqProofs(maxSteps:=9^9)only[Tryz.f191,↓zA,sevalprocAttr,apk,c0,c1,fA,jD,ne_eq]
 .cases c1:aA o.nm
  .simp -implicitDefEqProofs(maxSteps:=9^9)only[Tryz.f191,↓zA,sevalprocAttr,apk,ba,c0,c1,fA,jD,ne_eq]
  .simp -implicitDefEqProofs(maxSteps:=9^9)only[Tryz.f191,↓zA,sevalprocAttr,apk,ba,c0,c1,fA,jD,ne_eq]
theorem atR (tk:Tk) (a b c d:ByteArray):bM tk 4 (Pe.elemOf (TT.of Tryz.prog) 30) (some [(0,[.of (.lit (.string a))]),(1,[.of (.lit (.string b))]),(2,[.of (.lit (.string c))]),(3,[.of (.lit (.string d))])])=out (.own tk 9 1 [.lit (.string a),.lit (.string b),.lit (.string c),.lit (.string d)] 4):=by rw[E30];rfl
theorem aQ0:C.sl [ao {data:=#[99,111,117,110,116]},ao {data:=#[115,117,109]},ao {data:=#[109,105,110]},ao {data:=#[109,97,120]}] 4=slC bd [[99,111,117,110,116],[115,117,109],[109,105,110],[109,97,120]]:=rfl
theorem aQ1 (s:List UInt8):decide (s∈[[99,111,117,110,116],[115,117,109],[109,105,110],[109,97,120]])=iL s:=by
 simp only[iL,abu,List.mem_cons,List.not_mem_nil,or_false,Bool.decide_or,Bool.or_assoc]
 rfl
def aVk:=ai (ai @zq (ai @aIs @aEW)) (ai (ai @bH @zT0) (ai @avX (aw aJ6)))
theorem aoU (s:List UInt8):G1 171 [.of (ao (ar s))] (ah (iL s)):=by
 refine aj rfl aJ6 avX rfl ?_
 rw[← aQ1]
 simp -implicitDefEqProofs(maxSteps:=9^9)only[Tryz.f171,↓zA,sevalprocAttr,aVk,atR,aQ0,agX]
theorem ef (s:List UInt8) (K:An→Prop):aG Tryz.prog pr 171 [.of (ao (ar s))] [] K↔K ⟨false,[ah (iL s)],[]⟩:=ae.k (aoU s) K
def aev (l:List Xp):Prop:=∀ x∈l,G1 122 [.of (.agg (xpC x))] (ah (aK x))
def anu (l:List Qy):Prop:=∀ x∈l,G1 144 [.of (.agg (qyC x))] (ah (bA x))
theorem zX {l:List Xp} (h:aev l) (hw:lsW xpW l≤WL) (a b:Int) (K:An→Prop):aG Tryz.prog pr 141 [.of (slC xpC l),.of (ci a),.of (ci b),.of (.fn 122 [])] [] K↔K ⟨false,[ah (am l a b aK)],[]⟩:=by
 have h1:=bh xpW l fun x _=>gW x
 simp only[WL] at *
 exact aBk l a b aK _ [] ⟨by omega,abk,aau,h⟩ K
theorem zQ {l:List Qy} (h:anu l) (hw:lsW qyW l≤WL) (a b:Int) (K:An→Prop):aG Tryz.prog pr 143 [.of (slC qyC l),.of (ci a),.of (ci b),.of (.fn 144 [])] [] K↔K ⟨false,[ah (am l a b bA)],[]⟩:=by
 have h1:=bh qyW l fun x _=>aaE x
 simp only[WL] at *
 exact ayx l a b bA _ [] ⟨by omega,ahE,afE,h⟩ K
theorem anT {e:Xp} (h:jd e.op=none):aK e=false:=by cases e;rw[aK];simp only[Xp.op] at h;rw[h]
theorem anS {e:Xp} {lo hi n:Nat} (h:jd e.op=some (lo,hi,n)):aK e=(am e.ks lo hi aK&&am e.sb n n bA&&cT e.op e.v e.tb e.nm e.di e.ks.length):=by
 cases e
 rw[aK]
 simp only[Xp.op] at h
 rw[h]
 simp only[Xp.op,Xp.v,Xp.tb,Xp.nm,Xp.di,Xp.ks,Xp.sb,ay,aeM,aeO]
 have hn:∀ m:Nat,aE m n n=decide (m=n):=fun m=>by
  rw[Bool.eq_iff_iff];simp only[aE,Bool.and_eq_true,decide_eq_true_eq];omega
 rw[hn]
 generalize cT _ _ _ _ _ _=q
 generalize aE _ _ _=q2
 generalize List.all _ aK=q3
 generalize List.all _ bA=q4
 generalize (decide (List.length _=n))=q5
 cases q <;> cases q2 <;> cases q3 <;> cases q4 <;> cases q5 <;> rfl
theorem ayG (k n:Int) (s tb nm:ByteArray) (di:Bool):G1 172 [.of (.agg [ci 0,ci k,ci n,ao s,ao tb,ao nm,cb di,C.sl [] 0,C.sl [] 0]),.of (.agg [ci 0,ci 0,ci 0,ao {data:=#[]},ao {data:=#[]},ao {data:=#[]},cb false,C.sl [] 0,C.sl [] 0])] (ah (decide (k=0∧n=0∧s={data:=#[]})&&decide (tb={data:=#[]})&&decide (nm={data:=#[]})&&!di)):=by
 have h:=ajx (.mk 0 ⟨k,n,s⟩ tb.data.toList nm.data.toList di [] []) (.mk 0 ⟨0,0,{data:=#[]}⟩ [] [] false [] []) (by simp[lsW,Xp.ks,Xp.sb,WL]) (fun x hx=>by simp[Xp.ks] at hx) (fun x hx=>by simp[Xp.sb] at hx)
 have e1:ar tb.data.toList=tb:=by cases tb;simp[ar]
 have e2:ar nm.data.toList=nm:=by cases nm;simp[ar]
 have e3:∀ b:ByteArray,(b.data.toList=[])=(b={data:=#[]}):=fun b=>propext ⟨fun h=>by cases b;simp at h;rw[h],fun h=>by rw[h]⟩
 have e4:xpC (.mk 0 ⟨k,n,s⟩ tb.data.toList nm.data.toList di [] [])=[ci 0,ci k,ci n,ao s,ao tb,ao nm,cb di,C.sl [] 0,C.sl [] 0]:=by rw[aaG];simp only[Xp.op,Xp.v,Xp.tb,Xp.nm,Xp.di,Xp.ks,Xp.sb,e1,e2];rfl
 have e5:xpC (.mk 0 ⟨0,0,{data:=#[]}⟩ [] [] false [] [])=[ci 0,ci 0,ci 0,ao {data:=#[]},ao {data:=#[]},ao {data:=#[]},cb false,C.sl [] 0,C.sl [] 0]:=by rw[aaG];rfl
 rw[e4,e5] at h
 simp only[adu,Xp.op,Xp.v,Xp.tb,Xp.nm,Xp.di,Xp.ks,Xp.sb,e3,← ayt,true_and,and_true] at h
 have e6:∀ i:Decidable ((k=0∧n=0∧s={data:=#[]})∧tb={data:=#[]}∧nm={data:=#[]}∧di=false),@decide _ i=(decide (k=0∧n=0∧s={data:=#[]})&&decide (tb={data:=#[]})&&decide (nm={data:=#[]})&&!di):=fun i=>by
  rw[Bool.eq_iff_iff]
  simp only[decide_eq_true_eq,Bool.and_eq_true,Bool.not_eq_true',and_assoc]
 rw[e6] at h
 exact h
theorem gP (k n:Int) (s tb nm:ByteArray) (di:Bool) (K:An→Prop):aG Tryz.prog pr 172 [.of (.agg [ci 0,ci k,ci n,ao s,ao tb,ao nm,cb di,C.sl [] 0,C.sl [] 0]),.of (.agg [ci 0,ci 0,ci 0,ao {data:=#[]},ao {data:=#[]},ao {data:=#[]},cb false,C.sl [] 0,C.sl [] 0])] [] K↔K ⟨false,[ah (decide (k=0∧n=0∧s={data:=#[]})&&decide (tb={data:=#[]})&&decide (nm={data:=#[]})&&!di)],[]⟩:=ae.k (ayG k n s tb nm di) K
theorem adw (a:List UInt8):(ar a=({data:=#[99,111,117,110,116]}:ByteArray))=(a=abu):=av a abu
theorem aW (n:Nat):((n:Int)=0)=(n=0):=propext (by omega)
theorem gO (v:V):decide (v=ij)=decide (v.k=0∧v.n=0∧v.s={data:=#[]}):=by
 rw[Bool.eq_iff_iff]
 simp only[decide_eq_true_eq,← ayt]
 exact Iff.rfl
def iT:=ai (ai (ai (ai (ai @zq @aW5) (ai @gf @fk)) (ai (ai @akw @aW4) (ai @afu (ai @adT @ald)))) (ai (ai (ai @ajg @aW3) (ai @aQh @aNU)) (ai (ai @abi @aas) (ai @aq1 (ai @ana @aQg))))) (ai (ai (ai (ai @aNT @ab9) (ai @aa4 @adY)) (ai (ai @bK @aIe) (ai @dY (ai @dR @abk)))) (ai (ai (ai @aau @ahE) (ai @afE (ai @P3 @Q3))) (ai (ai @Q9 @Q4) (ai @zT0 (ai @awK (aw aKS))))))
theorem aEv (e:Xp) (hw:xpW e≤WL) (hv:I64 e.v.n) (i1:aev e.ks) (i2:anu e.sb):G1 122 [.of (.agg (xpC e))] (ah (aK e)):=by
 have hw':=jB e
 simp only[WL] at hw
 have kx:=zX i1 (by simp only[WL];omega)
 have kq:=zQ i2 (by simp only[WL];omega)
 have ls:=atr [.map (abS 15)] e.op rfl
 refine aj rfl aKS awK rfl ?_
 cases hs:jd e.op with
 | none =>
  rw[anT hs]
  simp -implicitDefEqProofs(maxSteps:=9^9)only[Tryz.f122,↓zA,sevalprocAttr,iT,iY cM fk gf,ls,shX,hs]
 | some p =>
  obtain⟨lo,hi,n⟩:=p
  rw[anS hs]
  cases c1:am e.ks lo hi aK
  .simp -implicitDefEqProofs(maxSteps:=9^9)only[Tryz.f122,↓zA,sevalprocAttr,iT,iY cM fk gf,ls,shX,hs,kx,c1]
  .cases c2:am e.sb n n bA
   .simp -implicitDefEqProofs(maxSteps:=9^9)only[Tryz.f122,↓zA,sevalprocAttr,iT,iY cM fk gf,ls,shX,hs,kx,kq,c1,c2]
   .by_cases o1:e.op=1
    .cases r1:dL e.v
     .simp -implicitDefEqProofs(maxSteps:=9^9)only[Tryz.f122,↓zA,sevalprocAttr,iT,iY cM fk gf,ls,shX,hs,kx,kq,c1,c2,eV,hv,ba,ew,ef,gP,cT,gO,and_self,ne_eq,Int.reduceEq,eq_true o1,r1]
     .by_cases r2:e.v.k=2
      .by_cases r3:0≤e.v.n
       .simp -implicitDefEqProofs(maxSteps:=9^9)only[Tryz.f122,↓zA,sevalprocAttr,iT,iY cM fk gf,ls,shX,hs,kx,kq,c1,c2,eV,hv,ba,ew,ef,gP,cT,gO,and_self,ne_eq,Int.reduceEq,eq_true o1,r1,eq_true r2,r3,show ¬e.v.n<0 from by omega]
       .simp -implicitDefEqProofs(maxSteps:=9^9)only[Tryz.f122,↓zA,sevalprocAttr,iT,iY cM fk gf,ls,shX,hs,kx,kq,c1,c2,eV,hv,ba,ew,ef,gP,cT,gO,and_self,ne_eq,Int.reduceEq,eq_true o1,r1,eq_true r2,r3,show e.v.n<0 from by omega]
      .simp -implicitDefEqProofs(maxSteps:=9^9)only[Tryz.f122,↓zA,sevalprocAttr,iT,iY cM fk gf,ls,shX,hs,kx,kq,c1,c2,eV,hv,ba,ew,ef,gP,cT,gO,and_self,ne_eq,Int.reduceEq,eq_true o1,r1,r2]
    .by_cases o2:e.op=2
     .cases r1:aA e.nm
      .simp -implicitDefEqProofs(maxSteps:=9^9)only[Tryz.f122,↓zA,sevalprocAttr,iT,iY cM fk gf,ls,shX,hs,kx,kq,c1,c2,eV,hv,ba,ew,ef,gP,cT,gO,and_self,ne_eq,Int.reduceEq,o1,eq_true o2,r1]
      .cases r2:ff e.tb
       .simp -implicitDefEqProofs(maxSteps:=9^9)only[Tryz.f122,↓zA,sevalprocAttr,iT,iY cM fk gf,ls,shX,hs,kx,kq,c1,c2,eV,hv,ba,ew,ef,gP,cT,gO,and_self,ne_eq,Int.reduceEq,o1,eq_true o2,r1,r2]
       .simp -implicitDefEqProofs(maxSteps:=9^9)only[Tryz.f122,↓zA,sevalprocAttr,iT,iY cM fk gf,ls,shX,hs,kx,kq,c1,c2,eV,hv,ba,ew,ef,gP,cT,gO,and_self,ne_eq,Int.reduceEq,o1,eq_true o2,r1,r2]
     .by_cases o3:e.op=24
      .cases r1:aA e.nm
       .simp -implicitDefEqProofs(maxSteps:=9^9)only[Tryz.f122,↓zA,sevalprocAttr,iT,iY cM fk gf,ls,shX,hs,kx,kq,c1,c2,eV,hv,ba,ew,ef,gP,cT,gO,and_self,ne_eq,Int.reduceEq,o1,o2,eq_true o3,r1]
       .cases r2:iL e.nm
        .simp -implicitDefEqProofs(maxSteps:=9^9)only[Tryz.f122,↓zA,sevalprocAttr,iT,iY cM fk gf,ls,shX,hs,kx,kq,c1,c2,eV,hv,ba,ew,ef,gP,cT,gO,and_self,ne_eq,Int.reduceEq,o1,o2,eq_true o3,r1,r2]
        .simp -implicitDefEqProofs(maxSteps:=9^9)only[Tryz.f122,↓zA,sevalprocAttr,iT,iY cM fk gf,ls,shX,hs,kx,kq,c1,c2,eV,hv,ba,ew,ef,gP,cT,gO,and_self,ne_eq,Int.reduceEq,o1,o2,eq_true o3,r1,r2]
      .by_cases o4:e.op=25
       .cases r1:iL e.nm
        .simp -implicitDefEqProofs(maxSteps:=9^9)only[Tryz.f122,↓zA,sevalprocAttr,iT,iY cM fk gf,ls,shX,hs,kx,kq,c1,c2,eV,hv,ba,ew,ef,gP,cT,gO,and_self,ne_eq,Int.reduceEq,o1,o2,o3,eq_true o4,r1]
        .by_cases r2:e.ks.length=0
         .by_cases r3:e.nm=abu
          .cases r4:e.di
           .simp -implicitDefEqProofs(maxSteps:=9^9)only[Tryz.f122,↓zA,sevalprocAttr,iT,iY cM fk gf,ls,shX,hs,kx,kq,c1,c2,eV,hv,ba,ew,ef,gP,cT,gO,and_self,ne_eq,Int.reduceEq,o1,o2,o3,eq_true o4,r1,r2,adw,aW,eq_true r3,r4]
           .simp -implicitDefEqProofs(maxSteps:=9^9)only[Tryz.f122,↓zA,sevalprocAttr,iT,iY cM fk gf,ls,shX,hs,kx,kq,c1,c2,eV,hv,ba,ew,ef,gP,cT,gO,and_self,ne_eq,Int.reduceEq,o1,o2,o3,eq_true o4,r1,r2,adw,aW,eq_true r3,r4]
          .simp -implicitDefEqProofs(maxSteps:=9^9)only[Tryz.f122,↓zA,sevalprocAttr,iT,iY cM fk gf,ls,shX,hs,kx,kq,c1,c2,eV,hv,ba,ew,ef,gP,cT,gO,and_self,ne_eq,Int.reduceEq,o1,o2,o3,eq_true o4,r1,r2,adw,aW,r3]
         .have r3:e.ks.length=1:=by
           rw[o4] at hs
           simp only[jd] at hs
           simp at hs
           obtain⟨rfl,rfl,rfl⟩:=hs
           simp only[am,Bool.and_eq_true,decide_eq_true_eq] at c1
           omega
          simp -implicitDefEqProofs(maxSteps:=9^9)only[Tryz.f122,↓zA,sevalprocAttr,iT,iY cM fk gf,ls,shX,hs,kx,kq,c1,c2,eV,hv,ba,ew,ef,gP,cT,gO,and_self,ne_eq,Int.reduceEq,o1,o2,o3,eq_true o4,r1,r3,adw,aW,Nat.reduceEqDiff,Bool.true_or]
       .simp -implicitDefEqProofs(maxSteps:=9^9)only[Tryz.f122,↓zA,sevalprocAttr,iT,iY cM fk gf,ls,shX,hs,kx,kq,c1,c2,eV,hv,ba,ew,ef,gP,cT,gO,and_self,ne_eq,Int.reduceEq,o1,o2,o3,o4]
end Go.Proofs.YtjajlmjfddohfaaGreatDoor

/- A part. Conditions: none. -/
import Derived.Test.YtghkmcffifpkeaaGreatPa12
set_option linter.all false
set_option maxRecDepth 100000
set_option maxHeartbeats 64000000
namespace Go.Proofs.YtghkmcffifpkeaaGreat
open Pe Tab
abbrev EQP(f:Nat){α:Type}[DecidableEq α](enc:α->List C):Prop:=∀ (l m:List α),l.length<=4611686018427387903->G1 f [.of (slC enc l),.of (slC enc m)] (aN (eqR (λx y=>decide (x=y)) l m))
theorem EQP.k{f:Nat}{α:Type}[DecidableEq α]{enc:α->List C}(i:EQP f enc)(l m:List α)(h:l.length<=4611686018427387903)(K:An->Prop):cKp f [.of (slC enc l),.of (slC enc m)] [] K↔K ⟨false,[aN (eqR (λx y=>decide (x=y)) l m)],[]⟩:=aF.k (i l m h) K
def gEQ {Z:Prop} {f:Nat} {fn:Func} {α:Type} [DecidableEq α] {enc:α->List C} (hi:FnI Tryz.prog f fn) (z:Z) (h:Z->FnI Tryz.prog f fn->EQP f enc:=by
  intro z hi l m hl
  refine ahg (kp:=false) rfl hi rfl rfl ?_
  generalize hX:slC _ l=X
  generalize hY:slC _ m=Y
  by_cases c0:l.length=m.length
  rotate_left
  .rw[axw _ l m c0]
   simp only[↓zA,sevalprocAttr,z,← hX,← hY,ajf,c0]
  simp only[↓zA,sevalprocAttr,z,← hX,← hY,ajf,c0]
  refine ew l.length (λk s=>s.fr 0=.of X/\s.fr 1=.of Y/\s.fr 12=au l.length/\s.fr 13=au k/\s.objs=[]/\eqR (λx y=>decide (x=y)) l m=eqR (λx y=>decide (x=y)) (l.drop k) (m.drop k)) ?_ ?_
  .simp only[↓zA,sevalprocAttr,z,← hX,← hY,c0]
   try exact rfl
  .rintro k s hk ⟨f0,f1,f12,f13,hob,E⟩
   rcases av k l.length with c1|c1
   .have hw:=aW k aC
    have c1':k<m.length:=by omega
    rw[aan c1,aan c1',eqR] at E
    simp only[↓zA,sevalprocAttr,z,← hX,← hY,f0,f1,f12,f13,hob,aK,c1,bu c1,bu c1',hw,cQ,bJ,ct]
    by_cases c2:l[k]=m[k]
    .simp only[c2,eu,bR] at E
     simp only[↓zA,sevalprocAttr,z,← hX,← hY,c2,E,fP]
    .simp only[c2,ef,cm] at E
     simp only[↓zA,sevalprocAttr,z,← hX,← hY,c2,E]
   .have e:k=l.length:=by omega
    subst e
    rw[bf,c0,bf,eqR] at E
    simp only[↓zA,sevalprocAttr,z,← hX,← hY,f0,f1,f12,f13,hob,aK,bg,E]):EQP f enc:=h z hi
def aTY:=hJ @zq @aeg @aex @zT0 (kf aL8)
def ayg:EQP 265 odC:=gEQ aL8 (ai (ai Tryz.f265.eq_1 aTY) @atB)
def aGF:=ayg.k
def aUx:=hJ @zq @P3 @Q3 @zT0 (kf aNu)
def aGy(a b:Nat×Nat)(h:a.1+b.1<=4611686018427387903):G1 106 [.of (.agg (szC (szP a))),.of (.agg (szC (szP b)))] (.of (.agg (szC (szP (bm a b))))):=by
 have hw:IntKind.i64.wrap ((a.1:Int)+b.1)=((a.1+b.1:Nat):Int):=by rw[cj _ aC aC];rfl
 have hm:(if (a.2:Int)<b.2 then (b.2:Int) else a.2)=((max a.2 b.2:Nat):Int):=by split <;> omega
 have e:szC (szP (bm a b))=[ci ((a.1+b.1:Nat):Int),ci ((max a.2 b.2:Nat):Int)]:=rfl
 refine bB aNu ?_
 simp only[Tryz.f106,↓zA,sevalprocAttr,aUx,aql,aqm,hw,hm,e]
def au8(a b:Nat×Nat)(K:An->Prop):cKp 106 [.of (.agg (szC (szP a))),.of (.agg (szC (szP b)))] [] K↔ifP (a.1+b.1<=4611686018427387903) (K ⟨false,[.of (.agg (szC (szP (bm a b))))],[]⟩) (agK Tryz.prog pr 106 [.of (.agg (szC (szP a))),.of (.agg (szC (szP b)))] K):=ajJ (aGy a b) K
def aUv:=hJ @zq @P3 @Q3 @zT0 (kf aNs)
def aNG(a:Nat×Nat)(h:a.1<=4611686018427387903/\a.2<=4611686018427387903):G1 108 [.of (.agg (szC (szP a)))] (.of (.agg (szC (szP (upN a))))):=by
 have hw:=aW a.1 aC
 have hw2:=aW a.2 aC
 have e:szC (szP (upN a))=[ci ((a.1+1:Nat):Int),ci ((a.2+1:Nat):Int)]:=rfl
 refine bB aNs ?_
 simp only[Tryz.f108,↓zA,sevalprocAttr,aUv,aql,aqm,hw,hw2,e]
def aGR(a:Nat×Nat)(K:An->Prop):cKp 108 [.of (.agg (szC (szP a)))] [] K↔ifP (a.1<=4611686018427387903/\a.2<=4611686018427387903) (K ⟨false,[.of (.agg (szC (szP (upN a))))],[]⟩) (agK Tryz.prog pr 108 [.of (.agg (szC (szP a)))] K):=ajJ (aNG a) K
def aPS:=hM @Tryz.f57.eq_1 @zq @P3 @Q3 @zT0 (kf aSp)
def aFM(a:Nat×Nat):G1 57 [.of (.agg (szC (szP a)))] (aN (afp a)):=by
 have e1:((a.1:Int)<=400)=(a.1<=400):=propext aC
 have e2:((a.2:Int)<=40)=(a.2<=40):=propext aC
 refine bB aSp ?_
 by_cases c1:a.1<=400
 .simp only[↓zA,sevalprocAttr,aPS,aql,aqm,e1,e2,afp,c1]
 .simp only[↓zA,sevalprocAttr,aPS,aql,aqm,e1,afp,c1]
def arc(a:Nat×Nat)(K:An->Prop):cKp 57 [.of (.agg (szC (szP a)))] [] K↔K ⟨false,[aN (afp a)],[]⟩:=aF.k (aFM a) K
abbrev SMP(f:Nat){α:Type}(enc:α->List C)(e:α->C):Prop:=∀ (l:List α) (w:α->Nat×Nat) (g:Nat) (cp:List C),l.length<=4611686018427387903/\(bj w l).1<=4611686018427387903/\FnS e g cp w l->G1 f [.of (slC enc l),.of (.fn g cp)] (.of (.agg (szC (szP (bj w l)))))
theorem SMP.k{f:Nat}{α:Type}{enc:α->List C}{e:α->C}(i:SMP f enc e)(l:List α)(w:α->Nat×Nat)(g:Nat)(cp:List C)(h:l.length<=4611686018427387903/\(bj w l).1<=4611686018427387903/\FnS e g cp w l)(K:An->Prop):cKp f [.of (slC enc l),.of (.fn g cp)] [] K↔K ⟨false,[.of (.agg (szC (szP (bj w l))))],[]⟩:=aF.k (i l w g cp h) K
def gSM {Z:Prop} {f:Nat} {fn:Func} {α:Type} {enc:α->List C} {e:α->C} (hi:FnI Tryz.prog f fn) (z:Z) (h:Z->FnI Tryz.prog f fn->SMP f enc e:=by
  intro z hi l w g cp h
  obtain⟨hl,hs,ho,hc,hg⟩:=h
  refine ahg (kp:=false) rfl hi rfl rfl ?_
  generalize hX:slC _ l=X
  simp only[↓zA,sevalprocAttr,z,← hX,ho]
  refine ew l.length (λk s=>∃ a,s.fr 1=.of (.fn g cp)/\s.fr 4=.ptr 0 0/\s.fr 5=.ptr 1 0/\s.fr 8=.of X/\s.fr 9=au l.length/\s.fr 10=au k/\s.objs=[.var 105 [au 0,au 0],.var 105 [.of (ci ((a:Nat×Nat).1:Int)),.of (ci (a.2:Int))]]/\bm a (bj w (l.drop k))=bj w l) ?_ ?_
  .refine⟨(0,0),?_⟩
   simp only[↓zA,sevalprocAttr,z,← hX,akc]
   try exact rfl
  .rintro k s hk ⟨a,f1,f4,f5,f8,f9,f10,hob,E⟩
   have ea:szC (szP a)=[ci (a.1:Int),ci (a.2:Int)]:=rfl
   rcases av k l.length with c1|c1
   .have hw:=aW k aC
    have hx:=λK=>aF.k (hg l[k] (bt c1)) K
    rw[aan c1,alb,← ahN] at E
    have hb:a.1+(w l[k]).1<=4611686018427387903:=by have:=congrArg Prod.fst E;simp only[aTo] at this;omega
    have eb:szC (szP (bm a (w l[k])))=[ci ((bm a (w l[k])).1:Int),ci ((bm a (w l[k])).2:Int)]:=rfl
    simp only[↓zA,sevalprocAttr,z,← hX,f1,f4,f5,f8,f9,f10,hob,ho,hc,aK,c1,bu c1,hw,hx,← ea,au8,hb,eb]
    exact⟨_,rfl,E⟩
   .have e:k=l.length:=by omega
    subst e
    rw[bf,bj,ad4] at E
    subst E
    simp only[↓zA,sevalprocAttr,z,← hX,f1,f4,f5,f8,f9,f10,hob,aK,bg,ea]):SMP f enc e:=h z hi
def aUy:=hJ @zq @aZ @cX @zT0 (kf aNv)
def avG:SMP 105 xpC (λx=>.agg (xpC x)):=gSM aNv (ai Tryz.f105.eq_1 aUy)
def aEg:=avG.k
def aUw:=hJ @zq @bi @dm @zT0 (kf aNt)
def atW:SMP 107 qyC (λx=>.agg (qyC x)):=gSM aNt (ai Tryz.f107.eq_1 aUw)
def aBe:=atW.k
def aUr:=hJ @zq @gF @ado @zT0 (kf aNj)
def avE:SMP 117 imC (λx=>.agg (imC x)):=gSM aNj (ai Tryz.f117.eq_1 aUr)
def aEe:=avE.k
def aUq:=hJ @zq @bG @gH @zT0 (kf aNh)
def avF:SMP 119 fmC (λx=>.agg (fmC x)):=gSM aNh (ai Tryz.f119.eq_1 aUq)
def aEf:=avF.k
abbrev SZ1(f:Nat){α:Type}(e:α->C):Prop:=∀ (x:α) (b:Bool) (g:Nat) (cp:List C),ad7 g=false->fh Tryz.prog g=true->G1 g (.of (e x)::cp.map .of) (aN b)->G1 f [.of (e x),.of (.ref [.fn g cp])] (aN (!b))
abbrev SZP(f:Nat){α:Type}(enc:α->List C)(e:α->C):Prop:=∀ (l:List α) (a b:Int) (p:α->Bool) (g:Nat) (cp:List C),l.length<=4611686018427387903/\FnB e g cp p l->G1 f [.of (slC enc l),.of (ci a),.of (ci b),.of (.fn g cp)] (aN (cH l a b p))
theorem SZP.k{f:Nat}{α:Type}{enc:α->List C}{e:α->C}(i:SZP f enc e)(l:List α)(a b:Int)(p:α->Bool)(g:Nat)(cp:List C)(h:l.length<=4611686018427387903/\FnB e g cp p l)(K:An->Prop):cKp f [.of (slC enc l),.of (ci a),.of (ci b),.of (.fn g cp)] [] K↔K ⟨false,[aN (cH l a b p)],[]⟩:=aF.k (i l a b p g cp h) K
def gS1 {Z:Prop} {f:Nat} {fn:Func} {α:Type} {e:α->C} (hi:FnI Tryz.prog f fn) (z:Z) (h:Z->FnI Tryz.prog f fn->SZ1 f e:=by
  intro z hi x b g cp ho hc hg
  refine ahg (kp:=false) rfl hi rfl rfl ?_
  have hx:=λK=>aF.k hg K
  simp only[↓zA,sevalprocAttr,z,ho,hc,hx]):SZ1 f e:=h z hi
def gSZ {Z:Prop} {f f1 f2:Nat} {fn:Func} {α:Type} {enc:α->List C} {e:α->C} (hi:FnI Tryz.prog f fn) (I1:SZ1 f1 e) (I2:CFP f2 enc e) (o1:ad7 f1=false) (o2:fh Tryz.prog f1=true) (z:Z) (h:Z->FnI Tryz.prog f fn->SZ1 f1 e->CFP f2 enc e->ad7 f1=false->fh Tryz.prog f1=true->SZP f enc e:=by
  intro z hi I1 I2 o1 o2 l a b p g cp h
  have hk:=λK=>CFP.k I2 l (λx=>!p x) _ [.ref [.fn g cp]] ⟨h.1,o1,o2,λx hx=>I1 x (p x) g cp h.2.1 h.2.2.1 (h.2.2.2 x hx)⟩ K
  refine ahg (kp:=false) rfl hi rfl rfl ?_
  by_cases c1:a<=(l.length:Int)
  .by_cases c2:(l.length:Int)<=b
   .simp only[↓zA,sevalprocAttr,z,c1,c2,hk,h.2.1,cH,aPt,Bool.not_not,eu,bR]
   .simp only[↓zA,sevalprocAttr,z,c1,c2,cH,eu,ef,bR,cm]
  .simp only[↓zA,sevalprocAttr,z,c1,cH,ef,cm]):SZP f enc e:=h z hi I1 I2 o1 o2
def aUf:=hH @zq @aZ @zT0 (kf aMC)
def atV:SZ1 198 (λx=>.agg (xpC x)):=gS1 aMC (ai Tryz.f198.eq_1 aUf)
def aUu:=hJ @zq @aZ @cX @zT0 (kf aNq)
def avC:SZP 110 xpC (λx=>.agg (xpC x)):=gSZ aNq atV azQ aQ7 aPj (ai Tryz.f110.eq_1 aUu)
def aEd:=avC.k
def aUd:=hH @zq @bi @zT0 (kf aMA)
def arH:SZ1 200 (λx=>.agg (qyC x)):=gS1 aMA (ai Tryz.f200.eq_1 aUd)
def aUt:=hJ @zq @bi @dm @zT0 (kf aNp)
def atR:SZP 111 qyC (λx=>.agg (qyC x)):=gSZ aNp arH ayj aQ6 aPi (ai Tryz.f111.eq_1 aUt)
def aBc:=atR.k
def aT8:=hH @zq @aeg @zT0 (kf aMs)
def arI:SZ1 210 (λx=>.agg (odC x)):=gS1 aMs (ai Tryz.f210.eq_1 aT8)
def aUo:=hJ @zq @aeg @aex @zT0 (kf aNf)
def atS:SZP 121 odC (λx=>.agg (odC x)):=gSZ aNf arI ayk aQ4 aPg (ai Tryz.f121.eq_1 aUo)
def aBd:=atS.k
def aT6:=hH @zq @gF @zT0 (kf aMq)
def atT:SZ1 212 (λx=>.agg (imC x)):=gS1 aMq (ai Tryz.f212.eq_1 aT6)
def aUn:=hJ @zq @gF @ado @zT0 (kf aNc)
def avA:SZP 123 imC (λx=>.agg (imC x)):=gSZ aNc atT azO aQ3 aPf (ai Tryz.f123.eq_1 aUn)
def aEc:=avA.k
def aT4:=hH @zq @bG @zT0 (kf aMo)
def atU:SZ1 214 (λx=>.agg (fmC x)):=gS1 aMo (ai Tryz.f214.eq_1 aT4)
def aUm:=hJ @zq @bG @gH @zT0 (kf aNa)
def avB:SZP 125 fmC (λx=>.agg (fmC x)):=gSZ aNa atU azP aQ2 aPe (ai Tryz.f125.eq_1 aUm)
def asR:=avB.k
end Go.Proofs.YtghkmcffifpkeaaGreat
namespace Go.Tab
open Pe
def arJ(e:Xp):cV e=upN (bm (bj cV e.ks) (bj fM e.sb)):=by cases e;rw[cV,agX,akq];rfl
def arK(q:Qy):fM q=upN (bm (bm (bm (bm (bm (bj fM q.ks) (bj abv q.its)) (bj aay q.fr)) (bj cV q.wh)) (bj cV q.gr)) (bj cV q.hv)):=by
 cases q;rw[fM,akq,asS,amW,agX,agX,agX];rfl
def arL(i:Im):abv i=if i.st then (0,0) else cV i.e:=by cases i;rw[abv];rfl
def arM(f:Fm):aay f=upN (bm (bm (bj fM f.sb) (bj aay f.ks)) (bj cV f.on)):=by cases f;rw[aay,akq,amW,agX];rfl
def leW(a:Nat×Nat)(n:Nat):Prop:=a.1<=n/\a.2<=n
theorem aeq{α:Type}(f:α->Nat×Nat)(w:α->Nat):∀ l:List α,(∀ x∈l,leW (f x) (w x))->leW (bj f l) (lsW w l)/\(bj f l).1<lsW w l
 | [],_=>by simp[bj,lsW,leW]
 | x::r,h=>by
  have h1:=h x aT
  have h2:=aeq f w r (λy hy=>h y (by simp[hy]))
  simp only[leW,bj,bm,lsW,bd,dw] at h1 h2 ⊢
  omega
theorem fL{α:Type}(w:α->Nat):∀ l:List α,(∀ x∈l,1<=w x)->l.length<lsW w l
 | [],_=>by simp[lsW]
 | x::r,h=>by
  have h1:=h x aT
  have h2:=fL w r (λy hy=>h y (by simp[hy]))
  simp only[lsW,bd,dw,aX] at h2 ⊢
  omega
def adT(x:Xp):1<=xpW x:=by rw[aen];omega
def afn(x:Qy):1<=qyW x:=by rw[acd];omega
def agI(x:Im):1<=imW x:=by rw[ahB];omega
def adb(x:Fm):1<=fmW x:=by rw[ace];omega
theorem alN:∀ n,(∀ e,xpW e<=n->leW (cV e) (xpW e))/\(∀ e,qyW e<=n->leW (fM e) (qyW e))/\(∀ e,imW e<=n->leW (abv e) (imW e))/\(∀ e,fmW e<=n->leW (aay e) (fmW e))
 | 0=>⟨λe h=>by have:=adT e;omega,λe h=>by have:=afn e;omega,λe h=>by have:=agI e;omega,λe h=>by have:=adb e;omega⟩
 | n+1=>by
  obtain⟨i1,i2,i3,i4⟩:=alN n
  have sX:∀ l:List Xp,lsW xpW l<=n+1->leW (bj cV l) (lsW xpW l):=λl h=>(aeq _ _ l λx hx=>i1 x (by have:=dK (w:=xpW) hx;omega)).1
  have sQ:∀ l:List Qy,lsW qyW l<=n+1->leW (bj fM l) (lsW qyW l):=λl h=>(aeq _ _ l λx hx=>i2 x (by have:=dK (w:=qyW) hx;omega)).1
  have sI:∀ l:List Im,lsW imW l<=n+1->leW (bj abv l) (lsW imW l):=λl h=>(aeq _ _ l λx hx=>i3 x (by have:=dK (w:=imW) hx;omega)).1
  have sF:∀ l:List Fm,lsW fmW l<=n+1->leW (bj aay l) (lsW fmW l):=λl h=>(aeq _ _ l λx hx=>i4 x (by have:=dK (w:=fmW) hx;omega)).1
  refine⟨λe h=>?_,λe h=>?_,λe h=>?_,λe h=>?_⟩
  .rw[aen] at h ⊢
   have h1:=sX e.ks aC
   have h2:=sQ e.sb aC
   rw[arJ]
   simp only[leW,upN,bm] at h1 h2 ⊢
   omega
  .rw[acd] at h ⊢
   have h1:=sQ e.ks aC
   have h2:=sI e.its aC
   have h3:=sF e.fr aC
   have h4:=sX e.wh aC
   have h5:=sX e.gr aC
   have h6:=sX e.hv aC
   rw[arK]
   simp only[leW,upN,bm] at h1 h2 h3 h4 h5 h6 ⊢
   omega
  .rw[ahB] at h ⊢
   have h1:=i1 e.e aC
   rw[arL]
   simp only[leW] at h1 ⊢
   split
   .simp
   .omega
  .rw[ace] at h ⊢
   have h1:=sQ e.sb aC
   have h2:=sF e.ks aC
   have h3:=sX e.on aC
   rw[arM]
   simp only[leW,upN,bm] at h1 h2 h3 ⊢
   omega
end Go.Tab
namespace Go.Proofs.YtghkmcffifpkeaaGreat
open Pe Tab
abbrev sX(e:Xp):X:=.of (.agg (szC (szP (cV e))))
def ap9(l:List Xp):Prop:=∀ x∈l,G1 56 [.of (.agg (xpC x))] (.of (.agg (szC (szP (cV x)))))
def ax6(l:List Qy):Prop:=∀ x∈l,G1 59 [.of (.agg (qyC x))] (.of (.agg (szC (szP (fM x)))))
def aJ6(l:List Im):Prop:=∀ x∈l,G1 118 [.of (.agg (imC x))] (.of (.agg (szC (szP (abv x)))))
def aDN(l:List Fm):Prop:=∀ x∈l,G1 120 [.of (.agg (fmC x))] (.of (.agg (szC (szP (aay x)))))
abbrev WL:Nat:=1152921504606846976
def avD{l:List Xp}(h:ap9 l)(hw:lsW xpW l<=WL)(K:An->Prop):cKp 105 [.of (slC xpC l),.of (.fn 56 [])] [] K↔K ⟨false,[.of (.agg (szC (szP (bj cV l))))],[]⟩:=by
 have h1:=fL xpW l λx _=>adT x
 have h2:=aeq cV xpW l λx _=>(alN _).1 x (am _)
 simp only[leW,WL] at *
 exact aEg l cV _ [] ⟨by omega,by omega,aVi,aTe,h⟩ K
def aG2{l:List Qy}(h:ax6 l)(hw:lsW qyW l<=WL)(K:An->Prop):cKp 107 [.of (slC qyC l),.of (.fn 59 [])] [] K↔K ⟨false,[.of (.agg (szC (szP (bj fM l))))],[]⟩:=by
 have h1:=fL qyW l λx _=>afn x
 have h2:=aeq fM qyW l λx _=>(alN _).2.1 x (am _)
 simp only[leW,WL] at *
 exact aBe l fM _ [] ⟨by omega,by omega,aVg,aTc,h⟩ K
def aYy{l:List Im}(h:aJ6 l)(hw:lsW imW l<=WL)(K:An->Prop):cKp 117 [.of (slC imC l),.of (.fn 118 [])] [] K↔K ⟨false,[.of (.agg (szC (szP (bj abv l))))],[]⟩:=by
 have h1:=fL imW l λx _=>agI x
 have h2:=aeq abv imW l λx _=>(alN _).2.2.1 x (am _)
 simp only[leW,WL] at *
 exact aEe l abv _ [] ⟨by omega,by omega,aRc,aPo,h⟩ K
def aQl{l:List Fm}(h:aDN l)(hw:lsW fmW l<=WL)(K:An->Prop):cKp 119 [.of (slC fmC l),.of (.fn 120 [])] [] K↔K ⟨false,[.of (.agg (szC (szP (bj aay l))))],[]⟩:=by
 have h1:=fL fmW l λx _=>adb x
 have h2:=aeq aay fmW l λx _=>(alN _).2.2.2 x (am _)
 simp only[leW,WL] at *
 exact aEf l aay _ [] ⟨by omega,by omega,aRb,aPn,h⟩ K
def sbX(l:List Xp):leW (bj cV l) (lsW xpW l):=(aeq cV xpW l λx _=>(alN _).1 x (am _)).1
def sbQ(l:List Qy):leW (bj fM l) (lsW qyW l):=(aeq fM qyW l λx _=>(alN _).2.1 x (am _)).1
def sbI(l:List Im):leW (bj abv l) (lsW imW l):=(aeq abv imW l λx _=>(alN _).2.2.1 x (am _)).1
def sbF(l:List Fm):leW (bj aay l) (lsW fmW l):=(aeq aay fmW l λx _=>(alN _).2.2.2 x (am _)).1
def aYh:=hJ @zq @aZ @bi @zT0 (kf aSq)
def at0(e:Xp)(hw:xpW e<=WL)(i1:ap9 e.ks)(i2:ax6 e.sb):G1 56 [.of (.agg (xpC e))] (.of (.agg (szC (szP (cV e))))):=by
 rw[aen] at hw
 simp only[WL] at hw
 have k1:=avD i1 (by simp only[WL];omega)
 have k2:=aG2 i2 (by simp only[WL];omega)
 have b1:=sbX e.ks
 have b2:=sbQ e.sb
 simp only[leW] at b1 b2
 have h1:(bj cV e.ks).1+(bj fM e.sb).1<=4611686018427387903:=by omega
 have h2:(bm (bj cV e.ks) (bj fM e.sb)).1<=4611686018427387903/\(bm (bj cV e.ks) (bj fM e.sb)).2<=4611686018427387903:=by simp only[bm];omega
 rw[arJ]
 refine bB aSq ?_
 simp only[Tryz.f56,↓zA,sevalprocAttr,aYh,k1,k2,au8,h1,aGR,h2]
def aKL:=hZ @Tryz.f118.eq_1 @zq @aZ @gF @P4 @Q4 @zT0 (kf aNi)
def atY(e:Im)(i1:G1 56 [.of (.agg (xpC e.e))] (.of (.agg (szC (szP (cV e.e)))))):G1 118 [.of (.agg (imC e))] (.of (.agg (szC (szP (abv e))))):=by
 have k1:=λK=>aF.k i1 K
 have ez:szC (szP (0,0))=[ci 0,ci 0]:=rfl
 rw[arL]
 refine bB aNi ?_
 cases c:e.st
 .simp only[↓zA,sevalprocAttr,aKL,c,k1]
 .simp only[↓zA,sevalprocAttr,aKL,c,ez]
def aUp:=hM @zq @bG @bi @aZ @zT0 (kf aNg)
def atZ(e:Fm)(hw:fmW e<=WL)(i1:ax6 e.sb)(i2:aDN e.ks)(i3:ap9 e.on):G1 120 [.of (.agg (fmC e))] (.of (.agg (szC (szP (aay e))))):=by
 rw[ace] at hw
 simp only[WL] at hw
 have k1:=aG2 i1 (by simp only[WL];omega)
 have k2:=aQl i2 (by simp only[WL];omega)
 have k3:=avD i3 (by simp only[WL];omega)
 have b1:=sbQ e.sb
 have b2:=sbF e.ks
 have b3:=sbX e.on
 simp only[leW] at b1 b2 b3
 have h1:(bj fM e.sb).1+(bj aay e.ks).1<=4611686018427387903:=by omega
 have h2:(bm (bj fM e.sb) (bj aay e.ks)).1+(bj cV e.on).1<=4611686018427387903:=by simp only[bm];omega
 have h3:(bm (bm (bj fM e.sb) (bj aay e.ks)) (bj cV e.on)).1<=4611686018427387903/\(bm (bm (bj fM e.sb) (bj aay e.ks)) (bj cV e.on)).2<=4611686018427387903:=by simp only[bm];omega
 rw[arM]
 refine bB aNg ?_
 simp only[Tryz.f120,↓zA,sevalprocAttr,aUp,k1,k2,k3,au8,h1,h2,aGR,h3]
def aYg:=hU @zq @bi @gF @bG @aZ @zT0 (kf aSn)
def arO(e:Qy)(hw:qyW e<=WL)(i1:ax6 e.ks)(i2:aJ6 e.its)(i3:aDN e.fr)(i4:ap9 e.wh)(i5:ap9 e.gr)(i6:ap9 e.hv):G1 59 [.of (.agg (qyC e))] (.of (.agg (szC (szP (fM e))))):=by
 rw[acd] at hw
 simp only[WL] at hw
 have k1:=aG2 i1 (by simp only[WL];omega)
 have k2:=aYy i2 (by simp only[WL];omega)
 have k3:=aQl i3 (by simp only[WL];omega)
 have k4:=avD i4 (by simp only[WL];omega)
 have k5:=avD i5 (by simp only[WL];omega)
 have k6:=avD i6 (by simp only[WL];omega)
 have b1:=sbQ e.ks
 have b2:=sbI e.its
 have b3:=sbF e.fr
 have b4:=sbX e.wh
 have b5:=sbX e.gr
 have b6:=sbX e.hv
 simp only[leW] at b1 b2 b3 b4 b5 b6
 rw[arK]
 generalize bj fM e.ks=a1 at *
 generalize bj abv e.its=a2 at *
 generalize bj aay e.fr=a3 at *
 generalize bj cV e.wh=a4 at *
 generalize bj cV e.gr=a5 at *
 generalize bj cV e.hv=a6 at *
 have h1:a1.1+a2.1<=4611686018427387903:=by omega
 have h2:(bm a1 a2).1+a3.1<=4611686018427387903:=by simp only[bm];omega
 have h3:(bm (bm a1 a2) a3).1+a4.1<=4611686018427387903:=by simp only[bm];omega
 have h4:(bm (bm (bm a1 a2) a3) a4).1+a5.1<=4611686018427387903:=by simp only[bm];omega
 have h5:(bm (bm (bm (bm a1 a2) a3) a4) a5).1+a6.1<=4611686018427387903:=by simp only[bm];omega
 have h6:(bm (bm (bm (bm (bm a1 a2) a3) a4) a5) a6).1<=4611686018427387903/\(bm (bm (bm (bm (bm a1 a2) a3) a4) a5) a6).2<=4611686018427387903:=by simp only[bm];omega
 refine bB aSn ?_
 simp only[Tryz.f59,↓zA,sevalprocAttr,aYg,k1,k2,k3,k4,k5,k6,au8,h1,h2,h3,h4,h5,aGR,h6]
theorem apo:∀ n,n<=WL->(∀ e,xpW e<=n->G1 56 [.of (.agg (xpC e))] (.of (.agg (szC (szP (cV e))))))/\(∀ e,qyW e<=n->G1 59 [.of (.agg (qyC e))] (.of (.agg (szC (szP (fM e))))))
  /\ (∀ e,imW e<=n->G1 118 [.of (.agg (imC e))] (.of (.agg (szC (szP (abv e))))))/\(∀ e,fmW e<=n->G1 120 [.of (.agg (fmC e))] (.of (.agg (szC (szP (aay e))))))
 | 0,_=>⟨λe h=>by have:=adT e;omega,λe h=>by have:=afn e;omega,λe h=>by have:=agI e;omega,λe h=>by have:=adb e;omega⟩
 | n+1,hn=>by
  obtain⟨i1,i2,i3,i4⟩:=apo n aC
  have sX:∀ l:List Xp,lsW xpW l<=n+1->ap9 l:=λl h x hx=>i1 x (by have:=dK (w:=xpW) hx;omega)
  have sQ:∀ l:List Qy,lsW qyW l<=n+1->ax6 l:=λl h x hx=>i2 x (by have:=dK (w:=qyW) hx;omega)
  have sI:∀ l:List Im,lsW imW l<=n+1->aJ6 l:=λl h x hx=>i3 x (by have:=dK (w:=imW) hx;omega)
  have sF:∀ l:List Fm,lsW fmW l<=n+1->aDN l:=λl h x hx=>i4 x (by have:=dK (w:=fmW) hx;omega)
  refine⟨λe h=>?_,λe h=>?_,λe h=>?_,λe h=>?_⟩
  .have h':=aen e
   exact at0 e aC (sX _ aC) (sQ _ aC)
  .have h':=acd e
   exact arO e aC (sQ _ aC) (sI _ aC) (sF _ aC) (sX _ aC) (sX _ aC) (sX _ aC)
  .have h':=ahB e
   exact atY e (i1 _ aC)
  .have h':=ace e
   exact atZ e aC (sQ _ aC) (sF _ aC) (sX _ aC)
end Go.Proofs.YtghkmcffifpkeaaGreat
namespace Go.Tab
open Pe
noncomputable instance:DecidableEq Xp:=λ_ _=>Classical.propDecidable _
noncomputable instance:DecidableEq Qy:=λ_ _=>Classical.propDecidable _
noncomputable instance:DecidableEq Im:=λ_ _=>Classical.propDecidable _
noncomputable instance:DecidableEq Fm:=λ_ _=>Classical.propDecidable _
noncomputable instance:DecidableEq Kd:=λ_ _=>Classical.propDecidable _
noncomputable instance:DecidableEq Rd:=λ_ _=>Classical.propDecidable _
noncomputable instance:DecidableEq As:=λ_ _=>Classical.propDecidable _
noncomputable instance:DecidableEq Sm:=λ_ _=>Classical.propDecidable _
def ai5(a b:Xp):(a=b)=(a.op=b.op/\a.v=b.v/\a.tb=b.tb/\a.nm=b.nm/\a.di=b.di/\a.ks=b.ks/\a.sb=b.sb):=by
 apply propext
 constructor
 .rintro rfl;simp
 .rintro⟨h0,h1,h2,h3,h4,h5,h6⟩
  cases a;cases b
  simp only[Xp.op,Xp.v,Xp.tb,Xp.nm,Xp.di,Xp.ks,Xp.sb] at *
  subst_vars
  rfl
def afY(a b:Qy):(a=b)=(a.op=b.op/\a.al=b.al/\a.di=b.di/\a.li=b.li/\a.sk=b.sk/\a.od=b.od/\a.ks=b.ks/\a.its=b.its/\a.fr=b.fr/\a.wh=b.wh/\a.gr=b.gr/\a.hv=b.hv):=by
 apply propext
 constructor
 .rintro rfl;simp
 .rintro⟨h0,h1,h2,h3,h4,h5,h6,h7,h8,h9,h10,h11⟩
  cases a;cases b
  simp only[Qy.op,Qy.al,Qy.di,Qy.li,Qy.sk,Qy.od,Qy.ks,Qy.its,Qy.fr,Qy.wh,Qy.gr,Qy.hv] at *
  subst_vars
  rfl
def aq6(a b:Im):(a=b)=(a.st=b.st/\a.tb=b.tb/\a.az=b.az/\a.e=b.e):=by
 apply propext
 constructor
 .rintro rfl;simp
 .rintro⟨h0,h1,h2,h3⟩
  cases a;cases b
  simp only[Im.st,Im.tb,Im.az,Im.e] at *
  subst_vars
  rfl
def amm(a b:Fm):(a=b)=(a.kd=b.kd/\a.nm=b.nm/\a.az=b.az/\a.sb=b.sb/\a.ks=b.ks/\a.on=b.on):=by
 apply propext
 constructor
 .rintro rfl;simp
 .rintro⟨h0,h1,h2,h3,h4,h5⟩
  cases a;cases b
  simp only[Fm.kd,Fm.nm,Fm.az,Fm.sb,Fm.ks,Fm.on] at *
  subst_vars
  rfl
end Go.Tab
namespace Go.Proofs.YtghkmcffifpkeaaGreat
open Pe Tab
def alu{α:Type}[DecidableEq α](l m:List α):eqR (λx y=>decide (x=y)) l m=decide (l=m):=aFU _ l m λ_ _ _ _=>rfl
def dC(a b:Bool):(a == b)=decide (a=b):=by cases a <;> cases b <;> rfl
def aKe(l m:List Od)(hw:lsW odW l<=WL)(K:An->Prop):cKp 265 [.of (slC odC l),.of (slC odC m)] [] K↔K ⟨false,[aN (decide (l=m))],[]⟩:=by
 have:=aGF l m (by have:=fL odW l (λx _=>by simp[odW]);simp only[WL] at hw;omega) K
 rwa [alu] at this
def anT(l:List Xp):Prop:=∀ x∈l,∀ y,G1 116 [.of (.agg (xpC x)),.of (.agg (xpC y))] (aN (decide (x=y)))
def efX{l:List Xp}(h:anT l)(hw:lsW xpW l<=WL)(m:List Xp)(K:An->Prop):cKp 206 [.of (slC xpC l),.of (slC xpC m),.of (.fn 116 [])] [] K↔K ⟨false,[aN (decide (l=m))],[]⟩:=by
 have h1:=fL xpW l λx _=>adT x
 simp only[WL] at hw
 have:=aKi l m (λx y=>decide (x=y)) 116 [] ⟨by omega,aRd,aPp,λx hx y _=>h x hx y⟩ K
 rwa [alu] at this
def ayh(l:List Qy):Prop:=∀ x∈l,∀ y,G1 208 [.of (.agg (qyC x)),.of (.agg (qyC y))] (aN (decide (x=y)))
def efQ{l:List Qy}(h:ayh l)(hw:lsW qyW l<=WL)(m:List Qy)(K:An->Prop):cKp 207 [.of (slC qyC l),.of (slC qyC m),.of (.fn 208 [])] [] K↔K ⟨false,[aN (decide (l=m))],[]⟩:=by
 have h1:=fL qyW l λx _=>afn x
 simp only[WL] at hw
 have:=aGG l m (λx y=>decide (x=y)) 208 [] ⟨by omega,aQ5,aPh,λx hx y _=>h x hx y⟩ K
 rwa [alu] at this
def aKf(l:List Im):Prop:=∀ x∈l,∀ y,G1 267 [.of (.agg (imC x)),.of (.agg (imC y))] (aN (decide (x=y)))
def efI{l:List Im}(h:aKf l)(hw:lsW imW l<=WL)(m:List Im)(K:An->Prop):cKp 266 [.of (slC imC l),.of (slC imC m),.of (.fn 267 [])] [] K↔K ⟨false,[aN (decide (l=m))],[]⟩:=by
 have h1:=fL imW l λx _=>agI x
 simp only[WL] at hw
 have:=aKg l m (λx y=>decide (x=y)) 267 [] ⟨by omega,aQ0,aPc,λx hx y _=>h x hx y⟩ K
 rwa [alu] at this
def aDU(l:List Fm):Prop:=∀ x∈l,∀ y,G1 269 [.of (.agg (fmC x)),.of (.agg (fmC y))] (aN (decide (x=y)))
def efF{l:List Fm}(h:aDU l)(hw:lsW fmW l<=WL)(m:List Fm)(K:An->Prop):cKp 268 [.of (slC fmC l),.of (slC fmC m),.of (.fn 269 [])] [] K↔K ⟨false,[aN (decide (l=m))],[]⟩:=by
 have h1:=fL fmW l λx _=>adb x
 simp only[WL] at hw
 have:=aKh l m (λx y=>decide (x=y)) 269 [] ⟨by omega,aQZ,aPb,λx hx y _=>h x hx y⟩ K
 rwa [alu] at this
def akj:=ai (hM @Tryz.f116.eq_1 @zq @adS @aZ @bi @P3) (hM @Q3 @Q9 @P4 @Q4 @zT0 (kf aNk))
def aoV(a b:Xp)(hw:lsW xpW a.ks+lsW qyW a.sb<=WL)(i0:anT a.ks)(i1:ayh a.sb):G1 116 [.of (.agg (xpC a)),.of (.agg (xpC b))] (aN (decide (a=b))):=by
 simp only[WL] at hw
 have k0:=efX i0 (by simp only[WL];omega)
 have k1:=efQ i1 (by simp only[WL];omega)
 refine bB aNk ?_
 by_cases c0:a.op=b.op
 rotate_left
 .simp only[↓zA,sevalprocAttr,akj,c0,dC,ai5 a b]
 by_cases c1:a.v=b.v
 rotate_left
 .simp only[↓zA,sevalprocAttr,akj,aa c0,c1,dC,aa1,ai5 a b]
 by_cases c2:a.tb=b.tb
 rotate_left
 .simp only[↓zA,sevalprocAttr,akj,aa c0,aa c1,c2,cQ,dC,aa1,ai5 a b]
 by_cases c3:a.nm=b.nm
 rotate_left
 .simp only[↓zA,sevalprocAttr,akj,aa c0,aa c1,aa c2,c3,cQ,dC,aa1,ai5 a b]
 by_cases c4:a.di=b.di
 rotate_left
 .simp only[↓zA,sevalprocAttr,akj,aa c0,aa c1,aa c2,aa c3,c4,cQ,dC,aa1,ai5 a b]
 by_cases c5:a.ks=b.ks
 rotate_left
 .simp only[↓zA,sevalprocAttr,akj,aa c0,aa c1,aa c2,aa c3,aa c4,c5,k0,cQ,dC,aa1,ai5 a b]
 by_cases c6:a.sb=b.sb
 rotate_left
 .simp only[↓zA,sevalprocAttr,akj,aa c0,aa c1,aa c2,aa c3,aa c4,aa c5,c6,k0,k1,cQ,dC,aa1,ai5 a b]
 simp only[↓zA,sevalprocAttr,akj,aa c0,aa c1,aa c2,aa c3,aa c4,aa c5,aa c6,k0,k1,cQ,dC,aa1,ai5 a b,cz]
def afO:=ai (hU @Tryz.f208.eq_1 @zq @bi @aeg @gF @bG @aZ) (hM @P3 @Q3 @P4 @Q4 @zT0 (kf aMu))
def ayA(a b:Qy)(hw:qyW a<=WL)(i0:ayh a.ks)(i1:aKf a.its)(i2:aDU a.fr)(i3:anT a.wh)(i4:anT a.gr)(i5:anT a.hv):G1 208 [.of (.agg (qyC a)),.of (.agg (qyC b))] (aN (decide (a=b))):=by
 rw[acd] at hw
 simp only[WL] at hw
 have ko:=λm=>aKe a.od m (by simp only[WL];omega)
 have k0:=efQ i0 (by simp only[WL];omega)
 have k1:=efI i1 (by simp only[WL];omega)
 have k2:=efF i2 (by simp only[WL];omega)
 have k3:=efX i3 (by simp only[WL];omega)
 have k4:=efX i4 (by simp only[WL];omega)
 have k5:=efX i5 (by simp only[WL];omega)
 refine bB aMu ?_
 by_cases c0:a.op=b.op
 rotate_left
 .simp only[↓zA,sevalprocAttr,afO,c0,dC,dy,afY a b]
 by_cases c1:a.al=b.al
 rotate_left
 .simp only[↓zA,sevalprocAttr,afO,aa c0,c1,dC,dy,afY a b]
 by_cases c2:a.di=b.di
 rotate_left
 .simp only[↓zA,sevalprocAttr,afO,aa c0,aa c1,c2,dC,dy,afY a b]
 by_cases c3:a.li=b.li
 rotate_left
 .simp only[↓zA,sevalprocAttr,afO,aa c0,aa c1,aa c2,c3,dC,dy,afY a b]
 by_cases c4:a.sk=b.sk
 rotate_left
 .simp only[↓zA,sevalprocAttr,afO,aa c0,aa c1,aa c2,aa c3,c4,dC,dy,afY a b]
 by_cases c5:a.od=b.od
 rotate_left
 .simp only[↓zA,sevalprocAttr,afO,aa c0,aa c1,aa c2,aa c3,aa c4,c5,ko,dC,dy,afY a b]
 by_cases c6:a.ks=b.ks
 rotate_left
 .simp only[↓zA,sevalprocAttr,afO,aa c0,aa c1,aa c2,aa c3,aa c4,aa c5,c6,ko,k0,dC,dy,afY a b]
 by_cases c7:a.its=b.its
 rotate_left
 .simp only[↓zA,sevalprocAttr,afO,aa c0,aa c1,aa c2,aa c3,aa c4,aa c5,aa c6,c7,ko,k0,k1,dC,dy,afY a b]
 by_cases c8:a.fr=b.fr
 rotate_left
 .simp only[↓zA,sevalprocAttr,afO,aa c0,aa c1,aa c2,aa c3,aa c4,aa c5,aa c6,aa c7,c8,ko,k0,k1,k2,dC,dy,afY a b]
 by_cases c9:a.wh=b.wh
 rotate_left
 .simp only[↓zA,sevalprocAttr,afO,aa c0,aa c1,aa c2,aa c3,aa c4,aa c5,aa c6,aa c7,aa c8,c9,ko,k0,k1,k2,k3,dC,dy,afY a b]
 by_cases c10:a.gr=b.gr
 rotate_left
 .simp only[↓zA,sevalprocAttr,afO,aa c0,aa c1,aa c2,aa c3,aa c4,aa c5,aa c6,aa c7,aa c8,aa c9,c10,ko,k0,k1,k2,k3,k4,dC,dy,afY a b]
 by_cases c11:a.hv=b.hv
 rotate_left
 .simp only[↓zA,sevalprocAttr,afO,aa c0,aa c1,aa c2,aa c3,aa c4,aa c5,aa c6,aa c7,aa c8,aa c9,aa c10,c11,ko,k0,k1,k2,k3,k4,k5,dC,dy,afY a b]
 simp only[↓zA,sevalprocAttr,afO,aa c0,aa c1,aa c2,aa c3,aa c4,aa c5,aa c6,aa c7,aa c8,aa c9,aa c10,aa c11,ko,k0,k1,k2,k3,k4,k5,dC,dy,afY a b,cz]
def aqe:=ib @Tryz.f267.eq_1 @zq @aZ @gF @P4 @Q4 @Q9 @zT0 (kf aL6)
def ayB(a b:Im)(hw:imW a<=WL)(i0:anT [a.e]):G1 267 [.of (.agg (imC a)),.of (.agg (imC b))] (aN (decide (a=b))):=by
 rw[ahB] at hw
 simp only[WL] at hw
 have k0:=λK=>aF.k (i0 a.e aT b.e) K
 refine bB aL6 ?_
 by_cases c0:a.st=b.st
 rotate_left
 .simp only[↓zA,sevalprocAttr,aqe,c0,dC,aq6 a b]
 by_cases c1:a.tb=b.tb
 rotate_left
 .simp only[↓zA,sevalprocAttr,aqe,aa c0,c1,cQ,dC,aq6 a b]
 by_cases c2:a.az=b.az
 rotate_left
 .simp only[↓zA,sevalprocAttr,aqe,aa c0,aa c1,c2,cQ,dC,aq6 a b]
 by_cases c3:a.e=b.e
 rotate_left
 .simp only[↓zA,sevalprocAttr,aqe,aa c0,aa c1,aa c2,c3,k0,cQ,dC,aq6 a b]
 simp only[↓zA,sevalprocAttr,aqe,aa c0,aa c1,aa c2,aa c3,k0,cQ,dC,aq6 a b,cz]
def alB:=ai (hJ @Tryz.f269.eq_1 @zq @bG @bi @aZ) (hJ @P3 @Q3 @Q9 @zT0 (kf aL4))
def ayC(a b:Fm)(hw:fmW a<=WL)(i0:ayh a.sb)(i1:aDU a.ks)(i2:anT a.on):G1 269 [.of (.agg (fmC a)),.of (.agg (fmC b))] (aN (decide (a=b))):=by
 rw[ace] at hw
 simp only[WL] at hw
 have k0:=efQ i0 (by simp only[WL];omega)
 have k1:=efF i1 (by simp only[WL];omega)
 have k2:=efX i2 (by simp only[WL];omega)
 refine bB aL4 ?_
 by_cases c0:a.kd=b.kd
 rotate_left
 .simp only[↓zA,sevalprocAttr,alB,c0,dC,amm a b]
 by_cases c1:a.nm=b.nm
 rotate_left
 .simp only[↓zA,sevalprocAttr,alB,aa c0,c1,cQ,dC,amm a b]
 by_cases c2:a.az=b.az
 rotate_left
 .simp only[↓zA,sevalprocAttr,alB,aa c0,aa c1,c2,cQ,dC,amm a b]
 by_cases c3:a.sb=b.sb
 rotate_left
 .simp only[↓zA,sevalprocAttr,alB,aa c0,aa c1,aa c2,c3,k0,cQ,dC,amm a b]
 by_cases c4:a.ks=b.ks
 rotate_left
 .simp only[↓zA,sevalprocAttr,alB,aa c0,aa c1,aa c2,aa c3,c4,k0,k1,cQ,dC,amm a b]
 by_cases c5:a.on=b.on
 rotate_left
 .simp only[↓zA,sevalprocAttr,alB,aa c0,aa c1,aa c2,aa c3,aa c4,c5,k0,k1,k2,cQ,amm a b]
 simp only[↓zA,sevalprocAttr,alB,aa c0,aa c1,aa c2,aa c3,aa c4,aa c5,k0,k1,k2,cQ,amm a b,cz]
theorem avN:∀ n,n<=WL->(∀ a,xpW a<=n->∀ b,G1 116 [.of (.agg (xpC a)),.of (.agg (xpC b))] (aN (decide (a=b))))/\(∀ a,qyW a<=n->∀ b,G1 208 [.of (.agg (qyC a)),.of (.agg (qyC b))] (aN (decide (a=b))))
  /\ (∀ a,imW a<=n->∀ b,G1 267 [.of (.agg (imC a)),.of (.agg (imC b))] (aN (decide (a=b))))/\(∀ a,fmW a<=n->∀ b,G1 269 [.of (.agg (fmC a)),.of (.agg (fmC b))] (aN (decide (a=b))))
 | 0,_=>⟨λe h=>by have:=adT e;omega,λe h=>by have:=afn e;omega,λe h=>by have:=agI e;omega,λe h=>by have:=adb e;omega⟩
 | n+1,hn=>by
  obtain⟨i1,i2,i3,i4⟩:=avN n aC
  have sX:∀ l:List Xp,lsW xpW l<=n+1->anT l:=λl h x hx=>i1 x (by have:=dK (w:=xpW) hx;omega)
  have sQ:∀ l:List Qy,lsW qyW l<=n+1->ayh l:=λl h x hx=>i2 x (by have:=dK (w:=qyW) hx;omega)
  have sI:∀ l:List Im,lsW imW l<=n+1->aKf l:=λl h x hx=>i3 x (by have:=dK (w:=imW) hx;omega)
  have sF:∀ l:List Fm,lsW fmW l<=n+1->aDU l:=λl h x hx=>i4 x (by have:=dK (w:=fmW) hx;omega)
  refine⟨λe h b=>?_,λe h b=>?_,λe h b=>?_,λe h b=>?_⟩
  .have h':=aen e
   exact aoV e b aC (sX _ aC) (sQ _ aC)
  .have h':=acd e
   exact ayA e b aC (sQ _ aC) (sI _ aC) (sF _ aC) (sX _ aC) (sX _ aC) (sX _ aC)
  .have h':=ahB e
   exact ayB e b aC (λx hx=>by rw[dt.1 hx];exact i1 _ aC)
  .have h':=ace e
   exact ayC e b aC (sQ _ aC) (sF _ aC) (sX _ aC)
def aDM(a b:Xp)(K:An->Prop):cKp 116 [.of (.agg (xpC a)),.of (.agg (xpC b))] [] K↔ifP (xpW a<=WL) (K ⟨false,[aN (decide (a=b))],[]⟩) (agK Tryz.prog pr 116 [.of (.agg (xpC a)),.of (.agg (xpC b))] K):=ajJ (λh=>(avN WL (am _)).1 a h b) K
def az5(n:Int):Bool:=decide (-9223372036854775808<=n/\n<=9223372036854775807)
instance (n:Int):Decidable (I64 n):=by unfold I64;infer_instance
def aDt(P:Program)(T:TT)(t:Nat)(u:Option TypeDesc)(n:Int):gJ P T t u .andNot (.of (.lit (.int .i64 n))) (.of (.lit (.int .i64 1)))=out (au (IntKind.i64.wrap ((BitVec.ofInt 64 n &&& ~~~BitVec.ofInt 64 1).toNat:Int))):=by simp[gJ,gG,acg,ae6,bX,out];rfl
def azG(n:Int)(h:az5 n=true):IntKind.i64.wrap ((BitVec.ofInt 64 n &&& ~~~BitVec.ofInt 64 1).toNat:Int)=0↔(n=0\/n=1):=by
 simp only[az5,aR] at h
 have hx:∀ b:BitVec 64,(b &&& ~~~(1#64))=0#64↔(b=0#64\/b=1#64):=by
  intro b
  constructor
  .intro e
   have h1:∀ i:Nat,0<i->b.getLsbD i=false:=λi hi=>by
    have:=congrArg (λx:BitVec 64=>x.getLsbD i) e
    by_cases h64:i<64
    .have hi0:¬ i=0:=by omega
     simp only[BitVec.getLsbD_and,BitVec.getLsbD_not,BitVec.getLsbD_one,BitVec.getLsbD_zero,h64,hi0,eu,ef,cy,ct,ff] at this
     exact this
    .exact BitVec.getLsbD_of_ge b i aC
   have z1:∀ i:Nat,(1#64).getLsbD i=decide (i=0):=λi=>by simp[BitVec.getLsbD_one]
   rcases hb:b.getLsbD 0 with _|_
   .left
    apply BitVec.eq_of_getLsbD_eq
    intro i hi
    rw[BitVec.getLsbD_zero]
    rcases aaE i with rfl|hp
    .exact hb
    .exact h1 i hp
   .right
    apply BitVec.eq_of_getLsbD_eq
    intro i hi
    rw[z1]
    rcases aaE i with rfl|hp
    .rw[hb];rfl
    .rw[h1 i hp,bK aC]
  .rintro (rfl|rfl) <;> decide
 have ho:∀ m:Int,0<=m->m<18446744073709551616->(IntKind.i64.wrap m=0↔m=0):=λm h0 h1=>by
  rw[IntKind.wrap_i64]
  omega
 have hlt:=(BitVec.ofInt 64 n &&& ~~~BitVec.ofInt 64 1).isLt
 rw[ho _ aC aC]
 have e1:(((BitVec.ofInt 64 n &&& ~~~BitVec.ofInt 64 1).toNat:Int)=0)↔(BitVec.ofInt 64 n &&& ~~~(1#64))=0#64:=by
  rw[← BitVec.toNat_inj]
  have:BitVec.ofInt 64 1=1#64:=by decide
  rw[this]
  simp
 rw[e1,hx]
 have e2:∀ k:Int,-9223372036854775808<=k->k<=9223372036854775807->(BitVec.ofInt 64 n=BitVec.ofInt 64 k↔n=k):=λk h1 h2=>by
  constructor
  .intro e
   have:=congrArg BitVec.toInt e
   simp only[BitVec.toInt_ofInt] at this
   simp only[Int.bmod_def] at this
   omega
  .rintro rfl;rfl
 have z0:(0#64)=BitVec.ofInt 64 0:=by decide
 have z1:(1#64)=BitVec.ofInt 64 1:=by decide
 rw[z0,z1,e2 0 aC aC,e2 1 aC aC]
def aKB:=hH @Tryz.f203.eq_1 @zq @zT0 (kf aMz)
def aPE(n:Int):G1 203 [au n] (aN (inB n)):=by
 refine bB aMz ?_
 by_cases h1:-1000000000000000<=n
 .simp -implicitDefEqProofs only[↓zA,sevalprocAttr,aKB,h1,inB]
 .simp -implicitDefEqProofs only[↓zA,sevalprocAttr,aKB,h1,inB]
def aZu(n:Int)(K:An->Prop):cKp 203 [.of (ci n)] [] K↔K ⟨false,[aN (inB n)],[]⟩:=aF.k (aPE n) K
def aY4(s:ByteArray)(K:An->Prop):cKp 201 [.of (aJ s),.of (.fn 202 [])] [] K↔K ⟨false,[au (Lib.idxFunc aia true s)],[]⟩ :=
 aF.k (aF.of_prim (show ixP [.of (aJ s),.of (.fn 202 [])] []=_ by unfold ixP;simp only[ah])) K
def aff(v:V):(aeG v).length=3:=rfl
def s0q:(⟨#[]⟩ : ByteArray)=ByteArray.empty:=rfl
def akk:=hZ @Tryz.f112.eq_1 @zq @adS @P3 @Q3 @Q9 @zT0 (kf aNo)
def avq(v:V)(hv:I64 v.n):G1 112 [.of (.agg (aeG v))] (aN (gM v)):=by
 refine bB aNo ?_
 by_cases k3:v.k=3
 .have e:gM v=(decide (v.n=0)&&agp v.s):=by simp[gM,k3]
  by_cases hn:v.n=0
  .by_cases hl:(v.s.size:Int)<=100
   .have e2:agp v.s=decide (Lib.idxFunc aia true v.s<0):=by
     unfold agp
     have:v.s.size<=100:=by omega
     rw[cS this,ff]
     by_cases h:v.s.data.toList.all okB=true
     .rw[h,cS ((aAr v.s).2 h)]
     .rw[abF.2 h,bK λe=>h ((aAr v.s).1 e)]
    simp -implicitDefEqProofs only[↓zA,sevalprocAttr,akk,aY4,aff,k3,hn,hl,e,e2]
   .have e2:agp v.s=false:=by
     unfold agp
     have:¬ v.s.size<=100:=by omega
     rw[bK this,cy]
    simp -implicitDefEqProofs only[↓zA,sevalprocAttr,akk,aff,k3,hn,hl,e,e2]
  .simp -implicitDefEqProofs only[↓zA,sevalprocAttr,akk,aff,k3,hn,e]
 .by_cases hs:v.s=ByteArray.empty
  .by_cases k0:v.k=0
   .have e:gM v=decide (v.n=0):=by simp[gM,k0,hs]
    simp -implicitDefEqProofs only[↓zA,sevalprocAttr,akk,Int.reduceEq,aff,k0,s0q,hs,e]
   .by_cases k1:v.k=1
    .have e:gM v=(decide (IntKind.i64.wrap ((BitVec.ofInt 64 v.n &&& ~~~BitVec.ofInt 64 1).toNat:Int)=0)):=by
      have h2:decide (IntKind.i64.wrap ((BitVec.ofInt 64 v.n &&& ~~~BitVec.ofInt 64 1).toNat:Int)=0)=decide (v.n=0\/v.n=1):=decide_eq_decide.2 (azG v.n (cS hv))
      rw[h2]
      simp[gM,k1,hs]
     simp -implicitDefEqProofs only[↓zA,sevalprocAttr,akk,Int.reduceEq,aff,k1,s0q,hs,e,aDt]
    .by_cases k2:v.k=2
     .have e:gM v=inB v.n:=by simp[gM,k2,hs]
      simp -implicitDefEqProofs only[↓zA,sevalprocAttr,akk,aZu,Int.reduceEq,aff,k2,s0q,hs,e]
     .have e:gM v=false:=by simp[gM,k0,k1,k2,k3]
      simp -implicitDefEqProofs only[↓zA,sevalprocAttr,akk,aff,k3,k0,k1,k2,s0q,hs,e]
  .have e:gM v=false:=by simp[gM,k3,hs]
   simp -implicitDefEqProofs only[↓zA,sevalprocAttr,akk,aff,k3,s0q,hs,e]
def akl(v:V)(K:An->Prop):cKp 112 [.of (.agg (aeG v))] [] K↔ifP (I64 v.n) (K ⟨false,[aN (gM v)],[]⟩) (agK Tryz.prog pr 112 [.of (.agg (aeG v))] K):=ajJ (avq v) K
def aK7(a b:Int):Instr.sameNow (.int .i64) (.int .i64 a) (.int .i64 b)=some (decide (a=b)):=by
 simp only[Instr.sameNow]
 by_cases h:a=b
 .subst h;simp
 .simp[h]
def azU(s:S)(d:Option Nat)(x:X)(r:Nat)(es:List (Value×C)):aA6 s d x r (some es)=some ((s.withO (s.objs.set r (Ob.map es))).put d x):=rfl
abbrev aad(a b c:Int):C:=.agg (shC ⟨a,b,c⟩)
def aNW:List (Value×C):=[(.int .i64 1,aad 0 0 0),(.int .i64 2,aad 0 0 0),(.int .i64 3,aad 1 1 0),(.int .i64 4,aad 1 1 0),(.int .i64 19,aad 1 1 0),(.int .i64 22,aad 3 3 0),(.int .i64 21,aad 2 65 0),(.int .i64 23,aad 2 129 0),(.int .i64 24,aad 0 64 0),(.int .i64 25,aad 0 1 0),(.int .i64 26,aad 0 0 1),(.int .i64 27,aad 0 0 1),(.int .i64 28,aad 1 1 1)]
def two:List Int:=[5,6,7,8,9,10,11,12,13,14,15,16,17,18,20]
def agY(k:Nat):List (Value×C):=aNW++(two.take k).map λn=>(.int .i64 n,aad 2 2 0)
def aGn(tk:Tk)(a b c d e f g h i j k l m n o:Int):dJ tk 15 (Pe.elemOf tP 66) (some [(0,[au a]),(1,[au b]),(2,[au c]),(3,[au d]),(4,[au e]),(5,[au f]),(6,[au g]),(7,[au h]),(8,[au i]),(9,[au j]),(10,[au k]),(11,[au l]),(12,[au m]),(13,[au n]),(14,[au o])])=out (.own tk 3 1 [ci a,ci b,ci c,ci d,ci e,ci f,ci g,ci h,ci i,ci j,ci k,ci l,ci m,ci n,ci o] 15):=by rw[E66];kernel_rfl
def azj(tk:Tk)(e z:Nat)(l:List Int)(n:Nat)(hn:n=l.length)(i:Int):cn tP 66 (.own tk e z (fl aaB l) n) (.of (.lit (.int .i64 i)))=cn tP 66 (.of (slC aaB l)) (.of (.lit (.int .i64 i))):=by
 subst hn
 rw[afH E66 _ _ i _ rfl,afH E66 _ _ i _ rfl]
theorem aUT:∀ k (h:k<two.length),al2 (.int .i64) (.int .i64 two[k]) (.agg (shC ⟨2,2,0⟩)) (agY k)=some (agY (k+1))
 | 0,_=>rfl
 | 1,_=>rfl
 | 2,_=>rfl
 | 3,_=>rfl
 | 4,_=>rfl
 | 5,_=>rfl
 | 6,_=>rfl
 | 7,_=>rfl
 | 8,_=>rfl
 | 9,_=>rfl
 | 10,_=>rfl
 | 11,_=>rfl
 | 12,_=>rfl
 | 13,_=>rfl
 | 14,_=>rfl
 | k+15,h=>absurd h (by simp[two])
def ala:two.length=15:=rfl
def auF:=hU @Tryz.f109.eq_1 @zq @afQ @P3 @Q3 @zT0 (kf aNr)
def fD:aF Tryz.prog pr 109 [] [] ⟨false,[.mp 0],[.map (agY 15)]⟩:=by
 refine bB aNr ?_
 simp -implicitDefEqProofs only[↓zA,sevalprocAttr,auF,aGB (ht:=aKc),ajw,ar5,azU,aos,al2,aeQ,aK7,Int.reduceEq,aGn]
 refine ew two.length (λk s=>s.fr 1=.mp 0/\s.fr 19=.own (.nm 3 0 0) 3 1 (fl aaB two) 15/\s.fr 20=au 15/\s.fr 21=au k/\s.objs=[.map (agY k)]) ?_ ?_
 .simp -implicitDefEqProofs only[↓zA,sevalprocAttr,auF]
  exact⟨rfl,rfl⟩
 .rintro k s hk ⟨f1,f19,f20,f21,ho⟩
  have e15:((k:Int)<15)=(k<two.length):=propext (by rw[ala];omega)
  rcases av k two.length with c1|c1
  .have hw:=aW k (by rw[ala] at hk;omega)
   simp -implicitDefEqProofs only[↓zA,sevalprocAttr,auF,f1,f19,f20,f21,ho,e15,azj,ala,bu c1,hw,ax7 (ht:=aKc),ajw,ar5,azU,aos,aUT k c1]
   have c2:k<15:=by rw[ala] at c1;exact c1
   simp only[c2,ah]
  .have e:k=two.length:=by omega
   subst e
   simp -implicitDefEqProofs only[↓zA,sevalprocAttr,auF,f1,f20,f21,ho,ala]
def shX(op:Int):X:=match adr op with
 | some (a,b,c)=>.tup [.of (.agg (shC ⟨a,b,c⟩)),aN true]
 | none=>.tup [.agg [au 0,au 0,au 0],aN false]
def aFN(n m:Int)(c:C)(es:List (Value×C))(i:Nat):aeQ (.int .i64) (.int .i64 n) ((.int .i64 m,c)::es) i=if n=m then some (some i) else aeQ (.int .i64) (.int .i64 n) es (i+1):=by
 simp only[aeQ,aK7]
 by_cases h:n=m <;> simp[h]
def aJb(n:Int)(i:Nat):aeQ (.int .i64) (.int .i64 n) [] i=some none:=rfl
def aza(objs:List Ob)(op:Int)(ho:objs[0]?=some (.map (agY 15))):afc tP objs 161 (.mp 0) (.of (.lit (.int .i64 op))) true=out (shX op):=by
 have hm:agH objs (.mp 0)=some (agY 15):=by simp only[agH,ho]
 simp only[afc,aKc,gG,hm]
 have e:agY 15=[(.int .i64 1,aad 0 0 0),(.int .i64 2,aad 0 0 0),(.int .i64 3,aad 1 1 0),(.int .i64 4,aad 1 1 0),(.int .i64 19,aad 1 1 0),(.int .i64 22,aad 3 3 0),(.int .i64 21,aad 2 65 0),(.int .i64 23,aad 2 129 0),(.int .i64 24,aad 0 64 0),(.int .i64 25,aad 0 1 0),(.int .i64 26,aad 0 0 1),(.int .i64 27,aad 0 0 1),(.int .i64 28,aad 1 1 1),
  (.int .i64 5,aad 2 2 0),(.int .i64 6,aad 2 2 0),(.int .i64 7,aad 2 2 0),(.int .i64 8,aad 2 2 0),(.int .i64 9,aad 2 2 0),(.int .i64 10,aad 2 2 0),(.int .i64 11,aad 2 2 0),(.int .i64 12,aad 2 2 0),(.int .i64 13,aad 2 2 0),(.int .i64 14,aad 2 2 0),(.int .i64 15,aad 2 2 0),(.int .i64 16,aad 2 2 0),(.int .i64 17,aad 2 2 0),(.int .i64 18,aad 2 2 0),(.int .i64 20,aad 2 2 0)]:=rfl
 have hz:ake tP 159=some (.agg [au 0,au 0,au 0]):=by kernel_rfl
 by_cases h:op=1\/op=2\/op=3\/op=4\/op=5\/op=6\/op=7\/op=8\/op=9\/op=10\/op=11\/op=12\/op=13\/op=14\/op=15\/op=16\/op=17\/op=18\/op=19\/op=20\/op=21\/op=22\/op=23\/op=24\/op=25\/op=26\/op=27\/op=28
 .rcases h with h|h|h|h|h|h|h|h|h|h|h|h|h|h|h|h|h|h|h|h|h|h|h|h|h|h|h|h <;> (subst h;rfl)
 .simp only[ac2] at h
  rw[e]
  simp only[aFN,h,ap,aJb,hz]
  have hs:adr op=none:=by
   unfold adr
   simp only[h,abm,ap]
   rw[aA aC]
  simp only[shX,hs]
  rfl
def u8C(c:UInt8):List C:=[.lit (.int .u8 (c.toNat:Nat))]
def aGf(s:List UInt8):C.sl (aj3 (aM s)) (aM s).size=slC u8C s:=by
 have h1:(aM s).data.toList=s:=by simp[aM]
 rw[aez,slC,aj3,h1,fl]
 congr 1
 induction s with
 | nil=>rfl
 | cons x r ih =>
  have h2:(aM r).data.toList=r:=by simp[aM]
  simp[u8C,ih h2]
def aJH(s:List UInt8):ad3 tP 9 64 (.of (.lit (.string (aM s))))=out (.of (slC u8C s)):=by
 rw[aO9 (e:=5) (by rw[T9];rfl) (by rw[T64];rfl) (by rw[T5];rfl),aGf]
def aRD(l)(i:Int):cn tP 64 (.of (slC u8C l)) (.of (.lit (.int .i64 i)))=age (aaJ l i) λx=>.of (.ref (u8C x++fl u8C (l.drop (i.toNat+1)))):=ahC E64 (λ_=>rfl) aI l i
def aRo(l):aaI (some (.slice 5)) (.of (slC u8C l))=out (au l.length):=ag5 u8C l rfl
def aUN(x:UInt8)(r:List C):C.ref (u8C x++r)=C.ref (.lit (.int .u8 (x.toNat:Nat))::r):=rfl
def aP5(c:UInt8)(n:Nat)(h:n<256):((c.toNat:Int)=(n:Int))=(c=UInt8.ofNat n):=by
 apply propext
 constructor
 .intro e
  apply UInt8.toNat_inj.1
  rw[UInt8.toNat_ofNat']
  omega
 .intro e
  subst e
  rw[UInt8.toNat_ofNat']
  omega
def u97(c:UInt8):((97:Int)<=(c.toNat:Int))=(97<=c.toNat):=propext aC
def avt(c:UInt8):((c.toNat:Int)<=122)=(c.toNat<=122):=propext aC
def u95(c:UInt8):((c.toNat:Int)=95)=(c=95):=aP5 c 95 aI
def u48(c:UInt8):((c.toNat:Int)<48)=¬(48<=c.toNat):=propext aC
def u57(c:UInt8):((57:Int)<(c.toNat:Int))=¬(c.toNat<=57):=propext aC
def aAX:=hH @Tryz.f204.eq_1 @zq @zT0 (kf aMy)
def ayW(c:UInt8):G1 204 [.of (.lit (.int .u8 (c.toNat:Nat)))] (aN (cG c)):=by
 refine bB aMy ?_
 by_cases c1:97<=c.toNat
 .by_cases c2:c.toNat<=122
  .simp only[↓zA,sevalprocAttr,aAX,u97,avt,c1,c2,cG]
  .simp only[↓zA,sevalprocAttr,aAX,u97,avt,u95,c1,c2,cG]
 .simp only[↓zA,sevalprocAttr,aAX,u97,u95,c1,cG]
def apE(c:UInt8)(K:An->Prop):cKp 204 [.of (.lit (.int .u8 (c.toNat:Nat)))] [] K↔K ⟨false,[aN (cG c)],[]⟩:=aF.k (ayW c) K
def aio(c:UInt8):Bool:=cG c||bz c
def aqZ(n:Nat):((20:Int)<(n:Int))=(20<n):=propext aC
def ak2{α:Type}(x:α)(r:List α):(x::r=[])=False:=by simp
def atw{α:Type}(x:α)(r:List α):aaJ (x::r) 0=some x:=rfl
def aiL{α:Type}(p:α->Bool)(x:α)(r:List α):(x::r).all p=(p x&&r.all p):=rfl
def ahj:=hJ @Tryz.f113.eq_1 @zq @T9 @zT0 (kf aNn)
def ayV(s:List UInt8):G1 113 [.of (aJ (aM s))] (aN (gP s)):=by
 refine bB aNn ?_
 cases s with
 | nil=>simp only[↓zA,sevalprocAttr,ahj,gP]
 | cons x r =>
  by_cases c0:20<r.length+1
  .have e:gP (x::r)=false:=by
    simp only[gP,bK (show ¬(r.length+1<=20) from by omega),cy]
   simp only[↓zA,sevalprocAttr,ahj,ak2,aqZ,c0,e]
  .have e:gP (x::r)=(cG x&&(x::r).all aio):=by
    simp only[gP,cS (show r.length+1<=20 from by omega),ff,aiL,aio]
    cases cG x <;> rfl
   rw[e]
   cases c1:cG x
   .simp only[↓zA,sevalprocAttr,ahj,ak2,aqZ,c0,apE,atw,c1]
   .simp only[↓zA,sevalprocAttr,ahj,ak2,aqZ,c0,apE,atw,c1,aJH,aRo]
    refine ew (x::r).length (λk s=>s.fr 3=.of (.fn 204 [])/\s.fr 21=.of (slC u8C (x::r))/\s.fr 22=au (x::r).length/\s.fr 23=au k/\s.objs=[]/\(x::r).all aio=((x::r).drop k).all aio) ?_ ?_
    .simp only[↓zA,sevalprocAttr,ahj]
     try exact rfl
    .have c0':(x::r).length<=20:=by simp only[aX];omega
     generalize x::r=l at c0'
     rintro k s hk ⟨f3,f21,f22,f23,ho,E⟩
     rcases av k l.length with d1|d1
     .have hw:=aW k aC
      rw[aan d1,aiL] at E
      simp only[↓zA,sevalprocAttr,ahj,f3,f21,f22,f23,ho,aK,d1,bu d1,hw,aRD,aUN,apE,u48,u57]
      cases d2:cG l[k]
      .by_cases d3:48<=l[k].toNat
       .by_cases d4:l[k].toNat<=57
        .simp only[aio,bz,d2,d3,d4,eu,agj,aY,bR] at E
         simp only[sevalprocAttr,ahj,d3,d4,E]
        .simp only[aio,bz,d2,d3,d4,ef,cy,agS,cm] at E
         simp only[sevalprocAttr,ahj,d3,d4,E]
       .simp only[aio,bz,d2,d3,ef,cm,agS] at E
        simp only[sevalprocAttr,ahj,d3,E]
      .simp only[aio,d2,cf,bR] at E
       simp only[sevalprocAttr,ahj,E]
     .have e:k=l.length:=by omega
      subst e
      rw[bf,aax] at E
      simp only[↓zA,sevalprocAttr,ahj,f22,f23,ho,aK,bg,E]
def acj(s:List UInt8)(K:An->Prop):cKp 113 [.of (aJ (aM s))] [] K↔K ⟨false,[aN (gP s)],[]⟩:=aF.k (ayV s) K
def adh{α:Type}(l:List α)(a b:Nat)(p:α->Bool):cH l (a:Int) (b:Int) p=(abT l.length a b&&l.all p):=by
 simp only[cH,abT]
 congr 2 <;> simp
def aKM:=hH @Tryz.f114.eq_1 @zq @zT0 (kf aNm)
def aBV(s:List UInt8):G1 114 [.of (aJ (aM s))] (aN (aaP s)):=by
 refine bB aNm ?_
 by_cases c:s=[]
 .simp only[↓zA,sevalprocAttr,aKM,c,aaP]
 .simp only[↓zA,sevalprocAttr,aKM,acj,c,aaP]
def af1(s:List UInt8)(K:An->Prop):cKp 114 [.of (aJ (aM s))] [] K↔K ⟨false,[aN (aaP s)],[]⟩:=aF.k (aBV s) K
def auE:=hZ @Tryz.f122.eq_1 @zq @aeg @Q9 @P3 @Q3 @zT0 (kf aNe)
def aJP(o:Od):G1 122 [.of (.agg (odC o))] (aN (aa4 o)):=by
 refine bB aNe ?_
 by_cases c0:o.nm=[]
 .by_cases c1:1<=o.pl
  .simp only[↓zA,sevalprocAttr,auE,c0,c1,aa4,ae1,dv]
   try rfl
  .simp only[↓zA,sevalprocAttr,auE,c0,c1,aa4,ae1,dv]
 .cases c1:gP o.nm
  .simp only[↓zA,sevalprocAttr,auE,acj,c0,c1,aa4,dv]
  .simp only[↓zA,sevalprocAttr,auE,acj,c0,c1,aa4,dv]
def axR(tk:Tk)(a b c d:ByteArray):dJ tk 4 (Pe.elemOf tP 43) (some [(0,[.of (.lit (.string a))]),(1,[.of (.lit (.string b))]),(2,[.of (.lit (.string c))]),(3,[.of (.lit (.string d))])])=out (.own tk 9 1 [.lit (.string a),.lit (.string b),.lit (.string c),.lit (.string d)] 4):=by rw[E43];rfl
def aRJ:C.sl [aJ {data:=#[99,111,117,110,116]},aJ {data:=#[115,117,109]},aJ {data:=#[109,105,110]},aJ {data:=#[109,97,120]}] 4=slC cM [[99,111,117,110,116],[115,117,109],[109,105,110],[109,97,120]]:=rfl
def aRK(s:List UInt8):decide (s∈[[99,111,117,110,116],[115,117,109],[109,105,110],[109,97,120]])=acY s:=by
 simp only[acY,agA,bQ,dH,aaj,Bool.decide_or,Bool.or_assoc]
 rfl
def aUs:=hH @zq @cO @zT0 (kf aNl)
def aur(s:List UInt8):G1 115 [.of (aJ (aM s))] (aN (acY s)):=by
 refine bB aNl ?_
 rw[← aRK]
 simp only[Tryz.f115,↓zA,sevalprocAttr,aUs,axR,aRJ,aDV]
def aeP(s:List UInt8)(K:An->Prop):cKp 115 [.of (aJ (aM s))] [] K↔K ⟨false,[aN (acY s)],[]⟩:=aF.k (aur s) K
def amD(l:List Xp):Prop:=∀ x∈l,G1 58 [.of (.agg (xpC x))] (aN (eY x))
def ayc(l:List Qy):Prop:=∀ x∈l,G1 60 [.of (.agg (qyC x))] (aN (gS x))
def zX{l:List Xp}(h:amD l)(hw:lsW xpW l<=WL)(a b:Int)(K:An->Prop):cKp 110 [.of (slC xpC l),.of (ci a),.of (ci b),.of (.fn 58 [])] [] K↔K ⟨false,[aN (cH l a b eY)],[]⟩:=by
 have h1:=fL xpW l λx _=>adT x
 simp only[WL] at *
 exact aEd l a b eY _ [] ⟨by omega,aVh,aTd,h⟩ K
def zQ{l:List Qy}(h:ayc l)(hw:lsW qyW l<=WL)(a b:Int)(K:An->Prop):cKp 111 [.of (slC qyC l),.of (ci a),.of (ci b),.of (.fn 60 [])] [] K↔K ⟨false,[aN (cH l a b gS)],[]⟩:=by
 have h1:=fL qyW l λx _=>afn x
 simp only[WL] at *
 exact aBc l a b gS _ [] ⟨by omega,aVf,aTb,h⟩ K
def atf{e:Xp}(h:adr e.op=none):eY e=false:=by cases e;rw[eY];simp only[Xp.op] at h;rw[h]
def ate{e:Xp}{lo hi n:Nat}(h:adr e.op=some (lo,hi,n)):eY e=(cH e.ks lo hi eY&&cH e.sb n n gS&&fN e.op e.v e.tb e.nm e.di e.ks.length):=by
 cases e
 rw[eY]
 simp only[Xp.op] at h
 rw[h]
 simp only[Xp.op,Xp.v,Xp.tb,Xp.nm,Xp.di,Xp.ks,Xp.sb,adh,akw,aky]
 have hn:∀ m:Nat,abT m n n=decide (m=n):=λm=>by
  rw[cC];simp only[abT,ar,aR];omega
 rw[hn]
 generalize fN _ _ _ _ _ _=q
 generalize abT _ _ _=q2
 generalize List.all _ eY=q3
 generalize List.all _ gS=q4
 generalize (decide (List.length _=n))=q5
 cases q <;> cases q2 <;> cases q3 <;> cases q4 <;> cases q5 <;> rfl
def aBl(k n:Int)(s tb nm:ByteArray)(di:Bool):G1 116 [.of (.agg [ci 0,ci k,ci n,aJ s,aJ tb,aJ nm,cb di,C.sl [] 0,C.sl [] 0]),.of (.agg [ci 0,ci 0,ci 0,aJ {data:=#[]},aJ {data:=#[]},aJ {data:=#[]},cb false,C.sl [] 0,C.sl [] 0])] (aN (decide (k=0/\n=0/\s={data:=#[]})&&decide (tb={data:=#[]})&&decide (nm={data:=#[]})&&!di)):=by
 have h:=aoV (.mk 0 ⟨k,n,s⟩ tb.data.toList nm.data.toList di [] []) (.mk 0 ⟨0,0,{data:=#[]}⟩ [] [] false [] []) (by simp[lsW,Xp.ks,Xp.sb,WL]) (λx hx=>by simp[Xp.ks] at hx) (λx hx=>by simp[Xp.sb] at hx)
 have e1:aM tb.data.toList=tb:=by cases tb;simp[aM]
 have e2:aM nm.data.toList=nm:=by cases nm;simp[aM]
 have e3:∀ b:ByteArray,(b.data.toList=[])=(b={data:=#[]}):=λb=>propext ⟨λh=>by cases b;simp at h;rw[h],λh=>by rw[h]⟩
 have e4:xpC (.mk 0 ⟨k,n,s⟩ tb.data.toList nm.data.toList di [] [])=[ci 0,ci k,ci n,aJ s,aJ tb,aJ nm,cb di,C.sl [] 0,C.sl [] 0]:=by rw[ch];simp only[Xp.op,Xp.v,Xp.tb,Xp.nm,Xp.di,Xp.ks,Xp.sb,e1,e2];rfl
 have e5:xpC (.mk 0 ⟨0,0,{data:=#[]}⟩ [] [] false [] [])=[ci 0,ci 0,ci 0,aJ {data:=#[]},aJ {data:=#[]},aJ {data:=#[]},cb false,C.sl [] 0,C.sl [] 0]:=by rw[ch];rfl
 rw[e4,e5] at h
 simp only[ai5,Xp.op,Xp.v,Xp.tb,Xp.nm,Xp.di,Xp.ks,Xp.sb,e3,← aA5,dg,aaZ] at h
 have e6:∀ i:Decidable ((k=0/\n=0/\s={data:=#[]})/\tb={data:=#[]}/\nm={data:=#[]}/\di=false),@decide _ i=(decide (k=0/\n=0/\s={data:=#[]})&&decide (tb={data:=#[]})&&decide (nm={data:=#[]})&&!di):=λi=>by
  rw[cC]
  simp only[aR,ar,df,and_assoc]
 rw[e6] at h
 exact h
def ah4(k n:Int)(s tb nm:ByteArray)(di:Bool)(K:An->Prop):cKp 116 [.of (.agg [ci 0,ci k,ci n,aJ s,aJ tb,aJ nm,cb di,C.sl [] 0,C.sl [] 0]),.of (.agg [ci 0,ci 0,ci 0,aJ {data:=#[]},aJ {data:=#[]},aJ {data:=#[]},cb false,C.sl [] 0,C.sl [] 0])] [] K↔K ⟨false,[aN (decide (k=0/\n=0/\s={data:=#[]})&&decide (tb={data:=#[]})&&decide (nm={data:=#[]})&&!di)],[]⟩:=aF.k (aBl k n s tb nm di) K
def alO(a:List UInt8):(aM a=({data:=#[99,111,117,110,116]}:ByteArray))=(a=agA):=cQ a agA
def acN(n:Nat):((n:Int)=0)=(n=0):=propext aC
def adN(v:V):decide (v=aco)=decide (v.k=0/\v.n=0/\v.s={data:=#[]}):=by
 rw[cC]
 simp only[aR,← aA5]
 exact bO
def aeD:=ai (hU @Tryz.f58.eq_1 @zq @adS @aZ @bi @cX @P3) (hM @Q3 @Q9 @P4 @Q4 @zT0 (kf aSo))
def aFO(e:Xp)(hw:xpW e<=WL)(hv:I64 e.v.n)(i1:amD e.ks)(i2:ayc e.sb):G1 58 [.of (.agg (xpC e))] (aN (eY e)):=by
 have hw':=aen e
 simp only[WL] at hw
 have kx:=zX i1 (by simp only[WL];omega)
 have kq:=zQ i2 (by simp only[WL];omega)
 have ls:=aza [.map (agY 15)] e.op rfl
 refine bB aSo ?_
 cases hs:adr e.op with
 | none =>
  rw[atf hs]
  simp only[↓zA,sevalprocAttr,aeD,adc fD aa6 abW,ls,shX,hs]
 | some p =>
  obtain⟨lo,hi,n⟩:=p
  rw[ate hs]
  cases c1:cH e.ks lo hi eY
  .simp only[↓zA,sevalprocAttr,aeD,adc fD aa6 abW,ls,shX,hs,kx,c1]
  .cases c2:cH e.sb n n gS
   .simp only[↓zA,sevalprocAttr,aeD,adc fD aa6 abW,ls,shX,hs,kx,kq,c1,c2]
   .by_cases o1:e.op=1
    .cases r1:gM e.v
     .simp only[↓zA,sevalprocAttr,aeD,adc fD aa6 abW,ls,shX,hs,kx,kq,c1,c2,akl,hv,fN,cz,dv,aa o1,r1]
     .by_cases r2:e.v.k=2
      .by_cases r3:0<=e.v.n
       .simp only[↓zA,sevalprocAttr,aeD,adc fD aa6 abW,ls,shX,hs,kx,kq,c1,c2,akl,hv,ah4,fN,cz,dv,aa o1,r1,aa r2,r3,show ¬e.v.n<0 from by omega]
       .simp only[↓zA,sevalprocAttr,aeD,adc fD aa6 abW,ls,shX,hs,kx,kq,c1,c2,akl,hv,fN,cz,dv,aa o1,r1,aa r2,r3,show e.v.n<0 from by omega]
      .simp only[↓zA,sevalprocAttr,aeD,adc fD aa6 abW,ls,shX,hs,kx,kq,c1,c2,akl,hv,ah4,fN,cz,dv,aa o1,r1,r2]
    .by_cases o2:e.op=2
     .cases r1:gP e.nm
      .simp only[↓zA,sevalprocAttr,aeD,adc fD aa6 abW,ls,shX,hs,kx,kq,c1,c2,acj,fN,adN,cz,o1,aa o2,r1]
      .cases r2:aaP e.tb
       .simp only[↓zA,sevalprocAttr,aeD,adc fD aa6 abW,ls,shX,hs,kx,kq,c1,c2,acj,af1,fN,adN,cz,o1,aa o2,r1,r2]
       .simp only[↓zA,sevalprocAttr,aeD,adc fD aa6 abW,ls,shX,hs,kx,kq,c1,c2,acj,af1,ah4,fN,adN,cz,o1,aa o2,r1,r2]
     .by_cases o3:e.op=24
      .cases r1:gP e.nm
       .simp only[↓zA,sevalprocAttr,aeD,adc fD aa6 abW,ls,shX,hs,kx,kq,c1,c2,acj,fN,adN,cz,o1,o2,aa o3,r1]
       .cases r2:acY e.nm
        .simp only[↓zA,sevalprocAttr,aeD,adc fD aa6 abW,ls,shX,hs,kx,kq,c1,c2,acj,aeP,ah4,fN,adN,cz,o1,o2,aa o3,r1,r2]
        .simp only[↓zA,sevalprocAttr,aeD,adc fD aa6 abW,ls,shX,hs,kx,kq,c1,c2,acj,aeP,fN,adN,cz,o1,o2,aa o3,r1,r2]
      .by_cases o4:e.op=25
       .cases r1:acY e.nm
        .simp only[↓zA,sevalprocAttr,aeD,adc fD aa6 abW,ls,shX,hs,kx,kq,c1,c2,aeP,fN,adN,cz,o1,o2,o3,aa o4,r1]
        .by_cases r2:e.ks.length=0
         .by_cases r3:e.nm=agA
          .cases r4:e.di
           .simp only[↓zA,sevalprocAttr,aeD,adc fD aa6 abW,ls,shX,hs,kx,kq,c1,c2,aeP,ah4,fN,adN,cz,o1,o2,o3,aa o4,r1,r2,alO,aa r3,r4]
           .simp only[↓zA,sevalprocAttr,aeD,adc fD aa6 abW,ls,shX,hs,kx,kq,c1,c2,aeP,fN,adN,cz,o1,o2,o3,aa o4,r1,r2,alO,aa r3,r4]
          .simp only[↓zA,sevalprocAttr,aeD,adc fD aa6 abW,ls,shX,hs,kx,kq,c1,c2,aeP,fN,adN,cz,o1,o2,o3,aa o4,r1,r2,alO,r3]
         .have r3:e.ks.length=1:=by
           rw[o4] at hs
           simp only[adr] at hs
           simp at hs
           obtain⟨rfl,rfl,rfl⟩:=hs
           simp only[cH,ar,aR] at c1
           omega
          simp only[↓zA,sevalprocAttr,aeD,adc fD aa6 abW,ls,shX,hs,kx,kq,c1,c2,aeP,ah4,fN,adN,cz,Int.reduceEq,o1,o2,o3,aa o4,r1,r3,Nat.reduceEqDiff]
       .simp only[↓zA,sevalprocAttr,aeD,adc fD aa6 abW,ls,shX,hs,kx,kq,c1,c2,ah4,fN,adN,cz,o1,o2,o3,o4]
def aAf(i:Im):adu i=if i.st then aaP i.tb&&aed i.e&&decide (i.az=[]) else decide (i.tb=[])&&aaP i.az&&eY i.e:=by cases i;rw[adu];rfl
def amd(f:Fm):gC f=if f.kd=1\/f.kd=2 then 1 else (f.ks.map gC).sum:=by
 have h:∀ l:List Fm,amc l=(l.map gC).sum:=λl=>by
  induction l with
  | nil=>rfl
  | cons x r ih=>rw[amc,ih];simp
 cases f;rw[gC,h];rfl
def ar8(f:Fm):aaY f=if f.kd=1 then gP f.nm&&aaP f.az&&decide (f.sb.length+f.ks.length+f.on.length=0)
  else if f.kd=2 then decide (f.nm=[])&&gP f.az&&cH f.sb 1 1 gS&&decide (f.ks.length+f.on.length=0)
  else if f.kd=3\/f.kd=4\/f.kd=5 then decide (f.nm=[])&&decide (f.az=[])&&decide (f.sb.length=0)&&cH f.ks 2 2 aaY&&cH f.on (if f.kd=3 then 0 else 1) (if f.kd=3 then 0 else 1) eY
  else false:=by
 have h1:cH f.sb 1 1 gS=(abT f.sb.length 1 1&&f.sb.all gS):=adh _ 1 1 _
 have h2:cH f.ks 2 2 aaY=(abT f.ks.length 2 2&&f.ks.all aaY):=adh _ 2 2 _
 have h3:cH f.on (if f.kd=3 then 0 else 1) (if f.kd=3 then 0 else 1) eY=(decide (f.on.length=if f.kd=3 then 0 else 1)&&f.on.all eY):=by
  split
  .rw[show cH f.on 0 0 eY=_ from adh _ 0 0 _]
   congr 1
   rw[cC];simp only[abT,ar,aR];omega
  .rw[show cH f.on 1 1 eY=_ from adh _ 1 1 _]
   congr 1
   rw[cC];simp only[abT,ar,aR];omega
 rw[h1,h2,h3]
 cases f
 rw[aaY]
 simp only[Fm.kd,Fm.nm,Fm.az,Fm.sb,Fm.ks,Fm.on,akw,aky,anc,afD]
 rfl
def abL(f:Fm):Bool:=aaY f&&decide (gC f<=8)
def aAe(q:Qy):gS q=(decide (-1<=q.li)&&decide (q.li<=ae1)&&decide (0<=q.sk)&&decide (q.sk<=ae1)&&cH q.od 0 64 aa4 &&
  (if q.op=1 then !q.al&&decide (q.ks.length=0)&&cH q.its 1 64 adu&&cH q.fr 0 1 abL&&cH q.wh 0 1 eY&&cH q.gr 0 64 eY&&cH q.hv 0 1 eY
   else if q.op=2\/q.op=3\/q.op=4 then cH q.ks 2 2 gS&&!q.di&&decide (q.its.length+q.fr.length+q.wh.length+q.gr.length+q.hv.length=0)
   else false)):=by
 have h0:cH q.od 0 64 aa4=_:=adh q.od 0 64 aa4
 have h1:cH q.its 1 64 adu=_:=adh q.its 1 64 adu
 have h2:cH q.fr 0 1 abL=_:=adh q.fr 0 1 abL
 have h3:cH q.wh 0 1 eY=_:=adh q.wh 0 1 eY
 have h4:cH q.gr 0 64 eY=_:=adh q.gr 0 64 eY
 have h5:cH q.hv 0 1 eY=_:=adh q.hv 0 1 eY
 have h6:cH q.ks 2 2 gS=_:=adh q.ks 2 2 gS
 have h7:decide (q.ks.length=0)=abT q.ks.length 0 0:=by rw[cC];simp only[abT,ar,aR];omega
 have h8:q.fr.all abL=(q.fr.all aaY&&q.fr.all λf=>decide (gC f<=8)):=by
  induction q.fr with
  | nil=>rfl
  | cons x r ih =>
   simp only[agi,ih,abL]
   cases aaY x <;> cases decide (gC x<=8) <;> simp
 rw[h0,h1,h2,h3,h4,h5,h6,h7,h8]
 cases q
 rw[gS]
 simp only[Qy.op,Qy.al,Qy.ks,Qy.di,Qy.its,Qy.fr,Qy.wh,Qy.gr,Qy.hv,Qy.od,Qy.li,Qy.sk,akw,aky,anc,atg,afD]
 rfl
def aIU(n:Nat):∀ f:Fm,fmW f<=n->gC f<=fmW f:=by
 induction n with
 | zero=>intro f h;have:=adb f;omega
 | succ n ih =>
  intro f h
  rw[amd]
  rw[ace] at h ⊢
  split
  .omega
  .have:∀ l:List Fm,lsW fmW l<=n+1->(l.map gC).sum<=lsW fmW l:=λl=>by
    induction l with
    | nil=>simp
    | cons x r ih2 =>
     intro hl
     have hx:=dK (w:=fmW) (l:=x::r) (x:=x) aT
     have h1:=ih x aC
     simp only[lsW,bd,dw] at hl ih2 ⊢
     have h2:=ih2 aC
     omega
   have:=this f.ks aC
   omega
def aUC(l:List Fm):(l.map gC).sum<=lsW fmW l:=by
 induction l with
 | nil=>simp
 | cons x r ih =>
  have:=aIU (fmW x) x (am _)
  simp only[lsW,bd,dw] at ih ⊢
  omega
def aKa(l:List Im):Prop:=∀ x∈l,G1 124 [.of (.agg (imC x))] (aN (adu x))
def aJ9(l:List Fm):Prop:=∀ x∈l,G1 215 [.of (.agg (fmC x))] (aN (aaY x))
def aKb(l:List Fm):Prop:=∀ x∈l,G1 126 [.of (.agg (fmC x))] (aN (abL x))
def aTw(l:List Fm):Prop:=∀ x∈l,G1 216 [.of (.agg (fmC x))] (au (gC x))
def zI{l:List Im}(h:aKa l)(hw:lsW imW l<=WL)(a b:Int)(K:An->Prop):cKp 123 [.of (slC imC l),.of (ci a),.of (ci b),.of (.fn 124 [])] [] K↔K ⟨false,[aN (cH l a b adu)],[]⟩:=by
 have h1:=fL imW l λx _=>agI x
 simp only[WL] at *
 exact aEc l a b adu _ [] ⟨by omega,aQ9,aPl,h⟩ K
def zS{l:List Fm}(h:aJ9 l)(hw:lsW fmW l<=WL)(a b:Int)(K:An->Prop):cKp 125 [.of (slC fmC l),.of (ci a),.of (ci b),.of (.fn 215 [])] [] K↔K ⟨false,[aN (cH l a b aaY)],[]⟩:=by
 have h1:=fL fmW l λx _=>adb x
 simp only[WL] at *
 exact asR l a b aaY _ [] ⟨by omega,aQ1,aPd,h⟩ K
def zF{l:List Fm}(h:aKb l)(hw:lsW fmW l<=WL)(a b:Int)(K:An->Prop):cKp 125 [.of (slC fmC l),.of (ci a),.of (ci b),.of (.fn 126 [])] [] K↔K ⟨false,[aN (cH l a b abL)],[]⟩:=by
 have h1:=fL fmW l λx _=>adb x
 simp only[WL] at *
 exact asR l a b abL _ [] ⟨by omega,aQ8,aPk,h⟩ K
def zO{l:List Od}(hw:lsW odW l<=WL)(a b:Int)(K:An->Prop):cKp 121 [.of (slC odC l),.of (ci a),.of (ci b),.of (.fn 122 [])] [] K↔K ⟨false,[aN (cH l a b aa4)],[]⟩:=by
 have h1:=fL odW l λx _=>by simp[odW]
 simp only[WL] at *
 exact aBd l a b aa4 _ [] ⟨by omega,aRa,aPm,λx _=>aJP x⟩ K
def aUl:=hH @zq @aZ @zT0 (kf aM8)
def aH0(l:List Xp)(h:amD l)(hw:lsW xpW l<=WL):G1 127 [.of (slC xpC l)] (aN (cH l 0 1 eY)):=by
 refine bB aM8 ?_
 simp only[Tryz.f127,↓zA,sevalprocAttr,aUl,zX h hw]
def an5:=ib @Tryz.f124.eq_1 @zq @aZ @gF @P4 @Q4 @Q9 @zT0 (kf aNb)
def aFv(i:Im)(hw:xpW i.e<=WL)(h:G1 58 [.of (.agg (xpC i.e))] (aN (eY i.e))):G1 124 [.of (.agg (imC i))] (aN (adu i)):=by
 have kx:=λK=>aF.k h K
 have hz:decide (i.e=acz)=aed i.e:=by rw[cC,amL,aR]
 have ez:[ci 0,ci 0,ci 0,aJ {data:=#[]},aJ {data:=#[]},aJ {data:=#[]},cb false,C.sl [] 0,C.sl [] 0]=xpC acz:=by rw[ch];rfl
 rw[aAf]
 refine bB aNb ?_
 cases s1:i.st
 .by_cases s2:i.tb=[]
  .cases s3:aaP i.az
   .simp only[↓zA,sevalprocAttr,an5,s1,aa s2,s3,af1]
   .simp only[↓zA,sevalprocAttr,an5,s1,aa s2,s3,af1,kx]
  .simp only[↓zA,sevalprocAttr,an5,s1,s2]
 .cases s2:aaP i.tb
  .simp only[↓zA,sevalprocAttr,an5,s1,s2,af1]
  .by_cases s3:i.az=[]
   .simp only[↓zA,sevalprocAttr,an5,s1,s2,aa s3,af1,ez,aDM,hw,hz]
   .simp only[↓zA,sevalprocAttr,an5,s1,s2,s3,af1]
def an0:=hZ @Tryz.f216.eq_1 @zq @bG @gH @P3 @Q3 @zT0 (kf aMm)
def ayr(f:Fm)(hw:fmW f<=WL)(h:aTw f.ks):G1 216 [.of (.agg (fmC f))] (au (gC f)):=by
 have hw2:=hw
 rw[ace] at hw2
 simp only[WL] at hw2
 have hsum:=aUC f.ks
 have hlen:=fL fmW f.ks λx _=>adb x
 rw[amd]
 refine bB aMm ?_
 by_cases k1:f.kd=1
 .simp only[↓zA,sevalprocAttr,an0,k1]
 .by_cases k2:f.kd=2
  .simp only[↓zA,sevalprocAttr,an0,k2,fF,Int.reduceEq]
  .simp only[↓zA,sevalprocAttr,an0,k1,k2,abm]
   refine ew f.ks.length (λk s=>∃ a:Nat,s.fr 3=au a/\s.fr 15=.of (slC fmC f.ks)/\s.fr 16=au f.ks.length/\s.fr 17=au k/\s.objs=[]/\a+((f.ks.drop k).map gC).sum=(f.ks.map gC).sum) ?_ ?_
   .refine⟨0,?_⟩
    simp only[↓zA,sevalprocAttr,an0]
    try exact rfl
   .rintro k s hk ⟨a,f3,f15,f16,f17,ho,E⟩
    rcases av k f.ks.length with c1|c1
    .have hw:=aW k aC
     have hx:=λK=>aF.k (h f.ks[k] (bt c1)) K
     rw[aan c1,bd,dw] at E
     have hw3:IntKind.i64.wrap ((a:Int)+(gC f.ks[k]:Int))=((a+gC f.ks[k]:Nat):Int):=by rw[cj _ aC aC];rfl
     simp only[↓zA,sevalprocAttr,an0,f3,f15,f16,f17,ho,aK,c1,bu c1,hw,hx,hw3]
     exact⟨_,rfl,by omega⟩
    .have e:k=f.ks.length:=by omega
     subst e
     rw[bf,cI,fx,gV] at E
     simp only[↓zA,sevalprocAttr,an0,f3,f16,f17,ho,aK,bg,E]
def aKK:=hJ @Tryz.f126.eq_1 @zq @bG @zT0 (kf aM9)
def aFH(f:Fm)(h1:G1 215 [.of (.agg (fmC f))] (aN (aaY f)))(h2:G1 216 [.of (.agg (fmC f))] (au (gC f))):G1 126 [.of (.agg (fmC f))] (aN (abL f)):=by
 have k1:=λK=>aF.k h1 K
 have k2:=λK=>aF.k h2 K
 have e8:((gC f:Int)<=8)=(gC f<=8):=propext aC
 refine bB aM9 ?_
 cases c:aaY f
 .simp only[↓zA,sevalprocAttr,aKK,k1,c,abL]
 .simp only[↓zA,sevalprocAttr,aKK,k1,k2,c,abL,e8]
def alI(a b:Nat)(h:a+b<=WL):IntKind.i64.wrap ((a:Int)+(b:Int))=((a+b:Nat):Int):=by simp only[WL] at h;rw[cj _ aC aC];rfl
def abS:=ai (hU @Tryz.f215.eq_1 @zq @aZ @bi @bG @cX @dm) (hM @gH @P3 @Q3 @Q9 @zT0 (kf aMn))
def ayu(f:Fm)(hw:fmW f<=WL)(h1:ayc f.sb)(h2:aJ9 f.ks)(h3:amD f.on):G1 215 [.of (.agg (fmC f))] (aN (aaY f)):=by
 have hw2:=hw
 rw[ace] at hw2
 simp only[WL] at hw2
 have n1:=fL qyW f.sb λx _=>afn x
 have n2:=fL fmW f.ks λx _=>adb x
 have n3:=fL xpW f.on λx _=>adT x
 have kq:=zQ h1 (by simp only[WL];omega)
 have ks:=zS h2 (by simp only[WL];omega)
 have kx:=zX h3 (by simp only[WL];omega)
 have w1:=alI f.sb.length f.ks.length (by simp only[WL];omega)
 have w2:=alI (f.sb.length+f.ks.length) f.on.length (by simp only[WL];omega)
 have w3:=alI f.ks.length f.on.length (by simp only[WL];omega)
 rw[ar8]
 refine bB aMn ?_
 by_cases k1:f.kd=1
 .cases c1:gP f.nm
  .simp only[↓zA,sevalprocAttr,abS,aa k1,acj,c1]
  .cases c2:aaP f.az
   .simp only[↓zA,sevalprocAttr,abS,aa k1,acj,af1,c1,c2]
   .simp only[↓zA,sevalprocAttr,abS,aa k1,acj,af1,c1,c2,w1,w2,acN]
 .by_cases k2:f.kd=2
  .by_cases c1:f.nm=[]
   .cases c2:gP f.az
    .simp only[↓zA,sevalprocAttr,abS,k1,aa k2,acj,aa c1,c2]
    .cases c3:cH f.sb 1 1 gS
     .simp only[↓zA,sevalprocAttr,abS,k1,aa k2,acj,aa c1,c2,kq,c3]
     .simp only[↓zA,sevalprocAttr,abS,k1,aa k2,acj,aa c1,c2,kq,c3,w3,acN]
   .simp only[↓zA,sevalprocAttr,abS,k1,aa k2,c1]
  .by_cases k3:f.kd=3\/f.kd=4\/f.kd=5
   .by_cases c1:f.nm=[]
    .by_cases c2:f.az=[]
     .by_cases c3:f.sb.length=0
      .cases c4:cH f.ks 2 2 aaY
       .rcases k3 with k3|k3|k3
        .simp only[↓zA,sevalprocAttr,abS,k1,k2,aa k3,aa c1,aa c2,aa c3,ks,c4,acN,akZ]
        .simp only[↓zA,sevalprocAttr,abS,k3,Int.reduceEq,aa c1,aa c2,aa c3,ks,c4,acN,fF]
        .simp only[↓zA,sevalprocAttr,abS,k3,Int.reduceEq,aa c1,aa c2,aa c3,ks,c4,acN,fF]
       .rcases k3 with k3|k3|k3
        .simp only[↓zA,sevalprocAttr,abS,k1,k2,aa k3,aa c1,aa c2,aa c3,ks,kx,c4,acN,akZ]
        .simp only[↓zA,sevalprocAttr,abS,k3,Int.reduceEq,aa c1,aa c2,aa c3,ks,kx,c4,acN,fF]
        .simp only[↓zA,sevalprocAttr,abS,k3,Int.reduceEq,aa c1,aa c2,aa c3,ks,kx,c4,acN,fF]
      .rcases k3 with k3|k3|k3
       .simp only[↓zA,sevalprocAttr,abS,k3,Int.reduceEq,aa c1,aa c2,c3,acN]
       .simp only[↓zA,sevalprocAttr,abS,k3,Int.reduceEq,aa c1,aa c2,c3,acN,fF]
       .simp only[↓zA,sevalprocAttr,abS,k3,Int.reduceEq,aa c1,aa c2,c3,acN,fF]
     .rcases k3 with k3|k3|k3
      .simp only[↓zA,sevalprocAttr,abS,k3,Int.reduceEq,aa c1,c2]
      .simp only[↓zA,sevalprocAttr,abS,k3,Int.reduceEq,aa c1,c2,fF]
      .simp only[↓zA,sevalprocAttr,abS,k3,Int.reduceEq,aa c1,c2,fF]
    .rcases k3 with k3|k3|k3
     .simp only[↓zA,sevalprocAttr,abS,k3,Int.reduceEq,c1]
     .simp only[↓zA,sevalprocAttr,abS,k3,Int.reduceEq,c1,fF]
     .simp only[↓zA,sevalprocAttr,abS,k3,Int.reduceEq,c1,fF]
   .simp only[ac2] at k3
    simp only[↓zA,sevalprocAttr,abS,k1,k2,k3,abm]
def aEX(l:List Xp)(h:amD l)(hw:lsW xpW l<=WL)(K:An->Prop):cKp 127 [.of (slC xpC l)] [] K↔K ⟨false,[aN (cH l 0 1 eY)],[]⟩:=aF.k (aH0 l h hw) K
def adI:=ai (ib @Tryz.f60.eq_1 @zq @aZ @bi @gF @bG @aeg @cX @dm) (hZ @ado @gH @P3 @Q3 @P4 @Q4 @zT0 (kf aSm))
def aBt(q:Qy)(hw:qyW q<=WL)(h1:ayc q.ks)(h2:aKa q.its)(h3:aKb q.fr)(h4:amD q.wh)(h5:amD q.gr)(h6:amD q.hv):G1 60 [.of (.agg (qyC q))] (aN (gS q)):=by
 have hw2:=hw
 rw[acd] at hw2
 simp only[WL] at hw2
 have n2:=fL imW q.its λx _=>agI x
 have n3:=fL fmW q.fr λx _=>adb x
 have n4:=fL xpW q.wh λx _=>adT x
 have n5:=fL xpW q.gr λx _=>adT x
 have n6:=fL xpW q.hv λx _=>adT x
 have kO:=zO (l:=q.od) (by simp only[WL];omega)
 have k1:=zQ h1 (by simp only[WL];omega)
 have k2:=zI h2 (by simp only[WL];omega)
 have k3:=zF h3 (by simp only[WL];omega)
 have k4:=aEX q.wh h4 (by simp only[WL];omega)
 have k5:=zX h5 (by simp only[WL];omega)
 have k6:=aEX q.hv h6 (by simp only[WL];omega)
 have w1:=alI q.its.length q.fr.length (by simp only[WL];omega)
 have w2:=alI (q.its.length+q.fr.length) q.wh.length (by simp only[WL];omega)
 have w3:=alI (q.its.length+q.fr.length+q.wh.length) q.gr.length (by simp only[WL];omega)
 have w4:=alI (q.its.length+q.fr.length+q.wh.length+q.gr.length) q.hv.length (by simp only[WL];omega)
 rw[aAe]
 simp only[ae1]
 refine bB aSm ?_
 by_cases a1:-1<=q.li
 rotate_left
 .simp only[↓zA,sevalprocAttr,adI,a1,show q.li < -1 from by omega]
 have a1':¬q.li < -1:=by omega
 by_cases a2:q.li<=1000000000000000
 rotate_left
 .simp only[↓zA,sevalprocAttr,adI,a1',a2,show 1000000000000000<q.li from by omega]
 have a2':¬1000000000000000<q.li:=by omega
 by_cases a3:0<=q.sk
 rotate_left
 .simp only[↓zA,sevalprocAttr,adI,a1',a2',a3,show q.sk<0 from by omega]
 have a3':¬q.sk<0:=by omega
 by_cases a4:q.sk<=1000000000000000
 rotate_left
 .simp only[↓zA,sevalprocAttr,adI,a1',a2',a3',a4,show 1000000000000000<q.sk from by omega]
 have a4':¬1000000000000000<q.sk:=by omega
 cases a5:cH q.od 0 64 aa4
 .simp only[↓zA,sevalprocAttr,adI,kO,a1',a2',a3',a4',a5]
 by_cases o1:q.op=1
 .cases b1:q.al
  rotate_left
  .simp only[↓zA,sevalprocAttr,adI,kO,a1,a2,a3,a4,a1',a2',a3',a4',a5,aa o1,b1]
  by_cases b2:q.ks.length=0
  rotate_left
  .simp only[↓zA,sevalprocAttr,adI,kO,acN,a1,a2,a3,a4,a1',a2',a3',a4',a5,aa o1,b1,b2]
  cases b3:cH q.its 1 64 adu
  .simp only[↓zA,sevalprocAttr,adI,kO,k2,acN,a1,a2,a3,a4,a1',a2',a3',a4',a5,aa o1,b1,aa b2,b3]
  cases b4:cH q.fr 0 1 abL
  .simp only[↓zA,sevalprocAttr,adI,kO,k2,k3,acN,a1,a2,a3,a4,a1',a2',a3',a4',a5,aa o1,b1,aa b2,b3,b4]
  cases b5:cH q.wh 0 1 eY
  .simp only[↓zA,sevalprocAttr,adI,kO,k2,k3,k4,acN,a1,a2,a3,a4,a1',a2',a3',a4',a5,aa o1,b1,aa b2,b3,b4,b5]
  cases b6:cH q.gr 0 64 eY
  .simp only[↓zA,sevalprocAttr,adI,kO,k2,k3,k4,k5,acN,a1,a2,a3,a4,a1',a2',a3',a4',a5,aa o1,b1,aa b2,b3,b4,b5,b6]
  simp only[↓zA,sevalprocAttr,adI,kO,k2,k3,k4,k5,k6,acN,a1,a2,a3,a4,a1',a2',a3',a4',a5,aa o1,b1,aa b2,b3,b4,b5,b6]
 .by_cases o2:q.op=2\/q.op=3\/q.op=4
  .cases b1:cH q.ks 2 2 gS
   .rcases o2 with o2|o2|o2
    .simp only[↓zA,sevalprocAttr,adI,kO,k1,abm,a1,a2,a3,a4,a1',a2',a3',a4',a5,o2,Int.reduceEq,b1]
    .simp only[↓zA,sevalprocAttr,adI,kO,k1,fF,a1,a2,a3,a4,a1',a2',a3',a4',a5,o2,Int.reduceEq,b1]
    .simp only[↓zA,sevalprocAttr,adI,kO,k1,fF,a1,a2,a3,a4,a1',a2',a3',a4',a5,o2,Int.reduceEq,b1]
   .cases b2:q.di
    .rcases o2 with o2|o2|o2
     .simp only[↓zA,sevalprocAttr,adI,kO,k1,acN,w1,w2,w3,w4,abm,a1,a2,a3,a4,a1',a2',a3',a4',a5,o2,Int.reduceEq,b1,b2]
     .simp only[↓zA,sevalprocAttr,adI,kO,k1,acN,w1,w2,w3,w4,fF,a1,a2,a3,a4,a1',a2',a3',a4',a5,o2,Int.reduceEq,b1,b2]
     .simp only[↓zA,sevalprocAttr,adI,kO,k1,acN,w1,w2,w3,w4,fF,a1,a2,a3,a4,a1',a2',a3',a4',a5,o2,Int.reduceEq,b1,b2]
    .rcases o2 with o2|o2|o2
     .simp only[↓zA,sevalprocAttr,adI,kO,k1,abm,a1,a2,a3,a4,a1',a2',a3',a4',a5,o2,Int.reduceEq,b1,b2]
     .simp only[↓zA,sevalprocAttr,adI,kO,k1,fF,a1,a2,a3,a4,a1',a2',a3',a4',a5,o2,Int.reduceEq,b1,b2]
     .simp only[↓zA,sevalprocAttr,adI,kO,k1,fF,a1,a2,a3,a4,a1',a2',a3',a4',a5,o2,Int.reduceEq,b1,b2]
  .simp only[ac2] at o2
   simp only[↓zA,sevalprocAttr,adI,kO,abm,a1,a2,a3,a4,a1',a2',a3',a4',a5,o1,o2]
theorem awu:∀ n,n<=WL->(∀ e,gX e->xpW e<=n->G1 58 [.of (.agg (xpC e))] (aN (eY e)))/\(∀ e,gY e->qyW e<=n->G1 60 [.of (.agg (qyC e))] (aN (gS e)))
  /\ (∀ e,aka e->imW e<=n->G1 124 [.of (.agg (imC e))] (aN (adu e)))/\(∀ e,acV e->fmW e<=n->G1 215 [.of (.agg (fmC e))] (aN (aaY e))/\G1 216 [.of (.agg (fmC e))] (au (gC e)))
 | 0,_=>⟨λe _ h=>by have:=adT e;omega,λe _ h=>by have:=afn e;omega,λe _ h=>by have:=agI e;omega,λe _ h=>by have:=adb e;omega⟩
 | n+1,hn=>by
  obtain⟨i1,i2,i3,i4⟩:=awu n aC
  have sX:∀ l:List Xp,lsP gX l->lsW xpW l<=n+1->amD l:=λl g h x hx=>i1 x (g x hx) (by have:=dK (w:=xpW) hx;omega)
  have sQ:∀ l:List Qy,lsP gY l->lsW qyW l<=n+1->ayc l:=λl g h x hx=>i2 x (g x hx) (by have:=dK (w:=qyW) hx;omega)
  have sI:∀ l:List Im,lsP aka l->lsW imW l<=n+1->aKa l:=λl g h x hx=>i3 x (g x hx) (by have:=dK (w:=imW) hx;omega)
  have sS:∀ l:List Fm,lsP acV l->lsW fmW l<=n+1->aJ9 l:=λl g h x hx=>(i4 x (g x hx) (by have:=dK (w:=fmW) hx;omega)).1
  have sT:∀ l:List Fm,lsP acV l->lsW fmW l<=n+1->aTw l:=λl g h x hx=>(i4 x (g x hx) (by have:=dK (w:=fmW) hx;omega)).2
  have sF:∀ l:List Fm,lsP acV l->lsW fmW l<=n+1->aKb l:=λl g h x hx=>aFH x (sS l g h x hx) (sT l g h x hx)
  refine⟨λe g h=>?_,λe g h=>?_,λe g h=>?_,λe g h=>?_⟩
  .have h':=aen e
   rw[aPx] at g
   exact aFO e aC g.2.1.2 (sX _ g.2.2.2.2.2.1 aC) (sQ _ g.2.2.2.2.2.2 aC)
  .have h':=acd e
   rw[aPz] at g
   obtain⟨_,_,g1,_,g2,g3,g4,g5,g6,_⟩:=g
   exact aBt e aC (sQ _ g1 aC) (sI _ g2 aC) (sF _ g3 aC) (sX _ g4 aC) (sX _ g5 aC) (sX _ g6 aC)
  .have h':=ahB e
   rw[aPG] at g
   exact aFv e aC (i1 _ g.2.2.1 aC)
  .have h':=ace e
   rw[aPH] at g
   obtain⟨_,_,_,g1,g2,g3⟩:=g
   exact⟨ayu e aC (sQ _ g1 aC) (sS _ g2 aC) (sX _ g3 aC),ayr e aC (sT _ g2 aC)⟩
def aP0:=hJ @Tryz.f22.eq_1 @zq @aZ @zT0 (kf aSy)
def aGE(e:Xp)(h:gX e/\xpW e<=WL):G1 22 [.of (.agg (xpC e))] (aN (afU e)):=by
 have k1:=λK=>aF.k ((apo WL (am _)).1 e h.2) K
 have k2:=λK=>aF.k ((awu WL (am _)).1 e h.1 h.2) K
 refine bB aSy ?_
 cases c:afp (cV e)
 .simp only[↓zA,sevalprocAttr,aP0,k1,arc,c,afU]
 .simp only[↓zA,sevalprocAttr,aP0,k1,k2,arc,c,afU]
def aPZ:=hJ @Tryz.f23.eq_1 @zq @bi @zT0 (kf aSx)
def aDQ(q:Qy)(h:gY q/\qyW q<=WL):G1 23 [.of (.agg (qyC q))] (aN (afV q)):=by
 have k1:=λK=>aF.k ((apo WL (am _)).2.1 q h.2) K
 have k2:=λK=>aF.k ((awu WL (am _)).2.1 q h.1 h.2) K
 refine bB aSx ?_
 cases c:afp (fM q)
 .simp only[↓zA,sevalprocAttr,aPZ,k1,arc,c,afV]
 .simp only[↓zA,sevalprocAttr,aPZ,k1,k2,arc,c,afV]
def aYz(l:List Tn)(x:Sm×Nat):List C:=ci (bN l x.2).pl::smC x.1
abbrev apn(l:List Tn)(o:List (Sm×Nat)):X:=.of (slC (aYz l) o)
set_option maxRecDepth 1000000
def aU5:=oC Tryz.f51 (w0S Tryz.f51)
def aU4:=oC Tryz.f51 (w1S Tryz.f51)
def aU3:=oC Tryz.f51 (w2S Tryz.f51)
def aU2:=oC Tryz.f51 (w4S Tryz.f51)
def aU1:=oC Tryz.f51 (ab0 (wBS Tryz.f51))
def aU0:=oC Tryz.f51 (ab0 (gj (wBS Tryz.f51)))
def aUZ:=oC Tryz.f51 (ab0 (ab0 (gj (gj (wBS Tryz.f51)))))
def aQR:=oC Tryz.f51 (gj (gj (gj (wBS Tryz.f51))))
def aY6(cap:Array Value)(w:World):(invoke (.fn (.func 104) cap) #[]).run Tryz.prog w=.ok (.enter 104 cap) w:=by
 show (callFunc 104 (#[]++cap)).run Tryz.prog w=_
 rw[aaF]
 exact enters_of Tryz.func104 aS rfl _ _
def aXI(p6 p7 p8:Value)(w:World):CallsD Tryz.prog 104 #[p6,p7,p8] .returning w λe u' w'=>e=.returned (.tuple #[])/\u'=.returning/\w'=w:=by
 refine callsD_of_wpS Tryz.func104 rfl λc₀ cs hu=>?_
 apply wpS_seq
 apply wpS_region
 simp[wpOpsS,go_sem,recoverD,hu,Tryz.ntmps104,Exit.thenS]
 apply wpS_seq
 apply wpS_seq
 apply wpS_region
 simp[wpOpsS,go_sem,recoverD,hu,Exit.thenS]
 refine wpS_cond (t:=true) (by simp[Act.eval,Array.replicate]) ?_
 simp only[ah]
 refine wpS_of_wp (wp_ret ?_)
 cases c₀
 simp_all [bodyPostS,results,Tryz.results104,Exit.thenS]
def aZi (t:TypeId) (u p6 p7 p8:Value) (w:World) (R:Ending->FrameMode->World->Prop) (h:∀ (c₀:Frame) (cs:List Frame) (T:Array Value),T.size=Tryz.f104.ntmps->T.getD 0 undef=p6->T.getD 1 undef=p7->T.getD 2 undef=p8->T.getD 3 undef=.iface t u ->
  (wDS Tryz.f104).wp Tryz.prog (λe a w'=>bodyPostS Tryz.prog Tryz.f104 c₀ cs R e a ({c₀ with mode:=.panicking [{v:=.iface t u,recovered:=true}]}::cs) w') ⟨T,[]⟩ w):CallsD Tryz.prog 104 #[p6,p7,p8] (.panicking [{v:=.iface t u,recovered:=false}]) w R:=by
 refine callsD_of_wpS Tryz.func104 rfl λc₀ cs hu=>?_
 apply wpS_seq
 apply wpS_region
 simp[wpOpsS,go_sem,recoverD,hu,Tryz.ntmps104,Exit.thenS]
 apply wpS_seq
 apply wpS_seq
 apply wpS_region
 simp[wpOpsS,go_sem,recoverD,Exit.thenS]
 refine wpS_cond (t:=false) (by simp[Act.eval,Array.replicate]) ?_
 simp only[ab,ap]
 refine wpS_of_wp (wp_skip ?_)
 simp only[Exit.thenS]
 refine wpS_of_wp (h _ _ _ ?_ ?_ ?_ ?_ ?_)
 all_goals simp[Tryz.ntmps104,Array.getD,Array.replicate]
 all_goals rfl
def aZe(tmps:Array Value)(w:World)(X:Act->World->Prop)(Q:Exit->Act->World->Prop)(hz:tmps.size=Tryz.f51.ntmps)(h:∀ cap,cap=#[tmps.getD 6 undef,tmps.getD 7 undef,tmps.getD 8 undef]->X ⟨tmps.setIfInBounds 30 (.func (.func 104) #[] cap),[⟨.fn (.func 104) cap,#[]⟩]⟩ w) :
  (w5S Tryz.f51).wp Tryz.prog (Exit.then X Q) ⟨tmps,[]⟩ w:=by
 have hmf:∀ (fn:Fn) (first cap:Array Value) (w:World),(Instr.makeFunc fn first cap).run Tryz.prog w=.ok (.func fn first cap) w:=λ_ _ _ _=>rfl
 have h':=h _ rfl
 have h30:30<tmps.size:=by rw[hz];decide
 have hg:∀ i:Nat,tmps.getD i undef=tmps[i]?.getD undef:=λi=>by simp
 simp only[hg] at h'
 apply wp_region
 simp[wpOps,go_sem,Exit.then,h30]
 exact .inl (.inl h')
def ape:=ib @Tryz.f51.eq_1 @zq @T3 @T29 @cW @fH @P3 @Q3 @zT0
abbrev aYd:List X:=[.nil]
def s5T(l:List Tn)(e:Int)(clk:Nat):S:=⟨fr5 52 53,[.var 94 aYd,.var 3 [.of (ci 0)],.var 29 [.of (ci 0)],pT3 l 0 e],clk⟩
def aym{G:Go.Pe.GP}(hpr:PrSound Tryz.prog G pr)(s:List UInt8)(hs:s.length<LB)(l:List Tn)(p:Int)(ht:acq s=some (l,p,0))(hl:l.length<LB)(a:List (Sm×Nat))
  (kg:∀ K,cKp 52 [.ptr 0 0] [pT l 0 s.length] K↔K ⟨false,[apn l a],[pT l l.length s.length]⟩)
  (kR:∀ K,cKp 53 [apn l a] [] K↔K ⟨false,[aN true],[]⟩) :
  abu Tryz.prog G 51 [.of (aJ (aM s)),.of (.fn 52 []),.of (.fn 53 [])] [] ⟨false,[apn l a,au 0,au 0],[]⟩:=by
 have kt:=λK=>aF.k (adP s hs _ ht) K
 unfold pT at kg
 simp only[show ((0:Nat):Int)=0 from rfl] at kg
 have dl:((l.length:Int)<(l.length:Int))=False:=aj aC
 have main:∀ clk,aem Tryz.prog G pr 51 Tryz.f51 Tryz.f51.ntmps Tryz.f104.ntmps (wBS Tryz.f51) (wDS Tryz.f104) ⟨false,[apn l a,au 0,au 0],[]⟩ (s5T l s.length clk):=by
  intro clk
  unfold aem
  generalize hΦ:(λ(e:Ex) (s6:S)=>_)=Φ
  refine bU.seq (bU.of ey hpr aU1 ?_)
  simp only[↓zA,sevalprocAttr,ape,s5T,zWH,kg,aVk,aTg,aYw]
  refine bU.seq (bU.of ey hpr aU0 ?_)
  simp only[↓zA,sevalprocAttr,ape,zWH,dl]
  refine bU.seq (bU.seq (bU.of ey hpr aUZ ?_))
  simp only[↓zA,sevalprocAttr,ape,zWH,aVj,aTf,aYv,kR]
  refine bU.cond (t:=false) rfl ?_
  simp only[ab,ap]
  refine bU.skip hpr ?_
  refine bU.of ey hpr aQR ?_
  simp only[↓zA,sevalprocAttr,ape,zWH]
  subst hΦ
  refine Or.inl ⟨rfl,?_⟩
  simp only[↓zA,sevalprocAttr,ape,zWH,P94,acI]
 refine adm ey hpr (fn:=Tryz.f51) (fg:=Tryz.f104) Tryz.func51 rfl rfl rfl aU5 aU4 aU3 aU2 aZe aY6 aXI aZi (by show 3<=_;decide) ?_
 generalize hB:aem _ _ _ _ _ _ _ _ _ _=BD
 generalize hF:anV _ _ _ _ _=A2
 simp only[↓zA,sevalprocAttr,ape,kt]
 subst hF
 refine .inr ⟨rfl,?_⟩
 simp only[↓zA,sevalprocAttr,ape,bxO]
 refine⟨rfl,rfl,rfl,rfl,_,rfl,rfl,rfl,rfl,amC.of (fr5 52 53) rfl (λj=>by
  unfold fr5;split <;> first|exact .inr ⟨rfl,λ_=>rfl⟩|exact .inl rfl) (λ_=>rfl) (r:=3) (ty:=112) (A:=[.of (slC tnC l),.of (ci 0),.of (ci s.length)]) rfl 28 9 38 12 140 6 (by rintro o (rfl|rfl|rfl) <;> rfl),?_⟩
 subst hB
 exact main _
end Go.Proofs.YtghkmcffifpkeaaGreat
namespace Go.Tab
open Pe
def tw(t:Tn):Nat:=1000+t.s.length
def PW(l:List Tn)(i:Nat):Nat:=((l.take i).map tw).sum
def asI{l:List Tn}{i:Nat}{t:Tn}(h:l[i]?=some t):PW l (i+1)=PW l i+1000+t.s.length:=by
 unfold PW
 rw[acM,h]
 simp[tw,cE]
def dB{l:List Tn}{i:Nat}{w:List UInt8}(h:isT l i w=true):i+1<=l.length/\PW l i+1000<=PW l (i+1):=by
 unfold isT at h
 split at h
 .rename_i t e
  exact⟨(List.getElem?_eq_some_iff.1 e).1,by rw[asI e];omega⟩
 .cases h
def adx{l:List Tn}{i:Nat}{k:Int}(h:br l i k=true):i+1<=l.length/\PW l i+1000+(txT l i).length<=PW l (i+1):=by
 unfold br at h
 split at h
 .rename_i t e
  refine⟨(List.getElem?_eq_some_iff.1 e).1,?_⟩
  rw[asI e,txT,e]
  simp
 .cases h
def ame{l:List Tn}{i:Nat}{k:Int}(hl:∀ t∈l,I64 t.n):I64 (nuT l i):=by
 unfold nuT
 split
 .rename_i t e
  exact hl t (co e)
 .exact⟨by decide,by decide⟩
theorem aqJ{l:List Tn}{i:Nat}:∀ {so:List (List UInt8×Int)} {o:Int},opT l i so=some o->i+1<=l.length/\PW l i+1000<=PW l (i+1)/\∃ p∈so,p.2=o
 | [],_,h=>by cases h
 | (w,p)::r,o,h=>by
  unfold opT at h
  split at h
  .rename_i e
   obtain⟨h1,h2⟩:=dB e
   cases h
   exact⟨h1,h2,_,abp,rfl⟩
  .obtain⟨h1,h2,p,h3,h4⟩:=aqJ h
   exact⟨h1,h2,p,dR _ h3,h4⟩
def fG{α:Type}(l:List Tn)(i c:Nat)(W:α->Nat)(Ok:α->Prop)(r:Rz α):Prop :=
 ∃ a j b,r=some (a,j,b)/\i<=j/\j<=l.length/\Ok a/\W a+PW l i<=PW l j+c+(if b=true then 400 else 0)
section
variable {α β:Type} {l:List Tn} {i i' c c':Nat} {W:α->Nat} {Ok:α->Prop} {W':β->Nat} {Ok':β->Prop}
theorem fG.go{a:α}{j:Nat}(h1:i<=j)(h2:j<=l.length)(h3:Ok a)(h4:W a+PW l i<=PW l j+c):fG l i c W Ok (some (a,j,false)) :=
 ⟨a,j,false,rfl,h1,h2,h3,h4⟩
theorem fG.bad{a:α}{j:Nat}(h1:i<=j)(h2:j<=l.length)(h3:Ok a)(h4:W a+PW l i<=PW l j+c+400):fG l i c W Ok (some (a,j,true)) :=
 ⟨a,j,true,rfl,h1,h2,h3,h4⟩
theorem fG.any{a:α}{j:Nat}{b:Bool}(h1:i<=j)(h2:j<=l.length)(h3:Ok a)(h4:W a+PW l i<=PW l j+c):fG l i c W Ok (some (a,j,b)) :=
 ⟨a,j,b,rfl,h1,h2,h3,gU h4 (aeM _ _)⟩
theorem fG.on{r:Rz α}{g:α->β}{f:α->Nat->Rz β}(h:fG l i c W Ok r)(hi:i'<=i)
  (hg:∀ a j,Ok a->i<=j->j<=l.length->W a+PW l i<=PW l j+c+400->Ok' (g a)/\W' (g a)+PW l i'<=PW l j+c'+400)
  (hf:∀ a j,Ok a->i<=j->j<=l.length->W a+PW l i<=PW l j+c->fG l i' c' W' Ok' (f a j)):fG l i' c' W' Ok' (r.on g f):=by
 obtain⟨a,j,b,rfl,h1,h2,h3,h4⟩:=h
 cases b with
 | true=>exact⟨g a,j,true,rfl,gU hi h1,h2,(hg a j h3 h1 h2 h4).1,(hg a j h3 h1 h2 h4).2⟩
 | false=>exact hf a j h3 h1 h2 h4
theorem fG.to{r:Rz α}{g:α->β}(h:fG l i c W Ok r)(hi:i'<=i)
  (hg:∀ a j d,Ok a->i<=j->W a+PW l i<=PW l j+c+d->Ok' (g a)/\W' (g a)+PW l i'<=PW l j+c'+d):fG l i' c' W' Ok' (r.to g):=by
 obtain⟨a,j,b,rfl,h1,h2,h3,h4⟩:=h
 exact⟨g a,j,b,rfl,gU hi h1,h2,(hg a j _ h3 h1 h4).1,(hg a j _ h3 h1 h4).2⟩
theorem fG.wantE{x:α}{j:Nat}{w:List UInt8}(h1:i<=j)(h2:j<=l.length)(h3:Ok x)(h4:W x+PW l i<=PW l j+c):fG l i c W Ok (wantE (eE l j w) x):=by
 unfold Go.Tab.wantE eE
 split
 .rename_i e
  have:=dB e
  exact .go (j:=j+1) aC aC h3 aC
 .exact .bad (j:=j) h1 h2 h3 aC
theorem fG.wantR{x:α}{j:Nat}{w:List UInt8}{f:Nat->Rz α}(h1:i<=j)(h2:j<=l.length)(h3:Ok x)(h4:W x+PW l i<=PW l j+c+400)
  (hf:j+1<=l.length->PW l j+1000<=PW l (j+1)->fG l i c W Ok (f (j+1))):fG l i c W Ok (wantR (eE l j w) x f):=by
 unfold Go.Tab.wantR eE
 split
 .rename_i e
  split at e
  .cases e
  .cases e;exact .bad h1 h2 h3 h4
 .rename_i e
  split at e
  .rename_i e1
   cases e
   exact hf (dB e1).1 (dB e1).2
  .cases e
end
def aeh(o:Int)(ks:List Xp):xpW (eF o ks)=dM ks+11:=by
 simp only[eF,xpW,aci,avo,v0,afg,abV,cq]
 show 1+(0+4)+1+1+1+(dM ks+1)+1+1=_
 omega
def ad5{o:Int}{ks:List Xp}(h:I64 o)(hk:eK ks):gX (eF o ks):=by
 simp only[eF,gX,V64,v0,aaM,acy,aaZ,dg]
 exact⟨h,⟨⟨by decide,by decide⟩,by decide,by decide⟩,hk⟩
theorem ahR:∀ a b:List Xp,dM (a++b)=dM a+dM b
 | [],b=>by simp[dM]
 | x::r,b=>by simp only[eI,dM,ahR r b];omega
theorem ahh:∀ {a b:List Xp},eK a->eK b->eK (a++b)
 | [],b,_,h=>h
 | x::r,b,h,h'=>by simp only[eI,eK] at h ⊢;exact⟨h.1,ahh h.2 h'⟩
def ajz{a b:Xp}(h:gX a)(h':gX b):eK [a,b]:=⟨h,h',trivial⟩
def abH{a:Xp}(h:gX a):eK [a]:=⟨h,trivial⟩
def acA(a:Xp):dM [a]=xpW a:=by simp[dM]
def ak7(a b:Xp):dM [a,b]=xpW a+xpW b:=by simp[dM]
abbrev FX(l:List Tn)(i c:Nat)(r:Rz Xp):Prop:=fG l i c xpW gX r
theorem att{l:List Tn}{nx:Nat->List Xp->Rz Xp}{so:List (List UInt8×Int)}{i0 c:Nat}(hs:∀ p∈so,I64 p.2)(hn:∀ j,i0<j->j<=l.length->FX l j 0 (nx j [])) :
  ∀ n a i,l.length<n+i->i0<=i->i<=l.length->gX a->xpW a+PW l i0<=PW l i+c->FX l i0 c (afj nx l so n a i)
 | 0,a,i,hf,_,h2,_,_=>by omega
 | n+1,a,i,hf,h1,h2,h3,h4=>by
  unfold afj
  split
  .exact .go h1 h2 h3 h4
  .rename_i o e
   obtain⟨e1,e2,p,hp,rfl⟩:=aqJ e
   refine (hn (i+1) aC e1).on aC (λy j hy h5 h6 h7=>⟨ad5 (hs p hp) (ajz h3 hy),by rw[aeh,ak7];omega⟩) λy j hy h5 h6 h7=>?_
   exact att hs hn n _ j aC aC h6 (ad5 (hs p hp) (ajz h3 hy)) (by rw[aeh,ak7];omega)
def aiF{l:List Tn}{nx:Nat->List Xp->Rz Xp}{so:List (List UInt8×Int)}{i c:Nat}{pre:List Xp}(hs:∀ p∈so,I64 p.2)(hn:∀ j,i<j->j<=l.length->FX l j 0 (nx j []))
  (h0:FX l i c (nx i pre)):FX l i c (agT nx l so i pre):=by
 unfold agT
 exact h0.on (am _) (λy j hy _ _ h=>⟨hy,h⟩) λy j hy h5 h6 h7=>att hs hn _ _ j aC h5 h6 hy h7

/-
  Chapter 9's document: how big queries and statements are. Conditions: none.
-/
import Derived.Test.YtjajlmjfddohfaaGreatDoorPa12
set_option linter.defProp false
set_option linter.unusedSectionVars false
set_option maxRecDepth 100000
set_option maxHeartbeats 32000000
namespace Go.Proofs.YtjajlmjfddohfaaGreatDoor
open Go Go.Pe Go.Tab
theorem auy (i:Im):je i=if i.st then ff i.tb&&jY i.e&&decide (i.az=[]) else decide (i.tb=[])&&ff i.az&&aK i.e:=by cases i;rw[je];rfl
theorem agD (f:Fm):dz f=if f.kd=1∨f.kd=2 then 1 else (f.ks.map dz).sum:=by
 have h:∀ l:List Fm,agC l=(l.map dz).sum:=fun l=>by
  induction l with
  | nil=>rfl
  | cons x r ih=>rw[agC,ih];simp
 cases f;rw[dz,h];rfl
theorem amQ (f:Fm):fw f=if f.kd=1 then aA f.nm&&ff f.az&&decide (f.sb.length+f.ks.length+f.on.length=0)
  else if f.kd=2 then decide (f.nm=[])&&aA f.az&&am f.sb 1 1 bA&&decide (f.ks.length+f.on.length=0)
  else if f.kd=3∨f.kd=4∨f.kd=5 then decide (f.nm=[])&&decide (f.az=[])&&decide (f.sb.length=0)&&am f.ks 2 2 fw&&am f.on (if f.kd=3 then 0 else 1) (if f.kd=3 then 0 else 1) aK
  else false:=by
 have h1:am f.sb 1 1 bA=(aE f.sb.length 1 1&&f.sb.all bA):=ay _ 1 1 _
 have h2:am f.ks 2 2 fw=(aE f.ks.length 2 2&&f.ks.all fw):=ay _ 2 2 _
 have h3:am f.on (if f.kd=3 then 0 else 1) (if f.kd=3 then 0 else 1) aK=(decide (f.on.length=if f.kd=3 then 0 else 1)&&f.on.all aK):=by
  split
  .rw[show am f.on 0 0 aK=_ from ay _ 0 0 _]
   congr 1
   rw[Bool.eq_iff_iff];simp only[aE,Bool.and_eq_true,decide_eq_true_eq];omega
  .rw[show am f.on 1 1 aK=_ from ay _ 1 1 _]
   congr 1
   rw[Bool.eq_iff_iff];simp only[aE,Bool.and_eq_true,decide_eq_true_eq];omega
 rw[h1,h2,h3]
 cases f
 rw[fw]
 simp only[Fm.kd,Fm.nm,Fm.az,Fm.sb,Fm.ks,Fm.on,aeM,aeO,ahB,Bool.and_assoc]
 rfl
def gv (f:Fm):Bool:=fw f&&decide (dz f≤8)
theorem aux (q:Qy):bA q=(decide (-1≤q.li)&&decide (q.li≤jD)&&decide (0≤q.sk)&&decide (q.sk≤jD)&&am q.od 0 64 fA &&
  (if q.op=1 then !q.al&&decide (q.ks.length=0)&&am q.its 1 64 je&&am q.fr 0 1 gv&&am q.wh 0 1 aK&&am q.gr 0 64 aK&&am q.hv 0 1 aK
   else if q.op=2∨q.op=3∨q.op=4 then am q.ks 2 2 bA&&!q.di&&decide (q.its.length+q.fr.length+q.wh.length+q.gr.length+q.hv.length=0)
   else false)):=by
 have h0:am q.od 0 64 fA=_:=ay q.od 0 64 fA
 have h1:am q.its 1 64 je=_:=ay q.its 1 64 je
 have h2:am q.fr 0 1 gv=_:=ay q.fr 0 1 gv
 have h3:am q.wh 0 1 aK=_:=ay q.wh 0 1 aK
 have h4:am q.gr 0 64 aK=_:=ay q.gr 0 64 aK
 have h5:am q.hv 0 1 aK=_:=ay q.hv 0 1 aK
 have h6:am q.ks 2 2 bA=_:=ay q.ks 2 2 bA
 have h7:decide (q.ks.length=0)=aE q.ks.length 0 0:=by rw[Bool.eq_iff_iff];simp only[aE,Bool.and_eq_true,decide_eq_true_eq];omega
 have h8:q.fr.all gv=(q.fr.all fw&&q.fr.all fun f=>decide (dz f≤8)):=by
  induction q.fr with
  | nil=>rfl
  | cons x r ih =>
   simp only[List.all_cons,ih,gv]
   cases fw x <;> cases decide (dz x≤8) <;> simp
 rw[h0,h1,h2,h3,h4,h5,h6,h7,h8]
 cases q
 rw[bA]
 simp only[Qy.op,Qy.al,Qy.ks,Qy.di,Qy.its,Qy.fr,Qy.wh,Qy.gr,Qy.hv,Qy.od,Qy.li,Qy.sk,aeM,aeO,ahB,anU,Bool.and_assoc]
 rfl
theorem aGy (n:Nat):∀ f:Fm,fmW f≤n→dz f≤fmW f:=by
 induction n with
 | zero=>intro f h;have:=iX f;omega
 | succ n ih =>
  intro f h
  rw[agD]
  rw[gK] at h ⊢
  split
  .omega
  .have:∀ l:List Fm,lsW fmW l≤n+1→(l.map dz).sum≤lsW fmW l:=fun l=>by
    induction l with
    | nil=>simp
    | cons x r ih2 =>
     intro hl
     have hx:=bg (w:=fmW) (l:=x::r) (x:=x) (by simp)
     have h1:=ih x (by omega)
     simp only[lsW,List.map_cons,List.sum_cons] at hl ih2 ⊢
     have h2:=ih2 (by omega)
     omega
   have:=this f.ks (by omega)
   omega
theorem aVI (l:List Fm):(l.map dz).sum≤lsW fmW l:=by
 induction l with
 | nil=>simp
 | cons x r ih =>
  have:=aGy (fmW x) x (Nat.le_refl _)
  simp only[lsW,List.map_cons,List.sum_cons] at ih ⊢
  omega
def aHK (l:List Im):Prop:=∀ x∈l,G1 193 [.of (.agg (imC x))] (ah (je x))
def aHJ (l:List Fm):Prop:=∀ x∈l,G1 235 [.of (.agg (fmC x))] (ah (fw x))
def aHL (l:List Fm):Prop:=∀ x∈l,G1 195 [.of (.agg (fmC x))] (ah (gv x))
def aUu (l:List Fm):Prop:=∀ x∈l,G1 236 [.of (.agg (fmC x))] (ak (dz x))
theorem zI {l:List Im} (h:aHK l) (hw:lsW imW l≤WL) (a b:Int) (K:An→Prop):aG Tryz.prog pr 192 [.of (slC imC l),.of (ci a),.of (ci b),.of (.fn 193 [])] [] K↔K ⟨false,[ah (am l a b je)],[]⟩:=by
 have h1:=bh imW l fun x _=>abE x
 simp only[WL] at *
 exact aBj l a b je _ [] ⟨by omega,aCa,axA,h⟩ K
theorem zS {l:List Fm} (h:aHJ l) (hw:lsW fmW l≤WL) (a b:Int) (K:An→Prop):aG Tryz.prog pr 194 [.of (slC fmC l),.of (ci a),.of (ci b),.of (.fn 235 [])] [] K↔K ⟨false,[ah (am l a b fw)],[]⟩:=by
 have h1:=bh fmW l fun x _=>iX x
 simp only[WL] at *
 exact anI l a b fw _ [] ⟨by omega,aqX,am6,h⟩ K
theorem zF {l:List Fm} (h:aHL l) (hw:lsW fmW l≤WL) (a b:Int) (K:An→Prop):aG Tryz.prog pr 194 [.of (slC fmC l),.of (ci a),.of (ci b),.of (.fn 195 [])] [] K↔K ⟨false,[ah (am l a b gv)],[]⟩:=by
 have h1:=bh fmW l fun x _=>iX x
 simp only[WL] at *
 exact anI l a b gv _ [] ⟨by omega,aB8,axy,h⟩ K
theorem zO {l:List Od} (hw:lsW odW l≤WL) (a b:Int) (K:An→Prop):aG Tryz.prog pr 190 [.of (slC odC l),.of (ci a),.of (ci b),.of (.fn 191 [])] [] K↔K ⟨false,[ah (am l a b fA)],[]⟩:=by
 have h1:=bh odW l fun x _=>by simp[odW]
 simp only[WL] at *
 exact ayy l a b fA _ [] ⟨by omega,aCb,axB,fun x _=>aOm x⟩ K
def aVp:=ai (ai (ai @zq @afu) (ai @adT @bK)) (ai (ai @abk @aau) (ai @zT0 (ai @awj (aw aKr))))
theorem aGb (l:List Xp) (h:aev l) (hw:lsW xpW l≤WL):G1 149 [.of (slC xpC l)] (ah (am l 0 1 aK)):=by
 refine aj rfl aKr awj rfl ?_
 simp -implicitDefEqProofs(maxSteps:=9^9)only[Tryz.f149,↓zA,sevalprocAttr,aVp,zX h hw]
def aVq:=ai (ai (ai @zq @afu) (ai @adT @bK)) (ai (ai @abk @aau) (ai @zT0 (ai @awm (aw aKu))))
theorem aFX (l:List Xp) (h:aev l) (hw:lsW xpW l≤WL):G1 146 [.of (slC xpC l)] (ah (am l 1 16 aK)):=by
 refine aj rfl aKu awm rfl ?_
 simp -implicitDefEqProofs(maxSteps:=9^9)only[Tryz.f146,↓zA,sevalprocAttr,aVq,zX h hw]
def aiE:=ai (ai (ai @zq (ai @aW2 @aq1)) (ai (ai @ana @ab9) (ai @aa4 @abk))) (ai (ai (ai @aau @bK) (ai @jh @Q4)) (ai (ai @Q9 @zT0) (ai @avC (aw aJL))))
theorem aEf (i:Im) (hw:xpW i.e≤WL) (h:G1 122 [.of (.agg (xpC i.e))] (ah (aK i.e))):G1 193 [.of (.agg (imC i))] (ah (je i)):=by
 have kx:=fun K=>ae.k h K
 have hz:decide (i.e=ip)=jY i.e:=by rw[Bool.eq_iff_iff,ag2,decide_eq_true_eq]
 have ez:[ci 0,ci 0,ci 0,ao {data:=#[]},ao {data:=#[]},ao {data:=#[]},cb false,C.sl [] 0,C.sl [] 0]=xpC ip:=by rw[aaG];rfl
 rw[auy]
 refine aj rfl aJL avC rfl ?_
 cases s1:i.st
 .by_cases s2:i.tb=[]
  .cases s3:ff i.az
   .simp -implicitDefEqProofs(maxSteps:=9^9)only[Tryz.f193,↓zA,sevalprocAttr,aiE,s1,eq_true s2,s3,ew]
   .simp -implicitDefEqProofs(maxSteps:=9^9)only[Tryz.f193,↓zA,sevalprocAttr,aiE,s1,eq_true s2,s3,ew,kx]
  .simp -implicitDefEqProofs(maxSteps:=9^9)only[Tryz.f193,↓zA,sevalprocAttr,aiE,s1,s2]
 .cases s2:ff i.tb
  .simp -implicitDefEqProofs(maxSteps:=9^9)only[Tryz.f193,↓zA,sevalprocAttr,aiE,s1,s2,ew]
  .by_cases s3:i.az=[]
   .simp -implicitDefEqProofs(maxSteps:=9^9)only[Tryz.f193,↓zA,sevalprocAttr,aiE,s1,s2,eq_true s3,ew,ez,adN,hw,hz]
   .simp -implicitDefEqProofs(maxSteps:=9^9)only[Tryz.f193,↓zA,sevalprocAttr,aiE,s1,s2,s3,ew]
def aiB:=ai (ai (ai @zq (ai @aXV @aXU)) (ai @aBW (ai @axm @gV))) (ai (ai @hU (ai @P3 @Q3)) (ai @zT0 (ai @auV (aw aI7))))
theorem asO (f:Fm) (hw:fmW f≤WL) (h:aUu f.ks):G1 236 [.of (.agg (fmC f))] (ak (dz f)):=by
 have hw2:=hw
 rw[gK] at hw2
 simp only[WL] at hw2
 have hsum:=aVI f.ks
 have hlen:=bh fmW f.ks fun x _=>iX x
 rw[agD]
 refine aj rfl aI7 auV rfl ?_
 by_cases k1:f.kd=1
 .simp -implicitDefEqProofs(maxSteps:=9^9)only[Tryz.f236,↓zA,sevalprocAttr,aiB,k1,true_or]
 .by_cases k2:f.kd=2
  .simp -implicitDefEqProofs(maxSteps:=9^9)only[Tryz.f236,↓zA,sevalprocAttr,aiB,k1,k2,or_true,Int.reduceEq]
  .simp -implicitDefEqProofs(maxSteps:=9^9)only[Tryz.f236,↓zA,sevalprocAttr,aiB,k1,k2,or_self]
   refine aL f.ks.length (fun k s=>∃ a:Nat,s.fr 3=ak a∧s.fr 15=.of (slC fmC f.ks)∧s.fr 16=ak f.ks.length∧s.fr 17=ak k∧s.objs=[]∧a+((f.ks.drop k).map dz).sum=(f.ks.map dz).sum) ?_ ?_
   .refine⟨0,?_⟩
    simp -implicitDefEqProofs(maxSteps:=9^9)only[Tryz.f236,↓zA,sevalprocAttr,aiB,Nat.zero_add]
    try exact rfl
   .rintro k s hk ⟨a,f3,f15,f16,f17,ho,E⟩
    rcases Nat.lt_or_ge k f.ks.length with c1|c1
    .have hw:=aQ k (by omega)
     have hx:=fun K=>ae.k (h f.ks[k] (List.getElem_mem c1)) K
     rw[aJ c1,List.map_cons,List.sum_cons] at E
     have hw3:IntKind.i64.wrap ((a:Int)+(dz f.ks[k]:Int))=((a+dz f.ks[k]:Nat):Int):=by rw[da _ (by omega) (by omega)];rfl
     simp -implicitDefEqProofs(maxSteps:=9^9)only[Tryz.f236,↓zA,sevalprocAttr,aiB,f3,f15,f16,f17,ho,aa,c1,ap c1,hw,hx,hw3]
     exact⟨_,rfl,by omega⟩
    .have e:k=f.ks.length:=by omega
     subst e
     rw[List.drop_length,List.map_nil,List.sum_nil,Nat.add_zero] at E
     simp -implicitDefEqProofs(maxSteps:=9^9)only[Tryz.f236,↓zA,sevalprocAttr,aiB,f3,f15,f16,f17,ho,aa,Nat.lt_irrefl,E]
def aH6:=ai (ai (ai @zq @aXS) (ai @aqX (ai @am6 @aBW))) (ai (ai @axm @gV) (ai @zT0 (ai @avA (aw aJJ))))
theorem aEp (f:Fm) (h1:G1 235 [.of (.agg (fmC f))] (ah (fw f))) (h2:G1 236 [.of (.agg (fmC f))] (ak (dz f))):G1 195 [.of (.agg (fmC f))] (ah (gv f)):=by
 have k1:=fun K=>ae.k h1 K
 have k2:=fun K=>ae.k h2 K
 have e8:((dz f:Int)≤8)=(dz f≤8):=propext (by omega)
 refine aj rfl aJJ avA rfl ?_
 cases c:fw f
 .simp -implicitDefEqProofs(maxSteps:=9^9)only[Tryz.f195,↓zA,sevalprocAttr,aH6,k1,c,gv]
 .simp -implicitDefEqProofs(maxSteps:=9^9)only[Tryz.f195,↓zA,sevalprocAttr,aH6,k1,k2,c,gv,e8]
theorem af8 (a b:Nat) (h:a+b≤WL):IntKind.i64.wrap ((a:Int)+(b:Int))=((a+b:Nat):Int):=by simp only[WL] at h;rw[da _ (by omega) (by omega)];rfl
def gD:=ai (ai (ai (ai @zq (ai @aXT @abi)) (ai (ai @aas @aq1) (ai @ana @ald))) (ai (ai (ai @ajg @aB9) (ai @axz @afu)) (ai (ai @adT @bK) (ai @dY @gV)))) (ai (ai (ai @dR (ai @ec @hU)) (ai (ai @ahE @afE) (ai @aqX @am6))) (ai (ai (ai @abk @aau) (ai @P3 @Q3)) (ai (ai @Q9 @zT0) (ai @auW (aw aI8)))))
theorem asV (f:Fm) (hw:fmW f≤WL) (h1:anu f.sb) (h2:aHJ f.ks) (h3:aev f.on):G1 235 [.of (.agg (fmC f))] (ah (fw f)):=by
 have hw2:=hw
 rw[gK] at hw2
 simp only[WL] at hw2
 have n1:=bh qyW f.sb fun x _=>aaE x
 have n2:=bh fmW f.ks fun x _=>iX x
 have n3:=bh xpW f.on fun x _=>gW x
 have kq:=zQ h1 (by simp only[WL];omega)
 have ks:=zS h2 (by simp only[WL];omega)
 have kx:=zX h3 (by simp only[WL];omega)
 have w1:=af8 f.sb.length f.ks.length (by simp only[WL];omega)
 have w2:=af8 (f.sb.length+f.ks.length) f.on.length (by simp only[WL];omega)
 have w3:=af8 f.ks.length f.on.length (by simp only[WL];omega)
 rw[amQ]
 refine aj rfl aI8 auW rfl ?_
 by_cases k1:f.kd=1
 .cases c1:aA f.nm
  .simp -implicitDefEqProofs(maxSteps:=9^9)only[Tryz.f235,↓zA,sevalprocAttr,gD,eq_true k1,ba,c1]
  .cases c2:ff f.az
   .simp -implicitDefEqProofs(maxSteps:=9^9)only[Tryz.f235,↓zA,sevalprocAttr,gD,eq_true k1,ba,ew,c1,c2]
   .simp -implicitDefEqProofs(maxSteps:=9^9)only[Tryz.f235,↓zA,sevalprocAttr,gD,eq_true k1,ba,ew,c1,c2,w1,w2,aW]
 .by_cases k2:f.kd=2
  .by_cases c1:f.nm=[]
   .cases c2:aA f.az
    .simp -implicitDefEqProofs(maxSteps:=9^9)only[Tryz.f235,↓zA,sevalprocAttr,gD,k1,eq_true k2,ba,eq_true c1,c2]
    .cases c3:am f.sb 1 1 bA
     .simp -implicitDefEqProofs(maxSteps:=9^9)only[Tryz.f235,↓zA,sevalprocAttr,gD,k1,eq_true k2,ba,eq_true c1,c2,kq,c3]
     .simp -implicitDefEqProofs(maxSteps:=9^9)only[Tryz.f235,↓zA,sevalprocAttr,gD,k1,eq_true k2,ba,eq_true c1,c2,kq,c3,w3,aW]
   .simp -implicitDefEqProofs(maxSteps:=9^9)only[Tryz.f235,↓zA,sevalprocAttr,gD,k1,eq_true k2,c1]
  .by_cases k3:f.kd=3∨f.kd=4∨f.kd=5
   .by_cases c1:f.nm=[]
    .by_cases c2:f.az=[]
     .by_cases c3:f.sb.length=0
      .cases c4:am f.ks 2 2 fw
       .rcases k3 with k3|k3|k3
        .simp -implicitDefEqProofs(maxSteps:=9^9)only[Tryz.f235,↓zA,sevalprocAttr,gD,k1,k2,eq_true k3,eq_true c1,eq_true c2,eq_true c3,ks,c4,aW,true_or]
        .simp -implicitDefEqProofs(maxSteps:=9^9)only[Tryz.f235,↓zA,sevalprocAttr,gD,k3,Int.reduceEq,eq_true c1,eq_true c2,eq_true c3,ks,c4,aW,true_or,or_true]
        .simp -implicitDefEqProofs(maxSteps:=9^9)only[Tryz.f235,↓zA,sevalprocAttr,gD,k3,Int.reduceEq,eq_true c1,eq_true c2,eq_true c3,ks,c4,aW,true_or,or_true]
       .rcases k3 with k3|k3|k3
        .simp -implicitDefEqProofs(maxSteps:=9^9)only[Tryz.f235,↓zA,sevalprocAttr,gD,k1,k2,eq_true k3,eq_true c1,eq_true c2,eq_true c3,ks,kx,c4,aW,true_or]
        .simp -implicitDefEqProofs(maxSteps:=9^9)only[Tryz.f235,↓zA,sevalprocAttr,gD,k3,Int.reduceEq,eq_true c1,eq_true c2,eq_true c3,ks,kx,c4,aW,true_or,or_true]
        .simp -implicitDefEqProofs(maxSteps:=9^9)only[Tryz.f235,↓zA,sevalprocAttr,gD,k3,Int.reduceEq,eq_true c1,eq_true c2,eq_true c3,ks,kx,c4,aW,true_or,or_true]
      .rcases k3 with k3|k3|k3
       .simp -implicitDefEqProofs(maxSteps:=9^9)only[Tryz.f235,↓zA,sevalprocAttr,gD,k3,Int.reduceEq,eq_true c1,eq_true c2,c3,aW,true_or,or_true]
       .simp -implicitDefEqProofs(maxSteps:=9^9)only[Tryz.f235,↓zA,sevalprocAttr,gD,k3,Int.reduceEq,eq_true c1,eq_true c2,c3,aW,true_or,or_true]
       .simp -implicitDefEqProofs(maxSteps:=9^9)only[Tryz.f235,↓zA,sevalprocAttr,gD,k3,Int.reduceEq,eq_true c1,eq_true c2,c3,aW,true_or,or_true]
     .rcases k3 with k3|k3|k3
      .simp -implicitDefEqProofs(maxSteps:=9^9)only[Tryz.f235,↓zA,sevalprocAttr,gD,k3,Int.reduceEq,eq_true c1,c2,true_or,or_true]
      .simp -implicitDefEqProofs(maxSteps:=9^9)only[Tryz.f235,↓zA,sevalprocAttr,gD,k3,Int.reduceEq,eq_true c1,c2,true_or,or_true]
      .simp -implicitDefEqProofs(maxSteps:=9^9)only[Tryz.f235,↓zA,sevalprocAttr,gD,k3,Int.reduceEq,eq_true c1,c2,true_or,or_true]
    .rcases k3 with k3|k3|k3
     .simp -implicitDefEqProofs(maxSteps:=9^9)only[Tryz.f235,↓zA,sevalprocAttr,gD,k3,Int.reduceEq,c1,true_or,or_true]
     .simp -implicitDefEqProofs(maxSteps:=9^9)only[Tryz.f235,↓zA,sevalprocAttr,gD,k3,Int.reduceEq,c1,true_or,or_true]
     .simp -implicitDefEqProofs(maxSteps:=9^9)only[Tryz.f235,↓zA,sevalprocAttr,gD,k3,Int.reduceEq,c1,true_or,or_true]
   .simp only[not_or] at k3
    simp -implicitDefEqProofs(maxSteps:=9^9)only[Tryz.f235,↓zA,sevalprocAttr,gD,k1,k2,k3,or_self]
theorem j5 (l:List Xp) (h:aev l) (hw:lsW xpW l≤WL) (K:An→Prop):aG Tryz.prog pr 149 [.of (slC xpC l)] [] K↔K ⟨false,[ah (am l 0 1 aK)],[]⟩:=ae.k (aGb l h hw) K
def gU:=ai (ai (ai (ai (ai @zq @aXQ) (ai @aP6 @aNJ)) (ai (ai @aP5 @aNI) (ai @aB9 (ai @axz @aCm)))) (ai (ai (ai @axM @afu) (ai @adT (ai @ald @ajg))) (ai (ai @bK @dY) (ai @jh (ai @gV @abx))))) (ai (ai (ai (ai @dR @ec) (ai @kQ (ai @hU @aCb))) (ai (ai @axB @aCa) (ai @axA (ai @aB8 @axy)))) (ai (ai (ai @abk @aau) (ai @ahE (ai @afE @P3))) (ai (ai @Q3 @Q4) (ai @zT0 (ai @awo (aw aKw))))))
theorem ayM (q:Qy) (hw:qyW q≤WL) (h1:anu q.ks) (h2:aHK q.its) (h3:aHL q.fr) (h4:aev q.wh) (h5:aev q.gr) (h6:aev q.hv):G1 144 [.of (.agg (qyC q))] (ah (bA q)):=by
 have hw2:=hw
 rw[gI] at hw2
 simp only[WL] at hw2
 have n2:=bh imW q.its fun x _=>abE x
 have n3:=bh fmW q.fr fun x _=>iX x
 have n4:=bh xpW q.wh fun x _=>gW x
 have n5:=bh xpW q.gr fun x _=>gW x
 have n6:=bh xpW q.hv fun x _=>gW x
 have kO:=zO (l:=q.od) (by simp only[WL];omega)
 have k1:=zQ h1 (by simp only[WL];omega)
 have k2:=zI h2 (by simp only[WL];omega)
 have k3:=zF h3 (by simp only[WL];omega)
 have k4:=j5 q.wh h4 (by simp only[WL];omega)
 have k5:=zX h5 (by simp only[WL];omega)
 have k6:=j5 q.hv h6 (by simp only[WL];omega)
 have w1:=af8 q.its.length q.fr.length (by simp only[WL];omega)
 have w2:=af8 (q.its.length+q.fr.length) q.wh.length (by simp only[WL];omega)
 have w3:=af8 (q.its.length+q.fr.length+q.wh.length) q.gr.length (by simp only[WL];omega)
 have w4:=af8 (q.its.length+q.fr.length+q.wh.length+q.gr.length) q.hv.length (by simp only[WL];omega)
 rw[aux]
 simp only[jD]
 refine aj rfl aKw awo rfl ?_
 by_cases a1:-1≤q.li
 rotate_left
 .simp -implicitDefEqProofs(maxSteps:=9^9)only[Tryz.f144,↓zA,sevalprocAttr,gU,kO,k1,k2,k3,k4,k5,k6,aW,w1,w2,w3,w4,or_true,true_or,or_self,a1,show q.li < -1 from by omega]
 have a1':¬q.li < -1:=by omega
 by_cases a2:q.li≤1000000000000000
 rotate_left
 .simp -implicitDefEqProofs(maxSteps:=9^9)only[Tryz.f144,↓zA,sevalprocAttr,gU,kO,k1,k2,k3,k4,k5,k6,aW,w1,w2,w3,w4,or_true,true_or,or_self,a1',a2,show 1000000000000000<q.li from by omega]
 have a2':¬1000000000000000<q.li:=by omega
 by_cases a3:0≤q.sk
 rotate_left
 .simp -implicitDefEqProofs(maxSteps:=9^9)only[Tryz.f144,↓zA,sevalprocAttr,gU,kO,k1,k2,k3,k4,k5,k6,aW,w1,w2,w3,w4,or_true,true_or,or_self,a1',a2',a3,show q.sk<0 from by omega]
 have a3':¬q.sk<0:=by omega
 by_cases a4:q.sk≤1000000000000000
 rotate_left
 .simp -implicitDefEqProofs(maxSteps:=9^9)only[Tryz.f144,↓zA,sevalprocAttr,gU,kO,k1,k2,k3,k4,k5,k6,aW,w1,w2,w3,w4,or_true,true_or,or_self,a1',a2',a3',a4,show 1000000000000000<q.sk from by omega]
 have a4':¬1000000000000000<q.sk:=by omega
 cases a5:am q.od 0 64 fA
 .simp -implicitDefEqProofs(maxSteps:=9^9)only[Tryz.f144,↓zA,sevalprocAttr,gU,kO,k1,k2,k3,k4,k5,k6,aW,w1,w2,w3,w4,or_true,true_or,or_self,a1',a2',a3',a4',a5]
 by_cases o1:q.op=1
 .cases b1:q.al
  rotate_left
  .simp -implicitDefEqProofs(maxSteps:=9^9)only[Tryz.f144,↓zA,sevalprocAttr,gU,kO,k1,k2,k3,k4,k5,k6,aW,w1,w2,w3,w4,or_true,true_or,or_self,a1,a2,a3,a4,a1',a2',a3',a4',a5,eq_true o1,b1]
  by_cases b2:q.ks.length=0
  rotate_left
  .simp -implicitDefEqProofs(maxSteps:=9^9)only[Tryz.f144,↓zA,sevalprocAttr,gU,kO,k1,k2,k3,k4,k5,k6,aW,w1,w2,w3,w4,or_true,true_or,or_self,a1,a2,a3,a4,a1',a2',a3',a4',a5,eq_true o1,b1,b2]
  cases b3:am q.its 1 64 je
  .simp -implicitDefEqProofs(maxSteps:=9^9)only[Tryz.f144,↓zA,sevalprocAttr,gU,kO,k1,k2,k3,k4,k5,k6,aW,w1,w2,w3,w4,or_true,true_or,or_self,a1,a2,a3,a4,a1',a2',a3',a4',a5,eq_true o1,b1,eq_true b2,b3]
  cases b4:am q.fr 0 1 gv
  .simp -implicitDefEqProofs(maxSteps:=9^9)only[Tryz.f144,↓zA,sevalprocAttr,gU,kO,k1,k2,k3,k4,k5,k6,aW,w1,w2,w3,w4,or_true,true_or,or_self,a1,a2,a3,a4,a1',a2',a3',a4',a5,eq_true o1,b1,eq_true b2,b3,b4]
  cases b5:am q.wh 0 1 aK
  .simp -implicitDefEqProofs(maxSteps:=9^9)only[Tryz.f144,↓zA,sevalprocAttr,gU,kO,k1,k2,k3,k4,k5,k6,aW,w1,w2,w3,w4,or_true,true_or,or_self,a1,a2,a3,a4,a1',a2',a3',a4',a5,eq_true o1,b1,eq_true b2,b3,b4,b5]
  cases b6:am q.gr 0 64 aK
  .simp -implicitDefEqProofs(maxSteps:=9^9)only[Tryz.f144,↓zA,sevalprocAttr,gU,kO,k1,k2,k3,k4,k5,k6,aW,w1,w2,w3,w4,or_true,true_or,or_self,a1,a2,a3,a4,a1',a2',a3',a4',a5,eq_true o1,b1,eq_true b2,b3,b4,b5,b6]
  simp -implicitDefEqProofs(maxSteps:=9^9)only[Tryz.f144,↓zA,sevalprocAttr,gU,kO,k1,k2,k3,k4,k5,k6,aW,w1,w2,w3,w4,or_true,true_or,or_self,a1,a2,a3,a4,a1',a2',a3',a4',a5,eq_true o1,b1,eq_true b2,b3,b4,b5,b6]
 .by_cases o2:q.op=2∨q.op=3∨q.op=4
  .cases b1:am q.ks 2 2 bA
   .rcases o2 with o2|o2|o2
    .simp -implicitDefEqProofs(maxSteps:=9^9)only[Tryz.f144,↓zA,sevalprocAttr,gU,kO,k1,k2,k3,k4,k5,k6,aW,w1,w2,w3,w4,or_true,true_or,or_self,a1,a2,a3,a4,a1',a2',a3',a4',a5,o2,Int.reduceEq,b1]
    .simp -implicitDefEqProofs(maxSteps:=9^9)only[Tryz.f144,↓zA,sevalprocAttr,gU,kO,k1,k2,k3,k4,k5,k6,aW,w1,w2,w3,w4,or_true,true_or,or_self,a1,a2,a3,a4,a1',a2',a3',a4',a5,o2,Int.reduceEq,b1]
    .simp -implicitDefEqProofs(maxSteps:=9^9)only[Tryz.f144,↓zA,sevalprocAttr,gU,kO,k1,k2,k3,k4,k5,k6,aW,w1,w2,w3,w4,or_true,true_or,or_self,a1,a2,a3,a4,a1',a2',a3',a4',a5,o2,Int.reduceEq,b1]
   .cases b2:q.di
    .rcases o2 with o2|o2|o2
     .simp -implicitDefEqProofs(maxSteps:=9^9)only[Tryz.f144,↓zA,sevalprocAttr,gU,kO,k1,k2,k3,k4,k5,k6,aW,w1,w2,w3,w4,or_true,true_or,or_self,a1,a2,a3,a4,a1',a2',a3',a4',a5,o2,Int.reduceEq,b1,b2]
     .simp -implicitDefEqProofs(maxSteps:=9^9)only[Tryz.f144,↓zA,sevalprocAttr,gU,kO,k1,k2,k3,k4,k5,k6,aW,w1,w2,w3,w4,or_true,true_or,or_self,a1,a2,a3,a4,a1',a2',a3',a4',a5,o2,Int.reduceEq,b1,b2]
     .simp -implicitDefEqProofs(maxSteps:=9^9)only[Tryz.f144,↓zA,sevalprocAttr,gU,kO,k1,k2,k3,k4,k5,k6,aW,w1,w2,w3,w4,or_true,true_or,or_self,a1,a2,a3,a4,a1',a2',a3',a4',a5,o2,Int.reduceEq,b1,b2]
    .rcases o2 with o2|o2|o2
     .simp -implicitDefEqProofs(maxSteps:=9^9)only[Tryz.f144,↓zA,sevalprocAttr,gU,kO,k1,k2,k3,k4,k5,k6,aW,w1,w2,w3,w4,or_true,true_or,or_self,a1,a2,a3,a4,a1',a2',a3',a4',a5,o2,Int.reduceEq,b1,b2]
     .simp -implicitDefEqProofs(maxSteps:=9^9)only[Tryz.f144,↓zA,sevalprocAttr,gU,kO,k1,k2,k3,k4,k5,k6,aW,w1,w2,w3,w4,or_true,true_or,or_self,a1,a2,a3,a4,a1',a2',a3',a4',a5,o2,Int.reduceEq,b1,b2]
     .simp -implicitDefEqProofs(maxSteps:=9^9)only[Tryz.f144,↓zA,sevalprocAttr,gU,kO,k1,k2,k3,k4,k5,k6,aW,w1,w2,w3,w4,or_true,true_or,or_self,a1,a2,a3,a4,a1',a2',a3',a4',a5,o2,Int.reduceEq,b1,b2]
  .simp only[not_or] at o2
   simp -implicitDefEqProofs(maxSteps:=9^9)only[Tryz.f144,↓zA,sevalprocAttr,gU,kO,k1,k2,k3,k4,k5,k6,aW,w1,w2,w3,w4,or_true,true_or,or_self,a1,a2,a3,a4,a1',a2',a3',a4',a5,o1,o2]
theorem ahA:∀ n,n≤WL→(∀ e,d8 e→xpW e≤n→G1 122 [.of (.agg (xpC e))] (ah (aK e)))∧(∀ e,jX e→qyW e≤n→G1 144 [.of (.agg (qyC e))] (ah (bA e)))
  ∧ (∀ e,aew e→imW e≤n→G1 193 [.of (.agg (imC e))] (ah (je e)))∧(∀ e,abc e→fmW e≤n→G1 235 [.of (.agg (fmC e))] (ah (fw e))∧G1 236 [.of (.agg (fmC e))] (ak (dz e)))
 | 0,_=>⟨fun e _ h=>by have:=gW e;omega,fun e _ h=>by have:=aaE e;omega,fun e _ h=>by have:=abE e;omega,fun e _ h=>by have:=iX e;omega⟩
 | n+1,hn=>by
  obtain⟨i1,i2,i3,i4⟩:=ahA n (by omega)
  have sX:∀ l:List Xp,lsP d8 l→lsW xpW l≤n+1→aev l:=fun l g h x hx=>i1 x (g x hx) (by have:=bg (w:=xpW) hx;omega)
  have sQ:∀ l:List Qy,lsP jX l→lsW qyW l≤n+1→anu l:=fun l g h x hx=>i2 x (g x hx) (by have:=bg (w:=qyW) hx;omega)
  have sI:∀ l:List Im,lsP aew l→lsW imW l≤n+1→aHK l:=fun l g h x hx=>i3 x (g x hx) (by have:=bg (w:=imW) hx;omega)
  have sS:∀ l:List Fm,lsP abc l→lsW fmW l≤n+1→aHJ l:=fun l g h x hx=>(i4 x (g x hx) (by have:=bg (w:=fmW) hx;omega)).1
  have sT:∀ l:List Fm,lsP abc l→lsW fmW l≤n+1→aUu l:=fun l g h x hx=>(i4 x (g x hx) (by have:=bg (w:=fmW) hx;omega)).2
  have sF:∀ l:List Fm,lsP abc l→lsW fmW l≤n+1→aHL l:=fun l g h x hx=>aEp x (sS l g h x hx) (sT l g h x hx)
  refine⟨fun e g h=>?_,fun e g h=>?_,fun e g h=>?_,fun e g h=>?_⟩
  .have h':=jB e
   rw[ax3] at g
   exact aEv e (by omega) g.2.1.2 (sX _ g.2.2.2.2.2.1 (by omega)) (sQ _ g.2.2.2.2.2.2 (by omega))
  .have h':=gI e
   rw[ax4] at g
   obtain⟨_,_,g1,_,g2,g3,g4,g5,g6,_⟩:=g
   exact ayM e (by omega) (sQ _ g1 (by omega)) (sI _ g2 (by omega)) (sF _ g3 (by omega)) (sX _ g4 (by omega)) (sX _ g5 (by omega)) (sX _ g6 (by omega))
  .have h':=abo e
   rw[ax5] at g
   exact aEf e (by omega) (i1 _ g.2.2.1 (by omega))
  .have h':=gK e
   rw[ax6] at g
   obtain⟨_,_,_,g1,g2,g3⟩:=g
   exact⟨asV e (by omega) (sQ _ g1 (by omega)) (sS _ g2 (by omega)) (sX _ g3 (by omega)),asO e (by omega) (sT _ g2 (by omega))⟩
theorem dQ (l:List Xp) (g:lsP d8 l) (h:lsW xpW l≤WL):aev l:=fun x hx=>(ahA WL (Nat.le_refl _)).1 x (g x hx) (by have:=bg (w:=xpW) hx;omega)
theorem jN (l:List Qy) (g:lsP jX l) (h:lsW qyW l≤WL):anu l:=fun x hx=>(ahA WL (Nat.le_refl _)).2.1 x (g x hx) (by have:=bg (w:=qyW) hx;omega)
def aOH:=ai (ai (ai @zq (ai @aXn @aca)) (ai @aa5 (ai @aIl @aEP))) (ai (ai @abk (ai @aau @bK)) (ai @zT0 (ai @aC9 (aw aR8))))
theorem aFt (e:Xp) (h:d8 e∧xpW e≤WL):G1 81 [.of (.agg (xpC e))] (ah (dZ e)):=by
 have k1:=fun K=>ae.k ((ad4 WL (Nat.le_refl _)).1 e h.2) K
 have k2:=fun K=>ae.k ((ahA WL (Nat.le_refl _)).1 e h.1 h.2) K
 refine aj rfl aR8 aC9 rfl ?_
 cases c:iB (bk e)
 .simp -implicitDefEqProofs(maxSteps:=9^9)only[Tryz.f81,↓zA,sevalprocAttr,aOH,k1,alI,c,dZ]
 .simp -implicitDefEqProofs(maxSteps:=9^9)only[Tryz.f81,↓zA,sevalprocAttr,aOH,k1,k2,alI,c,dZ]
theorem jS:1≤LIM:=by decide
theorem agc (a b:List Cd) (l:List Int):db a b [] l=true:=by unfold db;rfl
def aVz:=ai (ai (ai @zq @aX0) (ai @aq7 (ai @anh @il))) (ai (ai @aaC @cV) (ai @zT0 (ai @awN (aw aKV))))
theorem aqB (k:Ky) (f:Rf) (h:k.cs.length≤4611686018427387903):G1 119 [.of (.agg (kyC k)),.of (.ref [slC aV f.cs,ao (ar f.tb),slC aV f.to])] (ah (decide (k.cs=f.to))):=by
 have ke:=fun K=>anz k.cs f.to h K
 have er:eqR (fun x y=>decide (x=y)) k.cs f.to=decide (k.cs=f.to):=afB _ _ _ fun _ _ _ _=>rfl
 refine aj rfl aKV awN rfl ?_
 simp -implicitDefEqProofs(maxSteps:=9^9)only[Tryz.f119,↓zA,sevalprocAttr,aVz,ke,er]
def adW:=ai (ai (ai (ai @zq (ai @aX4 @aX3)) (ai @aX2 (ai @agu @aeq))) (ai (ai @aX1 (ai @ayX @ar3)) (ai (ai @ayV @ar1) (ai @cU @dH)))) (ai (ai (ai @dw (ai @aaC @il)) (ai @cE (ai @cV @aCv))) (ai (ai @axV (ai @Q9 @P3)) (ai (ai @Q3 @zT0) (ai @aDc (aw aSb)))))
theorem aoH (c:Ct) (t:Tb) (f:Rf) (hc:CtB c) (hf1:f.cs.length≤LB) (hf2:f.to.length≤LB):G1 78 [.of (.agg (ctC c)),.of (.agg (tbC t)),.of (.agg (rfC f))] (ah (d5 c t f)):=by
 have h1:=hc.t
 have hlb:LB=1073741824:=rfl
 have hq:f.cs.length≤4611686018427387903:=by omega
 have kf:=fun K=>ae.k (aaT c f.tb (by omega)) K
 refine aj rfl aSb aDc rfl ?_
 cases hf:bx c f.tb with
 | none =>
  have F:d5 c t f=false:=by unfold d5;rw[hf]
  simp -implicitDefEqProofs(maxSteps:=9^9)only[Tryz.f78,↓zA,sevalprocAttr,adW,kf,hf,aaH,F]
 | some o =>
  have ho:=hc.tb o (aa1 hf).1
  have ho1:=ho.k
  have ho2:=ho.kc
  have kc:=fun K=>ajp o.kys (fun k=>decide (k.cs=f.to)) 119 [.ref [slC aV f.cs,ao (ar f.tb),slC aV f.to]] ⟨by omega,aCv,axV,fun k hk=>aqB k f (by have:=ho2 k hk;omega)⟩ K
  have ek:(o.kys.any fun k=>decide (k.cs=f.to))=fF o.kys f.to:=rfl
  have hr:d5 c t f=(bN f.cs t.cs.length&&decide (f.to.length=f.cs.length)&&fF o.kys f.to&&db t.cs o.cs f.cs f.to):=by unfold d5;rw[hf]
  have el:((f.to.length:Int)=(f.cs.length:Int))=(f.to.length=f.cs.length):=propext (by omega)
  cases b1:bN f.cs t.cs.length
  .have F:d5 c t f=false:=by rw[hr];simp[b1]
   simp -implicitDefEqProofs(maxSteps:=9^9)only[Tryz.f78,↓zA,sevalprocAttr,adW,kf,hf,fq,fX,hq,kc,ek,el,b1,F]
  by_cases c2:f.to.length=f.cs.length
  rotate_left
  .have F:d5 c t f=false:=by rw[hr];simp[c2]
   simp -implicitDefEqProofs(maxSteps:=9^9)only[Tryz.f78,↓zA,sevalprocAttr,adW,kf,hf,fq,fX,hq,kc,ek,el,b1,c2,F]
  cases b3:fF o.kys f.to
  .have F:d5 c t f=false:=by rw[hr];simp[b3]
   simp -implicitDefEqProofs(maxSteps:=9^9)only[Tryz.f78,↓zA,sevalprocAttr,adW,kf,hf,fq,fX,hq,kc,ek,el,b1,eq_true c2,b3,F]
  have F:d5 c t f=db t.cs o.cs f.cs f.to:=by rw[hr];simp[b1,c2,b3]
  rw[F]
  have hin:=((Go.Tab.within_iff _ _).1 b1).2.2
  simp -implicitDefEqProofs(maxSteps:=9^9)only[Tryz.f78,↓zA,sevalprocAttr,adW,kf,hf,fq,fX,hq,kc,ek,el,b1,eq_true c2,b3]
  refine aL (f.cs.length) (fun k tk=>tk.fr 4=.of (.ref [ao (ar t.nm),ci t.id,slC cdC t.cs,slC kyC t.kys,slC rfC t.rfs,slC xpC t.chs])∧tk.fr 5=.of (.ref [slC aV f.cs,ao (ar f.tb),slC aV f.to])∧tk.fr 7=.of (.ref [ao (ar o.nm),ci o.id,slC cdC o.cs,slC kyC o.kys,slC rfC o.rfs,slC xpC o.chs])∧tk.fr 46=.of (slC aV f.cs)∧tk.fr 47=ak f.cs.length∧tk.fr 48=ak k∧tk.objs=[]∧db t.cs o.cs f.cs f.to=db t.cs o.cs (f.cs.drop k) (f.to.drop k)) ?_ ?_
  .simp -implicitDefEqProofs(maxSteps:=9^9)only[Tryz.f78,↓zA,sevalprocAttr,adW]
   try exact rfl
  rintro k ⟨frk,obk,ckk⟩ hk ⟨f4,f5,f7,f46,f47,f48,fo,Ek⟩
  dsimp only at f4 f5 f7 f46 f47 f48 fo
  rcases Nat.lt_or_ge k (f.cs.length) with dk|dk
  .have hw:=aQ k (by omega)
   have gx:=ap dk
   have dk':k<f.to.length:=by omega
   have gy:=ap dk'
   obtain⟨i,hi⟩:=Int.eq_ofNat_of_zero_le (hin _ (List.getElem_mem dk)).1
   have hi2:=(hin _ (List.getElem_mem dk)).2
   rw[aJ dk,aJ dk',db] at Ek
   rw[hi] at hi2 gx Ek
   have hi3:i<t.cs.length:=by omega
   have ga:=ap hi3
   have ea:kj t.cs (i:Int)=some t.cs[i].ty:=by simp[kj,hi3]
   rw[ea] at Ek
   generalize t.cs[i]=p at *
   generalize f.to[k]=y at *
   have e1:(y<0)=¬(0≤y):=azh y
   have e2:((o.cs.length:Int)≤y)=¬(y<(o.cs.length:Int)):=agE _ _
   by_cases c5:0≤y
   rotate_left
   .have F:db t.cs o.cs f.cs f.to=false:=by rw[Ek];simp[c5]
    simp -implicitDefEqProofs(maxSteps:=9^9)only[Tryz.f78,↓zA,sevalprocAttr,adW,f4,f5,f7,f46,f47,f48,fo,aa,dk,gx,gy,hw,e1,e2,ga,c5,F]
   by_cases c6:y<(o.cs.length:Int)
   rotate_left
   .have F:db t.cs o.cs f.cs f.to=false:=by rw[Ek];simp[c6]
    simp -implicitDefEqProofs(maxSteps:=9^9)only[Tryz.f78,↓zA,sevalprocAttr,adW,f4,f5,f7,f46,f47,f48,fo,aa,dk,gx,gy,hw,e1,e2,ga,c5,c6,F]
   obtain⟨j,rfl⟩:=Int.eq_ofNat_of_zero_le c5
   have hj3:j<o.cs.length:=by omega
   have gb:=ap hj3
   have eb:kj o.cs (j:Int)=some o.cs[j].ty:=by simp[kj,hj3]
   rw[eb] at Ek
   generalize o.cs[j]=q at *
   by_cases c7:p.ty=q.ty
   .have F:db t.cs o.cs f.cs f.to=db t.cs o.cs (f.cs.drop (k+1)) (f.to.drop (k+1)):=by rw[Ek,decide_eq_true c5,decide_eq_true c6,decide_eq_true (congrArg some c7)];rfl
    simp -implicitDefEqProofs(maxSteps:=9^9)only[Tryz.f78,↓zA,sevalprocAttr,adW,f4,f5,f7,f46,f47,f48,fo,aa,dk,gx,gy,hw,e1,e2,ga,eq_true c5,eq_true c6,gb,eq_true c7,F]
   .have F:db t.cs o.cs f.cs f.to=false:=by rw[Ek,decide_eq_false (fun e:some p.ty=some q.ty=>c7 (Option.some.inj e)),Bool.and_false,Bool.false_and]
    simp -implicitDefEqProofs(maxSteps:=9^9)only[Tryz.f78,↓zA,sevalprocAttr,adW,f4,f5,f7,f46,f47,f48,fo,aa,dk,gx,gy,hw,e1,e2,ga,eq_true c5,eq_true c6,gb,c7,F]
  .have e:k=f.cs.length:=by omega
   subst e
   rw[List.drop_length,agc] at Ek
   simp -implicitDefEqProofs(maxSteps:=9^9)only[Tryz.f78,↓zA,sevalprocAttr,adW,f4,f5,f7,f46,f47,f48,fo,aa,Nat.lt_irrefl,Ek]
def aa6:=ai (ai (ai (ai @zq @aXZ) (ai @aXY @aIp)) (ai (ai @aET @ak9) (ai @aif @dH))) (ai (ai (ai @dw @cE) (ai @bH @Q9)) (ai (ai @P3 @Q3) (ai @zT0 (ai @aDf (aw aSd)))))
theorem arU (t:Tb) (ht:TbB t):G1 76 [.of (.agg (tbC t))] (ah (ig t)):=by
 have h1:=ht.c
 have h2:=ht.n
 have hlb:LB=1073741824:=rfl
 have hn:∀ d∈t.cs,d.nm.length≤4611686018427387903:=fun d hd=>by have:=ht.cn d hd;omega
 refine aj rfl aSd aDf rfl ?_
 simp -implicitDefEqProofs(maxSteps:=9^9)only[Tryz.f76,↓zA,sevalprocAttr,aa6]
 refine aL (t.cs.length) (fun k tk=>tk.fr 1=.of (.ref [ao (ar t.nm),ci t.id,slC cdC t.cs,slC kyC t.kys,slC rfC t.rfs,slC xpC t.chs])∧tk.fr 7=.of (slC cdC t.cs)∧tk.fr 8=ak t.cs.length∧tk.fr 9=ak k∧tk.objs=[]∧t.cs.all bR=(t.cs.drop k).all bR∧((k=0∧tk.fr 3=.nil)∨∃ s3,Old tk.clk s3∧tk.fr 3=.own s3 9 1 (fl bd ((t.cs.map Cd.nm).take k)) k)) ?_ ?_
 .simp -implicitDefEqProofs(maxSteps:=9^9)only[Tryz.f76,↓zA,sevalprocAttr,aa6]
  exact .inl trivial
 rintro k ⟨frk,obk,ckk⟩ hk ⟨f1,f7,f8,f9,fo,Ek,hO⟩
 dsimp only at f1 f7 f8 f9 fo hO
 rcases Nat.lt_or_ge k (t.cs.length) with dk|dk
 .have hw:=aQ k (by omega)
  have gx:=ap dk
  have dk':k<(t.cs.map Cd.nm).length:=by rw[List.length_map];exact dk
  have ek:(t.cs.map Cd.nm).take (k+1)=(t.cs.map Cd.nm).take k++[t.cs[k].nm]:=by rw[gR dk',List.getElem_map]
  have hnm:=hn _ (List.getElem_mem dk)
  rw[aJ dk,hM] at Ek
  rw[ek,dD,d6]
  generalize t.cs[k]=x at *
  have hk1:k+1≤LIM:=by unfold LIM;omega
  have hok:bR x=(aA x.nm&&decide (1≤x.ty)&&decide (x.ty≤3)):=rfl
  cases b1:aA x.nm
  .have F:ig t=false:=by unfold ig;rw[Ek,hok,b1];rfl
   simp -implicitDefEqProofs(maxSteps:=9^9)only[Tryz.f76,↓zA,sevalprocAttr,aa6,f1,f7,f8,f9,fo,aa,dk,gx,hw,fH,hnm,b1,F]
  by_cases c2:x.ty=1∨x.ty=2∨x.ty=3
  rotate_left
  .have n1:¬x.ty=1:=fun h=>c2 (.inl h)
   have n2:¬x.ty=2:=fun h=>c2 (.inr (.inl h))
   have n3:¬x.ty=3:=fun h=>c2 (.inr (.inr h))
   have n4:(decide (1≤x.ty)&&decide (x.ty≤3))=false:=by
    cases h:(decide (1≤x.ty)&&decide (x.ty≤3)) with
    | false=>rfl
    | true=>rw[Bool.and_eq_true,decide_eq_true_eq,decide_eq_true_eq] at h;omega
   have hok':bR x=false:=by rw[hok,Bool.and_assoc,n4,Bool.and_false]
   have F:ig t=false:=by unfold ig;rw[Ek,hok',Bool.false_and];rfl
   simp -implicitDefEqProofs(maxSteps:=9^9)only[Tryz.f76,↓zA,sevalprocAttr,aa6,f1,f7,f8,f9,fo,aa,dk,gx,hw,fH,hnm,b1,n1,n2,n3,F]
  have F:t.cs.all bR=(t.cs.drop (k+1)).all bR:=by
   rw[Ek,hok,b1,decide_eq_true (show 1≤x.ty by omega),decide_eq_true (show x.ty≤3 by omega)];rfl
  rcases hO with ⟨hk0,f3⟩|⟨s3,so,f3⟩
  .rcases c2 with c2|c2|c2
   .have n1:(x.ty=1)=True:=eq_true c2
    have n2:(x.ty=2)=False:=eq_false (by omega)
    have n3:(x.ty=3)=False:=eq_false (by omega)
    simp -implicitDefEqProofs(maxSteps:=9^9)only[Tryz.f76,↓zA,sevalprocAttr,aa6,f1,f7,f8,f9,fo,aa,dk,gx,hw,fH,hnm,b1,n1,n2,n3,f3,hk1,jS]
    subst hk0
    refine⟨F,_,?_,rfl⟩
    rw[Z68];omega
   .have n1:(x.ty=1)=False:=eq_false (by omega)
    have n2:(x.ty=2)=True:=eq_true c2
    have n3:(x.ty=3)=False:=eq_false (by omega)
    simp -implicitDefEqProofs(maxSteps:=9^9)only[Tryz.f76,↓zA,sevalprocAttr,aa6,f1,f7,f8,f9,fo,aa,dk,gx,hw,fH,hnm,b1,n1,n2,n3,f3,hk1,jS]
    subst hk0
    refine⟨F,_,?_,rfl⟩
    rw[Z68];omega
   .have n1:(x.ty=1)=False:=eq_false (by omega)
    have n2:(x.ty=2)=False:=eq_false (by omega)
    have n3:(x.ty=3)=True:=eq_true c2
    simp -implicitDefEqProofs(maxSteps:=9^9)only[Tryz.f76,↓zA,sevalprocAttr,aa6,f1,f7,f8,f9,fo,aa,dk,gx,hw,fH,hnm,b1,n1,n2,n3,f3,hk1,jS]
    subst hk0
    refine⟨F,_,?_,rfl⟩
    rw[Z68];omega
  .rcases c2 with c2|c2|c2
   .have n1:(x.ty=1)=True:=eq_true c2
    have n2:(x.ty=2)=False:=eq_false (by omega)
    have n3:(x.ty=3)=False:=eq_false (by omega)
    have hne:=fun ix i=>ib so (Nat.le_succ ckk) ix i
    simp -implicitDefEqProofs(maxSteps:=9^9)only[Tryz.f76,↓zA,sevalprocAttr,aa6,f1,f7,f8,f9,fo,aa,dk,gx,hw,fH,hnm,b1,n1,n2,n3,f3,hk1,jS,hne]
    refine⟨okT so (by omega) _,F,_,?_,rfl⟩
    rw[Z68];omega
   .have n1:(x.ty=1)=False:=eq_false (by omega)
    have n2:(x.ty=2)=True:=eq_true c2
    have n3:(x.ty=3)=False:=eq_false (by omega)
    have hne:=fun ix i=>ib so (Nat.le_succ ckk) ix i
    simp -implicitDefEqProofs(maxSteps:=9^9)only[Tryz.f76,↓zA,sevalprocAttr,aa6,f1,f7,f8,f9,fo,aa,dk,gx,hw,fH,hnm,b1,n1,n2,n3,f3,hk1,jS,hne]
    refine⟨okT so (by omega) _,F,_,?_,rfl⟩
    rw[Z68];omega
   .have n1:(x.ty=1)=False:=eq_false (by omega)
    have n2:(x.ty=2)=False:=eq_false (by omega)
    have n3:(x.ty=3)=True:=eq_true c2
    have hne:=fun ix i=>ib so (Nat.le_succ ckk) ix i
    simp -implicitDefEqProofs(maxSteps:=9^9)only[Tryz.f76,↓zA,sevalprocAttr,aa6,f1,f7,f8,f9,fo,aa,dk,gx,hw,fH,hnm,b1,n1,n2,n3,f3,hk1,jS,hne]
    refine⟨okT so (by omega) _,F,_,?_,rfl⟩
    rw[Z68];omega
 .have e:k=t.cs.length:=by omega
  subst e
  rw[List.drop_length,List.all_nil] at Ek
  have hl:(t.cs.map Cd.nm).length=t.cs.length:=List.length_map ..
  have et:(t.cs.map Cd.nm).take t.cs.length=t.cs.map Cd.nm:=List.take_of_length_le (by omega)
  have hu:(t.cs.map Cd.nm).length≤4611686018427387903:=by omega
  have hu2:t.cs.length≤4611686018427387903:=by omega
  have e16:((t.cs.length:Int)≤16)=(t.cs.length≤16):=propext (by omega)
  have hC:ig t=(aA t.nm&&(decide (0<t.cs.length)&&(decide (t.cs.length≤16)&&decide (t.cs.map Cd.nm).Nodup))):=by
   unfold ig aE
   rw[Ek,Bool.true_and]
   simp only[Bool.and_assoc]
   rfl
  rw[hC]
  have h2':t.nm.length≤4611686018427387903:=by omega
  cases b1:aA t.nm
  .rcases hO with ⟨hk0,f3⟩|⟨s3,so,f3⟩
   .simp -implicitDefEqProofs(maxSteps:=9^9)only[Tryz.f76,↓zA,sevalprocAttr,aa6,f1,f7,f8,f9,fo,aa,Nat.lt_irrefl,fH,h2',b1,f3]
   .simp -implicitDefEqProofs(maxSteps:=9^9)only[Tryz.f76,↓zA,sevalprocAttr,aa6,f1,f7,f8,f9,fo,aa,Nat.lt_irrefl,fH,h2',b1,f3]
  rcases hO with ⟨hk0,f3⟩|⟨s3,so,f3⟩
  .have c0:¬0<t.cs.length:=by omega
   simp -implicitDefEqProofs(maxSteps:=9^9)only[Tryz.f76,↓zA,sevalprocAttr,aa6,f1,f7,f8,f9,fo,aa,Nat.lt_irrefl,fH,h2',b1,f3,c0]
  rw[et] at f3
  by_cases c1:0<t.cs.length
  rotate_left
  .simp -implicitDefEqProofs(maxSteps:=9^9)only[Tryz.f76,↓zA,sevalprocAttr,aa6,f1,f7,f8,f9,fo,aa,Nat.lt_irrefl,fH,h2',b1,f3,bS,c1]
  by_cases c2:t.cs.length≤16
  rotate_left
  .simp -implicitDefEqProofs(maxSteps:=9^9)only[Tryz.f76,↓zA,sevalprocAttr,aa6,f1,f7,f8,f9,fo,aa,Nat.lt_irrefl,fH,h2',b1,f3,bS,c1,e16,c2]
  have ku:=fun K=>ae.k (jc (t.cs.map Cd.nm) hu) K
  have es:C.sl (fl bd (t.cs.map Cd.nm)) t.cs.length=slC bd (t.cs.map Cd.nm):=by unfold slC;rw[hl]
  simp -implicitDefEqProofs(maxSteps:=9^9)only[Tryz.f76,↓zA,sevalprocAttr,aa6,f1,f7,f8,f9,fo,aa,Nat.lt_irrefl,fH,h2',b1,f3,bS,c1,e16,c2,es,ku]
def a0r:=ai (ai (ai @zq @aY8) (ai @aWq @aTL)) (ai (ai @bK @zT0) (ai @aDa (aw aR9)))
theorem aBi (e:Xp) (h:d8 e∧xpW e≤WL):G1 80 [.of (.agg (xpC e))] (ah (!dZ e)):=by
 have ke:=fun K=>ae.k (aFt e h) K
 refine aj rfl aR9 aDa rfl ?_
 simp -implicitDefEqProofs(maxSteps:=9^9)only[Tryz.f80,↓zA,sevalprocAttr,a0r,ke]
theorem aan {α:Type} (a b:α):ey [a,b] 0=some a:=rfl
theorem aam {α:Type} (a b:α):ey [a,b] 1=some b:=rfl
theorem afn (b:List Int):C.ref (lsC aV b)=C.ref [slC aV b]:=rfl
theorem afm (b:List Ix):C.ref (lsC ixC b)=C.ref [slC ixC b]:=rfl
theorem aai {α:Type} (f:α→List C) (a b:List α):C.sl (fl f a++fl f b) (a.length+b.length)=slC f (a++b):=by
 unfold slC
 rw[dD,List.length_append]
theorem jq:IntKind.i64.wrap 1=1:=rfl
theorem jp:IntKind.i64.wrap 2=2:=rfl
theorem aOA (n:Int) (h:0≤n∧n≤1048576) (K:An→Prop):aG Tryz.prog pr 74 [.nil,.of (ci n)] [] K↔K ⟨false,[.own (.nm 0 0 0) 3 1 [] 0],[]⟩:=ae.k (ae.of_prim (by simp[pr,abA,aeW,h])) K
theorem aFs (n:Int) (h:0≤n∧n≤1048576) (K:An→Prop):aG Tryz.prog pr 98 [.nil,.of (ci n)] [] K↔K ⟨false,[.own (.nm 0 0 0) 60 5 [] 0],[]⟩:=ae.k (ae.of_prim (by simp[pr,abA,aeW,h])) K
def ajO:=ai (ai (ai @zq @aWv) (ai @aTQ @cV)) (ai (ai @ap0 @zT0) (ai @aDX (aw aSU)))
theorem aA3 (a b:List Int) (h:a.length+b.length≤1048576):G1 26 [.of (slC (lsC aV) [a,b])] (.of (slC aV (a++b))):=by
 have hw1:IntKind.i64.wrap (a.length:Int)=(a.length:Int):=da _ (by omega) (by omega)
 have hw2:IntKind.i64.wrap ((a.length:Int)+(b.length:Int))=(a.length:Int)+(b.length:Int):=da _ (by omega) (by omega)
 have n1:((a.length:Int)<0)=False:=by simp only[eq_iff_iff,iff_false];omega
 have n2:((a.length:Int)+(b.length:Int)<0)=False:=by simp only[eq_iff_iff,iff_false];omega
 have l1:a.length≤LIM:=by unfold LIM;omega
 have l2:a.length+b.length≤LIM:=by unfold LIM;omega
 have kg:=fun K=>aOA ((a.length:Int)+(b.length:Int)) (by omega) K
 have ez:∀ n:Int,(0:Int)+n=n:=Int.zero_add
 refine aj rfl aSU aDX rfl ?_
 simp -implicitDefEqProofs(maxSteps:=9^9)only[Tryz.f26,↓zA,sevalprocAttr,ajO]
 rw[jb]
 simp -implicitDefEqProofs(maxSteps:=9^9)only[Tryz.f26,↓zA,sevalprocAttr,ajO,aan,aam,afn,jq,jp,ez,hw1,hw2,n1,n2,kg,l1,l2,aai]
 rw[jb]
 simp -implicitDefEqProofs(maxSteps:=9^9)only[Tryz.f26,↓zA,sevalprocAttr,ajO,aan,aam,afn,jq,jp,ez,hw1,hw2,n1,n2,kg,l1,l2,aai]
 rw[jb]
 simp -implicitDefEqProofs(maxSteps:=9^9)only[Tryz.f26,↓zA,sevalprocAttr,ajO,aan,aam,afn,jq,jp,ez,hw1,hw2,n1,n2,kg,l1,l2,aai]
 rw[jb]
 simp -implicitDefEqProofs(maxSteps:=9^9)only[Tryz.f26,↓zA,sevalprocAttr,ajO,aan,aam,afn,jq,jp,ez,hw1,hw2,n1,n2,kg,l1,l2,aai]
 rw[jb]
 simp -implicitDefEqProofs(maxSteps:=9^9)only[Tryz.f26,↓zA,sevalprocAttr,ajO,aan,aam,afn,jq,jp,ez,hw1,hw2,n1,n2,kg,l1,l2,aai]
 rw[jb]
 simp -implicitDefEqProofs(maxSteps:=9^9)only[Tryz.f26,↓zA,sevalprocAttr,ajO,aan,aam,afn,jq,jp,ez,hw1,hw2,n1,n2,kg,l1,l2,aai]
def ajN:=ai (ai (ai @zq @aWk) (ai @aTF @fb)) (ai (ai @cW @ag8) (ai @zT0 (ai @aDB (aw aSz))))
theorem asG (a b:List Ix) (h:a.length+b.length≤1048576):G1 48 [.of (slC (lsC ixC) [a,b])] (.of (slC ixC (a++b))):=by
 have hw1:IntKind.i64.wrap (a.length:Int)=(a.length:Int):=da _ (by omega) (by omega)
 have hw2:IntKind.i64.wrap ((a.length:Int)+(b.length:Int))=(a.length:Int)+(b.length:Int):=da _ (by omega) (by omega)
 have n1:((a.length:Int)<0)=False:=by simp only[eq_iff_iff,iff_false];omega
 have n2:((a.length:Int)+(b.length:Int)<0)=False:=by simp only[eq_iff_iff,iff_false];omega
 have l1:a.length≤LIM:=by unfold LIM;omega
 have l2:a.length+b.length≤LIM:=by unfold LIM;omega
 have kg:=fun K=>aFs ((a.length:Int)+(b.length:Int)) (by omega) K
 have ez:∀ n:Int,(0:Int)+n=n:=Int.zero_add
 refine aj rfl aSz aDB rfl ?_
 simp -implicitDefEqProofs(maxSteps:=9^9)only[Tryz.f48,↓zA,sevalprocAttr,ajN]
 rw[jb]
 simp -implicitDefEqProofs(maxSteps:=9^9)only[Tryz.f48,↓zA,sevalprocAttr,ajN,aan,aam,afm,jq,jp,ez,hw1,hw2,n1,n2,kg,l1,l2,aai]
 rw[jb]
 simp -implicitDefEqProofs(maxSteps:=9^9)only[Tryz.f48,↓zA,sevalprocAttr,ajN,aan,aam,afm,jq,jp,ez,hw1,hw2,n1,n2,kg,l1,l2,aai]
 rw[jb]
 simp -implicitDefEqProofs(maxSteps:=9^9)only[Tryz.f48,↓zA,sevalprocAttr,ajN,aan,aam,afm,jq,jp,ez,hw1,hw2,n1,n2,kg,l1,l2,aai]
 rw[jb]
 simp -implicitDefEqProofs(maxSteps:=9^9)only[Tryz.f48,↓zA,sevalprocAttr,ajN,aan,aam,afm,jq,jp,ez,hw1,hw2,n1,n2,kg,l1,l2,aai]
 rw[jb]
 simp -implicitDefEqProofs(maxSteps:=9^9)only[Tryz.f48,↓zA,sevalprocAttr,ajN,aan,aam,afm,jq,jp,ez,hw1,hw2,n1,n2,kg,l1,l2,aai]
 rw[jb]
 simp -implicitDefEqProofs(maxSteps:=9^9)only[Tryz.f48,↓zA,sevalprocAttr,ajN,aan,aam,afm,jq,jp,ez,hw1,hw2,n1,n2,kg,l1,l2,aai]
theorem aPn {l:List Ky} {k:Nat} (h:k<l.length):((l.take (k+1)).filter Ky.pr).length=((l.take k).filter Ky.pr).length+(if l[k].pr then 1 else 0):=by
 rw[gR h,List.filter_append,List.length_append]
 cases hb:l[k].pr <;> simp[hb]
theorem aLN (l:List Ky) (k:Nat):((l.take k).filter Ky.pr).length≤i8 l:=by
 unfold i8
 conv=>rhs;rw[← List.take_append_drop k l,List.filter_append,List.length_append]
 omega
theorem aGz (c:Ct) (t:Tb) (n:Nat) (k:Ky) (r:List Ky):gZ c t n (k::r)=(hJ c t k (n+1)&&gZ c t (n+1) r):=rfl
def abY:=ai (ai (ai (ai @zq (ai @aXX @aXW)) (ai @aWt (ai @aTO @aZa))) (ai (ai @aWs (ai @aTN @aY9)) (ai (ai @aWr @aTM) (ai @aIr @aEV)))) (ai (ai (ai @cU (ai @dH @il)) (ai @aaC (ai @bK @kb))) (ai (ai @abM (ai @aIq @aEU)) (ai (ai @Q4 @zT0) (ai @aDT (aw aSQ)))))
theorem aqu (c:Ct) (t:Tb) (hc:CtB c) (ht:TbB t):G1 30 [.of (.agg (ctC c)),.of (.agg (tbC t))] (ah (dJ c t)):=by
 have hlb:LB=1073741824:=rfl
 have h1:=ht.k
 have h2:=ht.f
 have h3:=ht.kc
 have h4:=ht.fc
 have h5:=ht.ft
 have h6:=ht.h
 have h7:=ht.n
 have n1:=eA xpW t.chs fun x=>gW x
 have kc:=fun K=>ae.k (arU t ht) K
 have kx:=fun K=>asL t.chs (fun e=>!dZ e) 80 [] ⟨by omega,aIq,aEU,fun e he=>aBi e ⟨ht.o e he,by have:=bg (w:=xpW) he;simp only[WL];omega⟩⟩ K
 have ea:(t.chs.any fun e=>!dZ e)=!(t.chs.all dZ):=ii _ _
 have hT:dJ c t=(ig t&&(decide (i8 t.kys≤1)&&(gZ c t 0 t.kys&&(t.rfs.all (d5 c t)&&t.chs.all dZ)))):=by unfold dJ;simp only[Bool.and_assoc]
 refine aj rfl aSQ aDT rfl ?_
 cases b0:ig t
 .have F:dJ c t=false:=by rw[hT,b0];rfl
  simp -implicitDefEqProofs(maxSteps:=9^9)only[Tryz.f30,↓zA,sevalprocAttr,abY,kc,b0,F]
 simp -implicitDefEqProofs(maxSteps:=9^9)only[Tryz.f30,↓zA,sevalprocAttr,abY,kc,b0]
 refine aL (t.kys.length) (fun k tk=>tk.fr 2=.of (.ref [slC tbC c.tbs,slC ixC c.ixs,ci c.nx])∧tk.fr 3=.of (.ref [ao (ar t.nm),ci t.id,slC cdC t.cs,slC kyC t.kys,slC rfC t.rfs,slC xpC t.chs])∧tk.fr 14=.of (slC kyC t.kys)∧tk.fr 15=ak t.kys.length∧tk.fr 5=ak (((t.kys.take k).filter Ky.pr).length:Nat)∧tk.fr 16=ak k∧tk.objs=[]∧gZ c t 0 t.kys=gZ c t k (t.kys.drop k)∧((t.kys.take k).filter Ky.pr).length≤1) ?_ ?_
 .simp -implicitDefEqProofs(maxSteps:=9^9)only[Tryz.f30,↓zA,sevalprocAttr,abY]
  try exact⟨rfl,Nat.zero_le _⟩
 rintro k ⟨frk,obk,ckk⟩ hk ⟨f2,f3,f14,f15,f5,f16,fo,Ek,hle⟩
 dsimp only at f2 f3 f14 f15 f5 f16 fo
 rcases Nat.lt_or_ge k (t.kys.length) with dk|dk
 .have hw:=aQ k (by omega)
  have gx:=ap dk
  have hp:=aPn dk
  have hpl:=aLN t.kys (k+1)
  have hwc:=aQ ((t.kys.take k).filter Ky.pr).length (by omega)
  have kk:=fun K=>ae.k (aqv c t t.kys[k] k hc h7 (h3 _ (List.getElem_mem dk)) (by omega)) K
  rw[aJ dk,aGz] at Ek
  generalize t.kys[k]=y at *
  have e1:∀ n:Nat,((1:Int)<(n:Int))=(1<n):=fun n=>propext (by omega)
  generalize hm:((t.kys.take k).filter Ky.pr).length=m at *
  cases bp:y.pr
  .rw[bp] at hp
   simp only[Bool.false_eq_true,if_false,if_true,Nat.add_zero] at hp
   rw[hp] at hpl ⊢
   have bq:(y.pr=true)=False:=by rw[bp];simp
   by_cases c1:1<m
   .have F:dJ c t=false:=by rw[hT,decide_eq_false (show ¬i8 t.kys≤1 by omega)];simp
    simp -implicitDefEqProofs(maxSteps:=9^9)only[Tryz.f30,↓zA,sevalprocAttr,abY,f2,f3,f14,f15,f5,f16,fo,aa,dk,gx,hw,bq,hwc,e1,kk,c1,F]
   cases b2:hJ c t y (k+1)
   .have F:dJ c t=false:=by rw[hT,Ek,b2];simp
    simp -implicitDefEqProofs(maxSteps:=9^9)only[Tryz.f30,↓zA,sevalprocAttr,abY,f2,f3,f14,f15,f5,f16,fo,aa,dk,gx,hw,bq,hwc,e1,kk,c1,b2,F]
   rw[b2,Bool.true_and] at Ek
   simp -implicitDefEqProofs(maxSteps:=9^9)only[Tryz.f30,↓zA,sevalprocAttr,abY,f2,f3,f14,f15,f5,f16,fo,aa,dk,gx,hw,bq,hwc,e1,kk,c1,b2]
   exact⟨Ek,by omega⟩
  .rw[bp] at hp
   simp only[Bool.false_eq_true,if_false,if_true,Nat.add_zero] at hp
   rw[hp] at hpl ⊢
   have bq:(y.pr=true)=True:=by rw[bp];simp
   by_cases c1:1<m+1
   .have F:dJ c t=false:=by rw[hT,decide_eq_false (show ¬i8 t.kys≤1 by omega)];simp
    simp -implicitDefEqProofs(maxSteps:=9^9)only[Tryz.f30,↓zA,sevalprocAttr,abY,f2,f3,f14,f15,f5,f16,fo,aa,dk,gx,hw,bq,hwc,e1,kk,c1,F]
   cases b2:hJ c t y (k+1)
   .have F:dJ c t=false:=by rw[hT,Ek,b2];simp
    simp -implicitDefEqProofs(maxSteps:=9^9)only[Tryz.f30,↓zA,sevalprocAttr,abY,f2,f3,f14,f15,f5,f16,fo,aa,dk,gx,hw,bq,hwc,e1,kk,c1,b2,F]
   rw[b2,Bool.true_and] at Ek
   simp -implicitDefEqProofs(maxSteps:=9^9)only[Tryz.f30,↓zA,sevalprocAttr,abY,f2,f3,f14,f15,f5,f16,fo,aa,dk,gx,hw,bq,hwc,e1,kk,c1,b2]
   exact⟨Ek,by omega⟩
 have e:k=t.kys.length:=by omega
 subst e
 rw[List.drop_length] at Ek
 rw[List.take_length] at f5 hle
 have Ek2:gZ c t 0 t.kys=true:=Ek
 have Ep:decide (i8 t.kys≤1)=true:=decide_eq_true hle
 simp -implicitDefEqProofs(maxSteps:=9^9)only[Tryz.f30,↓zA,sevalprocAttr,abY,f2,f3,f14,f15,f5,f16,fo,aa,Nat.lt_irrefl]
 refine aL (t.rfs.length) (fun m tm=>tm.fr 2=.of (.ref [slC tbC c.tbs,slC ixC c.ixs,ci c.nx])∧tm.fr 3=.of (.ref [ao (ar t.nm),ci t.id,slC cdC t.cs,slC kyC t.kys,slC rfC t.rfs,slC xpC t.chs])∧tm.fr 38=.of (slC rfC t.rfs)∧tm.fr 39=ak t.rfs.length∧tm.fr 40=ak m∧tm.objs=[]∧t.rfs.all (d5 c t)=(t.rfs.drop m).all (d5 c t)) ?_ ?_
 .simp -implicitDefEqProofs(maxSteps:=9^9)only[Tryz.f30,↓zA,sevalprocAttr,abY,f2,f3,f14,f15,f5,f16,fo,aa]
  try exact rfl
 rintro m ⟨frm,obm,ckm⟩ hm ⟨g2,g3,g38,g39,g40,go,Em⟩
 dsimp only at g2 g3 g38 g39 g40 go
 rcases Nat.lt_or_ge m (t.rfs.length) with dm|dm
 .have hw:=aQ m (by omega)
  have gx:=ap dm
  have kr:=fun K=>ae.k (aoH c t t.rfs[m] hc (h4 _ (List.getElem_mem dm)) (h5 _ (List.getElem_mem dm))) K
  rw[aJ dm,hM] at Em
  generalize t.rfs[m]=y at *
  cases b3:d5 c t y
  .have F:dJ c t=false:=by rw[hT,Em,b3];simp
   simp -implicitDefEqProofs(maxSteps:=9^9)only[Tryz.f30,↓zA,sevalprocAttr,abY,g2,g3,g38,g39,g40,go,aa,dm,gx,hw,kr,b3,F]
  rw[b3,Bool.true_and] at Em
  simp -implicitDefEqProofs(maxSteps:=9^9)only[Tryz.f30,↓zA,sevalprocAttr,abY,g2,g3,g38,g39,g40,go,aa,dm,gx,hw,kr,b3]
  exact Em
 have e:m=t.rfs.length:=by omega
 subst e
 rw[List.drop_length,List.all_nil] at Em
 have F:dJ c t=t.chs.all dZ:=by rw[hT,b0,Ep,Ek2,Em];rfl
 simp -implicitDefEqProofs(maxSteps:=9^9)only[Tryz.f30,↓zA,sevalprocAttr,abY,g2,g3,g38,g39,g40,go,aa,Nat.lt_irrefl,kx,ea,Bool.not_not,F]
theorem aUm {T:TT} {t e:Nat} {d:TD} (h:Pe.elemOf T t=some (e,d)) (hz:d.size=1) (hl:d.zero.length=1) (tk:Tk) (x y:X):bM tk 2 (Pe.elemOf T t) (some [(0,[x]),(1,[y])])=bB ((X.rds [x,y]).map fun cs=>.own tk e 1 cs 2):=by
 obtain⟨z,h0⟩ : ∃ z,dG d=[z]:=List.length_eq_one_iff.mp (by unfold dG;rw[List.length_map,hl])
 have e2:(List.replicate 2 [z]).flatten=[z,z]:=rfl
 simp only[bM,h,hz,hl,h0,e2]
 rw[if_pos ⟨by omega,by omega,trivial⟩]
 have f1:eC (fun i=>some (i*1,1)) [z,z] [(0,[x]),(1,[y])]=some [x,y]:=by simp[eC]
 rw[f1]
 dsimp only
 cases X.rds [x,y] <;> rfl
theorem cJ (tk:Tk) (x y:X):bM tk 2 (Pe.elemOf (TT.of Tryz.prog) 114) (some [(0,[x]),(1,[y])])=bB ((X.rds [x,y]).map fun cs=>.own tk 58 1 cs 2):=aUm aUW rfl rfl tk x y
theorem cI (a b:List Int):C.sl [slC aV a,slC aV b] 2=slC (lsC aV) [a,b]:=rfl
def a0C:=ai (ai (ai @zq @aIG) (ai @aWQ @aUb)) (ai (ai @cU @dH) (ai @zT0 (ai @aDU (aw aSR))))
theorem ata (c:Ct) (t:Tb) (hc:CtB c) (ht:TbB t):G1 29 [.of (.agg (tbC t)),.of (.ref [slC tbC c.tbs,slC ixC c.ixs,ci c.nx])] (ah (!dJ c t)):=by
 have k:=fun K=>ae.k (aqu c t hc ht) K
 refine aj rfl aSR aDU rfl ?_
 simp -implicitDefEqProofs(maxSteps:=9^9)only[Tryz.f29,↓zA,sevalprocAttr,a0C,k]
def a0A:=ai (ai (ai @zq @aIG) (ai @aWP @aUa)) (ai (ai @cU @fb) (ai @zT0 (ai @aDR (aw aSO))))
theorem as9 (c:Ct) (x:Ix) (hc:CtB c) (hx:x.cs.length≤LB∧x.nm.length≤4611686018427387903):G1 32 [.of (.agg (ixC x)),.of (.ref [slC tbC c.tbs,slC ixC c.ixs,ci c.nx])] (ah (!dC c x)):=by
 have k:=fun K=>ae.k (aqw c x hc hx) K
 refine aj rfl aSO aDR rfl ?_
 simp -implicitDefEqProofs(maxSteps:=9^9)only[Tryz.f32,↓zA,sevalprocAttr,a0A,k]
def fg:=ai (ai (ai (ai (ai @zq @aY0) (ai @aYZ @aYY)) (ai (ai @ak9 @aif) (ai @aWS @aUd))) (ai (ai (ai @aIE @aE8) (ai @aWR @aUc)) (ai (ai @aID @aE7) (ai @aIB (ai @aE5 @cU))))) (ai (ai (ai (ai @dH @fb) (ai @d9 @cW)) (ai (ai @bH @cV) (ai @ap0 @aIC))) (ai (ai (ai @aE6 @aIA) (ai @aE4 @P3)) (ai (ai @Q3 @Q9) (ai @zT0 (ai @aEc (aw aS9))))))
theorem kA (c:Ct) (hc:CtB c):G1 11 [.of (.agg (ctC c))] (ah (bz c)):=by
 have hlb:LB=1073741824:=rfl
 have hln:ee=1099511627776:=rfl
 have h1:=hc.t
 have h2:=hc.x
 have k1:=fun K=>aos c.tbs (fun t=>!dJ c t) 29 [.ref [slC tbC c.tbs,slC ixC c.ixs,ci c.nx]] ⟨by omega,aIC,aE6,fun t ht=>ata c t hc (hc.tb t ht)⟩ K
 have k2:=fun K=>aot c.ixs (fun x=>!dC c x) 32 [.ref [slC tbC c.tbs,slC ixC c.ixs,ci c.nx]] ⟨by omega,aIA,aE4,fun x hx=>as9 c x hc ⟨hc.ix x hx,hc.xn x hx⟩⟩ K
 have ea1:(c.tbs.any fun t=>!dJ c t)=!(c.tbs.all (dJ c)):=ii _ _
 have ea2:(c.ixs.any fun x=>!dC c x)=!(c.ixs.all (dC c)):=ii _ _
 have hT:bz c=(decide (c.tbs.length≤32)&&(decide (c.ixs.length≤64)&&(decide (1≤c.nx)&&(decide (c.nx≤ee)&&(decide (c.tbs.map Tb.nm).Nodup&&(decide (c.ixs.map Ix.nm).Nodup&&(decide (c.tbs.map Tb.id++c.ixs.map Ix.id).Nodup&&(dE 0 c.nx (c.tbs.map Tb.id)&&(dE 0 c.nx (c.ixs.map Ix.id)&&(c.tbs.all (dJ c)&&c.ixs.all (dC c))))))))))):=by unfold bz;simp only[Bool.and_assoc]
 have e32:((32:Int)<(c.tbs.length:Int))=¬(c.tbs.length≤32):=propext (by omega)
 have e64:((64:Int)<(c.ixs.length:Int))=¬(c.ixs.length≤64):=propext (by omega)
 have e1:(c.nx<1)=¬(1≤c.nx):=propext (by omega)
 have e2:((1099511627776:Int)<c.nx)=¬(c.nx≤ee):=propext (by omega)
 refine aj rfl aS9 aEc rfl ?_
 by_cases a0:c.tbs.length≤32
 rotate_left
 .have F:bz c=false:=by rw[hT];simp[a0]
  simp -implicitDefEqProofs(maxSteps:=9^9)only[Tryz.f11,↓zA,sevalprocAttr,fg,e32,a0,F]
 by_cases a1:c.ixs.length≤64
 rotate_left
 .have F:bz c=false:=by rw[hT];simp[a1]
  simp -implicitDefEqProofs(maxSteps:=9^9)only[Tryz.f11,↓zA,sevalprocAttr,fg,e32,e64,a0,a1,F]
 by_cases a2:1≤c.nx
 rotate_left
 .have F:bz c=false:=by rw[hT];simp[a2]
  simp -implicitDefEqProofs(maxSteps:=9^9)only[Tryz.f11,↓zA,sevalprocAttr,fg,e32,e64,e1,a0,a1,a2,F]
 by_cases a3:c.nx≤ee
 rotate_left
 .have F:bz c=false:=by rw[hT];simp[a3]
  simp -implicitDefEqProofs(maxSteps:=9^9)only[Tryz.f11,↓zA,sevalprocAttr,fg,e32,e64,e1,e2,a0,a1,a2,a3,F]
 simp -implicitDefEqProofs(maxSteps:=9^9)only[Tryz.f11,↓zA,sevalprocAttr,fg,e32,e64,e1,e2,a0,a1,a2,a3]
 refine aL (c.tbs.length) (fun k tk=>tk.fr 1=.of (.ref [slC tbC c.tbs,slC ixC c.ixs,ci c.nx])∧tk.fr 32=.of (slC tbC c.tbs)∧tk.fr 33=ak c.tbs.length∧tk.fr 4=.nil∧tk.fr 6=.nil∧tk.fr 34=ak k∧tk.objs=[]∧((k=0∧tk.fr 3=.nil∧tk.fr 5=.nil)∨∃ s3 s5,Old tk.clk s3∧Old tk.clk s5∧s3≠s5∧tk.fr 3=.own s3 9 1 (fl bd ((c.tbs.map Tb.nm).take k)) k∧tk.fr 5=.own s5 3 1 (fl aV ((c.tbs.map Tb.id).take k)) k)) ?_ ?_
 .simp -implicitDefEqProofs(maxSteps:=9^9)only[Tryz.f11,↓zA,sevalprocAttr,fg]
  exact .inl trivial
 rintro k ⟨frk,obk,ckk⟩ hk ⟨f1,f32,f33,f4,f6,f34,fo,hO⟩
 dsimp only at f1 f32 f33 f4 f6 f34 fo hO
 rcases Nat.lt_or_ge k (c.tbs.length) with dk|dk
 .have hw:=aQ k (by omega)
  have gx:=ap dk
  have d1:k<(c.tbs.map Tb.nm).length:=by rw[List.length_map];exact dk
  have d2:k<(c.tbs.map Tb.id).length:=by rw[List.length_map];exact dk
  have ek1:(c.tbs.map Tb.nm).take (k+1)=(c.tbs.map Tb.nm).take k++[c.tbs[k].nm]:=by rw[gR d1,List.getElem_map]
  have ek2:(c.tbs.map Tb.id).take (k+1)=(c.tbs.map Tb.id).take k++[c.tbs[k].id]:=by rw[gR d2,List.getElem_map]
  rw[ek1,ek2,dD,d6,dD,d6]
  generalize c.tbs[k]=x at *
  have hk1:k+1≤LIM:=by unfold LIM;omega
  rcases hO with ⟨hk0,f3,f5⟩|⟨s3,s5,o3,o5,hs,f3,f5⟩
  .skip
   simp -implicitDefEqProofs(maxSteps:=9^9)only[Tryz.f11,↓zA,sevalprocAttr,fg,f1,f32,f33,f4,f6,f34,fo,aa,dk,gx,hw,f3,f5,hk1,jS]
   subst hk0
   exact⟨.nm (ckk+1+1) 4 0,.nm (ckk+1+1) 9 0,by rw[Z68];omega,by rw[Z68];omega,by simp,rfl,rfl⟩
  .have hne3:=fun ix i=>ib o3 (Nat.le_succ ckk) ix i
   have hne5:=fun ix i=>ib o5 (Nat.le_succ ckk) ix i
   have hn6:=fun ix i=>amP o5 (show ckk≤ckk+1+1 by omega) ix i
   have hs':(s5=s3)=False:=eq_false (fun e=>hs e.symm)
   simp -implicitDefEqProofs(maxSteps:=9^9)only[Tryz.f11,↓zA,sevalprocAttr,fg,f1,f32,f33,f4,f6,f34,fo,aa,dk,gx,hw,f3,f5,hk1,hne3,hne5,hn6,eq_false hs,hs']
   exact⟨okT o3 (by omega) _,okT o5 (by omega) _,.nm (ckk+1+1) 4 0,.nm (ckk+1+1) 9 0,by rw[Z68];omega,by rw[Z68];omega,by simp,rfl,rfl⟩
 have e:k=c.tbs.length:=by omega
 subst e
 rw[List.take_of_length_le (by rw[List.length_map];omega),List.take_of_length_le (by rw[List.length_map];omega)] at hO
 generalize hv3:frk 3=v3 at hO
 generalize hv5:frk 5=v5 at hO
 have hD3:∀ n ix i,ckk≤n→X.drop (.nm n ix i) v3=v3:=by
  intro n ix i hn
  rcases hO with ⟨_,e3,e5⟩|⟨s3,s5,o3,o5,hs,e3,e5⟩
  .rw[e3];rfl
  .rw[e3,X.drop,if_neg (fun e=>of_eq_false (ib o3 hn ix i) e)]
 have hD5:∀ n ix i,ckk≤n→X.drop (.nm n ix i) v5=v5:=by
  intro n ix i hn
  rcases hO with ⟨_,e3,e5⟩|⟨s3,s5,o3,o5,hs,e3,e5⟩
  .rw[e5];rfl
  .rw[e5,X.drop,if_neg (fun e=>of_eq_false (ib o5 hn ix i) e)]
 simp -implicitDefEqProofs(maxSteps:=9^9)only[Tryz.f11,↓zA,sevalprocAttr,fg,f1,f32,f33,f4,f6,f34,fo,aa,hv3,hv5,Nat.lt_irrefl]
 refine aL (c.ixs.length) (fun m tm=>tm.fr 1=.of (.ref [slC tbC c.tbs,slC ixC c.ixs,ci c.nx])∧tm.fr 50=.of (slC ixC c.ixs)∧tm.fr 51=ak c.ixs.length∧tm.fr 3=v3∧tm.fr 5=v5∧tm.fr 52=ak m∧tm.objs=[]∧(∀ n ix i,tm.clk≤n→X.drop (.nm n ix i) v3=v3)∧(∀ n ix i,tm.clk≤n→X.drop (.nm n ix i) v5=v5)∧((m=0∧tm.fr 4=.nil∧tm.fr 6=.nil)∨∃ s3 s5,Old tm.clk s3∧Old tm.clk s5∧s3≠s5∧X.drop s3 v3=v3∧X.drop s3 v5=v5∧X.drop s5 v3=v3∧X.drop s5 v5=v5∧tm.fr 4=.own s3 9 1 (fl bd ((c.ixs.map Ix.nm).take m)) m∧tm.fr 6=.own s5 3 1 (fl aV ((c.ixs.map Ix.id).take m)) m)) ?_ ?_
 .simp -implicitDefEqProofs(maxSteps:=9^9)only[Tryz.f11,↓zA,sevalprocAttr,fg,f1,f32,f33,f4,f6,f34,fo,aa]
  exact⟨hv3,hv5,fun n ix i h=>hD3 n ix i (by omega),fun n ix i h=>hD5 n ix i (by omega),.inl trivial⟩
 rintro m ⟨frm,obm,ckm⟩ hm ⟨g1,g50,g51,g3,g5,g52,go,gD3,gD5,hP⟩
 dsimp only at g1 g50 g51 g3 g5 g52 go gD3 gD5 hP
 rcases Nat.lt_or_ge m (c.ixs.length) with dm|dm
 .have hw:=aQ m (by omega)
  have gx:=ap dm
  have d1:m<(c.ixs.map Ix.nm).length:=by rw[List.length_map];exact dm
  have d2:m<(c.ixs.map Ix.id).length:=by rw[List.length_map];exact dm
  have ek1:(c.ixs.map Ix.nm).take (m+1)=(c.ixs.map Ix.nm).take m++[c.ixs[m].nm]:=by rw[gR d1,List.getElem_map]
  have ek2:(c.ixs.map Ix.id).take (m+1)=(c.ixs.map Ix.id).take m++[c.ixs[m].id]:=by rw[gR d2,List.getElem_map]
  rw[ek1,ek2,dD,d6,dD,d6]
  generalize c.ixs[m]=x at *
  have hk1:m+1≤LIM:=by unfold LIM;omega
  have gA:=fun ix i=>gD3 (ckm+1) ix i (by omega)
  have gB:=fun ix i=>gD5 (ckm+1) ix i (by omega)
  have gC:=fun ix i=>gD3 (ckm+1+1) ix i (by omega)
  have gE:=fun ix i=>gD5 (ckm+1+1) ix i (by omega)
  rcases hP with ⟨hk0,f4,f6⟩|⟨s3,s5,o3,o5,hs,q33,q35,q53,q55,f4,f6⟩
  .skip
   simp -implicitDefEqProofs(maxSteps:=9^9)only[Tryz.f11,↓zA,sevalprocAttr,fg,g1,g50,g51,g3,g5,g52,go,aa,dm,gx,hw,f4,f6,hk1,jS,gA,gB,gC,gE]
   subst hk0
   exact⟨fun n ix i h=>gD3 n ix i (by omega),fun n ix i h=>gD5 n ix i (by omega),.nm (ckm+1+1) 4 0,.nm (ckm+1+1) 9 0,by rw[Z68];omega,by rw[Z68];omega,by simp,gC _ _,gE _ _,gC _ _,gE _ _,rfl,rfl⟩
  .have hne3:=fun ix i=>ib o3 (Nat.le_succ ckm) ix i
   have hne5:=fun ix i=>ib o5 (Nat.le_succ ckm) ix i
   have hn6:=fun ix i=>amP o5 (show ckm≤ckm+1+1 by omega) ix i
   have hs':(s5=s3)=False:=eq_false (fun e=>hs e.symm)
   simp -implicitDefEqProofs(maxSteps:=9^9)only[Tryz.f11,↓zA,sevalprocAttr,fg,g1,g50,g51,g3,g5,g52,go,aa,dm,gx,hw,f4,f6,hk1,hne3,hne5,hn6,eq_false hs,hs',gA,gB,gC,gE,q33,q35,q53,q55]
   exact⟨okT o3 (by omega) _,okT o5 (by omega) _,fun n ix i h=>gD3 n ix i (by omega),fun n ix i h=>gD5 n ix i (by omega),.nm (ckm+1+1) 4 0,.nm (ckm+1+1) 9 0,by rw[Z68];omega,by rw[Z68];omega,by simp,gC _ _,gE _ _,gC _ _,gE _ _,rfl,rfl⟩
 have e:m=c.ixs.length:=by omega
 subst e
 rw[List.take_of_length_le (by rw[List.length_map];omega),List.take_of_length_le (by rw[List.length_map];omega)] at hP
 have hu3:(c.tbs.map Tb.nm).length≤4611686018427387903:=by rw[List.length_map];omega
 have hu5:(c.tbs.map Tb.id).length≤4611686018427387903:=by rw[List.length_map];omega
 have hu4:(c.ixs.map Ix.nm).length≤4611686018427387903:=by rw[List.length_map];omega
 have hu6:(c.ixs.map Ix.id).length≤4611686018427387903:=by rw[List.length_map];omega
 have hcc:(c.tbs.map Tb.id).length+(c.ixs.map Ix.id).length≤1048576:=by rw[List.length_map,List.length_map];omega
 have hu7:(c.tbs.map Tb.id++c.ixs.map Ix.id).length≤4611686018427387903:=by rw[List.length_append];omega
 have es3:C.sl (fl bd (c.tbs.map Tb.nm)) c.tbs.length=slC bd (c.tbs.map Tb.nm):=by unfold slC;rw[List.length_map]
 have es5:C.sl (fl aV (c.tbs.map Tb.id)) c.tbs.length=slC aV (c.tbs.map Tb.id):=by unfold slC;rw[List.length_map]
 have es4:C.sl (fl bd (c.ixs.map Ix.nm)) c.ixs.length=slC bd (c.ixs.map Ix.nm):=by unfold slC;rw[List.length_map]
 have es6:C.sl (fl aV (c.ixs.map Ix.id)) c.ixs.length=slC aV (c.ixs.map Ix.id):=by unfold slC;rw[List.length_map]
 have q3:=fun K=>ae.k (jc (c.tbs.map Tb.nm) hu3) K
 have q4:=fun K=>ae.k (jc (c.ixs.map Ix.nm) hu4) K
 have q7:=fun K=>ae.k (ahb (c.tbs.map Tb.id++c.ixs.map Ix.id) hu7) K
 have q8:=fun K=>ae.k (aA3 (c.tbs.map Tb.id) (c.ixs.map Ix.id) hcc) K
 have q5:=fun K=>ae.k (ae4 (c.tbs.map Tb.id) c.nx hu5) K
 have q6:=fun K=>ae.k (ae4 (c.ixs.map Ix.id) c.nx hu6) K
 have nS:∀ K,aG Tryz.prog pr 24 [.of (.sl [] 0)] [] K↔K ⟨false,[ah true],[]⟩:=fun K=>ae.k (jc [] (Nat.zero_le _)) K
 have nR:∀ K,aG Tryz.prog pr 27 [.of (.sl [] 0),.of (ci c.nx)] [] K↔K ⟨false,[ah true],[]⟩:=fun K=>ae.k (ae4 [] c.nx (Nat.zero_le _)) K
 rcases hO with ⟨_,e3,e5⟩|⟨s3,s5,o3,o5,hs,e3,e5⟩
 .rw[e3] at g3
  rw[e5] at g5
  rcases hP with ⟨_,e4,e6⟩|⟨s4,s6,o4,o6,hs',-,-,-,-,e4,e6⟩
  .skip
   have zt:c.tbs=[]:=List.eq_nil_of_length_eq_zero (by assumption)
   have n1:(c.tbs.map Tb.nm).Nodup:=by rw[zt];exact List.nodup_nil
   have r1:dE 0 c.nx (c.tbs.map Tb.id)=true:=by rw[zt];rfl
   have zx:c.ixs=[]:=List.eq_nil_of_length_eq_zero (by assumption)
   have n2:(c.ixs.map Ix.nm).Nodup:=by rw[zx];exact List.nodup_nil
   have r2:dE 0 c.nx (c.ixs.map Ix.id)=true:=by rw[zx];rfl
   have tl:C.sl [C.sl [] 0,C.sl [] 0] 2=slC (lsC aV) [c.tbs.map Tb.id,c.ixs.map Ix.id]:=by rw[zt,zx];rfl
   by_cases n3:(c.tbs.map Tb.id++c.ixs.map Ix.id).Nodup
   rotate_left
   .have F:bz c=false:=by rw[hT];simp only[n3,decide_false,Bool.false_and,Bool.and_false]
    simp -implicitDefEqProofs(maxSteps:=9^9)only[Tryz.f11,↓zA,sevalprocAttr,fg,g1,g50,g51,g3,g5,g52,go,aa,Nat.lt_irrefl,es3,es4,es5,es6,q3,q4,q5,q6,q7,q8,cJ,cI,e4,e6,nS,nR,tl,n3,F]
   cases t1:c.tbs.all (dJ c)
   .have F:bz c=false:=by rw[hT];simp only[t1,decide_false,Bool.false_and,Bool.and_false]
    simp -implicitDefEqProofs(maxSteps:=9^9)only[Tryz.f11,↓zA,sevalprocAttr,fg,g1,g50,g51,g3,g5,g52,go,aa,Nat.lt_irrefl,es3,es4,es5,es6,q3,q4,q5,q6,q7,q8,cJ,cI,e4,e6,nS,nR,tl,n3,k1,ea1,Bool.not_not,t1,F]
   cases t2:c.ixs.all (dC c)
   .have F:bz c=false:=by rw[hT];simp only[t2,decide_false,Bool.false_and,Bool.and_false]
    simp -implicitDefEqProofs(maxSteps:=9^9)only[Tryz.f11,↓zA,sevalprocAttr,fg,g1,g50,g51,g3,g5,g52,go,aa,Nat.lt_irrefl,es3,es4,es5,es6,q3,q4,q5,q6,q7,q8,cJ,cI,e4,e6,nS,nR,tl,n3,k1,ea1,Bool.not_not,t1,k2,ea2,t2,F]
   have F:bz c=true:=by rw[hT];simp only[a0,a1,a2,a3,n1,n2,n3,r1,r2,t1,t2,decide_true,Bool.and_self]
   simp -implicitDefEqProofs(maxSteps:=9^9)only[Tryz.f11,↓zA,sevalprocAttr,fg,g1,g50,g51,g3,g5,g52,go,aa,Nat.lt_irrefl,es3,es4,es5,es6,q3,q4,q5,q6,q7,q8,cJ,cI,e4,e6,nS,nR,tl,n3,k1,ea1,Bool.not_not,t1,k2,ea2,t2,F]
  .skip
   have zt:c.tbs=[]:=List.eq_nil_of_length_eq_zero (by assumption)
   have n1:(c.tbs.map Tb.nm).Nodup:=by rw[zt];exact List.nodup_nil
   have r1:dE 0 c.nx (c.tbs.map Tb.id)=true:=by rw[zt];rfl
   have tl:C.sl [C.sl [] 0,slC aV (c.ixs.map Ix.id)] 2=slC (lsC aV) [c.tbs.map Tb.id,c.ixs.map Ix.id]:=by rw[zt];rfl
   by_cases n2:(c.ixs.map Ix.nm).Nodup
   rotate_left
   .have F:bz c=false:=by rw[hT];simp only[n2,decide_false,Bool.false_and,Bool.and_false]
    simp -implicitDefEqProofs(maxSteps:=9^9)only[Tryz.f11,↓zA,sevalprocAttr,fg,g1,g50,g51,g3,g5,g52,go,aa,Nat.lt_irrefl,es3,es4,es5,es6,q3,q4,q5,q6,q7,q8,cJ,cI,e4,e6,nS,nR,tl,n2,F]
   by_cases n3:(c.tbs.map Tb.id++c.ixs.map Ix.id).Nodup
   rotate_left
   .have F:bz c=false:=by rw[hT];simp only[n3,decide_false,Bool.false_and,Bool.and_false]
    simp -implicitDefEqProofs(maxSteps:=9^9)only[Tryz.f11,↓zA,sevalprocAttr,fg,g1,g50,g51,g3,g5,g52,go,aa,Nat.lt_irrefl,es3,es4,es5,es6,q3,q4,q5,q6,q7,q8,cJ,cI,e4,e6,nS,nR,tl,n2,n3,F]
   cases r2:dE 0 c.nx (c.ixs.map Ix.id)
   .have F:bz c=false:=by rw[hT];simp only[r2,decide_false,Bool.false_and,Bool.and_false]
    simp -implicitDefEqProofs(maxSteps:=9^9)only[Tryz.f11,↓zA,sevalprocAttr,fg,g1,g50,g51,g3,g5,g52,go,aa,Nat.lt_irrefl,es3,es4,es5,es6,q3,q4,q5,q6,q7,q8,cJ,cI,e4,e6,nS,nR,tl,n2,n3,r2,F]
   cases t1:c.tbs.all (dJ c)
   .have F:bz c=false:=by rw[hT];simp only[t1,decide_false,Bool.false_and,Bool.and_false]
    simp -implicitDefEqProofs(maxSteps:=9^9)only[Tryz.f11,↓zA,sevalprocAttr,fg,g1,g50,g51,g3,g5,g52,go,aa,Nat.lt_irrefl,es3,es4,es5,es6,q3,q4,q5,q6,q7,q8,cJ,cI,e4,e6,nS,nR,tl,n2,n3,r2,k1,ea1,Bool.not_not,t1,F]
   cases t2:c.ixs.all (dC c)
   .have F:bz c=false:=by rw[hT];simp only[t2,decide_false,Bool.false_and,Bool.and_false]
    simp -implicitDefEqProofs(maxSteps:=9^9)only[Tryz.f11,↓zA,sevalprocAttr,fg,g1,g50,g51,g3,g5,g52,go,aa,Nat.lt_irrefl,es3,es4,es5,es6,q3,q4,q5,q6,q7,q8,cJ,cI,e4,e6,nS,nR,tl,n2,n3,r2,k1,ea1,Bool.not_not,t1,k2,ea2,t2,F]
   have F:bz c=true:=by rw[hT];simp only[a0,a1,a2,a3,n1,n2,n3,r1,r2,t1,t2,decide_true,Bool.and_self]
   simp -implicitDefEqProofs(maxSteps:=9^9)only[Tryz.f11,↓zA,sevalprocAttr,fg,g1,g50,g51,g3,g5,g52,go,aa,Nat.lt_irrefl,es3,es4,es5,es6,q3,q4,q5,q6,q7,q8,cJ,cI,e4,e6,nS,nR,tl,n2,n3,r2,k1,ea1,Bool.not_not,t1,k2,ea2,t2,F]
 .rw[e3] at g3
  rw[e5] at g5
  rcases hP with ⟨_,e4,e6⟩|⟨s4,s6,o4,o6,hs',-,-,-,-,e4,e6⟩
  .skip
   have zx:c.ixs=[]:=List.eq_nil_of_length_eq_zero (by assumption)
   have n2:(c.ixs.map Ix.nm).Nodup:=by rw[zx];exact List.nodup_nil
   have r2:dE 0 c.nx (c.ixs.map Ix.id)=true:=by rw[zx];rfl
   have tl:C.sl [slC aV (c.tbs.map Tb.id),C.sl [] 0] 2=slC (lsC aV) [c.tbs.map Tb.id,c.ixs.map Ix.id]:=by rw[zx];rfl
   by_cases n1:(c.tbs.map Tb.nm).Nodup
   rotate_left
   .have F:bz c=false:=by rw[hT];simp only[n1,decide_false,Bool.false_and,Bool.and_false]
    simp -implicitDefEqProofs(maxSteps:=9^9)only[Tryz.f11,↓zA,sevalprocAttr,fg,g1,g50,g51,g3,g5,g52,go,aa,Nat.lt_irrefl,es3,es4,es5,es6,q3,q4,q5,q6,q7,q8,cJ,cI,e4,e6,nS,nR,tl,n1,F]
   by_cases n3:(c.tbs.map Tb.id++c.ixs.map Ix.id).Nodup
   rotate_left
   .have F:bz c=false:=by rw[hT];simp only[n3,decide_false,Bool.false_and,Bool.and_false]
    simp -implicitDefEqProofs(maxSteps:=9^9)only[Tryz.f11,↓zA,sevalprocAttr,fg,g1,g50,g51,g3,g5,g52,go,aa,Nat.lt_irrefl,es3,es4,es5,es6,q3,q4,q5,q6,q7,q8,cJ,cI,e4,e6,nS,nR,tl,n1,n3,F]
   cases r1:dE 0 c.nx (c.tbs.map Tb.id)
   .have F:bz c=false:=by rw[hT];simp only[r1,decide_false,Bool.false_and,Bool.and_false]
    simp -implicitDefEqProofs(maxSteps:=9^9)only[Tryz.f11,↓zA,sevalprocAttr,fg,g1,g50,g51,g3,g5,g52,go,aa,Nat.lt_irrefl,es3,es4,es5,es6,q3,q4,q5,q6,q7,q8,cJ,cI,e4,e6,nS,nR,tl,n1,n3,r1,F]
   cases t1:c.tbs.all (dJ c)
   .have F:bz c=false:=by rw[hT];simp only[t1,decide_false,Bool.false_and,Bool.and_false]
    simp -implicitDefEqProofs(maxSteps:=9^9)only[Tryz.f11,↓zA,sevalprocAttr,fg,g1,g50,g51,g3,g5,g52,go,aa,Nat.lt_irrefl,es3,es4,es5,es6,q3,q4,q5,q6,q7,q8,cJ,cI,e4,e6,nS,nR,tl,n1,n3,r1,k1,ea1,Bool.not_not,t1,F]
   cases t2:c.ixs.all (dC c)
   .have F:bz c=false:=by rw[hT];simp only[t2,decide_false,Bool.false_and,Bool.and_false]
    simp -implicitDefEqProofs(maxSteps:=9^9)only[Tryz.f11,↓zA,sevalprocAttr,fg,g1,g50,g51,g3,g5,g52,go,aa,Nat.lt_irrefl,es3,es4,es5,es6,q3,q4,q5,q6,q7,q8,cJ,cI,e4,e6,nS,nR,tl,n1,n3,r1,k1,ea1,Bool.not_not,t1,k2,ea2,t2,F]
   have F:bz c=true:=by rw[hT];simp only[a0,a1,a2,a3,n1,n2,n3,r1,r2,t1,t2,decide_true,Bool.and_self]
   simp -implicitDefEqProofs(maxSteps:=9^9)only[Tryz.f11,↓zA,sevalprocAttr,fg,g1,g50,g51,g3,g5,g52,go,aa,Nat.lt_irrefl,es3,es4,es5,es6,q3,q4,q5,q6,q7,q8,cJ,cI,e4,e6,nS,nR,tl,n1,n3,r1,k1,ea1,Bool.not_not,t1,k2,ea2,t2,F]
  .skip
   by_cases n1:(c.tbs.map Tb.nm).Nodup
   rotate_left
   .have F:bz c=false:=by rw[hT];simp only[n1,decide_false,Bool.false_and,Bool.and_false]
    simp -implicitDefEqProofs(maxSteps:=9^9)only[Tryz.f11,↓zA,sevalprocAttr,fg,g1,g50,g51,g3,g5,g52,go,aa,Nat.lt_irrefl,es3,es4,es5,es6,q3,q4,q5,q6,q7,q8,cJ,cI,e4,e6,n1,F]
   by_cases n2:(c.ixs.map Ix.nm).Nodup
   rotate_left
   .have F:bz c=false:=by rw[hT];simp only[n2,decide_false,Bool.false_and,Bool.and_false]
    simp -implicitDefEqProofs(maxSteps:=9^9)only[Tryz.f11,↓zA,sevalprocAttr,fg,g1,g50,g51,g3,g5,g52,go,aa,Nat.lt_irrefl,es3,es4,es5,es6,q3,q4,q5,q6,q7,q8,cJ,cI,e4,e6,n1,n2,F]
   by_cases n3:(c.tbs.map Tb.id++c.ixs.map Ix.id).Nodup
   rotate_left
   .have F:bz c=false:=by rw[hT];simp only[n3,decide_false,Bool.false_and,Bool.and_false]
    simp -implicitDefEqProofs(maxSteps:=9^9)only[Tryz.f11,↓zA,sevalprocAttr,fg,g1,g50,g51,g3,g5,g52,go,aa,Nat.lt_irrefl,es3,es4,es5,es6,q3,q4,q5,q6,q7,q8,cJ,cI,e4,e6,n1,n2,n3,F]
   cases r1:dE 0 c.nx (c.tbs.map Tb.id)
   .have F:bz c=false:=by rw[hT];simp only[r1,decide_false,Bool.false_and,Bool.and_false]
    simp -implicitDefEqProofs(maxSteps:=9^9)only[Tryz.f11,↓zA,sevalprocAttr,fg,g1,g50,g51,g3,g5,g52,go,aa,Nat.lt_irrefl,es3,es4,es5,es6,q3,q4,q5,q6,q7,q8,cJ,cI,e4,e6,n1,n2,n3,r1,F]
   cases r2:dE 0 c.nx (c.ixs.map Ix.id)
   .have F:bz c=false:=by rw[hT];simp only[r2,decide_false,Bool.false_and,Bool.and_false]
    simp -implicitDefEqProofs(maxSteps:=9^9)only[Tryz.f11,↓zA,sevalprocAttr,fg,g1,g50,g51,g3,g5,g52,go,aa,Nat.lt_irrefl,es3,es4,es5,es6,q3,q4,q5,q6,q7,q8,cJ,cI,e4,e6,n1,n2,n3,r1,r2,F]
   cases t1:c.tbs.all (dJ c)
   .have F:bz c=false:=by rw[hT];simp only[t1,decide_false,Bool.false_and,Bool.and_false]
    simp -implicitDefEqProofs(maxSteps:=9^9)only[Tryz.f11,↓zA,sevalprocAttr,fg,g1,g50,g51,g3,g5,g52,go,aa,Nat.lt_irrefl,es3,es4,es5,es6,q3,q4,q5,q6,q7,q8,cJ,cI,e4,e6,n1,n2,n3,r1,r2,k1,ea1,Bool.not_not,t1,F]
   cases t2:c.ixs.all (dC c)
   .have F:bz c=false:=by rw[hT];simp only[t2,decide_false,Bool.false_and,Bool.and_false]
    simp -implicitDefEqProofs(maxSteps:=9^9)only[Tryz.f11,↓zA,sevalprocAttr,fg,g1,g50,g51,g3,g5,g52,go,aa,Nat.lt_irrefl,es3,es4,es5,es6,q3,q4,q5,q6,q7,q8,cJ,cI,e4,e6,n1,n2,n3,r1,r2,k1,ea1,Bool.not_not,t1,k2,ea2,t2,F]
   have F:bz c=true:=by rw[hT];simp only[a0,a1,a2,a3,n1,n2,n3,r1,r2,t1,t2,decide_true,Bool.and_self]
   simp -implicitDefEqProofs(maxSteps:=9^9)only[Tryz.f11,↓zA,sevalprocAttr,fg,g1,g50,g51,g3,g5,g52,go,aa,Nat.lt_irrefl,es3,es4,es5,es6,q3,q4,q5,q6,q7,q8,cJ,cI,e4,e6,n1,n2,n3,r1,r2,k1,ea1,Bool.not_not,t1,k2,ea2,t2,F]
def ae2:=ai (ai @zq (ai @cV @P3)) (ai (ai @Q3 @zT0) (ai @aC6 (aw aR5)))
theorem aEI (l:List Int) (n:Nat) (h:l.length≤4611686018427387903):G1 84 [.of (slC aV l),ak n] (ah (bN l n)):=by
 rw[ap2]
 refine aj rfl aR5 aC6 rfl ?_
 simp -implicitDefEqProofs(maxSteps:=9^9)only[Tryz.f84,↓zA,sevalprocAttr,ae2]
 refine aL (l.length) (fun k tk=>tk.fr 0=.of (slC aV l)∧tk.fr 1=ak n∧tk.fr 5=ak k∧tk.objs=[]∧bi (acI l n) 0 l=bi (acI l n) k (l.drop k)) ?_ ?_
 .simp -implicitDefEqProofs(maxSteps:=9^9)only[Tryz.f84,↓zA,sevalprocAttr,ae2]
  try exact rfl
 rintro k ⟨frk,obk,ckk⟩ hk ⟨f0,f1,f5,fo,Ek⟩
 dsimp only at f0 f1 f5 fo
 rcases Nat.lt_or_ge k (l.length) with dk|dk
 .have hw:=aQ k (by omega)
  have gx:=ap dk
  rw[aJ dk,jw] at Ek
  generalize hx:l[k]=x at *
  have e1:(x<0)=¬(0≤x):=azh x
  have e2:((n:Int)≤x)=¬(x<n):=agE x n
  by_cases c1:0≤x
  rotate_left
  .rw[show acI l n k x=false by simp[acI,c1],Bool.false_and] at Ek
   simp -implicitDefEqProofs(maxSteps:=9^9)only[Tryz.f84,↓zA,sevalprocAttr,ae2,f0,f1,f5,fo,aa,dk,gx,hw,e1,c1,Ek]
  by_cases c2:x<(n:Int)
  rotate_left
  .rw[show acI l n k x=false by simp[acI,c2],Bool.false_and] at Ek
   simp -implicitDefEqProofs(maxSteps:=9^9)only[Tryz.f84,↓zA,sevalprocAttr,ae2,f0,f1,f5,fo,aa,dk,gx,hw,e1,c1,e2,c2,Ek]
  simp -implicitDefEqProofs(maxSteps:=9^9)only[Tryz.f84,↓zA,sevalprocAttr,ae2,f0,f1,f5,fo,aa,dk,gx,hw,e1,c1,e2,c2]
  refine aL (k) (fun j tj=>tj.fr 0=.of (slC aV l)∧tj.fr 1=ak n∧tj.fr 5=ak k∧tj.fr 6=ak j∧tj.objs=[]∧x∉l.take j) ?_ ?_
  .simp -implicitDefEqProofs(maxSteps:=9^9)only[Tryz.f84,↓zA,sevalprocAttr,ae2,f0,f1,f5,fo,aa]
   try exact (by simp)
  rintro j ⟨frj,obj,ckj⟩ hj ⟨g0,g1,g5,g6,go,Ej⟩
  dsimp only at g0 g1 g5 g6 go
  rcases Nat.lt_or_ge j (k) with dj|dj
  .have hwj:=aQ j (by omega)
   have dj':j<l.length:=by omega
   have gy:=ap dj'
   have hm:=als dj' x
   generalize l[j]=y at *
   by_cases c0:y=x
   .have hin:x∈l.take k:=by
     have:l.take (j+1)=(l.take k).take (j+1):=by rw[List.take_take,Nat.min_eq_left (by omega)]
     exact List.mem_of_mem_take (this▸hm.mpr (.inr c0))
    rw[show acI l n k x=false by simp[acI,hin],Bool.false_and] at Ek
    simp -implicitDefEqProofs(maxSteps:=9^9)only[Tryz.f84,↓zA,sevalprocAttr,ae2,g0,g1,g5,g6,go,aa,dj,gx,gy,hwj,eq_true c0,Ek]
   .have hn:x∉l.take (j+1):=fun h=>(hm.mp h).elim Ej c0
    simp -implicitDefEqProofs(maxSteps:=9^9)only[Tryz.f84,↓zA,sevalprocAttr,ae2,g0,g1,g5,g6,go,aa,dj,gx,gy,hwj,c0]
    exact hn
  .have e:j=k:=by omega
   subst e
   rw[show acI l n j x=true by simp[acI,c1,c2,Ej],Bool.true_and] at Ek
   simp -implicitDefEqProofs(maxSteps:=9^9)only[Tryz.f84,↓zA,sevalprocAttr,ae2,g0,g1,g5,g6,go,aa,Nat.lt_irrefl,hw,Ek]
 .have e:k=l.length:=by omega
  subst e
  rw[List.drop_length,iH] at Ek
  simp -implicitDefEqProofs(maxSteps:=9^9)only[Tryz.f84,↓zA,sevalprocAttr,ae2,f0,f1,f5,fo,aa,Nat.lt_irrefl,Ek,bS]
theorem iO (l:List Int) (n:Nat) (K:An→Prop):aG Tryz.prog pr 84 [.of (slC aV l),.of (ci (n:Int))] [] K↔ifP (l.length≤4611686018427387903) (K ⟨false,[ah (bN l n)],[]⟩) (fp Tryz.prog pr 84 [.of (slC aV l),.of (ci (n:Int))] K):=hZ (aEI l n) K
def apx:=ai (ai (ai @zq @dw) (ai @cE @bH)) (ai (ai @Q9 @zT0) (ai @awR (aw aKZ)))
theorem aoP (l:List Cd) (h:l.length≤LB):G1 112 [.of (slC cdC l)] (.of (slC bd (l.map Cd.nm))):=by
 simp only[LB] at h
 refine aj rfl aKZ awR rfl ?_
 simp -implicitDefEqProofs(maxSteps:=9^9)only[Tryz.f112,↓zA,sevalprocAttr,apx]
 refine aL (l.length) (fun k tk=>tk.fr 0=.of (slC cdC l)∧tk.fr 4=ak k∧tk.objs=[]∧∃ s3,Old tk.clk s3∧tk.fr 3=.own s3 9 1 (fl bd ((l.map Cd.nm).take k)) ((l.map Cd.nm).take k).length) ?_ ?_
 .simp -implicitDefEqProofs(maxSteps:=9^9)only[Tryz.f112,↓zA,sevalprocAttr,apx]
  exact⟨.nm 2 0 0,by rw[Z68];decide,rfl⟩
 rintro k ⟨frk,obk,ckk⟩ hk ⟨f0,f4,fo,s3,so,f3⟩
 dsimp only at f0 f4 fo so f3
 rcases Nat.lt_or_ge k (l.length) with dk|dk
 .have hw:=aQ k (by omega)
  have gx:=ap dk
  have dk':k<(l.map Cd.nm).length:=by rw[List.length_map];exact dk
  have ek:(l.map Cd.nm).take (k+1)=(l.map Cd.nm).take k++[l[k].nm]:=by rw[gR dk',List.getElem_map]
  have hn:((l.map Cd.nm).take k).length+1≤LIM:=by rw[List.length_take];unfold LIM;omega
  rw[ek,dD,d6,List.length_append]
  generalize l[k]=x at *
  simp -implicitDefEqProofs(maxSteps:=9^9)only[Tryz.f112,↓zA,sevalprocAttr,apx,f0,f4,fo,aa,f3,dk,gx,hw,hn]
  refine⟨okT so (by omega) _,_,?_,rfl⟩
  rw[Z68];omega
 .have e:k=l.length:=by omega
  subst e
  simp -implicitDefEqProofs(maxSteps:=9^9)only[Tryz.f112,↓zA,sevalprocAttr,apx,f0,f4,fo,aa,f3,Nat.lt_irrefl]
  rw[List.take_of_length_le (by rw[List.length_map];exact Nat.le_refl _)]
theorem ak2 (l:List Cd) (K:An→Prop):aG Tryz.prog pr 112 [.of (slC cdC l)] [] K↔ifP (l.length≤LB) (K ⟨false,[.of (slC bd (l.map Cd.nm))],[]⟩) (fp Tryz.prog pr 112 [.of (slC cdC l)] K):=hZ (aoP l) K
def plR:Option (List Int)→List X
 | some q=>[.of (slC aV q),ah true]
 | none=>[.of (slC aV []),ah false]
theorem bP (q:List Int):plR (some q)=[.of (slC aV q),ah true]:=rfl
theorem ia:plR none=[.of (.sl [] 0),ah false]:=rfl
theorem fB (j:Nat):((j:Int)<0)=False:=by simp only[eq_iff_iff,iff_false];omega
def apU:=ai (ai (ai @zq @aIo) (ai @aES (ai @dw @bH))) (ai (ai @cV @Q9) (ai @zT0 (ai @aDn (aw aSl))))
theorem amK (l:List Cd) (ns:List (List UInt8)) (hl:l.length≤4611686018427387903) (h:ns.length≤LB):GN 66 [.of (slC cdC l),.of (slC bd ns)] (plR (bC l ns)):=by
 simp only[LB] at h
 refine aj rfl aSl aDn rfl ?_
 simp -implicitDefEqProofs(maxSteps:=9^9)only[Tryz.f66,↓zA,sevalprocAttr,apU]
 refine aL (ns.length) (fun k tk=>tk.fr 0=.of (slC cdC l)∧tk.fr 1=.of (slC bd ns)∧tk.fr 7=ak k∧tk.objs=[]∧∃ A s6,Old tk.clk s6∧tk.fr 6=.own s6 3 1 (fl aV A) A.length∧A.length≤k∧bC l ns=kG l A (ns.drop k)) ?_ ?_
 .simp -implicitDefEqProofs(maxSteps:=9^9)only[Tryz.f66,↓zA,sevalprocAttr,apU]
  exact⟨[],.nm 2 0 0,by rw[Z68];decide,rfl,Nat.le_refl _,(anQ l ns).symm⟩
 rintro k ⟨frk,obk,ckk⟩ hk ⟨f0,f1,f7,fo,A,s6,so,f6,hA,E⟩
 dsimp only at f0 f1 f7 fo so f6
 rcases Nat.lt_or_ge k (ns.length) with dk|dk
 .have hw:=aQ k (by omega)
  have gx:=ap dk
  rw[aJ dk] at E
  generalize ns[k]=x at *
  have kc:=fun K=>aqK l x hl K
  have hn:A.length+1≤LIM:=by unfold LIM;omega
  rcases aoj l x with ⟨hc,hi⟩|⟨j,hc,hi⟩
  .rw[ak4 hc] at E
   simp -implicitDefEqProofs(maxSteps:=9^9)only[Tryz.f66,↓zA,sevalprocAttr,apU,f0,f1,f7,fo,aa,f6,dk,gx,hw,kc,hi,E,ia]
  .rw[ak3 hc] at E
   simp -implicitDefEqProofs(maxSteps:=9^9)only[Tryz.f66,↓zA,sevalprocAttr,apU,f0,f1,f7,fo,aa,f6,dk,gx,hw,kc,hi,fB,hn]
   refine⟨okT so (by omega) _,A++[(j:Int)],_,?_,by rw[dD,d6,List.length_append];rfl,by rw[List.length_append];simp;omega,E⟩
   rw[Z68];omega
 .have e:k=ns.length:=by omega
  subst e
  rw[List.drop_length,ajC] at E
  simp -implicitDefEqProofs(maxSteps:=9^9)only[Tryz.f66,↓zA,sevalprocAttr,apU,f0,f1,f7,fo,aa,f6,Nat.lt_irrefl,E,bP]
theorem abg (l:List Cd) (ns:List (List UInt8)) (hl:l.length≤4611686018427387903) (h:ns.length≤LB) (K:An→Prop):aG Tryz.prog pr 66 [.of (slC cdC l),.of (slC bd ns)] [] K↔K ⟨false,plR (bC l ns),[]⟩:=ae.k (amK l ns hl h) K
def ag4:=ai (ai (ai @zq (ai @a1H @a1G)) (ai (ai @cU @dH) (ai @fb @il))) (ai (ai @d9 (ai @kb @P3)) (ai (ai @Q3 @zT0) (ai @aDk (aw aSi))))
theorem amJ (c:Ct) (x:Ix) (hc:CtB c):G1 69 [.of (.agg (ctC c)),.of (.agg (ixC x))] (ah (df c x.id)):=by
 have h1:=hc.t
 simp only[LB] at h1
 refine aj rfl aSi aDk rfl ?_
 simp -implicitDefEqProofs(maxSteps:=9^9)only[Tryz.f69,↓zA,sevalprocAttr,ag4]
 refine aL (c.tbs.length) (fun k tk=>tk.fr 2=.of (.ref [slC tbC c.tbs,slC ixC c.ixs,ci c.nx])∧tk.fr 3=.of (.ref [ao (ar x.nm),ci x.id,ao (ar x.tb),slC aV x.cs,cb x.un])∧tk.fr 5=ak k∧tk.objs=[]∧df c x.id=(c.tbs.drop k).any (fun t=>t.kys.any fun q=>decide (q.ix=x.id))) ?_ ?_
 .simp -implicitDefEqProofs(maxSteps:=9^9)only[Tryz.f69,↓zA,sevalprocAttr,ag4]
  try exact rfl
 rintro k ⟨frk,obk,ckk⟩ hk ⟨f2,f3,f5,fo,Ek⟩
 dsimp only at f2 f3 f5 fo
 rcases Nat.lt_or_ge k (c.tbs.length) with dk|dk
 .have hw:=aQ k (by omega)
  have gt:=ap dk
  have ht:=(hc.tb _ (List.getElem_mem dk)).k
  simp only[LB] at ht
  rw[aJ dk,List.any_cons] at Ek
  generalize c.tbs[k]=t at *
  simp -implicitDefEqProofs(maxSteps:=9^9)only[Tryz.f69,↓zA,sevalprocAttr,ag4,f2,f3,f5,fo,aa,dk]
  refine aL (t.kys.length) (fun j tj=>tj.fr 2=.of (.ref [slC tbC c.tbs,slC ixC c.ixs,ci c.nx])∧tj.fr 3=.of (.ref [ao (ar x.nm),ci x.id,ao (ar x.tb),slC aV x.cs,cb x.un])∧tj.fr 5=ak k∧tj.fr 6=ak j∧tj.objs=[]∧t.kys.any (fun q=>decide (q.ix=x.id))=(t.kys.drop j).any (fun q=>decide (q.ix=x.id))) ?_ ?_
  .simp -implicitDefEqProofs(maxSteps:=9^9)only[Tryz.f69,↓zA,sevalprocAttr,ag4,f2,f3,f5,fo,aa]
   try exact rfl
  rintro j ⟨frj,obj,ckj⟩ hj ⟨g2,g3,g5,g6,go,Ej⟩
  dsimp only at g2 g3 g5 g6 go
  rcases Nat.lt_or_ge j (t.kys.length) with dj|dj
  .have hwj:=aQ j (by omega)
   have gy:=ap dj
   rw[aJ dj,List.any_cons] at Ej
   generalize t.kys[j]=y at *
   by_cases c0:y.ix=x.id
   .rw[decide_eq_true c0,Bool.true_or] at Ej
    rw[Ej,Bool.true_or] at Ek
    simp -implicitDefEqProofs(maxSteps:=9^9)only[Tryz.f69,↓zA,sevalprocAttr,ag4,g2,g3,g5,g6,go,aa,dj,gt,gy,hwj,eq_true c0,Ek]
   .rw[decide_eq_false c0,Bool.false_or] at Ej
    simp -implicitDefEqProofs(maxSteps:=9^9)only[Tryz.f69,↓zA,sevalprocAttr,ag4,g2,g3,g5,g6,go,aa,dj,gt,gy,hwj,c0,Ej]
  .have e:j=t.kys.length:=by omega
   subst e
   rw[List.drop_length,List.any_nil] at Ej
   rw[Ej,Bool.false_or] at Ek
   simp -implicitDefEqProofs(maxSteps:=9^9)only[Tryz.f69,↓zA,sevalprocAttr,ag4,g2,g3,g5,g6,go,aa,Nat.lt_irrefl,gt,hw,Ek]
 .have e:k=c.tbs.length:=by omega
  subst e
  rw[List.drop_length,List.any_nil] at Ek
  simp -implicitDefEqProofs(maxSteps:=9^9)only[Tryz.f69,↓zA,sevalprocAttr,ag4,f2,f3,f5,fo,aa,Nat.lt_irrefl,Ek]
theorem ajB (c:Ct) (x:Ix) (hc:CtB c) (K:An→Prop):aG Tryz.prog pr 69 [.of (.agg (ctC c)),.of (.agg (ixC x))] [] K↔K ⟨false,[ah (df c x.id)],[]⟩:=ae.k (amJ c x hc) K
def afN:=ai (ai (ai @zq @a04) (ai @cU (ai @dH @aaC))) (ai (ai @d9 (ai @abM @Q9)) (ai @zT0 (ai @aDm (aw aSk))))
theorem akX (c:Ct) (nm:List UInt8) (hc:CtB c):G1 67 [.of (.agg (ctC c)),.of (ao (ar nm))] (ah (c.tbs.any fun t=>decide (t.nm≠nm)&&t.rfs.any fun f=>decide (f.tb=nm))):=by
 have h1:=hc.t
 simp only[LB] at h1
 refine aj rfl aSk aDm rfl ?_
 simp -implicitDefEqProofs(maxSteps:=9^9)only[Tryz.f67,↓zA,sevalprocAttr,afN]
 refine aL (c.tbs.length) (fun k tk=>tk.fr 1=dA (ar nm)∧tk.fr 2=.of (.ref [slC tbC c.tbs,slC ixC c.ixs,ci c.nx])∧tk.fr 5=ak k∧tk.objs=[]∧c.tbs.any (fun t=>decide (t.nm≠nm)&&t.rfs.any fun f=>decide (f.tb=nm))=(c.tbs.drop k).any (fun t=>decide (t.nm≠nm)&&t.rfs.any fun f=>decide (f.tb=nm))) ?_ ?_
 .simp -implicitDefEqProofs(maxSteps:=9^9)only[Tryz.f67,↓zA,sevalprocAttr,afN]
  try exact rfl
 rintro k ⟨frk,obk,ckk⟩ hk ⟨f1,f2,f5,fo,Ek⟩
 dsimp only at f1 f2 f5 fo
 rcases Nat.lt_or_ge k (c.tbs.length) with dk|dk
 .have hw:=aQ k (by omega)
  have gt:=ap dk
  have ht:=(hc.tb _ (List.getElem_mem dk)).f
  simp only[LB] at ht
  rw[aJ dk,List.any_cons] at Ek
  generalize c.tbs[k]=t at *
  simp -implicitDefEqProofs(maxSteps:=9^9)only[Tryz.f67,↓zA,sevalprocAttr,afN,f1,f2,f5,fo,aa,dk]
  refine aL (t.rfs.length) (fun j tj=>tj.fr 1=dA (ar nm)∧tj.fr 2=.of (.ref [slC tbC c.tbs,slC ixC c.ixs,ci c.nx])∧tj.fr 5=ak k∧tj.fr 6=ak j∧tj.objs=[]∧(decide (t.nm≠nm)&&t.rfs.any fun f=>decide (f.tb=nm))=(decide (t.nm≠nm)&&(t.rfs.drop j).any fun f=>decide (f.tb=nm))) ?_ ?_
  .simp -implicitDefEqProofs(maxSteps:=9^9)only[Tryz.f67,↓zA,sevalprocAttr,afN,f1,f2,f5,fo,aa]
   try exact rfl
  rintro j ⟨frj,obj,ckj⟩ hj ⟨g1,g2,g5,g6,go,Ej⟩
  dsimp only at g1 g2 g5 g6 go
  rcases Nat.lt_or_ge j (t.rfs.length) with dj|dj
  .have hwj:=aQ j (by omega)
   have gy:=ap dj
   rw[aJ dj,List.any_cons] at Ej
   generalize t.rfs[j]=y at *
   by_cases c1:t.nm=nm
   .have F:(decide (t.nm≠nm)&&t.rfs.any fun f=>decide (f.tb=nm))=(decide (t.nm≠nm)&&(t.rfs.drop (j+1)).any fun f=>decide (f.tb=nm)):=by rw[decide_eq_false (fun h=>h c1),Bool.false_and,Bool.false_and]
    simp -implicitDefEqProofs(maxSteps:=9^9)only[Tryz.f67,↓zA,sevalprocAttr,afN,g1,g2,g5,g6,go,aa,dj,gt,gy,hwj,av,eq_true c1]
    exact F
   by_cases c0:y.tb=nm
   .rw[decide_eq_true c0,Bool.true_or,decide_eq_true c1,Bool.true_and] at Ej
    rw[decide_eq_true c1,Ej] at Ek
    simp only[Bool.and_self,Bool.true_or] at Ek
    simp -implicitDefEqProofs(maxSteps:=9^9)only[Tryz.f67,↓zA,sevalprocAttr,afN,g1,g2,g5,g6,go,aa,dj,gt,gy,hwj,av,c1,eq_true c0,Ek]
   .rw[decide_eq_false c0,Bool.false_or] at Ej
    simp -implicitDefEqProofs(maxSteps:=9^9)only[Tryz.f67,↓zA,sevalprocAttr,afN,g1,g2,g5,g6,go,aa,dj,gt,gy,hwj,av,c1,c0]
    exact Ej
  .have e:j=t.rfs.length:=by omega
   subst e
   rw[List.drop_length,List.any_nil,Bool.and_false] at Ej
   rw[Ej,Bool.false_or] at Ek
   simp -implicitDefEqProofs(maxSteps:=9^9)only[Tryz.f67,↓zA,sevalprocAttr,afN,g1,g2,g5,g6,go,aa,Nat.lt_irrefl,gt,hw]
   exact Ek
 .have e:k=c.tbs.length:=by omega
  subst e
  rw[List.drop_length,List.any_nil] at Ek
  rw[Ek]
  simp -implicitDefEqProofs(maxSteps:=9^9)only[Tryz.f67,↓zA,sevalprocAttr,afN,f1,f2,f5,fo,aa,Nat.lt_irrefl]
theorem aqC (c:Ct) (nm:List UInt8) (hc:CtB c) (K:An→Prop):aG Tryz.prog pr 67 [.of (.agg (ctC c)),.of (ao (ar nm))] [] K↔K ⟨false,[ah (c.tbs.any fun t=>decide (t.nm≠nm)&&t.rfs.any fun f=>decide (f.tb=nm))],[]⟩:=ae.k (akX c nm hc) K
def nnP (a:Nat×Nat):Nn:=⟨a.1,a.2⟩
theorem acd (a:Nat×Nat):(nnP a).nd=a.1:=rfl
theorem ac7 (a:Nat×Nat):(nnP a).dp=a.2:=rfl
theorem aVG (a b:Nat) (h:a+b≤4611686018427387903):IntKind.i64.wrap ((a:Int)+(b:Int))=((a+b:Nat):Int):=by rw[da _ (by omega) (by omega)];rfl
def aVB:=ai (ai (ai @zq @a1s) (ai @a1r (ai @a1q @aeD))) (ai (ai @P3 @Q3) (ai @zT0 (ai @awW (aw aK4))))
theorem ayL (a b:Nat×Nat) (h:a.1+b.1≤4611686018427387903):G1 106 [.of (.agg (nnC (nnP a))),.of (.agg (nnC (nnP b)))] (.of (.agg (nnC (nnP (aM a b))))):=by
 have hw:=aVG a.1 b.1 h
 have hm:(if (a.2:Int)<b.2 then (b.2:Int) else a.2)=((max a.2 b.2:Nat):Int):=by split <;> omega
 have e:nnC (nnP (aM a b))=[ci ((a.1+b.1:Nat):Int),ci ((max a.2 b.2:Nat):Int)]:=rfl
 refine aj rfl aK4 awW rfl ?_
 simp -implicitDefEqProofs(maxSteps:=9^9)only[Tryz.f106,↓zA,sevalprocAttr,aVB,acd,ac7,hw,hm,e]
theorem abT (a b:Nat×Nat) (K:An→Prop):aG Tryz.prog pr 106 [.of (.agg (nnC (nnP a))),.of (.agg (nnC (nnP b)))] [] K↔ifP (a.1+b.1≤4611686018427387903) (K ⟨false,[.of (.agg (nnC (nnP (aM a b))))],[]⟩) (fp Tryz.prog pr 106 [.of (.agg (nnC (nnP a))),.of (.agg (nnC (nnP b)))] K):=hZ (ayL a b) K
def aVo:=ai (ai (ai @zq @a1p) (ai @a1o @aeD)) (ai (ai @P3 @Q3) (ai @zT0 (ai @awd (aw aKm))))
theorem aAx (a:Nat×Nat) (h:a.1≤4611686018427387903∧a.2≤4611686018427387903):G1 155 [.of (.agg (nnC (nnP a)))] (.of (.agg (nnC (nnP (upN a))))):=by
 have hw:=aQ a.1 (by omega)
 have hw2:=aQ a.2 (by omega)
 have e:nnC (nnP (upN a))=[ci ((a.1+1:Nat):Int),ci ((a.2+1:Nat):Int)]:=rfl
 refine aj rfl aKm awd rfl ?_
 simp -implicitDefEqProofs(maxSteps:=9^9)only[Tryz.f155,↓zA,sevalprocAttr,aVo,acd,ac7,hw,hw2,e]
theorem ano (a:Nat×Nat) (K:An→Prop):aG Tryz.prog pr 155 [.of (.agg (nnC (nnP a)))] [] K↔ifP (a.1≤4611686018427387903∧a.2≤4611686018427387903) (K ⟨false,[.of (.agg (nnC (nnP (upN a))))],[]⟩) (fp Tryz.prog pr 155 [.of (.agg (nnC (nnP a)))] K):=hZ (aAx a) K
def aId:=ai (ai (ai @zq @a0X) (ai @aeD @P3)) (ai (ai @Q3 @zT0) (ai @awS (aw aK0)))
theorem ajA (a:Nat×Nat):G1 111 [.of (.agg (nnC (nnP a)))] (ah (iB a)):=by
 have e1:((a.1:Int)≤400)=(a.1≤400):=propext (by omega)
 have e2:((a.2:Int)≤40)=(a.2≤40):=propext (by omega)
 refine aj rfl aK0 awS rfl ?_
 by_cases c1:a.1≤400
 .simp -implicitDefEqProofs(maxSteps:=9^9)only[Tryz.f111,↓zA,sevalprocAttr,aId,acd,ac7,e1,e2,iB,c1]
 .simp -implicitDefEqProofs(maxSteps:=9^9)only[Tryz.f111,↓zA,sevalprocAttr,aId,acd,ac7,e1,e2,iB,c1]
theorem aF1 (a:Nat×Nat) (K:An→Prop):aG Tryz.prog pr 111 [.of (.agg (nnC (nnP a)))] [] K↔K ⟨false,[ah (iB a)],[]⟩:=ae.k (ajA a) K
def agV (l:List Xp):Prop:=G1 107 [.of (slC xpC l)] (.of (.agg (nnC (nnP (aH bk l)))))
def anv (l:List Qy):Prop:=G1 108 [.of (slC qyC l)] (.of (.agg (nnC (nnP (aH cS l)))))
def asx (l:List Fm):Prop:=G1 156 [.of (slC fmC l)] (.of (.agg (nnC (nnP (aH eT l)))))
theorem arb {α:Type} (f:α→Nat×Nat) (w:α→Nat) (l:List α) (hs:leW (aH f l) (lsW w l)) (hw:lsW w l≤WL) (a b:Nat×Nat) (h:aM (aM a b) (aH f [])=aH f l∨∃ r,aM (aM a b) (aH f r)=aH f l):a.1+b.1≤4611686018427387903:=by
 simp only[leW,WL] at hs hw
 rcases h with h|⟨r,h⟩ <;> (have:=congrArg Prod.fst h;simp only[aM] at this;omega)
def apy:=ai (ai (ai (ai @zq @a1k) (ai @a1j @ahH)) (ai (ai @afI @alh) (ai @ajj (ai @alj @ajk)))) (ai (ai (ai @aq3 @anc) (ai @bK @aeD)) (ai (ai @dY @dR) (ai @zT0 (ai @awV (aw aK3)))))
theorem aAT (l:List Xp) (hw:lsW xpW l≤WL) (i1:∀ x∈l,agV x.ks) (i2:∀ x∈l,anv x.sb):agV l:=by
 have h1:=bh xpW l fun x _=>gW x
 have h2:=sbX l
 have hw2:=hw
 simp only[WL] at hw2
 unfold agV
 refine aj rfl aK3 awV rfl ?_
 simp -implicitDefEqProofs(maxSteps:=9^9)only[Tryz.f107,↓zA,sevalprocAttr,apy]
 refine aL l.length (fun k s=>∃ a,s.fr 0=.of (slC xpC l)∧s.fr 2=.ptr 0 0∧s.fr 3=.ptr 1 0∧s.fr 4=ak k∧s.objs=[.var 103 [ak 0,ak 0],.var 103 [.of (ci ((a:Nat×Nat).1:Int)),.of (ci (a.2:Int))]]∧aM a (aH bk (l.drop k))=aH bk l) ?_ ?_
 .refine⟨(0,0),?_⟩
  simp -implicitDefEqProofs(maxSteps:=9^9)only[Tryz.f107,↓zA,sevalprocAttr,apy,jx]
  try exact rfl
 .rintro k s hk ⟨a,f0,f2,f3,f4,ho,E⟩
  have ea:nnC (nnP a)=[ci (a.1:Int),ci (a.2:Int)]:=rfl
  rcases Nat.lt_or_ge k l.length with c1|c1
  .have hwk:=aQ k (by omega)
   have hm:l[k]∈l:=List.getElem_mem c1
   have kx:=fun K=>ae.k (i1 l[k] hm) K
   have kq:=fun K=>ae.k (i2 l[k] hm) K
   have b1:=sbX l[k].ks
   have b2:=sbQ l[k].sb
   have b3:=bg (w:=xpW) hm
   have b4:=jB l[k]
   simp only[leW] at b1 b2
   have p1:(aH bk l[k].ks).1+(aH cS l[k].sb).1≤4611686018427387903:=by omega
   have p2:(aM (aH bk l[k].ks) (aH cS l[k].sb)).1≤4611686018427387903∧(aM (aH bk l[k].ks) (aH cS l[k].sb)).2≤4611686018427387903:=by simp only[aM];omega
   rw[aJ c1,jr,← fZ] at E
   have es:upN (aM (aH bk l[k].ks) (aH cS l[k].sb))=bk l[k]:=(amv _).symm
   have p3:=arb bk xpW l h2 hw a (bk l[k]) (.inr ⟨_,E⟩)
   have eb:nnC (nnP (aM a (bk l[k])))=[ci ((aM a (bk l[k])).1:Int),ci ((aM a (bk l[k])).2:Int)]:=rfl
   simp -implicitDefEqProofs(maxSteps:=9^9)only[Tryz.f107,↓zA,sevalprocAttr,apy,f0,f2,f3,f4,ho,aa,c1,ap c1,hwk,kx,kq,← ea,abT,ano,p1,p2,es,p3,eb]
   exact⟨_,rfl,E⟩
  .have e:k=l.length:=by omega
   subst e
   rw[List.drop_length,aH,eX] at E
   subst E
   simp -implicitDefEqProofs(maxSteps:=9^9)only[Tryz.f107,↓zA,sevalprocAttr,apy,f0,f2,f3,f4,ho,aa,Nat.lt_irrefl,ea]
def app:=ai (ai (ai (ai @zq @a1i) (ai @a1h (ai @alh @ajj))) (ai (ai @aCl @axL) (ai @alj (ai @ajk @ahH)))) (ai (ai (ai @afI @aq3) (ai @anc (ai @aeD @gV))) (ai (ai @dY (ai @bK @hU)) (ai @zT0 (ai @awc (aw aKl)))))
theorem aql (l:List Fm) (hw:lsW fmW l≤WL) (i1:∀ x∈l,anv x.sb) (i2:∀ x∈l,asx x.ks) (i3:∀ x∈l,agV x.on):asx l:=by
 have h1:=bh fmW l fun x _=>iX x
 have h2:=sbF l
 have hw2:=hw
 simp only[WL] at hw2
 unfold asx
 refine aj rfl aKl awc rfl ?_
 simp -implicitDefEqProofs(maxSteps:=9^9)only[Tryz.f156,↓zA,sevalprocAttr,app]
 refine aL l.length (fun k s=>∃ a,s.fr 0=.of (slC fmC l)∧s.fr 2=.ptr 0 0∧s.fr 3=.ptr 1 0∧s.fr 4=ak k∧s.objs=[.var 103 [ak 0,ak 0],.var 103 [.of (ci ((a:Nat×Nat).1:Int)),.of (ci (a.2:Int))]]∧aM a (aH eT (l.drop k))=aH eT l) ?_ ?_
 .refine⟨(0,0),?_⟩
  simp -implicitDefEqProofs(maxSteps:=9^9)only[Tryz.f156,↓zA,sevalprocAttr,app,jx]
  try exact rfl
 .rintro k s hk ⟨a,f0,f2,f3,f4,ho,E⟩
  have ea:nnC (nnP a)=[ci (a.1:Int),ci (a.2:Int)]:=rfl
  rcases Nat.lt_or_ge k l.length with c1|c1
  .have hwk:=aQ k (by omega)
   have hm:l[k]∈l:=List.getElem_mem c1
   have k1:=fun K=>ae.k (i1 l[k] hm) K
   have k2:=fun K=>ae.k (i2 l[k] hm) K
   have k3:=fun K=>ae.k (i3 l[k] hm) K
   have b1:=sbQ l[k].sb
   have b2:=sbF l[k].ks
   have b3:=sbX l[k].on
   have b5:=bg (w:=fmW) hm
   have b4:=gK l[k]
   simp only[leW] at b1 b2 b3
   have p0:(aH cS l[k].sb).1+(aH eT l[k].ks).1≤4611686018427387903:=by omega
   have p1:(aM (aH cS l[k].sb) (aH eT l[k].ks)).1+(aH bk l[k].on).1≤4611686018427387903:=by simp only[aM];omega
   have p2:(aM (aM (aH cS l[k].sb) (aH eT l[k].ks)) (aH bk l[k].on)).1≤4611686018427387903∧(aM (aM (aH cS l[k].sb) (aH eT l[k].ks)) (aH bk l[k].on)).2≤4611686018427387903:=by simp only[aM];omega
   rw[aJ c1,jr,← fZ] at E
   have es:upN (aM (aM (aH cS l[k].sb) (aH eT l[k].ks)) (aH bk l[k].on))=eT l[k]:=(amy _).symm
   have p3:=arb eT fmW l h2 hw a (eT l[k]) (.inr ⟨_,E⟩)
   have eb:nnC (nnP (aM a (eT l[k])))=[ci ((aM a (eT l[k])).1:Int),ci ((aM a (eT l[k])).2:Int)]:=rfl
   simp -implicitDefEqProofs(maxSteps:=9^9)only[Tryz.f156,↓zA,sevalprocAttr,app,f0,f2,f3,f4,ho,aa,c1,ap c1,hwk,k1,k2,k3,← ea,abT,ano,p0,p1,p2,es,p3,eb]
   exact⟨_,rfl,E⟩
  .have e:k=l.length:=by omega
   subst e
   rw[List.drop_length,aH,eX] at E
   subst E
   simp -implicitDefEqProofs(maxSteps:=9^9)only[Tryz.f156,↓zA,sevalprocAttr,app,f0,f2,f3,f4,ho,aa,Nat.lt_irrefl,ea]
theorem ahK (a:Nat×Nat):Nn.mk (a.1:Int) (a.2:Int)=nnP a:=rfl
theorem aU {α:Type} (A:List α) (x:α):(A++[x])[A.length]?=some x:=by simp
theorem aN {α:Type} (A:List α) (x y:α):(A++[x]).set A.length y=A++[y]:=by simp
theorem aqR (e:Xp):C.sl [ci e.op,ci e.v.k,ci e.v.n,ao e.v.s,ao (ar e.tb),ao (ar e.nm),cb e.di,slC xpC e.ks,slC qyC e.sb] 1=slC xpC [e]:=by rw[← aaG];simp[slC,fl]
theorem agN {α:Type} (a b:α) (J:List α) (x:α):(a::b::J)++[x]=a::b::(J++[x]):=rfl
theorem aOR (q:Qy):upN (aM (aM (aM (aH cS q.ks) (aH eT q.fr)) (aH gc q.its)) (aM (aH bk q.wh) (aM (aH bk q.gr) (aH bk q.hv))))=cS q:=by
 rw[amw]
 simp only[upN,aM,Prod.mk.injEq]
 omega
def aeC:=ai (ai (ai (ai @zq (ai @a1f @a1d)) (ai (ai @a1c @alh) (ai @ajj @aCl))) (ai (ai @axL (ai @alj @ajk)) (ai (ai @a1b @ahH) (ai @afI @aq3)))) (ai (ai (ai @anc (ai @aQL @bK)) (ai (ai @aeD @dY) (ai @jh @gV))) (ai (ai @dR (ai @ec @kQ)) (ai (ai @Q4 @zT0) (ai @awU (aw aK2)))))
theorem asw (l:List Qy) (hw:lsW qyW l≤WL) (i1:∀ x∈l,anv x.ks) (i2:∀ x∈l,asx x.fr) (i3:∀ x∈l,∀ i∈x.its,agV [i.e]) (i4:∀ x∈l,agV x.wh) (i5:∀ x∈l,agV x.gr) (i6:∀ x∈l,agV x.hv):anv l:=by
 have h1:=bh qyW l fun x _=>aaE x
 have h2:=sbQ l
 have hw2:=hw
 simp only[WL] at hw2
 unfold anv
 refine aj rfl aK2 awU rfl ?_
 simp -implicitDefEqProofs(maxSteps:=9^9)only[Tryz.f108,↓zA,sevalprocAttr,aeC]
 refine aL l.length (fun k s=>∃ a J,s.fr 0=.of (slC qyC l)∧s.fr 2=.ptr 0 0∧s.fr 3=.ptr 1 0∧s.fr 4=ak k∧s.objs=.var 103 [ak 0,ak 0]::.var 103 [.of (ci ((a:Nat×Nat).1:Int)),.of (ci (a.2:Int))]::J∧aM a (aH cS (l.drop k))=aH cS l) ?_ ?_
 .refine⟨(0,0),[],?_⟩
  simp -implicitDefEqProofs(maxSteps:=9^9)only[Tryz.f108,↓zA,sevalprocAttr,aeC,jx]
  try exact rfl
 .rintro k s hk ⟨a,J,f0,f2,f3,f4,ho,E⟩
  have ea:nnC (nnP a)=[ci (a.1:Int),ci (a.2:Int)]:=rfl
  rcases Nat.lt_or_ge k l.length with c1|c1
  rotate_left
  .have e:k=l.length:=by omega
   subst e
   rw[List.drop_length,aH,eX] at E
   subst E
   simp -implicitDefEqProofs(maxSteps:=9^9)only[Tryz.f108,↓zA,sevalprocAttr,aeC,f0,f2,f3,f4,ho,aa,Nat.lt_irrefl,ea]
  have hwk:=aQ k (by omega)
  have hm:l[k]∈l:=List.getElem_mem c1
  have k1:=fun K=>ae.k (i1 l[k] hm) K
  have k2:=fun K=>ae.k (i2 l[k] hm) K
  have k3:=i3 l[k] hm
  have k4:=fun K=>ae.k (i4 l[k] hm) K
  have k5:=fun K=>ae.k (i5 l[k] hm) K
  have k6:=fun K=>ae.k (i6 l[k] hm) K
  have b0:=bg (w:=qyW) hm
  rw[aJ c1,jr,← fZ] at E
  have p9:=arb cS qyW l h2 hw a (cS l[k]) (.inr ⟨_,E⟩)
  have es:=aOR l[k]
  have b4:=gI l[k]
  have q1:=sbQ l[k].ks
  have q2:=sbF l[k].fr
  have q3:=sbI l[k].its
  have q4:=sbX l[k].wh
  have q5:=sbX l[k].gr
  have q6:=sbX l[k].hv
  have nI:=bh imW l[k].its fun x _=>abE x
  simp only[leW] at q1 q2 q3 q4 q5 q6
  have eb:nnC (nnP (aM a (cS l[k])))=[ci ((aM a (cS l[k])).1:Int),ci ((aM a (cS l[k])).2:Int)]:=rfl
  generalize hq:l[k]=q at *
  generalize hB:aM (aH cS q.ks) (aH eT q.fr)=B at *
  have hB1:B.1≤lsW qyW q.ks+lsW fmW q.fr:=by rw[← hB];simp only[aM];omega
  have hB2:B.2≤lsW qyW q.ks+lsW fmW q.fr:=by rw[← hB];simp only[aM];omega
  have p0:(aH cS q.ks).1+(aH eT q.fr).1≤4611686018427387903:=by omega
  have eB:nnC (nnP B)=[ci (B.1:Int),ci (B.2:Int)]:=rfl
  simp -implicitDefEqProofs(maxSteps:=9^9)only[Tryz.f108,↓zA,sevalprocAttr,aeC,f0,f2,f3,f4,ho,aa,c1,ap c1,hq,k1,k2,← ea,abT,p0,hB,eB,aU,aN,List.length_cons,List.getElem?_cons_succ,List.set_cons_succ,agN,List.length_append,List.cons_append]
  refine aL q.its.length (fun j s=>∃ b J',s.objs=.var 103 [ak 0,ak 0]::.var 103 [.of (ci (a.1:Int)),.of (ci (a.2:Int))]::(J'++[.var 103 [.of (ci ((b:Nat×Nat).1:Int)),.of (ci (b.2:Int))]])∧s.fr 6=.ptr ((J':List Ob).length+1+1) 0∧s.fr 0=.of (slC qyC l)∧s.fr 2=.ptr 0 0∧s.fr 3=.ptr 1 0∧s.fr 4=ak k∧s.fr 5=.of (.ref [ci q.op,cb q.al,slC qyC q.ks,cb q.di,slC imC q.its,slC fmC q.fr,slC xpC q.wh,slC xpC q.gr,slC xpC q.hv,slC odC q.od,ci q.li,ci q.sk])∧s.fr 7=ak j∧aM b (aH gc (q.its.drop j))=aM B (aH gc q.its)) ?_ ?_
  .refine⟨B,?_⟩
   simp -implicitDefEqProofs(maxSteps:=9^9)only[Tryz.f108,↓zA,sevalprocAttr,aeC,f0,f2,f3,f4]
   exact⟨_,rfl,by simp⟩
  .rintro j s' hj ⟨b,J',go,g6,g0,g2,g3,g4,g5,g7,F⟩
   have eb2:nnC (nnP b)=[ci (b.1:Int),ci (b.2:Int)]:=rfl
   rcases Nat.lt_or_ge j q.its.length with d1|d1
   .have hwj:=aQ j (by omega)
    rw[aJ d1,jr,← fZ] at F
    have F1:=congrArg Prod.fst F
    simp only[aM] at F1
    have k3':=fun K=>ae.k (k3 q.its[j] (List.getElem_mem d1)) K
    have hs:gc q.its[j]=if q.its[j].st then (0,0) else bk q.its[j].e:=amx _
    cases c3:q.its[j].st
    .rw[c3] at hs
     simp only[Bool.false_eq_true,if_false] at hs
     have k3s:aH bk [q.its[j].e]=gc q.its[j]:=by rw[hs,aH,aH,eX]
     rw[k3s] at k3'
     have p8:b.1+(gc q.its[j]).1≤4611686018427387903:=by omega
     have eb3:nnC (nnP (aM b (gc q.its[j])))=[ci ((aM b (gc q.its[j])).1:Int),ci ((aM b (gc q.its[j])).2:Int)]:=rfl
     simp -implicitDefEqProofs(maxSteps:=9^9)only[Tryz.f108,↓zA,sevalprocAttr,aeC,g0,g2,g3,g4,g5,g6,g7,go,aa,d1,ap d1,c3,hwj,← eb2,k3',abT,p8,eb3,aqR,aU,aN,List.length_cons,List.getElem?_cons_succ,List.set_cons_succ,agN,List.length_append,List.cons_append]
     exact⟨_,_,rfl,by simp,F⟩
    .rw[c3] at hs
     simp only[if_true] at hs
     rw[hs,eX] at F
     simp -implicitDefEqProofs(maxSteps:=9^9)only[Tryz.f108,↓zA,sevalprocAttr,aeC,g0,g2,g3,g4,g5,g6,g7,go,aa,d1,ap d1,c3,hwj,aU,aN,List.length_cons,List.getElem?_cons_succ,List.set_cons_succ,agN,List.length_append,List.cons_append]
     exact⟨_,_,rfl,by simp,F⟩
   .have e:j=q.its.length:=by omega
    subst e
    rw[List.drop_length,aH,eX] at F
    subst F
    have z1:(aH bk q.gr).1+(aH bk q.hv).1≤4611686018427387903:=by omega
    have z2:(aH bk q.wh).1+(aM (aH bk q.gr) (aH bk q.hv)).1≤4611686018427387903:=by simp only[aM];omega
    have z3:(aM B (aH gc q.its)).1+(aM (aH bk q.wh) (aM (aH bk q.gr) (aH bk q.hv))).1≤4611686018427387903:=by simp only[aM];omega
    have z4:(aM (aM B (aH gc q.its)) (aM (aH bk q.wh) (aM (aH bk q.gr) (aH bk q.hv)))).1≤4611686018427387903∧(aM (aM B (aH gc q.its)) (aM (aH bk q.wh) (aM (aH bk q.gr) (aH bk q.hv)))).2≤4611686018427387903:=by simp only[aM];omega
    have eb4:nnC (nnP (aM (aM B (aH gc q.its)) (aM (aH bk q.wh) (aM (aH bk q.gr) (aH bk q.hv)))))=[ci ((aM (aM B (aH gc q.its)) (aM (aH bk q.wh) (aM (aH bk q.gr) (aH bk q.hv)))).1:Int),ci ((aM (aM B (aH gc q.its)) (aM (aH bk q.wh) (aM (aH bk q.gr) (aH bk q.hv)))).2:Int)]:=rfl
    have ea2:[ci (a.1:Int),ci (a.2:Int)]=nnC (nnP a):=rfl
    simp -implicitDefEqProofs(maxSteps:=9^9)only[Tryz.f108,↓zA,sevalprocAttr,aeC,g0,g2,g3,g4,g5,g6,g7,go,aa,Nat.lt_irrefl,hwk,k4,k5,k6,abT,ano,z1,z2,z3,z4,es,p9,ahK,acd,ac7,aU,aN,List.length_cons,List.getElem?_cons_succ,List.set_cons_succ,agN,List.length_append,List.cons_append]
    exact⟨_,_,rfl,E⟩
end Go.Proofs.YtjajlmjfddohfaaGreatDoor

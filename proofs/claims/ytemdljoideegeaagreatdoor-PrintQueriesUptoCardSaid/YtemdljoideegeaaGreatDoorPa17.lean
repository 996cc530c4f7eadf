/-
  The writer: the text of its tokens. Conditions: none.
-/
import Derived.Test.YtemdljoideegeaaGreatDoorPa16
set_option linter.defProp false
set_option linter.unusedSectionVars false
set_option maxRecDepth 100000
set_option maxHeartbeats 64000000
namespace Go.Proofs.YtemdljoideegeaaGreatDoor
open Go Go.Pe Go.Tab
def aUV (e:Xp):C.sl [ci e.op,ci e.v.k,ci e.v.n,aH e.v.s,aH (aD e.tb),aH (aD e.nm),cb e.di,slC xpC e.ks,slC qyC e.sb] 1=slC xpC [e]:=by
 unfold slC;rw[aIJ,adz];rfl
def aQ8 (e:Xp):C.sl (xpC e) 1=slC xpC [e]:=by unfold slC;rw[aIJ];rfl
def aDt (b:Bool) (o:Option (List To)) (K:An→Prop):bp Tryz.prog pr 119 [.ptr 0 0,.ptr 2 0] [wP 1,wT (.cell 1 0) o,fB b] K↔ifP (bi o+(aF (!b) [[44]]).length≤LIM) (K ⟨false,[],[wP 1,wT (.cell 1 0) (iH o (aF (!b) [[44]])),fB false]⟩) (afP Tryz.prog pr 119 [.ptr 0 0,.ptr 2 0] [wP 1,wT (.cell 1 0) o,fB b] K):=aeZ (aGV b o) K
def agP:=ai (ai (ai (ai (ai @zq @a6P) (ai @T65 (ai @a6O @ac4))) (ai (ai @ab1 (ai @aez @afI)) (ai @ad9 (ai @ahP @a6N)))) (ai (ai (ai @T4 (ai @a6M @aeq)) (ai @adh (ai @agl @a6L))) (ai (ai @aC2 (ai @av3 @aKa)) (ai @a6K (ai @a6J @ati))))) (ai (ai (ai (ai @apX @aCi) (ai @aba (ai @cR @aep))) (ai (ai @adN (ai @aeo @acl)) (ai @bO (ai @ack @ac3)))) (ai (ai (ai @ey (ai @aWf @aTh)) (ai @a1z (ai @P65 @Q9))) (ai (ai @P4 (ai @Q4 @Q3)) (ai @zT0 (ai @aIb (ba aYx))))))
def aLY (s:Sm) (hl:SmL s):GW 35 [.of (.agg (smC s))] ([99,114,101,97,116,101]::([116,97,98,108,101]::(bF s.tb::bI true (bc true (adg s))))):=by
 intro o h
 have hE:([99,114,101,97,116,101]::([116,97,98,108,101]::(bF s.tb::bI true (bc true (adg s)))))=([99,114,101,97,116,101]::([116,97,98,108,101]::(bF s.tb::([40]::bc true (adg s)))))++[[41]]:=by simp[bI,lpT,rpT]
 rw[hE] at h ⊢
 simp only[aR] at h
 have gJ:=aL [99,114,101,97,116,101]
 have ib:=aL [116,97,98,108,101]
 have e_28:=aL [40]
 have e_29:=aL [41]
 have abL:=aL [110,111,116]
 have aak:=aL [110,117,108,108]
 have aac:=aL [112,114,105,109,97,114,121]
 have adY:=aL [107,101,121]
 have gI:=aL [117,110,105,113,117,101]
 have aad:=aL [102,111,114,101,105,103,110]
 have gF:=aL [114,101,102,101,114,101,110,99,101,115]
 have abZ:=aL [99,104,101,99,107]
 have afb:=aL [98,111,111,108]
 have ag5:=aL [105,110,116]
 have ae9:=aL [116,101,120,116]
 have q1:bi o+2≤LIM:=by omega
 have q2:bi o+(1+1)+1≤LIM:=by omega
 have q3:bi o+((1+1)+1)+1≤LIM:=by omega
 refine ah rfl aYx aIb rfl ?_
 simp -implicitDefEqProofs(maxSteps:=9^9)only[Tryz.f35,↓zA,sevalprocAttr,agP,zW,du,iv,cO,co,gJ,ib,e_28,e_29,abL,aak,aac,adY,gI,aad,gF,abZ,afb,ag5,ae9,aaF _ hl.tb,dI,gc,bg,q1,q2,q3,aR,am,ch,bd]
 refine bX s.cs.length (fun k s0=>s0.fr 2=.ptr 1 0∧s0.fr 3=.of (.ref (agR s))∧s0.fr 5=.clo (2*119) [.ptr 1 0,.ptr 2 0]∧s0.fr 26=.of (slC cdC s.cs)∧s0.fr 27=aU s.cs.length∧s0.fr 28=aU k∧∃ A b,s0.objs=[wT cw (iH o A),wP 0,fB b]∧[99,114,101,97,116,101]::([116,97,98,108,101]::(bF s.tb::([40]::bc true (adg s))))=A++bc b ((s.cs.drop k).map cdT++(s.kys.map kdT++(s.rfs.map rdT++s.chs.map chT)))) ?_ ?_
 .simp -implicitDefEqProofs(maxSteps:=9^9)only[Tryz.f35,↓zA,sevalprocAttr,agP,zW,du,iv,cO,co,Nat.reduceMul]
  exact⟨_,true,rfl,rfl⟩
 rintro k ⟨fr_0,ob_0,ck_0⟩ hk0 ⟨f02,f03,f05,f0a,f0b,f0c,A0,b0,fo0,E0⟩
 dsimp only at f02 f03 f05 f0a f0b f0c fo0
 simp only[Nat.reduceMul] at f05
 rcases ap k s.cs.length with dk|dk
 .have hw:=cF k (by have:=hl.cs.1;omega)
  have gx:=bq dk
  have hx:=hl.cs.2 _ (ay dk)
  have hbz:=h
  rw[bM dk,aV,bt,aCv] at E0
  generalize s.cs[k]=x at *
  have EL:=congrArg List.length E0
  simp only[av,aB] at EL
  have hg:cdT x=bF x.nm::(aeV x.ty::aF x.nn [[110,111,116],[110,117,108,108]]):=rfl
  rw[hg] at E0 EL
  simp only[av,aB] at EL
  have kw:=fun o K=>(gD x.nn [.lit (.string (aD [110,111,116])),.lit (.string (aD [110,117,108,108]))] [[110,111,116],[110,117,108,108]] 2 rfl rfl (by simp)).k o K
  have hty:=aRx x.ty hx.2
  have q2:bi o+(A0).length+(aF (!b0) [[44]]).length≤LIM:=by omega
  have q3:bi o+((A0).length+(aF (!b0) [[44]]).length)+1≤LIM:=by omega
  have q4:bi o+((A0).length+((aF (!b0) [[44]]).length+1))+1≤LIM:=by omega
  have q5:bi o+((A0).length+((aF (!b0) [[44]]).length+(1+1)))+(aF x.nn [[110,111,116],[110,117,108,108]]).length≤LIM:=by omega
  simp -implicitDefEqProofs(maxSteps:=9^9)only[Tryz.f35,↓zA,sevalprocAttr,agP,f02,f03,f05,f0a,f0b,f0c,fo0,zW,du,iv,cO,co,aDt,aK,dk,gx,hw,gJ,ib,e_28,e_29,abL,aak,aac,adY,gI,aad,gF,abZ,afb,ag5,ae9,dI,gc,bg,aaF _ hx.1,kw,hty,a7w,q2,q3,q4,q5,aR,am,ch,bd]
  exact⟨_,false,rfl,by rw[E0];simp[cdT]⟩
 have e0:k=s.cs.length:=by omega
 subst e0
 rw[aw,bC,bw] at E0
 simp -implicitDefEqProofs(maxSteps:=9^9)only[Tryz.f35,↓zA,sevalprocAttr,agP,f02,f03,f05,f0a,f0b,f0c,fo0,zW,du,iv,cO,co,aK,au]
 refine bX s.kys.length (fun j s1=>s1.fr 2=.ptr 1 0∧s1.fr 3=.of (.ref (agR s))∧s1.fr 5=.clo (2*119) [.ptr 1 0,.ptr 2 0]∧s1.fr 52=.of (slC kdC s.kys)∧s1.fr 53=aU s.kys.length∧s1.fr 54=aU j∧∃ A b,s1.objs=[wT cw (iH o A),wP 0,fB b]∧[99,114,101,97,116,101]::([116,97,98,108,101]::(bF s.tb::([40]::bc true (adg s))))=A++bc b ((s.kys.drop j).map kdT++(s.rfs.map rdT++s.chs.map chT))) ?_ ?_
 .simp -implicitDefEqProofs(maxSteps:=9^9)only[Tryz.f35,↓zA,sevalprocAttr,agP,zW,du,iv,cO,co,Nat.reduceMul]
  exact⟨f02,f03,f05,A0,b0,rfl,E0⟩
 rintro j ⟨fr_1,ob_1,ck_1⟩ hk1 ⟨f12,f13,f15,f1a,f1b,f1c,A1,b1,fo1,E1⟩
 dsimp only at f12 f13 f15 f1a f1b f1c fo1
 simp only[Nat.reduceMul] at f15
 rcases ap j s.kys.length with dk|dk
 .have hw:=cF j (by have:=hl.kys.1;omega)
  have gx:=bq dk
  have hx:=hl.kys.2 _ (ay dk)
  have hbz:=h
  rw[bM dk,aV,bt,aCv] at E1
  generalize s.kys[j]=x at *
  have EL:=congrArg List.length E1
  simp only[av,aB] at EL
  have kn1:=fun o K=>(gD x.pr [.lit (.string (aD [112,114,105,109,97,114,121])),.lit (.string (aD [107,101,121]))] [[112,114,105,109,97,114,121],[107,101,121]] 2 rfl rfl (by simp)).k o K
  have kn2:=fun o K=>(gD (!x.pr) [.lit (.string (aD [117,110,105,113,117,101]))] [[117,110,105,113,117,101]] 1 rfl rfl (by simp)).k o K
  have kns:=fun o K=>(afq x.ns hx.1 hx.2).k o K
  have hg:kdT x=aF x.pr [[112,114,105,109,97,114,121],[107,101,121]]++(aF (!x.pr) [[117,110,105,113,117,101]]++dT x.ns):=by cases hp:x.pr <;> simp[kdT,hp,aF]
  rw[hg] at E1 EL
  simp only[av] at EL
  have q2:bi o+(A1).length+(aF (!b1) [[44]]).length≤LIM:=by omega
  have q3:bi o+((A1).length+(aF (!b1) [[44]]).length)+(aF x.pr [[112,114,105,109,97,114,121],[107,101,121]]).length≤LIM:=by omega
  have q4:bi o+((A1).length+((aF (!b1) [[44]]).length+(aF x.pr [[112,114,105,109,97,114,121],[107,101,121]]).length))+(aF (!x.pr) [[117,110,105,113,117,101]]).length≤LIM:=by omega
  have q5:bi o+((A1).length+((aF (!b1) [[44]]).length+((aF x.pr [[112,114,105,109,97,114,121],[107,101,121]]).length+(aF (!x.pr) [[117,110,105,113,117,101]]).length)))+(dT x.ns).length≤LIM:=by omega
  simp -implicitDefEqProofs(maxSteps:=9^9)only[Tryz.f35,↓zA,sevalprocAttr,agP,f12,f13,f15,f1a,f1b,f1c,fo1,zW,du,iv,cO,co,aDt,aK,dk,gx,hw,gJ,ib,e_28,e_29,abL,aak,aac,adY,gI,aad,gF,abZ,afb,ag5,ae9,dI,gc,bg,kn1,kn2,kns,q2,q3,q4,q5,aR,am,ch,bd]
  exact⟨_,false,rfl,by rw[E1];simp⟩
 have e1:j=s.kys.length:=by omega
 subst e1
 rw[aw,bC,bw] at E1
 simp -implicitDefEqProofs(maxSteps:=9^9)only[Tryz.f35,↓zA,sevalprocAttr,agP,f12,f13,f15,f1a,f1b,f1c,fo1,zW,du,iv,cO,co,aK,au]
 refine bX s.rfs.length (fun m s2=>s2.fr 2=.ptr 1 0∧s2.fr 3=.of (.ref (agR s))∧s2.fr 5=.clo (2*119) [.ptr 1 0,.ptr 2 0]∧s2.fr 77=.of (slC rdC s.rfs)∧s2.fr 78=aU s.rfs.length∧s2.fr 79=aU m∧∃ A b,s2.objs=[wT cw (iH o A),wP 0,fB b]∧[99,114,101,97,116,101]::([116,97,98,108,101]::(bF s.tb::([40]::bc true (adg s))))=A++bc b ((s.rfs.drop m).map rdT++(s.chs.map chT))) ?_ ?_
 .simp -implicitDefEqProofs(maxSteps:=9^9)only[Tryz.f35,↓zA,sevalprocAttr,agP,zW,du,iv,cO,co,Nat.reduceMul]
  exact⟨f12,f13,f15,A1,b1,rfl,E1⟩
 rintro m ⟨fr_2,ob_2,ck_2⟩ hk2 ⟨f22,f23,f25,f2a,f2b,f2c,A2,b2,fo2,E2⟩
 dsimp only at f22 f23 f25 f2a f2b f2c fo2
 simp only[Nat.reduceMul] at f25
 rcases ap m s.rfs.length with dk|dk
 .have hw:=cF m (by have:=hl.rfs.1;omega)
  have gx:=bq dk
  have hx:=hl.rfs.2 _ (ay dk)
  have hbz:=h
  rw[bM dk,aV,bt,aCv] at E2
  generalize s.rfs[m]=x at *
  have EL:=congrArg List.length E2
  simp only[av,aB] at EL
  have kn1:=fun o K=>(afq x.ns hx.1.1 hx.1.2).k o K
  have kn2:=fun o K=>(afq x.to hx.2.2.1 hx.2.2.2).k o K
  have hg:rdT x=[102,111,114,101,105,103,110]::([107,101,121]::(dT x.ns++([114,101,102,101,114,101,110,99,101,115]::(bF x.tb::dT x.to)))):=rfl
  rw[hg] at E2 EL
  simp only[av,aB] at EL
  have q2:bi o+(A2).length+(aF (!b2) [[44]]).length≤LIM:=by omega
  have q3:bi o+((A2).length+(aF (!b2) [[44]]).length)+2≤LIM:=by omega
  have q4:bi o+((A2).length+((aF (!b2) [[44]]).length+(1+1)))+(dT x.ns).length≤LIM:=by omega
  have q5:bi o+((A2).length+((aF (!b2) [[44]]).length+(((dT x.ns).length+1)+1)))+1≤LIM:=by omega
  have q6:bi o+((A2).length+((aF (!b2) [[44]]).length+((((dT x.ns).length+1)+1)+1)))+1≤LIM:=by omega
  have q7:bi o+((A2).length+((aF (!b2) [[44]]).length+((((dT x.ns).length+(1+1))+1)+1)))+(dT x.to).length≤LIM:=by omega
  simp -implicitDefEqProofs(maxSteps:=9^9)only[Tryz.f35,↓zA,sevalprocAttr,agP,f22,f23,f25,f2a,f2b,f2c,fo2,zW,du,iv,cO,co,aDt,aK,dk,gx,hw,gJ,ib,e_28,e_29,abL,aak,aac,adY,gI,aad,gF,abZ,afb,ag5,ae9,dI,gc,bg,aaF _ hx.2.1,kn1,kn2,q2,q3,q4,q5,q6,q7,aR,am,ch,bd]
  exact⟨_,false,rfl,by rw[E2];simp⟩
 have e2:m=s.rfs.length:=by omega
 subst e2
 rw[aw,bC,bw] at E2
 simp -implicitDefEqProofs(maxSteps:=9^9)only[Tryz.f35,↓zA,sevalprocAttr,agP,f22,f23,f25,f2a,f2b,f2c,fo2,zW,du,iv,cO,co,aK,au]
 refine bX s.chs.length (fun n s3=>s3.fr 2=.ptr 1 0∧s3.fr 5=.clo (2*119) [.ptr 1 0,.ptr 2 0]∧s3.fr 105=.of (slC xpC s.chs)∧s3.fr 106=aU s.chs.length∧s3.fr 107=aU n∧∃ A b,s3.objs=[wT cw (iH o A),wP 0,fB b]∧[99,114,101,97,116,101]::([116,97,98,108,101]::(bF s.tb::([40]::bc true (adg s))))=A++bc b ((s.chs.drop n).map chT++([]))) ?_ ?_
 .simp -implicitDefEqProofs(maxSteps:=9^9)only[Tryz.f35,↓zA,sevalprocAttr,agP,zW,du,iv,cO,co,Nat.reduceMul]
  exact⟨f22,f25,A2,b2,rfl,E2⟩
 rintro n ⟨fr_3,ob_3,ck_3⟩ hk3 ⟨f32,f35,f3a,f3b,f3c,A3,b3,fo3,E3⟩
 dsimp only at f32 f35 f3a f3b f3c fo3
 simp only[Nat.reduceMul] at f35
 rcases ap n s.chs.length with dk|dk
 .have hw:=cF n (by have:=hl.chs.1;omega)
  have gx:=bq dk
  have hx:=hl.chs.2 _ (ay dk)
  have hbz:=h
  rw[bM dk,aV,bt,aCv] at E3
  generalize s.chs[n]=x at *
  have EL:=congrArg List.length E3
  simp only[av,aB] at EL
  have kl:=fun o K=>(ai9 [x] (by simp) (fun y hy=>by rw[List.mem_singleton] at hy;rw[hy];exact hx)).k o K
  have hg:chT x=[99,104,101,99,107]::gK [x]:=by simp[chT,gK,bc]
  rw[hg] at E3 EL
  simp only[aB] at EL
  have q2:bi o+(A3).length+(aF (!b3) [[44]]).length≤LIM:=by omega
  have q3:bi o+((A3).length+(aF (!b3) [[44]]).length)+1≤LIM:=by omega
  have q4:bi o+((A3).length+((aF (!b3) [[44]]).length+1))+(gK [x]).length≤LIM:=by omega
  simp -implicitDefEqProofs(maxSteps:=9^9)only[Tryz.f35,↓zA,sevalprocAttr,agP,f32,f35,f3a,f3b,f3c,fo3,zW,du,iv,cO,co,aDt,aK,dk,gx,hw,gJ,ib,e_28,e_29,abL,aak,aac,adY,gI,aad,gF,abZ,afb,ag5,ae9,dI,gc,bg,kl,aUV,aQ8,q2,q3,q4,aR,am,ch,bd]
  exact⟨_,false,rfl,by rw[E3];simp⟩
 have e3:n=s.chs.length:=by omega
 subst e3
 rw[aw,bC,bw] at E3
 rw[afU,cE] at E3
 have E2:=congrArg List.length E3
 simp only[aB] at E2
 have q1:bi o+A3.length+1≤LIM:=by omega
 simp -implicitDefEqProofs(maxSteps:=9^9)only[Tryz.f35,↓zA,sevalprocAttr,agP,f32,f35,f3a,f3b,f3c,fo3,zW,du,iv,cO,co,aK,au,gJ,ib,e_28,e_29,abL,aak,aac,adY,gI,aad,gF,abZ,afb,ag5,ae9,dI,q1,aR,am,ch,bd]
 have E4:=congrArg (·++[[41]]) E3
 simp only[bt] at E4
 rw[E4]
 try rfl
structure SnL (s:Sm):Prop where
 tb:bk s.tb=true
 ns:s.ns.length≤4611686018427387903∧∀ n∈s.ns,bk n=true
 rws:s.rws.length≤4611686018427387903∧∀ r∈s.rws,r.length≤4611686018427387903∧∀ x∈r,WX x
 q:s.q.length≤4611686018427387903∧∀ q∈s.q,WQ q
def aju (s:Sm):List To:=[105,110,115,101,114,116]::([105,110,116,111]::(bF s.tb::(aF (decide (s.ns≠[])) (dT s.ns)++(aF (decide (s.rws≠[])) [[118,97,108,117,101,115]]++bc true (s.rws.map gK)))))
def alA:=ai (ai (ai (ai (ai @zq @a6I) (ai @ac4 @ab1)) (ai (ai @aez @afI) (ai @ad9 @ahP))) (ai (ai (ai @aC2 @av3) (ai @aKa @aeq)) (ai (ai @adh @agl) (ai @aWc @aTe)))) (ai (ai (ai (ai @a1x @a6H) (ai @am5 @aj9)) (ai (ai @aqf @aba) (ai @eY @bO))) (ai (ai (ai @ie @eI) (ai @ati @apX)) (ai (ai @aCi @Q9) (ai @zT0 (ai @avc (ba aLK))))))
def aLq (s:Sm) (hl:SnL s):GW 40 [.of (.agg (smC s))] (aju s++(s.q.map qyT).flatten):=by
 intro o h
 have h0:=h
 simp only[aju,av,aB] at h
 have abM:=aL [105,110,115,101,114,116]
 have adZ:=aL [105,110,116,111]
 have adI:=aL [118,97,108,117,101,115]
 have kns:=fun o K=>(afq s.ns hl.ns.1 hl.ns.2).k o K
 have kw:=fun o K=>(gD (decide (s.rws≠[])) [.lit (.string (aD [118,97,108,117,101,115]))] [[118,97,108,117,101,115]] 1 rfl rfl (by simp)).k o K
 have kl:=fun o K=>(aqJ 82 s.rws gK hl.rws.1 ati aCi apX fun r hr=>ai9 r (hl.rws.2 r hr).1 (hl.rws.2 r hr).2).k o K
 simp only[Nat.reduceMul,Nat.reduceAdd] at kl
 have p1:∀ {α:Type} (l:List α),decide ((0:Int)<(l.length:Int))=decide (l≠[]):=fun l=>by cases l <;> simp <;> omega
 have fin:∀ (st:S) (A:List To),st.fr 0=.ptr 0 0→st.fr 35=.of (slC qyC s.q)→st.fr 36=aU s.q.length→True:=fun _ _ _ _ _=>trivial
 by_cases hn:s.ns=[]
 .have hd:decide (s.ns≠[])=false:=by rw[hn];rfl
  have hi:aju s=[105,110,115,101,114,116]::([105,110,116,111]::(bF s.tb::(aF (decide (s.rws≠[])) [[118,97,108,117,101,115]]++bc true (s.rws.map gK)))):=by rw[aju,hd];try rfl
  have hz:aF (decide (s.ns≠[])) (dT s.ns)=[]:=by rw[hd];rfl
  rw[hz] at h
  try simp only[ce] at h
  have q1:bi o+2≤LIM:=by omega
  have q2:bi o+(1+1)+1≤LIM:=by omega
  have q3:bi o+((1+1)+1)+(aF (decide (s.rws≠[])) [[118,97,108,117,101,115]]).length≤LIM:=by omega
  have q4:bi o+((((aF (decide (s.rws≠[])) [[118,97,108,117,101,115]]).length+1)+1)+1)+(bc true (s.rws.map gK)).length≤LIM:=by omega
  have z1:bi o+3+(aF (decide (s.rws≠[])) [[118,97,108,117,101,115]]).length≤LIM:=by omega
  have z2:bi o+((aF (decide (s.rws≠[])) [[118,97,108,117,101,115]]).length+1+1+1)+(bc true (s.rws.map gK)).length≤LIM:=by omega
  refine ah rfl aLK avc rfl ?_
  simp -implicitDefEqProofs(maxSteps:=9^9)only[Tryz.f40,↓zA,sevalprocAttr,alA,zW,hn,p1,abM,adZ,adI,aaF _ hl.tb,dI,gc,bg,kns,kw,kl,q1,q2,q3,q4,z1,z2,aR,am,ch,bd]
  refine bX s.q.length (fun k s0=>s0.fr 0=.ptr 0 0∧s0.fr 35=.of (slC qyC s.q)∧s0.fr 36=aU s.q.length∧s0.fr 37=aU k∧∃ A,s0.objs=[wT cw (iH o A)]∧aju s++(s.q.map qyT).flatten=A++((s.q.drop k).map qyT).flatten) ?_ ?_
  .simp -implicitDefEqProofs(maxSteps:=9^9)only[Tryz.f40,↓zA,sevalprocAttr,alA,zW,du,cO,co]
   exact⟨_,rfl,by rw[hi];try simp⟩
  rintro k ⟨fr_0,ob_0,ck_0⟩ hk0 ⟨f0,f35,f36,f37,A,fo,E⟩
  dsimp only at f0 f35 f36 f37 fo
  rcases ap k s.q.length with dk|dk
  .have hw:=cF k (by have:=hl.q.1;omega)
   have gx:=bq dk
   have hx:=hl.q.2 _ (ay dk)
   have hbz:=h0
   rw[bM dk,aV,fC] at E
   generalize s.q[k]=x at *
   have kq:=fun o K=>hx.k o K
   rw[E] at hbz
   simp only[av] at hbz
   have q1:bi o+A.length+(qyT x).length≤LIM:=by omega
   simp -implicitDefEqProofs(maxSteps:=9^9)only[Tryz.f40,↓zA,sevalprocAttr,alA,f0,f35,f36,f37,fo,zW,du,cO,co,aK,dk,gx,hw,kq,q1,aR,am,ch,bd]
   exact⟨_,rfl,by rw[E];simp⟩
  have e0:k=s.q.length:=by omega
  subst e0
  rw[aw,bC,abh,cE] at E
  simp -implicitDefEqProofs(maxSteps:=9^9)only[Tryz.f40,↓zA,sevalprocAttr,alA,f0,f35,f36,f37,fo,zW,du,cO,co,aK,au]
  rw[E]
  try rfl
 .have hd:decide (s.ns≠[])=true:=cy hn
  have hi:aju s=[105,110,115,101,114,116]::([105,110,116,111]::(bF s.tb::(dT s.ns++(aF (decide (s.rws≠[])) [[118,97,108,117,101,115]]++bc true (s.rws.map gK))))):=by rw[aju,hd];try rfl
  have hz:aF (decide (s.ns≠[])) (dT s.ns)=dT s.ns:=by rw[hd];rfl
  rw[hz] at h
  try simp only[ce] at h
  have q1:bi o+2≤LIM:=by omega
  have q2:bi o+(1+1)+1≤LIM:=by omega
  have q3:bi o+((1+1)+1)+(dT s.ns).length≤LIM:=by omega
  have q4:bi o+((((dT s.ns).length+1)+1)+1)+(aF (decide (s.rws≠[])) [[118,97,108,117,101,115]]).length≤LIM:=by omega
  have q5:bi o+(((((dT s.ns).length+(aF (decide (s.rws≠[])) [[118,97,108,117,101,115]]).length)+1)+1)+1)+(bc true (s.rws.map gK)).length≤LIM:=by omega
  refine ah rfl aLK avc rfl ?_
  simp -implicitDefEqProofs(maxSteps:=9^9)only[Tryz.f40,↓zA,sevalprocAttr,alA,zW,hd,p1,abM,adZ,adI,aaF _ hl.tb,dI,gc,bg,kns,kw,kl,q1,q2,q3,q4,q5,aR,am,ch,bd]
  refine bX s.q.length (fun k s0=>s0.fr 0=.ptr 0 0∧s0.fr 35=.of (slC qyC s.q)∧s0.fr 36=aU s.q.length∧s0.fr 37=aU k∧∃ A,s0.objs=[wT cw (iH o A)]∧aju s++(s.q.map qyT).flatten=A++((s.q.drop k).map qyT).flatten) ?_ ?_
  .simp -implicitDefEqProofs(maxSteps:=9^9)only[Tryz.f40,↓zA,sevalprocAttr,alA,zW,du,cO,co]
   exact⟨_,rfl,by rw[hi];try simp⟩
  rintro k ⟨fr_0,ob_0,ck_0⟩ hk0 ⟨f0,f35,f36,f37,A,fo,E⟩
  dsimp only at f0 f35 f36 f37 fo
  rcases ap k s.q.length with dk|dk
  .have hw:=cF k (by have:=hl.q.1;omega)
   have gx:=bq dk
   have hx:=hl.q.2 _ (ay dk)
   have hbz:=h0
   rw[bM dk,aV,fC] at E
   generalize s.q[k]=x at *
   have kq:=fun o K=>hx.k o K
   rw[E] at hbz
   simp only[av] at hbz
   have q1:bi o+A.length+(qyT x).length≤LIM:=by omega
   simp -implicitDefEqProofs(maxSteps:=9^9)only[Tryz.f40,↓zA,sevalprocAttr,alA,f0,f35,f36,f37,fo,zW,du,cO,co,aK,dk,gx,hw,kq,q1,aR,am,ch,bd]
   exact⟨_,rfl,by rw[E];simp⟩
  have e0:k=s.q.length:=by omega
  subst e0
  rw[aw,bC,abh,cE] at E
  simp -implicitDefEqProofs(maxSteps:=9^9)only[Tryz.f40,↓zA,sevalprocAttr,alA,f0,f35,f36,f37,fo,zW,du,cO,co,aK,au]
  rw[E]
  try rfl
def GA (a:As):Prop:=∀ o,bi o+(abx a).length≤LIM→aN Tryz.prog pr 42 [.of (.agg (asC a)),.ptr 0 0] [wP 1,wT (.cell 1 0) o] ⟨false,[],[wP 1,wT (.cell 1 0) (iH o (abx a))]⟩
def a5f:=ai (ai (ai (ai @zq @a6E) (ai @afI @ad9)) (ai (ai @ahP @ac4) (ai @ab1 (ai @aez @agv)))) (ai (ai (ai @aeO @aiv) (ai @cR (ai @abO @bO))) (ai (ai @P65 @Q9) (ai @zT0 (ai @aH5 (ba aYr)))))
def awd (a:As) (h1:bk a.nm=true) (h2:WX a.e):GA a:=by
 intro o h
 have e3d:=aL [61]
 have ka:=fun o K=>(adr a.e h2).k o K
 have hT:abx a=bF a.nm::([61]::bv a.e):=rfl
 rw[hT] at h ⊢
 simp only[aB] at h
 have q1:bi o+1≤LIM:=by omega
 have q2:bi o+1+1≤LIM:=by omega
 have q3:bi o+(1+1)+(bv a.e).length≤LIM:=by omega
 refine ah rfl aYr aH5 rfl ?_
 simp -implicitDefEqProofs(maxSteps:=9^9)only[Tryz.f42,↓zA,sevalprocAttr,a5f,zW,du,cO,co,e3d,aaF _ h1,dI,ka,q1,q2,q3,aR,am,ch,bd]
def aBT:=ai (ai (ai @zq @aDa) (ai @aeq (ai @adh @agl))) (ai (ai @abO (ai @bO @abP)) (ai @zT0 (ai @aH6 (ba aYs))))
def anA (l:List As) (hl:l.length≤4611686018427387903) (h:∀ a∈l,bk a.nm=true∧WX a.e) (o:Option (List To)) (hb:bi o+(bc true (l.map abx)).length≤LIM):aN Tryz.prog pr 41 [.ptr 0 0,.of (slC asC l),.clo (2*42) [.ptr 1 0]] [wT cw o,wP 0] ⟨false,[],[wT cw (iH o (bc true (l.map abx))),wP 0]⟩:=by
 have e44:=aL [44]
 refine ah rfl aYs aH6 rfl ?_
 simp -implicitDefEqProofs(maxSteps:=9^9)only[Tryz.f41,↓zA,sevalprocAttr,aBT,zW,du]
 refine bX l.length (fun k s=>s.fr 0=.ptr 0 0∧s.fr 2=.clo (2*42) [.ptr 1 0]∧s.fr 8=.of (slC asC l)∧s.fr 9=aU l.length∧s.fr 10=aU k∧∃ A,s.objs=[wT cw (iH o A),wP 0]∧bc true (l.map abx)=A++bc (decide (k=0)) ((l.drop k).map abx)) ?_ ?_
 .simp -implicitDefEqProofs(maxSteps:=9^9)only[Tryz.f41,↓zA,sevalprocAttr,aBT]
  exact⟨[],rfl,rfl⟩
 rintro k ⟨frk,obk,ckk⟩ hk ⟨f0,f2,f8,f9,f10,A,fo,E⟩
 dsimp only at f0 f2 f8 f9 f10 fo
 simp only[Nat.reduceMul] at f2
 rcases ap k l.length with dk|dk
 .have hw:=cF k (by omega)
  have gx:=bq dk
  have hx:=h _ (ay dk)
  rw[aig abx dk] at E
  generalize l[k]=x at *
  have kw:=fun o K=>(gD (decide (0<k)) [.lit (.string (aD [44]))] [[44]] 1 rfl rfl (by simp)).k o K
  have kx:=fun o K=>aeZ (awd x hx.1 hx.2 o) K
  have hb2:=hb
  rw[E] at hb2
  simp only[av,cmT] at hb2
  have q1:bi o+A.length+(aF (decide (0<k)) [[44]]).length≤LIM:=by omega
  have q2:bi o+(A.length+(aF (decide (0<k)) [[44]]).length)+(abx x).length≤LIM:=by omega
  simp -implicitDefEqProofs(maxSteps:=9^9)only[Tryz.f41,↓zA,sevalprocAttr,aBT,f0,f2,f8,f9,f10,fo,zW,du,aK,dk,gx,hw,e44,acI,kw,kx,q1,q2,aNo,aT7,aJe,av,af0]
  refine⟨_,rfl,?_⟩
  have ek:decide (k+1=0)=false:=by simp
  rw[E,ek];simp only[cmT,am]
  try rfl
 have e:k=l.length:=by omega
 subst e
 rw[aw,bC,afU,cE] at E
 simp -implicitDefEqProofs(maxSteps:=9^9)only[Tryz.f41,↓zA,sevalprocAttr,aBT,f0,f2,f8,f9,f10,fo,zW,aK,au,E]
theorem aqw:∀ (b:Bool) (P R:List (List To)),(bc b P).length≤(bc b (P++R)).length
 | true,[],R=>fj _
 | false,[],R=>fj _
 | true,a::P,R=>by have:=aqw false P R;simp only[bt,bc,av];omega
 | false,a::P,R=>by have:=aqw false P R;simp only[bt,bc,av,aB];omega
theorem arv:∀ (P:List (List To)) (t:List To),bc false (P++[t])=bc false P++(cmT::t)
 | [],t=>by simp[bc]
 | a::P,t=>by simp only[bt,bc,arv P t,am]
def aKC (P:List (List To)) (t:List To) (h:∀ x∈P,x≠[]):bc true (P++[t])=bc true P++(aF (decide (bc true P≠[])) [[44]]++t):=by
 cases P with
 | nil=>simp[bc,aF]
 | cons a P =>
  have ha:=h a (by simp)
  have e:decide (bc true (a::P)≠[])=true:=cy (by simp[bc,ha])
  rw[e]
  simp only[bt,bc,arv,aF,aA,cmT,am,bw]
def agz (A:List To) (cs:List C) (m:Nat) (T B:List To) (hc:cs=fl bA T) (hm:m=T.length) (hB:B=A++(aF (decide (A≠[])) [[44]]++T)) (h:A.length+1+T.length≤LIM) (K:An→Prop):bp Tryz.prog pr 58 [.own (.nm 0 0 0) 9 1 (fl bA A) A.length,.own (.nm 0 0 1) 9 1 cs m] [] K↔K ⟨false,[.own (.nm 0 0 0) 9 1 (fl bA B) B.length],[]⟩:=by
 subst hc hm hB
 exact aN.k (aw6 A T h) K
def aKg {α:Type} {g:α→List To} {l:List α} {k:Nat} (h:k<l.length):(l.take (k+1)).map g=(l.take k).map g++[g l[k]]:=by rw[aaa h,fV];rfl
def neF {c d:Nat} (h:c<d):((d=c)=False∧(c=d)=False)∧((d+1=c)=False∧(c=d+1)=False)∧((d+1+1=c)=False∧(c=d+1+1)=False)∧((d+1+1+1=c)=False∧(c=d+1+1+1)=False)∧((d+1+1+1+1=c)=False∧(c=d+1+1+1+1)=False)∧((d+1+1+1+1+1=c)=False∧(c=d+1+1+1+1+1)=False)∧((d+1+1+1+1+1+1=c)=False∧(c=d+1+1+1+1+1+1)=False):=by
 simp only[ag1,abt]
 omega
def akS {clk d e f n:Nat} {cs:List C} (h:d<clk):∃ c x i,c<clk∧X.own (.nm d e f) 9 1 cs n=X.own (.nm c x i) 9 1 cs n:=⟨d,e,f,h,rfl⟩
def app {clk d e f n:Nat} {cs:List C} {A:List To} (h:d<clk) (h1:cs=fl bA A) (h2:n=A.length):∃ c x i,c<clk∧X.own (.nm d e f) 9 1 cs n=X.own (.nm c x i) 9 1 (fl bA A) A.length:=⟨d,e,f,h,by rw[h1,h2]⟩
def atl {clk d0 e0 f0 n0 d e f n:Nat} {cs0 cs:List C} {O A:List To} (h0:d0<d) (h:d<clk) (h1:cs0=fl bA O) (h2:n0=O.length) (h3:cs=fl bA A) (h4:n=A.length):∃ c0 x0 i0 c x i,c0<c∧c<clk∧X.own (.nm d0 e0 f0) 9 1 cs0 n0=X.own (.nm c0 x0 i0) 9 1 (fl bA O) O.length∧X.own (.nm d e f) 9 1 cs n=X.own (.nm c x i) 9 1 (fl bA A) A.length:=⟨d0,e0,f0,d,e,f,h0,h,by rw[h1,h2],by rw[h3,h4]⟩
def af5 {α:Type} (g:α→List To) (P:List (List To)) (l:List α) (k:Nat) (hk:k<l.length) (hP:∀ x∈P,x≠[]) (hg:∀ x∈l,g x≠[]):bc true (P++(l.take (k+1)).map g)=bc true (P++(l.take k).map g)++(aF (decide (bc true (P++(l.take k).map g)≠[])) [[44]]++g l[k]):=by
 rw[aKg hk,← am]
 refine aKC _ _ fun x hx=>?_
 rcases dF.1 hx with hx|hx
 .exact hP x hx
 .obtain⟨y,hy,rfl⟩:=List.mem_map.1 hx
  exact hg y (iB hy)
def afT {α:Type} (g:α→List To) (P R:List (List To)) (l:List α) (k:Nat) (hk:k<l.length) (hP:∀ x∈P,x≠[]) (hg:∀ x∈l,g x≠[]) {n:Nat} (h:(bc true (P++(l.map g++R))).length+1≤n):(bc true (P++(l.take k).map g)).length+1+(g l[k]).length≤n:=by
 have e:=af5 g P l k hk hP hg
 have e2:P++(l.map g++R)=(P++(l.take (k+1)).map g)++((l.drop (k+1)).map g++R):=by
  rw[am,← am ((l.take (k+1)).map g),← fV,List.take_append_drop]
 have h2:=aqw true (P++(l.take (k+1)).map g) ((l.drop (k+1)).map g++R)
 rw[← e2] at h2
 rw[e,av,av] at h2
 omega
def afQ:=ai (ai (ai (ai (ai @zq @a5X) (ai @ahj @afD)) (ai (ai @aV4 @aS6) (ai @aCZ @av0))) (ai (ai (ai @aJ8 @auP) (ai @aq3 @ah5)) (ai (ai @agN @ai3) (ai @ahG @aba)))) (ai (ai (ai (ai @cR @aep) (ai @adN @aeo)) (ai (ai @acl @bO) (ai @ack @ac3))) (ai (ai (ai @ey @Q9) (ai @Q3 @P4)) (ai (ai @Q4 @zT0) (ai @aHW (ba aYi)))))
def aus (s:Sm) (hcs:s.cs.length≤4611686018427387903) (hcx:∀ c∈s.cs,bk c.nm=true) (hks:s.kys.length≤4611686018427387903) (hkx:∀ k∈s.kys,k.ns.length≤4611686018427387903∧∀ n∈k.ns,bk n=true) (hrs:s.rfs.length≤4611686018427387903)
  (hrx:∀ r∈s.rfs,(r.ns.length≤4611686018427387903∧∀ n∈r.ns,bk n=true)∧bk r.tb=true∧(r.to.length≤4611686018427387903∧∀ n∈r.to,bk n=true)) (hhs:s.chs.length≤4611686018427387903) (hhx:∀ x∈s.chs,RX x) :
  GR 55 [.of (.agg (smC s))] (bI true (bc true (adg s))):=by
 intro h
 have hl2:(bI true (bc true (adg s))).length=(bc true (adg s)).length+2:=by simp[bI]
 have hL:(bc true (adg s)).length+1≤LIM:=by omega
 have hg1:∀ x∈s.cs,cdT x≠[]:=fun x _=>by simp[cdT]
 have hg2:∀ x∈s.kys,kdT x≠[]:=fun x _=>by unfold kdT;split <;> simp
 have hg3:∀ x∈s.rfs,rdT x≠[]:=fun x _=>by simp[rdT]
 have hg4:∀ x∈s.chs,chT x≠[]:=fun x _=>by simp[chT]
 have hP1:∀ x∈([]:List (List To)),x≠[]:=fun x hx=>by cases hx
 have hL1:(bc true ([]++(s.cs.map cdT++(s.kys.map kdT++(s.rfs.map rdT++s.chs.map chT))))).length+1≤LIM:=hL
 have abL:=aL [110,111,116]
 have aak:=aL [110,117,108,108]
 have aac:=aL [112,114,105,109,97,114,121]
 have adY:=aL [107,101,121]
 have gI:=aL [117,110,105,113,117,101]
 have aad:=aL [102,111,114,101,105,103,110]
 have gF:=aL [114,101,102,101,114,101,110,99,101,115]
 have abZ:=aL [99,104,101,99,107]
 have e44:=aL [44]
 refine ah rfl aYi aHW rfl ?_
 simp -implicitDefEqProofs(maxSteps:=9^9)only[Tryz.f55,↓zA,sevalprocAttr,afQ]
 refine bX s.cs.length (fun k st=>st.fr 1=.of (.ref (agR s))∧st.fr 4=aU k∧st.objs=[]∧∃ c x i,c<st.clk∧st.fr 3=.own (.nm c x i) 9 1 (fl bA (bc true ([]++(s.cs.take k).map cdT))) (bc true ([]++(s.cs.take k).map cdT)).length) ?_ ?_
 .simp -implicitDefEqProofs(maxSteps:=9^9)only[Tryz.f55,↓zA,sevalprocAttr,afQ]
  exact app (by first|omega|decide) rfl rfl
 rintro k ⟨fr1,ob1,ck1⟩ hk ⟨h1_1,fi1,fo1,c1,x1,i1,hc1,fa1⟩
 dsimp only at h1_1 fi1 fo1 hc1 fa1
 rcases ap k s.cs.length with dk|dk
 .have hw:=cF k (by omega)
  have hu:=neF hc1
  have gx:=bq dk
  have hse:=af5 cdT ([]) s.cs k dk hP1 hg1
  have hsl:=afT cdT ([]) (s.kys.map kdT++(s.rfs.map rdT++s.chs.map chT)) s.cs k dk hP1 hg1 hL1
  have hn:=hcx s.cs[k] (ay dk)
  generalize s.cs[k]=y at *
  have k1:=fun K=>fX y.nm hn K
  have k2:=fun K=>aN.k (aur y.ty) K
  generalize bc true ([]++(s.cs.take (k+1)).map cdT)=B at *
  generalize bc true ([]++(s.cs.take k).map cdT)=A at *
  cases b:y.nn
  rotate_left
  .have eT:cdT y=[bF y.nm,aeV y.ty,[110,111,116],[110,117,108,108]]:=by simp[cdT,aF,b]
   rw[eT] at hse hsl
   have kn:=fun K=>agz A ([aH (aD (bF y.nm)),aH (aD (aeV y.ty)),aH (aD [110,111,116]),aH (aD [110,117,108,108])]) (4) ([bF y.nm,aeV y.ty,[110,111,116],[110,117,108,108]]) B (by (try simp only[cJ,cI]) <;> rfl) (by (try simp only[aR]) <;> omega) hse (by (try simp only[aR]) <;> omega) K
   simp -implicitDefEqProofs(maxSteps:=9^9)only[Tryz.f55,↓zA,sevalprocAttr,afQ,h1_1,fi1,fo1,fa1,aK,dk,gx,hw,kn,hu,k1,k2,b,bg,abL,aak]
   and_intros
   all_goals first|exact okN _ _ (by omega) _|omega|(unfold LIM;omega)|exact akS (by omega)|rfl
  .have eT:cdT y=[bF y.nm,aeV y.ty]:=by simp[cdT,aF,b]
   rw[eT] at hse hsl
   have kn:=fun K=>agz A ([aH (aD (bF y.nm)),aH (aD (aeV y.ty))]) (2) ([bF y.nm,aeV y.ty]) B (by (try simp only[cJ,cI]) <;> rfl) (by (try simp only[aR]) <;> omega) hse (by (try simp only[aR]) <;> omega) K
   simp -implicitDefEqProofs(maxSteps:=9^9)only[Tryz.f55,↓zA,sevalprocAttr,afQ,h1_1,fi1,fo1,fa1,aK,dk,gx,hw,kn,hu,k1,k2,b,bg,abL,aak]
   and_intros
   all_goals first|exact okN _ _ (by omega) _|omega|(unfold LIM;omega)|exact akS (by omega)|rfl
 have e1:k=s.cs.length:=by omega
 subst e1
 rw[hY] at fa1
 simp -implicitDefEqProofs(maxSteps:=9^9)only[Tryz.f55,↓zA,sevalprocAttr,afQ,h1_1,fi1,fo1,fa1,aK,au]
 have hP2:∀ x∈([]++s.cs.map cdT),x≠[]:=fun x hx=>by
  rcases dF.1 hx with hx|hx
  .exact hP1 x hx
  .obtain⟨y,hy,rfl⟩:=List.mem_map.1 hx;exact hg1 y hy
 have hL2:(bc true (([]++s.cs.map cdT)++(s.kys.map kdT++(s.rfs.map rdT++s.chs.map chT)))).length+1≤LIM:=by simpa only [am] using hL1
 refine bX s.kys.length (fun k st=>st.fr 1=.of (.ref (agR s))∧st.fr 6=aU k∧st.objs=[]∧∃ c x i,c<st.clk∧st.fr 3=.own (.nm c x i) 9 1 (fl bA (bc true (([]++s.cs.map cdT)++(s.kys.take k).map kdT))) (bc true (([]++s.cs.map cdT)++(s.kys.take k).map kdT)).length) ?_ ?_
 .simp -implicitDefEqProofs(maxSteps:=9^9)only[Tryz.f55,↓zA,sevalprocAttr,afQ,h1_1,fo1,fa1]
  exact app (by first|omega|decide) rfl rfl
 rintro k ⟨fr2,ob2,ck2⟩ hk ⟨h2_1,fi2,fo2,c2,x2,i2,hc2,fa2⟩
 dsimp only at h2_1 fi2 fo2 hc2 fa2
 rcases ap k s.kys.length with dk|dk
 .have hw:=cF k (by omega)
  have hu:=neF hc2
  have gx:=bq dk
  have hse:=af5 kdT (([]++s.cs.map cdT)) s.kys k dk hP2 hg2
  have hsl:=afT kdT (([]++s.cs.map cdT)) (s.rfs.map rdT++s.chs.map chT) s.kys k dk hP2 hg2 hL2
  have hn:=hkx s.kys[k] (ay dk)
  generalize s.kys[k]=y at *
  generalize bc true (([]++s.cs.map cdT)++(s.kys.take (k+1)).map kdT)=B at *
  generalize bc true (([]++s.cs.map cdT)++(s.kys.take k).map kdT)=A at *
  cases b:y.pr
  rotate_left
  .have eT:kdT y=[112,114,105,109,97,114,121]::([107,101,121]::dT y.ns):=by unfold kdT;rw[b];rfl
   rw[eT] at hse hsl
   simp only[aB] at hsl
   have k1:=fun K=>(ab8 y.ns hn.1 hn.2).k (by omega) K
   have hf:=acA (dT y.ns)
   have kn:=fun K=>agz A (aH (aD [112,114,105,109,97,114,121])::aH (aD [107,101,121])::fl bA (dT y.ns)) (2+(dT y.ns).length) ([112,114,105,109,97,114,121]::([107,101,121]::dT y.ns)) B (by (try simp only[cJ,cI]) <;> rfl) (by (try simp only[aR]) <;> omega) hse (by (try simp only[aR]) <;> omega) K
   simp -implicitDefEqProofs(maxSteps:=9^9)only[Tryz.f55,↓zA,sevalprocAttr,afQ,h2_1,fi2,fo2,fa2,aK,dk,gx,hw,kn,hu,k1,b,hf,bg,aac,adY]
   and_intros
   all_goals first|exact okN _ _ (by omega) _|omega|(unfold LIM;omega)|exact akS (by omega)|rfl
  .have eT:kdT y=[117,110,105,113,117,101]::dT y.ns:=by unfold kdT;rw[b];rfl
   rw[eT] at hse hsl
   simp only[aB] at hsl
   have k1:=fun K=>(ab8 y.ns hn.1 hn.2).k (by omega) K
   have hf:=acA (dT y.ns)
   have kn:=fun K=>agz A (aH (aD [117,110,105,113,117,101])::fl bA (dT y.ns)) (1+(dT y.ns).length) ([117,110,105,113,117,101]::dT y.ns) B (by (try simp only[cJ,cI]) <;> rfl) (by (try simp only[aR]) <;> omega) hse (by (try simp only[aR]) <;> omega) K
   simp -implicitDefEqProofs(maxSteps:=9^9)only[Tryz.f55,↓zA,sevalprocAttr,afQ,h2_1,fi2,fo2,fa2,aK,dk,gx,hw,kn,hu,k1,b,hf,gI]
   and_intros
   all_goals first|exact okN _ _ (by omega) _|omega|(unfold LIM;omega)|exact akS (by omega)|rfl
 have e2:k=s.kys.length:=by omega
 subst e2
 rw[hY] at fa2
 simp -implicitDefEqProofs(maxSteps:=9^9)only[Tryz.f55,↓zA,sevalprocAttr,afQ,h2_1,fi2,fo2,fa2,aK,au]
 have hP3:∀ x∈(([]++s.cs.map cdT)++s.kys.map kdT),x≠[]:=fun x hx=>by
  rcases dF.1 hx with hx|hx
  .exact hP2 x hx
  .obtain⟨y,hy,rfl⟩:=List.mem_map.1 hx;exact hg2 y hy
 have hL3:(bc true ((([]++s.cs.map cdT)++s.kys.map kdT)++(s.rfs.map rdT++s.chs.map chT))).length+1≤LIM:=by simpa only [am] using hL1
 refine bX s.rfs.length (fun k st=>st.fr 1=.of (.ref (agR s))∧st.fr 7=aU k∧st.objs=[]∧∃ c x i,c<st.clk∧st.fr 3=.own (.nm c x i) 9 1 (fl bA (bc true ((([]++s.cs.map cdT)++s.kys.map kdT)++(s.rfs.take k).map rdT))) (bc true ((([]++s.cs.map cdT)++s.kys.map kdT)++(s.rfs.take k).map rdT)).length) ?_ ?_
 .simp -implicitDefEqProofs(maxSteps:=9^9)only[Tryz.f55,↓zA,sevalprocAttr,afQ,h2_1,fo2,fa2]
  exact app (by first|omega|decide) rfl rfl
 rintro k ⟨fr3,ob3,ck3⟩ hk ⟨h3_1,fi3,fo3,c3,x3,i3,hc3,fa3⟩
 dsimp only at h3_1 fi3 fo3 hc3 fa3
 rcases ap k s.rfs.length with dk|dk
 .have hw:=cF k (by omega)
  have hu:=neF hc3
  have gx:=bq dk
  have hse:=af5 rdT ((([]++s.cs.map cdT)++s.kys.map kdT)) s.rfs k dk hP3 hg3
  have hsl:=afT rdT ((([]++s.cs.map cdT)++s.kys.map kdT)) (s.chs.map chT) s.rfs k dk hP3 hg3 hL3
  have hn:=hrx s.rfs[k] (ay dk)
  generalize s.rfs[k]=y at *
  generalize bc true ((([]++s.cs.map cdT)++s.kys.map kdT)++(s.rfs.take (k+1)).map rdT)=B at *
  generalize bc true ((([]++s.cs.map cdT)++s.kys.map kdT)++(s.rfs.take k).map rdT)=A at *
  have eT:rdT y=[102,111,114,101,105,103,110]::([107,101,121]::(dT y.ns++([114,101,102,101,114,101,110,99,101,115]::(bF y.tb::dT y.to)))):=rfl
  rw[eT] at hse hsl
  simp only[aB,av] at hsl
  have k1:=fun K=>(ab8 y.ns hn.1.1 hn.1.2).k (by omega) K
  have k2:=fun K=>(ab8 y.to hn.2.2.1 hn.2.2.2).k (by omega) K
  have k3:=fun K=>fX y.tb hn.2.1 K
  have hf:=acA (dT y.ns)
  have hf2:=acA (dT y.to)
  have kn:=fun K=>agz A (aH (aD [102,111,114,101,105,103,110])::aH (aD [107,101,121])::(fl bA (dT y.ns)++(aH (aD [114,101,102,101,114,101,110,99,101,115])::aH (aD (bF y.tb))::fl bA (dT y.to)))) (2+(dT y.ns).length+2+(dT y.to).length) ([102,111,114,101,105,103,110]::([107,101,121]::(dT y.ns++([114,101,102,101,114,101,110,99,101,115]::(bF y.tb::dT y.to))))) B (by (try simp only[cJ,cI]) <;> rfl) (by (try simp only[aR]) <;> omega) hse (by (try simp only[aR]) <;> omega) K
  simp -implicitDefEqProofs(maxSteps:=9^9)only[Tryz.f55,↓zA,sevalprocAttr,afQ,h3_1,fi3,fo3,fa3,aK,dk,gx,hw,kn,hu,k1,k2,k3,hf,hf2,bg,aad,adY,gF]
  and_intros
  all_goals first|exact okN _ _ (by omega) _|omega|(unfold LIM;omega)|exact akS (by omega)|rfl
 have e3:k=s.rfs.length:=by omega
 subst e3
 rw[hY] at fa3
 simp -implicitDefEqProofs(maxSteps:=9^9)only[Tryz.f55,↓zA,sevalprocAttr,afQ,h3_1,fi3,fo3,fa3,aK,au]
 have hP4:∀ x∈((([]++s.cs.map cdT)++s.kys.map kdT)++s.rfs.map rdT),x≠[]:=fun x hx=>by
  rcases dF.1 hx with hx|hx
  .exact hP3 x hx
  .obtain⟨y,hy,rfl⟩:=List.mem_map.1 hx;exact hg3 y hy
 have hL4:(bc true (((([]++s.cs.map cdT)++s.kys.map kdT)++s.rfs.map rdT)++(s.chs.map chT++[]))).length+1≤LIM:=by simpa only [am,cE] using hL1
 refine bX s.chs.length (fun k st=>st.fr 1=.of (.ref (agR s))∧st.fr 9=aU k∧st.objs=[]∧∃ c x i,c<st.clk∧st.fr 3=.own (.nm c x i) 9 1 (fl bA (bc true (((([]++s.cs.map cdT)++s.kys.map kdT)++s.rfs.map rdT)++(s.chs.take k).map chT))) (bc true (((([]++s.cs.map cdT)++s.kys.map kdT)++s.rfs.map rdT)++(s.chs.take k).map chT)).length) ?_ ?_
 .simp -implicitDefEqProofs(maxSteps:=9^9)only[Tryz.f55,↓zA,sevalprocAttr,afQ,h3_1,fo3,fa3]
  exact app (by first|omega|decide) rfl rfl
 rintro k ⟨fr4,ob4,ck4⟩ hk ⟨h4_1,fi4,fo4,c4,x4,i4,hc4,fa4⟩
 dsimp only at h4_1 fi4 fo4 hc4 fa4
 rcases ap k s.chs.length with dk|dk
 .have hw:=cF k (by omega)
  have hu:=neF hc4
  have gx:=bq dk
  have hse:=af5 chT (((([]++s.cs.map cdT)++s.kys.map kdT)++s.rfs.map rdT)) s.chs k dk hP4 hg4
  have hsl:=afT chT (((([]++s.cs.map cdT)++s.kys.map kdT)++s.rfs.map rdT)) ([]) s.chs k dk hP4 hg4 hL4
  have hn:=hhx s.chs[k] (ay dk)
  generalize s.chs[k]=y at *
  generalize bc true (((([]++s.cs.map cdT)++s.kys.map kdT)++s.rfs.map rdT)++(s.chs.take (k+1)).map chT)=B at *
  generalize bc true (((([]++s.cs.map cdT)++s.kys.map kdT)++s.rfs.map rdT)++(s.chs.take k).map chT)=A at *
  have eT:chT y=[99,104,101,99,107]::bI true (bv y):=rfl
  rw[eT] at hse hsl
  have hl3:(bI true (bv y)).length=(bv y).length+2:=by simp[bI]
  simp only[aB] at hsl
  have k1:=fun K=>(dP y 1 hn).k (T:=bv y) (by omega) K
  have k2:=fun K=>aaW (bv y) (by omega) K
  have hf:=acA (bI true (bv y))
  have kn:=fun K=>agz A (aH (aD [99,104,101,99,107])::fl bA (bI true (bv y))) (1+(bI true (bv y)).length) ([99,104,101,99,107]::bI true (bv y)) B (by (try simp only[cJ,cI]) <;> rfl) (by (try simp only[aR]) <;> omega) hse (by (try simp only[aR]) <;> omega) K
  simp -implicitDefEqProofs(maxSteps:=9^9)only[Tryz.f55,↓zA,sevalprocAttr,afQ,h4_1,fi4,fo4,fa4,aK,dk,gx,hw,kn,hu,k1,k2,hf,abZ]
  and_intros
  all_goals first|exact okN _ _ (by omega) _|omega|(unfold LIM;omega)|exact akS (by omega)|rfl
 have e4:k=s.chs.length:=by omega
 subst e4
 rw[hY] at fa4
 have eD:bc true (((([]++s.cs.map cdT)++s.kys.map kdT)++s.rfs.map rdT)++s.chs.map chT)=bc true (adg s):=by unfold adg;simp only[am,bw]
 rw[eD] at fa4
 have kr:=fun K=>aaW (bc true (adg s)) h K
 simp -implicitDefEqProofs(maxSteps:=9^9)only[Tryz.f55,↓zA,sevalprocAttr,afQ,h4_1,fi4,fo4,fa4,aK,au,kr]
 try rfl
def ajj:=ai (ai (ai (ai @zq (ai @a5T @ahj)) (ai @afD (ai @auP @aq3))) (ai (ai @am4 (ai @aj8 @aCT)) (ai @avU (ai @ai3 @ahG)))) (ai (ai (ai @aCZ (ai @av0 @aJ8)) (ai @aba (ai @eY @cR))) (ai (ai @bO (ai @ie @eI)) (ai (ai @Q9 @zT0) (ai @ava (ba aLI)))))
def aqA (s:Sm) (htb:bk s.tb=true) (hns:s.ns.length≤4611686018427387903) (hnx:∀ n∈s.ns,bk n=true) (hq:(∃ q,s.q=[q]∧s.rws=[]∧RQ q)∨(s.q=[]∧s.rws≠[])) (hr:s.rws.length≤4611686018427387903) (hrx:∀ r∈s.rws,r.length≤4611686018427387903∧∀ x∈r,RX x) :
  GR 57 [.of (.agg (smC s))] ([105,110,115,101,114,116]::([105,110,116,111]::(bF s.tb::(aF (decide (s.ns≠[])) (dT s.ns)++(aF (decide (s.rws≠[])) [[118,97,108,117,101,115]]++(bc true (s.rws.map gK)++(s.q.map qyT).flatten)))))):=by
 intro h
 have abM:=aL [105,110,115,101,114,116]
 have adZ:=aL [105,110,116,111]
 have adI:=aL [118,97,108,117,101,115]
 have e44:=aL [44]
 have k0:=fun K=>fX s.tb htb K
 have hO:∃ O:List To,(s.ns=[]∧O=[[105,110,115,101,114,116],[105,110,116,111],bF s.tb]∨s.ns≠[]∧O=[105,110,115,101,114,116]::([105,110,116,111]::(bF s.tb::dT s.ns)))∧[105,110,115,101,114,116]::([105,110,116,111]::(bF s.tb::(aF (decide (s.ns≠[])) (dT s.ns)++(aF (decide (s.rws≠[])) [[118,97,108,117,101,115]]++(bc true (s.rws.map gK)++(s.q.map qyT).flatten)))))=O++(aF (decide (s.rws≠[])) [[118,97,108,117,101,115]]++(bc true (s.rws.map gK)++(s.q.map qyT).flatten)):=by
  by_cases e:s.ns=[]
  .exact⟨_,.inl ⟨e,rfl⟩,by rw[e];rfl⟩
  .refine⟨_,.inr ⟨e,rfl⟩,?_⟩
   rw[cy e]
   rfl
 obtain⟨O,hO1,hO2⟩:=hO
 rw[hO2] at h ⊢
 have hOl:O.length≤LIM:=by rw[av] at h;omega
 rcases hq with ⟨q,hq,hr0,wq⟩|⟨hq,hr0⟩
 .have gq:dH s.q 0=some q:=by rw[hq];rfl
  have cq:((0:Int)<(s.q.length:Int))=True:=aa (by rw[hq];simp)
  have eT:O++(aF (decide (s.rws≠[])) [[118,97,108,117,101,115]]++(bc true (s.rws.map gK)++(s.q.map qyT).flatten))=O++qyT q:=by rw[hq,hr0];simp[aF,bc]
  rw[eT] at h ⊢
  rw[av] at h
  have kq:=fun K=>wq.k (by omega) K
  refine ah rfl aLI ava rfl ?_
  rcases hO1 with ⟨hn,rfl⟩|⟨hn,rfl⟩
  .have cn:((0:Int)<(s.ns.length:Int))=False:=aO (by rw[hn];simp)
   simp only[dN] at h
   simp -implicitDefEqProofs(maxSteps:=9^9)only[Tryz.f57,↓zA,sevalprocAttr,ajj,k0,cn,cq,gq,kq,iI,abM,adZ]
   (and_intros <;> first|(exact cz (by (try simp only[cJ,cI]) <;> rfl) (by (try simp only[aR]) <;> omega))|((try simp only[aR]) <;> omega))
  .have cn:((0:Int)<(s.ns.length:Int))=True:=aa (by have:=List.length_pos_iff.2 hn;omega)
   simp only[aB] at h
   have kn:=fun K=>(ab8 s.ns hns hnx).k (by omega) K
   simp -implicitDefEqProofs(maxSteps:=9^9)only[Tryz.f57,↓zA,sevalprocAttr,ajj,k0,kn,cn,cq,gq,kq,iI,abM,adZ]
   (and_intros <;> first|(exact cz (by (try simp only[cJ,cI]) <;> rfl) (by (try simp only[aR]) <;> omega))|((try simp only[aR]) <;> omega))
 have cq:((0:Int)<(s.q.length:Int))=False:=aO (by rw[hq];simp)
 have eT:O++(aF (decide (s.rws≠[])) [[118,97,108,117,101,115]]++(bc true (s.rws.map gK)++(s.q.map qyT).flatten))=O++([118,97,108,117,101,115]::bc true (s.rws.map gK)):=by rw[hq,cy hr0];simp[aF]
 rw[eT] at h ⊢
 simp only[av,aB] at h
 have hg1:∀ x∈s.rws,gK x≠[]:=fun x _=>by simp[gK,bI]
 have hP1:∀ x∈([]:List (List To)),x≠[]:=fun x hx=>by cases hx
 have hL1:(bc true ([]++(s.rws.map gK++[]))).length+1≤LIM:=by rw[cE,bw];omega
 refine ah rfl aLI ava rfl ?_
 rcases hO1 with ⟨hn,hO⟩|⟨hn,hO⟩
 rotate_left
 .have cn:((0:Int)<(s.ns.length:Int))=True:=aa (by have:=List.length_pos_iff.2 hn;omega)
  have kn:=fun K=>(ab8 s.ns hns hnx).k (by rw[hO] at hOl;simp only[aB] at hOl;omega) K
  simp -implicitDefEqProofs(maxSteps:=9^9)only[Tryz.f57,↓zA,sevalprocAttr,ajj,k0,kn,cn,cq,iI,abM,adZ]
  refine⟨by rw[hO] at hOl;simp only[aB] at hOl;omega,?_⟩
  refine bX s.rws.length (fun k st=>st.fr 1=.of (.ref (agR s))∧st.fr 5=aU k∧st.objs=[]∧∃ c0 x0 i0 c x i,c0<c∧c<st.clk∧st.fr 3=.own (.nm c0 x0 i0) 9 1 (fl bA O) (O).length∧st.fr 4=.own (.nm c x i) 9 1 (fl bA (bc true ([]++(s.rws.take k).map gK))) (bc true ([]++(s.rws.take k).map gK)).length) ?_ ?_
  .simp -implicitDefEqProofs(maxSteps:=9^9)only[Tryz.f57,↓zA,sevalprocAttr,ajj]
   exact atl (by first|omega|decide) (by first|omega|decide) (by rw[hO];(try simp only[cJ,cI]) <;> rfl) (by rw[hO];(try simp only[aR]) <;> omega) rfl rfl
  rintro k ⟨fr1,ob1,ck1⟩ hk ⟨h1_1,fi1,fo1,c10,x10,i10,c1,x1,i1,hd1,hc1,fk1,fa1⟩
  dsimp only at h1_1 fi1 fo1 hc1 fa1 fk1
  rcases ap k s.rws.length with dk|dk
  .have hw:=cF k (by omega)
   have hu:=neF hc1
   have hy:=neF (Nat.lt_trans hd1 hc1)
   have hm1:(c1=c10)=False:=aO (by omega)
   have hm2:(c10=c1)=False:=aO (by omega)
   have gx:=bq dk
   have hse:=af5 gK ([]) s.rws k dk hP1 hg1
   have hsl:=afT gK ([]) ([]) s.rws k dk hP1 hg1 hL1
   have hx:=hrx s.rws[k] (ay dk)
   generalize s.rws[k]=y at *
   generalize bc true ([]++(s.rws.take (k+1)).map gK)=B at *
   generalize bc true ([]++(s.rws.take k).map gK)=A at *
   have eT:gK y=bI true (bc true (y.map bv)):=rfl
   rw[eT] at hse hsl
   have hl3:(bI true (bc true (y.map bv))).length=(bc true (y.map bv)).length+2:=by simp[bI]
   have k1:=fun K=>(aeD y hx.1 hx.2).k (by omega) K
   have k2:=fun K=>aaW (bc true (y.map bv)) (by omega) K
   have kn:=fun K=>agz A (fl bA (bI true (bc true (y.map bv)))) ((bI true (bc true (y.map bv))).length) (bI true (bc true (y.map bv))) B (by (try simp only[cJ,cI]) <;> rfl) (by (try simp only[aR]) <;> omega) hse (by (try simp only[aR]) <;> omega) K
   simp -implicitDefEqProofs(maxSteps:=9^9)only[Tryz.f57,↓zA,sevalprocAttr,ajj,h1_1,fi1,fo1,fa1,fk1,aK,dk,gx,hw,kn,hu,hy,hm1,hm2,k1,k2]
   and_intros
   all_goals first|exact okN _ _ (by omega) _|omega|(unfold LIM;omega)|exact atl (by omega) (by omega) rfl rfl rfl rfl|rfl
  have e1:k=s.rws.length:=by omega
  subst e1
  rw[hY] at fa1
  rw[bw] at fa1
  have hm1:(c1=c10)=False:=aO (by omega)
  have hm2:(c10=c1)=False:=aO (by omega)
  have hsf:=acA (bc true (s.rws.map gK))
  simp -implicitDefEqProofs(maxSteps:=9^9)only[Tryz.f57,↓zA,sevalprocAttr,ajj,h1_1,fi1,fo1,fa1,fk1,aK,au,hm1,hm2,hsf,adI]
  and_intros
  all_goals first|exact okN _ _ (by omega) _|(exact cz (by (try simp only[cJ,cI]) <;> rfl) (by (try simp only[aR]) <;> omega))|omega
 .have cn:((0:Int)<(s.ns.length:Int))=False:=aO (by rw[hn];simp)
  simp -implicitDefEqProofs(maxSteps:=9^9)only[Tryz.f57,↓zA,sevalprocAttr,ajj,k0,cn,cq,iI,abM,adZ]
  refine bX s.rws.length (fun k st=>st.fr 1=.of (.ref (agR s))∧st.fr 5=aU k∧st.objs=[]∧∃ c0 x0 i0 c x i,c0<c∧c<st.clk∧st.fr 3=.own (.nm c0 x0 i0) 9 1 (fl bA O) (O).length∧st.fr 4=.own (.nm c x i) 9 1 (fl bA (bc true ([]++(s.rws.take k).map gK))) (bc true ([]++(s.rws.take k).map gK)).length) ?_ ?_
  .simp -implicitDefEqProofs(maxSteps:=9^9)only[Tryz.f57,↓zA,sevalprocAttr,ajj]
   exact atl (by first|omega|decide) (by first|omega|decide) (by rw[hO];(try simp only[cJ,cI]) <;> rfl) (by rw[hO];(try simp only[aR]) <;> omega) rfl rfl
  rintro k ⟨fr1,ob1,ck1⟩ hk ⟨h1_1,fi1,fo1,c10,x10,i10,c1,x1,i1,hd1,hc1,fk1,fa1⟩
  dsimp only at h1_1 fi1 fo1 hc1 fa1 fk1
  rcases ap k s.rws.length with dk|dk
  .have hw:=cF k (by omega)
   have hu:=neF hc1
   have hy:=neF (Nat.lt_trans hd1 hc1)
   have hm1:(c1=c10)=False:=aO (by omega)
   have hm2:(c10=c1)=False:=aO (by omega)
   have gx:=bq dk
   have hse:=af5 gK ([]) s.rws k dk hP1 hg1
   have hsl:=afT gK ([]) ([]) s.rws k dk hP1 hg1 hL1
   have hx:=hrx s.rws[k] (ay dk)
   generalize s.rws[k]=y at *
   generalize bc true ([]++(s.rws.take (k+1)).map gK)=B at *
   generalize bc true ([]++(s.rws.take k).map gK)=A at *
   have eT:gK y=bI true (bc true (y.map bv)):=rfl
   rw[eT] at hse hsl
   have hl3:(bI true (bc true (y.map bv))).length=(bc true (y.map bv)).length+2:=by simp[bI]
   have k1:=fun K=>(aeD y hx.1 hx.2).k (by omega) K
   have k2:=fun K=>aaW (bc true (y.map bv)) (by omega) K
   have kn:=fun K=>agz A (fl bA (bI true (bc true (y.map bv)))) ((bI true (bc true (y.map bv))).length) (bI true (bc true (y.map bv))) B (by (try simp only[cJ,cI]) <;> rfl) (by (try simp only[aR]) <;> omega) hse (by (try simp only[aR]) <;> omega) K
   simp -implicitDefEqProofs(maxSteps:=9^9)only[Tryz.f57,↓zA,sevalprocAttr,ajj,h1_1,fi1,fo1,fa1,fk1,aK,dk,gx,hw,kn,hu,hy,hm1,hm2,k1,k2]
   and_intros
   all_goals first|exact okN _ _ (by omega) _|omega|(unfold LIM;omega)|exact atl (by omega) (by omega) rfl rfl rfl rfl|rfl
  have e1:k=s.rws.length:=by omega
  subst e1
  rw[hY] at fa1
  rw[bw] at fa1
  have hm1:(c1=c10)=False:=aO (by omega)
  have hm2:(c10=c1)=False:=aO (by omega)
  have hsf:=acA (bc true (s.rws.map gK))
  simp -implicitDefEqProofs(maxSteps:=9^9)only[Tryz.f57,↓zA,sevalprocAttr,ajj,h1_1,fi1,fo1,fa1,fk1,aK,au,hm1,hm2,hsf,adI]
  and_intros
  all_goals first|exact okN _ _ (by omega) _|(exact cz (by (try simp only[cJ,cI]) <;> rfl) (by (try simp only[aR]) <;> omega))|omega
def an7 {q:Qy} (h:d7 q=true):q.op=1∨q.op=2∨q.op=3∨q.op=4:=by
 rw[af9] at h
 simp only[ab] at h
 have h:=h.2
 by_cases h1:q.op=1
 .exact .inl h1
 .rw[aj h1] at h
  by_cases h2:q.op=2∨q.op=3∨q.op=4
  .exact .inr h2
  .rw[aj h2] at h;cases h
theorem aqy:∀ n,n≤1048576→(∀ e,cW e=true→fh e→xpW e≤n→RX e)∧(∀ q,d7 q=true→io q→qyW q≤n→RQ q)
  ∧ (∀ i,aaR i=true→aeS i→imW i≤n→i.st=false→RX i.e)∧(∀ f,gL f=true→acX f→fmW f≤n→RF f)
 | 0,_=>⟨fun e _ _ h=>by have:=aaw e;omega,fun e _ _ h=>by have:=adu e;omega,fun e _ _ h=>by have:=adw e;omega,fun e _ _ h=>by have:=abk e;omega⟩
 | n+1,hn=>by
  obtain⟨i1,i2,i3,i4⟩:=aqy n (by omega)
  have sX:∀ l:List Xp,(∀ x∈l,cW x=true)→lsP fh l→lsW xpW l≤n+1→∀ x∈l,RX x:=fun l o g h x hx=>i1 x (o x hx) (g x hx) (by have:=bQ (w:=xpW) hx;omega)
  have sQ:∀ l:List Qy,(∀ x∈l,d7 x=true)→lsP io l→lsW qyW l≤n+1→∀ x∈l,RQ x:=fun l o g h x hx=>i2 x (o x hx) (g x hx) (by have:=bQ (w:=qyW) hx;omega)
  have sI:∀ l:List Im,(∀ x∈l,aaR x=true)→lsP aeS l→lsW imW l≤n+1→∀ x∈l,aaR x=true∧(x.st=false→RX x.e):=fun l o g h x hx=>⟨o x hx,i3 x (o x hx) (g x hx) (by have:=bQ (w:=imW) hx;omega)⟩
  have sF:∀ l:List Fm,(∀ x∈l,gL x=true)→lsP acX l→lsW fmW l≤n+1→∀ x∈l,RF x∧gL x=true:=fun l o g h x hx=>⟨i4 x (o x hx) (g x hx) (by have:=bQ (w:=fmW) hx;omega),o x hx⟩
  refine⟨fun e o g h=>?_,fun q o g h=>?_,fun e o g h=>?_,fun f o g h=>?_⟩
  .have h':=aaU e
   rw[ac1] at g
   obtain⟨o1,o2⟩:=auG o
   have hl:=da xpW e.ks fun x _=>aaw x
   have hv:e.v.s.size+4=alF e.v:=rfl
   exact aFW e o g.2.1 (by omega) (by omega) (sX _ o1 g.2.2.2.2.2.1 (by omega)) (sQ _ o2 g.2.2.2.2.2.2 (by omega))
  .have h':=iK q
   rw[ag7] at g
   obtain⟨_,_,g1,_,g2,g3,g4,g5,g6,g7,_⟩:=g
   have ho:=o
   rw[af9] at o
   simp only[ab,ar] at o
   obtain⟨⟨⟨⟨⟨a1,a2⟩,a3⟩,a4⟩,a5⟩,o⟩:=o
   have hod:=aag (a:=0) (b:=64) a5
   have l1:=da imW q.its fun x _=>adw x
   have l4:=da xpW q.gr fun x _=>aaw x
   refine asm q _ (ao7 q) (fun h1=>?_) (fun h1=>?_) (by omega) hod.2 a2 a4
   .rw[aE h1] at o ⊢
    simp only[ab,ar] at o
    obtain⟨⟨⟨⟨⟨⟨_,b1⟩,b2⟩,b3⟩,b4⟩,b5⟩,b6⟩:=o
    have c3:=aag (a:=0) (b:=1) b3
    have c4:=aag (a:=0) (b:=1) b4
    have c6:=aag (a:=0) (b:=1) b6
    exact an3 q (by omega) (sI _ (aag (a:=1) (b:=64) b2).2 g2 (by omega)) c3.1 (fun x hx=>(sF _ (fun x hx=>by have:=c3.2 x hx;simp only[aaA,ab] at this;exact this.1) g3 (by omega) x hx).1) c4.1 (sX _ c4.2 g4 (by omega)) (by omega) (sX _ (aag (a:=0) (b:=64) b5).2 g5 (by omega)) c6.1 (sX _ c6.2 g6 (by omega))
   .rw[aj h1] at o ⊢
    have hop:q.op=2∨q.op=3∨q.op=4:=by rcases an7 ho with h|h;exact absurd h h1;exact h
    rw[aE hop] at o
    simp only[ab,ar] at o
    obtain⟨⟨b1,_⟩,_⟩:=o
    have hk:=ajH (a:=2) (b:=2) b1
    obtain⟨a,b,hab⟩:=ks2 (l:=q.ks) (by omega)
    have kq:=aag (a:=2) (b:=2) b1
    have sk:=sQ _ kq.2 g1 (by omega)
    have ha:a∈q.ks:=by rw[hab];simp
    have hb:b∈q.ks:=by rw[hab];simp
    exact aut q a b hab hop (an7 (kq.2 a ha)) (an7 (kq.2 b hb)) (sk a ha) (sk b hb)
  .have h':=aci e
   rw[ain] at g
   intro hst
   refine i1 _ ?_ g.2.2.1 (by omega)
   rw[aij,hst] at o
   simp only[aW,aQ,ab] at o
   exact o.2
  .have h':=jg f
   rw[aio] at g
   obtain⟨_,_,_,g1,g2,g3⟩:=g
   obtain⟨o1,o2,o3⟩:=ayi o
   exact aw5 f o (sQ _ o2 g1 (by omega)) (sF _ o1 g2 (by omega)) (sX _ o3 g3 (by omega))
def aCy {e:Xp} (o:cW e=true) (g:fh e) (h:xpW e≤1048576):RX e:=(aqy 1048576 (aM _)).1 e o g h
def aNa {q:Qy} (o:d7 q=true) (g:io q) (h:qyW q≤1048576):RQ q:=(aqy 1048576 (aM _)).2.1 q o g h
def rxL {l:List Xp} (o:∀ x∈l,cW x=true) (g:lsP fh l) (h:lsW xpW l≤1048576):∀ x∈l,RX x:=fun x hx=>aCy (o x hx) (g x hx) (by have:=bQ (w:=xpW) hx;omega)
def rqL {l:List Qy} (o:∀ x∈l,d7 x=true) (g:lsP io l) (h:lsW qyW l≤1048576):∀ x∈l,RQ x:=fun x hx=>aNa (o x hx) (g x hx) (by have:=bQ (w:=qyW) hx;omega)
def ajl:=ai (ai (ai (ai (ai @zq (ai @a6G @T65)) (ai @a6F (ai @a2J @aZM))) (ai (ai @a5w (ai @ac4 @ab1)) (ai @aez (ai @aeq @adh)))) (ai (ai (ai @agl (ai @afI @ad9)) (ai @ahP (ai @aC2 @av3))) (ai (ai @aKa (ai @a2I @aZL)) (ai @a5v (ai @a2H @aZK))))) (ai (ai (ai (ai @a5u (ai @aC1 @av2)) (ai @aJ9 (ai @am5 @aj9))) (ai (ai @aqf (ai @M89 @aba)) (ai @eY (ai @abO @cR)))) (ai (ai (ai @bO (ai @eI @aNo)) (ai @aJe (ai @aT7 @P65))) (ai (ai @Q3 (ai @P4 @Q4)) (ai (ai @Q9 @zT0) (ai @aeK (ba aiM))))))
def aQE (s:Sm) (hk:s.kd=1) (hl:SmL s):GW 18 [.of (.agg (smC s))] (smT s):=by
 intro o h
 have hT:smT s=[99,114,101,97,116,101]::([116,97,98,108,101]::(bF s.tb::bI true (bc true (adg s)))):=by rw[smT,aE hk];rfl
 rw[hT] at h ⊢
 try simp only[aR] at h
 have k1:(s.kd=1)=True:=aa (by omega)
 have k2:(s.kd=2)=False:=aO (by omega)
 have k3:(s.kd=3)=False:=aO (by omega)
 have k4:(s.kd=4)=False:=aO (by omega)
 have k5:(s.kd=5)=False:=aO (by omega)
 have k6:(s.kd=6)=False:=aO (by omega)
 have k7:(s.kd=7)=False:=aO (by omega)
 have k11:(s.kd=11)=False:=aO (by omega)
 have kc:=fun o K=>(aLY s hl).k o K
 refine ah rfl aiM aeK rfl ?_
 simp -implicitDefEqProofs(maxSteps:=9^9)only[Tryz.f18,↓zA,sevalprocAttr,ajl,zW,du,iv,cO,co,k1,k2,k3,k4,k5,k6,k7,k11,dI,gc,bg,kc,h,aR,am,ch,bd]
 try rfl
def aQC (s:Sm) (hk:s.kd=4) (hl:SnL s):GW 18 [.of (.agg (smC s))] (smT s):=by
 intro o h
 have hT:smT s=aju s++(s.q.map qyT).flatten:=by simp[smT,hk,aju]
 rw[hT] at h ⊢
 try simp only[aR] at h
 have k1:(s.kd=1)=False:=aO (by omega)
 have k2:(s.kd=2)=False:=aO (by omega)
 have k3:(s.kd=3)=False:=aO (by omega)
 have k4:(s.kd=4)=True:=aa (by omega)
 have k5:(s.kd=5)=False:=aO (by omega)
 have k6:(s.kd=6)=False:=aO (by omega)
 have k7:(s.kd=7)=False:=aO (by omega)
 have k11:(s.kd=11)=False:=aO (by omega)
 have kc:=fun o K=>(aLq s hl).k o K
 refine ah rfl aiM aeK rfl ?_
 simp -implicitDefEqProofs(maxSteps:=9^9)only[Tryz.f18,↓zA,sevalprocAttr,ajl,zW,du,iv,cO,co,k1,k2,k3,k4,k5,k6,k7,k11,dI,gc,bg,kc,h,aR,am,ch,bd]
 try rfl
def aQA (s:Sm) (hk:s.kd=6) (h1:bk s.tb=true) (h2:s.wh.length≤4611686018427387903) (h3:∀ x∈s.wh,WX x):GW 18 [.of (.agg (smC s))] (smT s):=by
 intro o h
 have hT:smT s=[100,101,108,101,116,101]::([102,114,111,109]::(bF s.tb::dC [119,104,101,114,101] s.wh)):=by simp[smT,hk]
 rw[hT] at h ⊢
 try simp only[aR] at h
 have k1:(s.kd=1)=False:=aO (by omega)
 have k2:(s.kd=2)=False:=aO (by omega)
 have k3:(s.kd=3)=False:=aO (by omega)
 have k4:(s.kd=4)=False:=aO (by omega)
 have k5:(s.kd=5)=False:=aO (by omega)
 have k6:(s.kd=6)=True:=aa (by omega)
 have k7:(s.kd=7)=False:=aO (by omega)
 have k11:(s.kd=11)=False:=aO (by omega)
 have afa:=aL [100,101,108,101,116,101]
 have dR:=aL [102,114,111,109]
 have bN:=aL [119,104,101,114,101]
 have q1:bi o+2≤LIM:=by omega
 have q2:bi o+(1+1)+1≤LIM:=by omega
 have q3:bi o+((1+1)+1)+(dC [119,104,101,114,101] s.wh).length≤LIM:=by omega
 have kw:=fun o K=>(aeA [119,104,101,114,101] s.wh h2 h3).k o K
 refine ah rfl aiM aeK rfl ?_
 simp -implicitDefEqProofs(maxSteps:=9^9)only[Tryz.f18,↓zA,sevalprocAttr,ajl,zW,du,iv,cO,co,k1,k2,k3,k4,k5,k6,k7,k11,afa,dR,bN,dI,gc,bg,aaF _ h1,kw,q1,q2,q3,aR,am,ch,bd]
 try rfl
def aQD (s:Sm) (hk:s.kd=2) (h1:bk s.nm=true) (h2:bk s.tb=true) (h3:s.ns.length≤4611686018427387903) (h4:∀ n∈s.ns,bk n=true):GW 18 [.of (.agg (smC s))] (smT s):=by
 intro o h
 have hT:smT s=[99,114,101,97,116,101]::(aF s.un [[117,110,105,113,117,101]]++([105,110,100,101,120]::(bF s.nm::([111,110]::(bF s.tb::dT s.ns))))):=by simp[smT,hk]
 rw[hT] at h ⊢
 try simp only[aR] at h
 have k1:(s.kd=1)=False:=aO (by omega)
 have k2:(s.kd=2)=True:=aa (by omega)
 have k3:(s.kd=3)=False:=aO (by omega)
 have k4:(s.kd=4)=False:=aO (by omega)
 have k5:(s.kd=5)=False:=aO (by omega)
 have k6:(s.kd=6)=False:=aO (by omega)
 have k7:(s.kd=7)=False:=aO (by omega)
 have k11:(s.kd=11)=False:=aO (by omega)
 have gJ:=aL [99,114,101,97,116,101]
 have aaJ:=aL [105,110,100,101,120]
 have adJ:=aL [111,110]
 have gI:=aL [117,110,105,113,117,101]
 have q1:bi o+1≤LIM:=by omega
 have q2:bi o+1+(aF s.un [[117,110,105,113,117,101]]).length≤LIM:=by omega
 have q3:bi o+((aF s.un [[117,110,105,113,117,101]]).length+1)+1≤LIM:=by omega
 have q4:bi o+(((aF s.un [[117,110,105,113,117,101]]).length+1)+1)+1≤LIM:=by omega
 have q5:bi o+(((aF s.un [[117,110,105,113,117,101]]).length+(1+1))+1)+1≤LIM:=by omega
 have q6:bi o+(((aF s.un [[117,110,105,113,117,101]]).length+((1+1)+1))+1)+1≤LIM:=by omega
 have q7:bi o+(((aF s.un [[117,110,105,113,117,101]]).length+(((1+1)+1)+1))+1)+(dT s.ns).length≤LIM:=by omega
 have kw:=fun o K=>(gD s.un [.lit (.string (aD [117,110,105,113,117,101]))] [[117,110,105,113,117,101]] 1 rfl rfl (by simp)).k o K
 have kns:=fun o K=>(afq s.ns h3 h4).k o K
 refine ah rfl aiM aeK rfl ?_
 simp -implicitDefEqProofs(maxSteps:=9^9)only[Tryz.f18,↓zA,sevalprocAttr,ajl,zW,du,iv,cO,co,k1,k2,k3,k4,k5,k6,k7,k11,gJ,aaJ,adJ,gI,dI,gc,bg,aaF _ h1,aaF _ h2,kw,kns,q1,q2,q3,q4,q5,q6,q7,aR,am,ch,bd]
 try rfl
def aKs (s:Sm) (hk:s.kd=3) (h0:s.tb≠[]) (h1:bk s.tb=true):GW 18 [.of (.agg (smC s))] (smT s):=by
 intro o h
 have hT:smT s=[[100,114,111,112],[116,97,98,108,101],bF s.tb]:=by simp[smT,hk,h0]
 rw[hT] at h ⊢
 try simp only[aR] at h
 have k1:(s.kd=1)=False:=aO (by omega)
 have k2:(s.kd=2)=False:=aO (by omega)
 have k3:(s.kd=3)=True:=aa (by omega)
 have k4:(s.kd=4)=False:=aO (by omega)
 have k5:(s.kd=5)=False:=aO (by omega)
 have k6:(s.kd=6)=False:=aO (by omega)
 have k7:(s.kd=7)=False:=aO (by omega)
 have k11:(s.kd=11)=False:=aO (by omega)
 have ad0:=aL [100,114,111,112]
 have ib:=aL [116,97,98,108,101]
 have aaJ:=aL [105,110,100,101,120]
 have q1:bi o+2≤LIM:=by omega
 have q2:bi o+(1+1)+1≤LIM:=by omega
 have z0:(aD s.tb=({data:=#[]}:ByteArray))=False:=by rw[ij];exact aO h0
 refine ah rfl aiM aeK rfl ?_
 simp -implicitDefEqProofs(maxSteps:=9^9)only[Tryz.f18,↓zA,sevalprocAttr,ajl,zW,du,iv,cO,co,k1,k2,k3,k4,k5,k6,k7,k11,ad0,ib,aaJ,dI,gc,bg,aaF _ h1,z0,q1,q2,aR,am,ch,bd]
 try rfl
def aKt (s:Sm) (hk:s.kd=3) (h0:s.tb=[]) (h1:bk s.nm=true):GW 18 [.of (.agg (smC s))] (smT s):=by
 intro o h
 have hT:smT s=[[100,114,111,112],[105,110,100,101,120],bF s.nm]:=by simp[smT,hk,h0]
 rw[hT] at h ⊢
 try simp only[aR] at h
 have k1:(s.kd=1)=False:=aO (by omega)
 have k2:(s.kd=2)=False:=aO (by omega)
 have k3:(s.kd=3)=True:=aa (by omega)
 have k4:(s.kd=4)=False:=aO (by omega)
 have k5:(s.kd=5)=False:=aO (by omega)
 have k6:(s.kd=6)=False:=aO (by omega)
 have k7:(s.kd=7)=False:=aO (by omega)
 have k11:(s.kd=11)=False:=aO (by omega)
 have ad0:=aL [100,114,111,112]
 have ib:=aL [116,97,98,108,101]
 have aaJ:=aL [105,110,100,101,120]
 have q1:bi o+2≤LIM:=by omega
 have q2:bi o+(1+1)+1≤LIM:=by omega
 have z0:(aD s.tb=({data:=#[]}:ByteArray))=True:=by rw[ij];exact aa h0
 refine ah rfl aiM aeK rfl ?_
 simp -implicitDefEqProofs(maxSteps:=9^9)only[Tryz.f18,↓zA,sevalprocAttr,ajl,zW,du,iv,cO,co,k1,k2,k3,k4,k5,k6,k7,k11,ad0,ib,aaJ,dI,gc,bg,aaF _ h1,z0,q1,q2,aR,am,ch,bd]
 try rfl
def aQB (s:Sm) (hk:s.kd=5) (h1:bk s.tb=true) (h2:s.wh.length≤4611686018427387903) (h3:∀ x∈s.wh,WX x) (h4:s.sts.length≤4611686018427387903) (h5:∀ a∈s.sts,bk a.nm=true∧WX a.e):GW 18 [.of (.agg (smC s))] (smT s):=by
 intro o h
 have hT:smT s=[117,112,100,97,116,101]::(bF s.tb::([115,101,116]::(bc true (s.sts.map abx)++dC [119,104,101,114,101] s.wh))):=by simp[smT,hk]
 rw[hT] at h ⊢
 try simp only[aR] at h
 have k1:(s.kd=1)=False:=aO (by omega)
 have k2:(s.kd=2)=False:=aO (by omega)
 have k3:(s.kd=3)=False:=aO (by omega)
 have k4:(s.kd=4)=False:=aO (by omega)
 have k5:(s.kd=5)=True:=aa (by omega)
 have k6:(s.kd=6)=False:=aO (by omega)
 have k7:(s.kd=7)=False:=aO (by omega)
 have k11:(s.kd=11)=False:=aO (by omega)
 have ae8:=aL [117,112,100,97,116,101]
 have alf:=aL [115,101,116]
 have bN:=aL [119,104,101,114,101]
 have q1:bi o+1≤LIM:=by omega
 have q2:bi o+1+1≤LIM:=by omega
 have q3:bi o+(1+1)+1≤LIM:=by omega
 have q4:bi o+((1+1)+1)+(bc true (s.sts.map abx)).length≤LIM:=by omega
 have q5:bi o+((((bc true (s.sts.map abx)).length+1)+1)+1)+(dC [119,104,101,114,101] s.wh).length≤LIM:=by omega
 have kw:=fun o K=>(aeA [119,104,101,114,101] s.wh h2 h3).k o K
 have kl:=fun o K=>aeZ (anA s.sts h4 h5 o) K
 simp only[Nat.reduceMul] at kl
 refine ah rfl aiM aeK rfl ?_
 simp -implicitDefEqProofs(maxSteps:=9^9)only[Tryz.f18,↓zA,sevalprocAttr,ajl,zW,du,iv,cO,co,k1,k2,k3,k4,k5,k6,k7,k11,ae8,alf,bN,dI,gc,bg,aaF _ h1,kw,kl,q1,q2,q3,q4,q5,aR,am,ch,bd]
 try rfl
def aQz (s:Sm) (hk:s.kd=7) (q:Qy) (hq:s.q=[q]) (hx:WQ q):GW 18 [.of (.agg (smC s))] (smT s):=by
 intro o h
 have hT:smT s=qyT q:=by simp[smT,hk,hq]
 rw[hT] at h ⊢
 try simp only[aR] at h
 have k1:(s.kd=1)=False:=aO (by omega)
 have k2:(s.kd=2)=False:=aO (by omega)
 have k3:(s.kd=3)=False:=aO (by omega)
 have k4:(s.kd=4)=False:=aO (by omega)
 have k5:(s.kd=5)=False:=aO (by omega)
 have k6:(s.kd=6)=False:=aO (by omega)
 have k7:(s.kd=7)=True:=aa (by omega)
 have k11:(s.kd=11)=False:=aO (by omega)
 have acH:=aL [101,120,112,108,97,105,110]
 have q1:bi o+(qyT q).length≤LIM:=by omega
 have g0:dH s.q 0=some q:=by rw[hq];rfl
 have kx:=fun o K=>hx.k o K
 have kw:=fun b o K=>(gD b [.lit (.string (aD [101,120,112,108,97,105,110]))] [[101,120,112,108,97,105,110]] 1 rfl rfl (by simp)).k o K
 have y1:bi o+0≤LIM:=by omega
 have y2:bi o+0+(qyT q).length≤LIM:=by omega
 have y3:bi o≤LIM:=by omega
 have y4:bi o+(qyT q).length≤LIM:=by omega
 refine ah rfl aiM aeK rfl ?_
 simp -implicitDefEqProofs(maxSteps:=9^9)only[Tryz.f18,↓zA,sevalprocAttr,ajl,zW,du,iv,cO,co,k1,k2,k3,k4,k5,k6,k7,k11,acH,dI,gc,bg,g0,kx,kw,aF,y1,y2,y3,y4,q1,aR,am,ch,bd]
 try rfl
def aKu (s:Sm) (hk:s.kd=11) (q:Qy) (hq:s.q=[q]) (hx:WQ q):GW 18 [.of (.agg (smC s))] (smT s):=by
 intro o h
 have hT:smT s=[101,120,112,108,97,105,110]::qyT q:=by simp[smT,hk,hq]
 rw[hT] at h ⊢
 try simp only[aR] at h
 have k1:(s.kd=1)=False:=aO (by omega)
 have k2:(s.kd=2)=False:=aO (by omega)
 have k3:(s.kd=3)=False:=aO (by omega)
 have k4:(s.kd=4)=False:=aO (by omega)
 have k5:(s.kd=5)=False:=aO (by omega)
 have k6:(s.kd=6)=False:=aO (by omega)
 have k7:(s.kd=7)=False:=aO (by omega)
 have k11:(s.kd=11)=True:=aa (by omega)
 have acH:=aL [101,120,112,108,97,105,110]
 have q1:bi o+1≤LIM:=by omega
 have q2:bi o+1+(qyT q).length≤LIM:=by omega
 have g0:dH s.q 0=some q:=by rw[hq];rfl
 have kx:=fun o K=>hx.k o K
 have kw:=fun b o K=>(gD b [.lit (.string (aD [101,120,112,108,97,105,110]))] [[101,120,112,108,97,105,110]] 1 rfl rfl (by simp)).k o K
 have y1:bi o+0≤LIM:=by omega
 have y2:bi o+0+(qyT q).length≤LIM:=by omega
 have y3:bi o≤LIM:=by omega
 have y4:bi o+(qyT q).length≤LIM:=by omega
 refine ah rfl aiM aeK rfl ?_
 simp -implicitDefEqProofs(maxSteps:=9^9)only[Tryz.f18,↓zA,sevalprocAttr,ajl,zW,du,iv,cO,co,k1,k2,k3,k4,k5,k6,k7,k11,acH,dI,gc,bg,g0,kx,kw,aF,y1,y2,y3,y4,q1,q2,aR,am,ch,bd]
 try rfl
def aDh (A B:Ob) (n:Int) (h:n=8∨n=9∨n=10∨n=12∨n=13∨n=14):jk (TT.of Tryz.prog) [A,B,.map [(.int .i64 8,aH (aD [98,101,103,105,110])),(.int .i64 9,aH (aD [99,111,109,109,105,116])),(.int .i64 10,aH (aD [114,111,108,108,98,97,99,107])),(.int .i64 12,aH (aD [97,110,97,108,121,122,101])),(.int .i64 13,aH (aD [118,97,99,117,117,109])),(.int .i64 14,aH (aD [99,104,101,99,107,112,111,105,110,116]))]] 89 (.mp 2) (.of (.lit (.int .i64 n))) false=out (.of (aH (aD (ait n)))):=by
 simp only[jk,M89,gk,acN]
 rcases h with h|h|h|h|h|h <;> (subst h;rfl)
def aQy (s:Sm) (hk:s.kd=8∨s.kd=9∨s.kd=10∨s.kd=12∨s.kd=13∨s.kd=14):GW 18 [.of (.agg (smC s))] (smT s):=by
 intro o h
 have k1:(s.kd=1)=False:=aO (by omega)
 have k2:(s.kd=2)=False:=aO (by omega)
 have k3:(s.kd=3)=False:=aO (by omega)
 have k4:(s.kd=4)=False:=aO (by omega)
 have k5:(s.kd=5)=False:=aO (by omega)
 have k6:(s.kd=6)=False:=aO (by omega)
 have k7:(s.kd=7)=False:=aO (by omega)
 have k11:(s.kd=11)=False:=aO (by omega)
 have hT:smT s=[ait s.kd]:=by simp only[smT,k1,k2,k3,k4,k5,k6,k7,k11,aQ]
 rw[hT] at h ⊢
 simp only[dN] at h
 have avH:=aL [98,101,103,105,110]
 have aqU:=aL [99,111,109,109,105,116]
 have aml:=aL [114,111,108,108,98,97,99,107]
 have aor:=aL [97,110,97,108,121,122,101]
 have aqT:=aL [118,97,99,117,117,109]
 have ajz:=aL [99,104,101,99,107,112,111,105,110,116]
 have hlk:=fun A B=>aDh A B s.kd hk
 have q1:bi o+1≤LIM:=by omega
 refine ah rfl aiM aeK rfl ?_
 simp -implicitDefEqProofs(maxSteps:=9^9)only[Tryz.f18,↓zA,sevalprocAttr,ajl,acx (ht:=M89),aaL (ht:=M89),ab5,agt,aeb,aer,aeE,aa6,ahf,Int.reduceEq,ch,zW,du,iv,cO,co,k1,k2,k3,k4,k5,k6,k7,k11,avH,aqU,aml,aor,aqT,ajz,hlk,dI,q1,h,aR,am,ch,bd]
 try rfl
def wsE (xs:List X) (obs:List Ob):pr.prim 47 xs obs=wsP xs obs:=rfl
def wbE (xs:List X) (obs:List Ob):pr.prim 46 xs obs=wbP xs obs:=rfl
def bsE (xs:List X) (obs:List Ob):pr.prim 49 xs obs=bsP xs obs:=rfl
def a0E (l:List UInt8) (K:An→Prop):bp Tryz.prog pr 49 [.ptr 0 0] [.var 93 [.ptr 0 0,.own (.cell 0 1) 5 1 (byC l) l.length]] K↔K ⟨false,[dy (str l)],[.var 93 [.of .any,.of .any]]⟩ :=
 aN.k (aN.of_prim (by rw[bsE];simp only[bsP,amv,bH])) K
def aaN (T:List To) (k:Nat):Option To:=if k=0 then none else T[k-1]?
def aAK {T:List To} {k:Nat} (h:k<T.length):gC (aaN T k) (T.drop k)=gC.whenB (!abd (aaN T k) T[k])++(T[k]++gC (aaN T (k+1)) (T.drop (k+1))):=by
 have e:aaN T (k+1)=some T[k]:=by rw[aaN,aj (by omega),Nat.add_sub_cancel,bK h]
 rw[bM h,e];rfl
def afx (tk:Tk) (e z:Nat) (l:List (List UInt8)) (n:Nat) (hn:n=l.length) (i:Int):dL (TT.of Tryz.prog) 23 (.own tk e z (fl bA l) n) (.of (.lit (.int .i64 i)))=dL (TT.of Tryz.prog) 23 (.of (slC bA l)) (.of (.lit (.int .i64 i))):=by
 subst hn
 rw[abj E23 _ _ i _ rfl,abj E23 _ _ i _ rfl]
def afE (tk:Tk) (a b c:ByteArray):ef tk 3 (Pe.elemOf (TT.of Tryz.prog) 23) (some [(0,[dy a]),(1,[dy b]),(2,[dy c])])=out (.own tk 9 1 [aH a,aH b,aH c] 3):=by rw[E23];kernel_rfl
def inA (v:To):Bool:=decide (v∈[lpT,ab0])
def inQ (v:To):Bool:=decide (v∈[rpT,cmT,ab0])
def apR (v:To) (K:An→Prop):bp Tryz.prog pr 45 [.of (.sl [.lit (.string (aD [40])),.lit (.string (aD [46]))] 2),.of (aH (aD v))] [] K↔K ⟨false,[aG (inA v)],[]⟩:=by
 have:=alv [lpT,ab0] v K
 rw[ajY (by simp)] at this
 exact this
def apQ (v:To) (K:An→Prop):bp Tryz.prog pr 45 [.of (.sl [.lit (.string (aD [41])),.lit (.string (aD [44])),.lit (.string (aD [46]))] 3),.of (aH (aD v))] [] K↔K ⟨false,[aG (inQ v)],[]⟩:=by
 have:=alv [rpT,cmT,ab0] v K
 rw[ajY (by simp)] at this
 exact this
def aM7 (s:List UInt8):(aD s).size=s.length:=by simp[aD,ByteArray.size]
abbrev bZZ:Ob:=.var 93 [.of (.lit (.pointer none)),.nil]
abbrev bV (l:List UInt8):Ob:=.var 93 [.ptr 0 0,.own (.cell 0 1) 5 1 (byC l) l.length]
def a1p (s:To) (K:An→Prop):bp Tryz.prog pr 47 [.ptr 0 0,.of (aH (aD s))] [.var 93 [.of (.lit (.pointer none)),.nil]] K↔ifP (s.length≤LIM) (K ⟨false,[aU s.length,.of (.lit .nilIface)],[bV s]⟩) (afP Tryz.prog pr 47 [.ptr 0 0,.of (aH (aD s))] [bZZ] K):=aeZ (fun h=>aN.of_prim (by rw[wsE];simp only[wsP,aic,dG,ce,bd,aM7,h,aA,bld,bw];rfl)) K
def aoF (l:List UInt8) (s:To) (K:An→Prop):bp Tryz.prog pr 47 [.ptr 0 0,.of (aH (aD s))] [bV l] K↔ifP (l.length+s.length≤LIM) (K ⟨false,[aU s.length,.of (.lit .nilIface)],[bV (l++s)]⟩) (afP Tryz.prog pr 47 [.ptr 0 0,.of (aH (aD s))] [bV l] K):=aeZ (fun h=>aN.of_prim (by rw[wsE];simp only[wsP,amv,dG,aM7,h,aA,bld];rfl)) K
def as9 (l:List UInt8) (s:To) (K:An→Prop):bp Tryz.prog pr 47 [.ptr 0 0,.of (aH (aD s))] [.var 93 [.ptr 0 0,.own (.cell 0 1) 5 1 (byC (l++[32])) (l.length+1)]] K↔ifP (l.length+1+s.length≤LIM) (K ⟨false,[aU s.length,.of (.lit .nilIface)],[bV (l++[32]++s)]⟩) (afP Tryz.prog pr 47 [.ptr 0 0,.of (aH (aD s))] [.var 93 [.ptr 0 0,.own (.cell 0 1) 5 1 (byC (l++[32])) (l.length+1)]] K):=by
 have:=aoF (l++[32]) s K
 have e:(l++[32]).length=l.length+1:=by simp
 rw[e] at this
 exact (by rw[bV,e] at this;exact this)
def atc (l:List UInt8) (K:An→Prop):bp Tryz.prog pr 46 [.ptr 0 0,.of (.lit (.int .u8 32))] [bV l] K↔ifP (l.length+1≤LIM) (K ⟨false,[.of (.lit .nilIface)],[bV (l++[32])]⟩) (afP Tryz.prog pr 46 [.ptr 0 0,.of (.lit (.int .u8 32))] [bV l] K):=aeZ (fun h=>aN.of_prim (by rw[wbE];simp only[wbP,amv,dG,h,aA,bld];rfl)) K
def aKc (a x:To):abd (some a) x=(inA a||inQ x):=by
 unfold abd inA inQ;simp[Bool.or_assoc]
def a5c:=ai (ai @zq (ai @T93 @aIM)) (ai @zT0 (ai @aH1 (ba aYn)))
def aJu (l:List UInt8):aN Tryz.prog pr 48 [.ptr 0 0] [bV l] ⟨false,[aU l.length],[bV l]⟩:=by
 refine ah rfl aYn aH1 rfl ?_
 simp -implicitDefEqProofs(maxSteps:=9^9)only[Tryz.f48,↓zA,sevalprocAttr,a5c,zW,bV]
 try rfl
def aJt (l:List UInt8) (K:An→Prop):bp Tryz.prog pr 48 [.ptr 0 0] [bV l] K↔K ⟨false,[aU l.length],[bV l]⟩:=aN.k (aJu l) K
abbrev bZ:Ob:=.var 93 [.of (.lit (.pointer none)),.nil]
abbrev bL (l:List UInt8):Ob:=.var 93 [.ptr 1 0,.own (.cell 1 1) 5 1 (byC l) l.length]
def aku:=ai (ai (ai (ai @zq (ai @a6D @aNn)) (ai @aJd (ai @a2G @aZJ))) (ai (ai @a5t (ai @a2F @aZI)) (ai @a5s (ai @a2E @aZH)))) (ai (ai (ai @a5r (ai @a2D @aZG)) (ai @a5q (ai @T67 @ami))) (ai (ai @T93 (ai @aIM @bO)) (ai (ai @Q9 @zT0) (ai @aIn (ba aYJ)))))
def aFm (T:List To) (h0:T≠[]) (hl:T.length≤LIM) (hg:(gC none T).length≤LIM):aN Tryz.prog pr 19 [.ptr 0 0] [wT cw (some T)] ⟨false,[dy (str (abc T).1),.of (ci (abc T).2)],[wT cw (some T)]⟩:=by
 have hn:0<T.length:=by cases T with|nil=>exact absurd rfl h0|cons a r=>simp
 refine ah rfl aYJ aIn rfl ?_
 simp -implicitDefEqProofs(maxSteps:=9^9)only[Tryz.f19,↓zA,sevalprocAttr,aku,zW,du]
 refine bX T.length (fun k s=>s.fr 0=.ptr 0 0∧s.fr 4=.ptr 1 0∧s.fr 11=.own cw 9 1 (fl bA T) T.length∧s.fr 12=aU T.length∧s.fr 13=aU k∧∃ l,s.objs=[wT cw (some T),if k=0 then bZ else bL l]∧(k=0→l=[])∧gC none T=l++gC (aaN T k) (T.drop k)) ?_ ?_
 .simp -implicitDefEqProofs(maxSteps:=9^9)only[Tryz.f19,↓zA,sevalprocAttr,aku,zW]
  exact⟨rfl,[],fun _=>rfl,rfl⟩
 rintro k ⟨frk,obk,ckk⟩ hk ⟨f0,f4,f11,f12,f13,l,fo,hk0,E⟩
 dsimp only at f0 f4 f11 f12 f13 fo
 have e40:=aL [40]
 have e41:=aL [41]
 have e44:=aL [44]
 have e46:=aL [46]
 rcases ap k T.length with dk|dk
 .have hw:=cF k (by simp only[LIM] at hl;omega)
  have gx:=bq dk
  rw[aAK dk] at E
  have hbz:=hg
  rw[E] at hbz
  simp only[av] at hbz
  rcases fM k with hz|hz
  .subst hz
   have hl0:=hk0 rfl
   subst hl0
   have fo':obk=[wT cw (some T),bZ]:=fo
   have b1:T[0].length≤LIM:=by simp only[ce] at hbz;omega
   have dk':((0:Int)<(T.length:Int))=True:=aa (by omega)
   have gx0:dH T 0=some T[0]:=gx
   have hw0:IntKind.i64.wrap (0+1)=((1:Nat):Int):=hw
   simp -implicitDefEqProofs(maxSteps:=9^9)only[Tryz.f19,↓zA,sevalprocAttr,aku,f0,f4,f11,f12,f13,fo',zW,du,dk',gx0,hw0,b1,a1p,afx,e40,e41,e44,e46,apR,apQ,bg,afE]
   exact⟨dk,congrArg (fun n=>X.of (.lit (.int .i64 n))) hw0,T[0],rfl,fun h=>h.elim,by rw[E];simp[abd,aaN,gC.whenB]⟩
  have fo':obk=[wT cw (some T),bL l]:=by rw[fo,aj (by omega)]
  have kz:((k:Int)=0)=False:=aO (by omega)
  have hs:IntKind.i64.wrap ((k:Int)-1)=((k-1:Nat):Int):=by
   rw[show (k:Int)-1=((k-1:Nat):Int) by omega]
   simp only[LIM] at hl
   exact eX _ (by omega) (by omega)
  have dp:k-1<T.length:=by omega
  have gp:=bq dp
  have ep:aaN T k=some T[k-1]:=by rw[aaN,aj (by omega),bK dp]
  rw[ep,aKc] at E hbz
  have en:(k+1=0)=False:=aO (by omega)
  generalize T[k-1]=a at *
  generalize hx:T[k]=x at *
  cases pA:inA a <;> cases pB:inQ x
  all_goals
   rw[pA,pB] at E hbz
   simp only[gC.whenB,fg,e7,fx,eh,aA,aW,aQ,bw,ce,aB] at E hbz
  .have b1:l.length+1≤LIM:=by omega
   have b2:l.length+1+x.length≤LIM:=by omega
   simp -implicitDefEqProofs(maxSteps:=9^9)only[Tryz.f19,↓zA,sevalprocAttr,aku,f0,f4,f11,f12,f13,fo',zW,du,dk,aK,gx,gp,hw,hs,kz,en,pA,pB,wT,wX,aoF,as9,atc,afx,e40,e41,e44,e46,apR,apQ,bg,afE,b1,b2]
   exact⟨l++[32]++x,by show _=[_,Ob.var 93 [.ptr 1 0,.own (.cell 1 1) 5 1 (byC (l++[32]++x)) (l++[32]++x).length]];simp[av,eZ];try rfl,by rw[E];simp⟩
  .have b1:l.length+x.length≤LIM:=by omega
   simp -implicitDefEqProofs(maxSteps:=9^9)only[Tryz.f19,↓zA,sevalprocAttr,aku,f0,f4,f11,f12,f13,fo',zW,du,dk,aK,gx,gp,hw,hs,kz,en,pA,pB,wT,wX,aoF,as9,atc,afx,e40,e41,e44,e46,apR,apQ,bg,afE,b1]
   exact⟨l++x,by show _=[_,Ob.var 93 [.ptr 1 0,.own (.cell 1 1) 5 1 (byC (l++x)) (l++x).length]];simp[av,eZ];try rfl,by rw[E];simp⟩
  .have b1:l.length+x.length≤LIM:=by omega
   simp -implicitDefEqProofs(maxSteps:=9^9)only[Tryz.f19,↓zA,sevalprocAttr,aku,f0,f4,f11,f12,f13,fo',zW,du,dk,aK,gx,gp,hw,hs,kz,en,pA,pB,wT,wX,aoF,as9,atc,afx,e40,e41,e44,e46,apR,apQ,bg,afE,b1]
   exact⟨l++x,by show _=[_,Ob.var 93 [.ptr 1 0,.own (.cell 1 1) 5 1 (byC (l++x)) (l++x).length]];simp[av,eZ];try rfl,by rw[E];simp⟩
  .have b1:l.length+x.length≤LIM:=by omega
   simp -implicitDefEqProofs(maxSteps:=9^9)only[Tryz.f19,↓zA,sevalprocAttr,aku,f0,f4,f11,f12,f13,fo',zW,du,dk,aK,gx,gp,hw,hs,kz,en,pA,pB,wT,wX,aoF,as9,atc,afx,e40,e41,e44,e46,apR,apQ,bg,afE,b1]
   exact⟨l++x,by show _=[_,Ob.var 93 [.ptr 1 0,.own (.cell 1 1) 5 1 (byC (l++x)) (l++x).length]];simp[av,eZ];try rfl,by rw[E];simp⟩
 have e:k=T.length:=by omega
 subst e
 have fo':obk=[wT cw (some T),bL l]:=by rw[fo,aj (by omega)]
 rw[aw] at E
 have E1:gC none T=l:=by rw[E];simp[gC]
 by_cases c:l.length≤2000
 .have c1:((2000:Int)<(l.length:Int))=False:=aO (by omega)
  have c2:abc T=(l,0):=by unfold abc;rw[E1,aE c]
  rw[c2]
  simp -implicitDefEqProofs(maxSteps:=9^9)only[Tryz.f19,↓zA,sevalprocAttr,aku,f0,f4,f11,f12,f13,fo',zW,du,aK,au,c1,aJt,a0E]
 .have c1:((2000:Int)<(l.length:Int))=True:=aa (by omega)
  have c2:abc T=([],4):=by unfold abc;rw[E1,aj c]
  rw[c2]
  simp -implicitDefEqProofs(maxSteps:=9^9)only[Tryz.f19,↓zA,sevalprocAttr,aku,f0,f4,f11,f12,f13,fo',zW,du,aK,au,c1,aJt,a0E]
  rfl
end Go.Proofs.YtemdljoideegeaaGreatDoor

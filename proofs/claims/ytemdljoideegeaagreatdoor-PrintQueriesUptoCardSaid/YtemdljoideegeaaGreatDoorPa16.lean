/-
  The writer: what makes a table. Conditions: none.
-/
import Derived.Test.YtemdljoideegeaaGreatDoorPa15
set_option linter.defProp false
set_option linter.unusedSectionVars false
set_option maxRecDepth 100000
set_option maxHeartbeats 64000000
namespace Go.Proofs.YtemdljoideegeaaGreatDoor
open Go Go.Pe Go.Tab
def aGW {α β:Type} (f:α→β) (l:List α):decide (l.map f≠[])=decide (0<l.length):=fO.2 (by cases l <;> simp)
def ayk {α:Type} (l:List α):decide (l≠[])=decide (0<l.length):=fO.2 (by cases l <;> simp)
def aaV (q:Qy):List To:=aF (decide (0≤q.li)) [[108,105,109,105,116],Lib.itoa q.li]++aF (decide (0<q.sk)) [[111,102,102,115,101,116],Lib.itoa q.sk]
def frT (l:List Fm):List To:=(l.map fun f=>[102,114,111,109]::fmT f).flatten
def aWM {l:List Fm} {k:Nat} (h:k<l.length):frT (l.drop k)=[102,114,111,109]::(fmT l[k]++frT (l.drop (k+1))):=by
 rw[bM h];rfl
def aQZ (q:Qy) (h:q.op=1):qyT q=[115,101,108,101,99,116]::(aF q.di [[100,105,115,116,105,110,99,116]]++(bc true (q.its.map imT)++(frT q.fr++(dC [119,104,101,114,101] q.wh++(aF (decide (0<q.gr.length)) [[103,114,111,117,112],[98,121]]++(bc true (q.gr.map bv)++(dC [104,97,118,105,110,103] q.hv++(aF (decide (0<q.od.length)) [[111,114,100,101,114],[98,121]]++(bc true (q.od.map odT)++aaV q))))))))):=by
 cases q
 simp only[Qy.op] at h
 simp only[gP,qyT,h,aA,akH,ajx,aoi,aiK,adO,amY,amZ,Qy.di,Qy.its,Qy.fr,Qy.wh,Qy.gr,Qy.hv,Qy.od,Qy.li,Qy.sk,aGW,ayk,frT,aaV,ii,aJK]
 rfl
def aQY (q a b:Qy) (h:q.op≠1) (hk:q.ks=[a,b]):qyT q=dZ (cL q.op) (qyP a)++(ahS q.op::(aF q.al [[97,108,108]]++(dZ (cL q.op+1) (qyP b)++(aF (decide (0<q.od.length)) [[111,114,100,101,114],[98,121]]++(bc true (q.od.map odT)++aaV q))))):=by
 cases q
 simp only[Qy.op,Qy.ks] at h hk
 subst hk
 simp only[qyT,h,aQ,ahn,ajx,afV,aV,Qy.op,Qy.al,Qy.od,Qy.li,Qy.sk,aGW,ayk,aaV,aJK]
 try rfl
def aLh (A:Ob) (n:Int) (h:n=2∨n=3∨n=4):jk (TT.of Tryz.prog) [A,.map [(.int .i64 2,aH (aD [117,110,105,111,110])),(.int .i64 3,aH (aD [105,110,116,101,114,115,101,99,116])),(.int .i64 4,aH (aD [101,120,99,101,112,116]))]] 89 (.mp 1) (.of (.lit (.int .i64 n))) false=out (.of (aH (aD (ahS n)))):=by
 simp only[jk,M89,gk,acN]
 rcases h with h|h|h <;> (subst h;rfl)
structure QyL (q:Qy):Prop where
 its:q.its.length≤4611686018427387903
 fr:q.fr.length≤4611686018427387903
 wh:q.wh.length≤4611686018427387903
 gr:q.gr.length≤4611686018427387903
 hv:q.hv.length≤4611686018427387903
 od:q.od.length≤4611686018427387903
structure QyW (q:Qy):Prop where
 ks:∀ x∈q.ks,WQ x∧d7 x=true∧x.od.length≤4611686018427387903
 its:∀ i∈q.its,GW 64 [.of (.agg (imC i))] (imT i)
 fr:∀ x∈q.fr,WF x
 wh:∀ x∈q.wh,WX x
 gr:∀ x∈q.gr,WX x
 hv:∀ x∈q.hv,WX x
 od:∀ x∈q.od,GW 70 [.of (.agg (odC x))] (odT x)
def aiq:=ai (ai (ai (ai (ai @zq (ai @a6R @ac4)) (ai (ai @ab1 @aez) (ai @aeq @adh))) (ai (ai @agl (ai @a2w @aZz)) (ai (ai @a5p @a6Q) (ai @aCX @avY)))) (ai (ai (ai @aJ6 (ai @aC1 @av2)) (ai (ai @aJ9 @aCW) (ai @avX @aJ5))) (ai (ai (ai @aNl @aJb) (ai @a2v @aZy)) (ai (ai @a5o @M89) (ai @a2u @aZx))))) (ai (ai (ai (ai @a5n (ai @aNk @aJa)) (ai (ai @aT6 @eY) (ai @cR @jq))) (ai (ai @acL (ai @abb @bO)) (ai (ai @ey @eI) (ai @iU @abV)))) (ai (ai (ai @aCY (ai @avZ @aJ7)) (ai (ai @agv @aeO) (ai @aiv @aCV))) (ai (ai (ai @avW @aJ4) (ai @Q3 @P4)) (ai (ai @Q4 @zT0) (ai @ave (ba aLN))))))
def aKQ (q:Qy) (hop:q.op=1) (hli:ji q.li=true) (hsk:ji q.sk=true) (hl:QyL q) (hw:QyW q):WQ q:=by
 intro o h
 have bS:=aL [115,101,108,101,99,116]
 have cj:=aL [100,105,115,116,105,110,99,116]
 have dR:=aL [102,114,111,109]
 have bN:=aL [119,104,101,114,101]
 have dM:=aL [103,114,111,117,112]
 have fW:=aL [98,121]
 have bT:=aL [104,97,118,105,110,103]
 have fD:=aL [111,114,100,101,114]
 have ic:=aL [108,105,109,105,116]
 have gn:=aL [111,102,102,115,101,116]
 have ia:=aL [117,110,105,111,110]
 have eV:=aL [105,110,116,101,114,115,101,99,116]
 have gu:=aL [101,120,99,101,112,116]
 have jp:=aL [97,108,108]
 have kb:∀ (b:Bool) (cs:List C) (T:List To) (n:Nat) (hn:n=T.length) (hc:cs=fl bA T) (hT:T≠[]) (o:Option (List To)) (K:An→Prop),_:=fun b cs T n hn hc hT o K=>(gD b cs T n hn hc hT).k o K
 have kdi:=fun o K=>kb q.di [.lit (.string (aD [100,105,115,116,105,110,99,116]))] [[100,105,115,116,105,110,99,116]] 1 rfl rfl (by simp) o K
 have kal:=fun o K=>kb q.al [.lit (.string (aD [97,108,108]))] [[97,108,108]] 1 rfl rfl (by simp) o K
 have kgr:=fun o K=>kb (decide (0<q.gr.length)) [.lit (.string (aD [103,114,111,117,112])),.lit (.string (aD [98,121]))] [[103,114,111,117,112],[98,121]] 2 rfl rfl (by simp) o K
 have kod:=fun o K=>kb (decide (0<q.od.length)) [.lit (.string (aD [111,114,100,101,114])),.lit (.string (aD [98,121]))] [[111,114,100,101,114],[98,121]] 2 rfl rfl (by simp) o K
 have kit:=fun o K=>(ai8 64 q.its imT hl.its aCY aJ7 avZ hw.its).k o K
 have kgl:=fun o K=>(aes 43 q.gr bv hl.gr agv aiv aeO fun x hx=>adr x (hw.gr x hx)).k o K
 have kol:=fun o K=>(aiC 70 q.od odT hl.od aCV aJ4 avW hw.od).k o K
 simp only[Nat.reduceMul,Nat.reduceAdd] at kit kgl kol
 have kwh:=fun o K=>(aeA [119,104,101,114,101] q.wh hl.wh hw.wh).k o K
 have khv:=fun o K=>(aeA [104,97,118,105,110,103] q.hv hl.hv hw.hv).k o K
 have kli:=apo q.li hli
 have ksk:=apo q.sk hsk
 have hT:=aQZ q hop
 have hop':=aa hop
 rw[hT] at h ⊢
 refine ah rfl aLN ave rfl ?_
 simp only[aR] at h
 have q1:bi o+1≤LIM:=by omega
 have q2:bi o+1+(aF q.di [[100,105,115,116,105,110,99,116]]).length≤LIM:=by omega
 have q3:bi o+((aF q.di [[100,105,115,116,105,110,99,116]]).length+1)+(bc true (q.its.map imT)).length≤LIM:=by omega
 simp -implicitDefEqProofs(maxSteps:=9^9)only[Tryz.f24,↓zA,sevalprocAttr,aiq,zW,cO,co,hop',bS,cj,dR,bN,dM,fW,bT,fD,ic,gn,ia,eV,gu,jp,kdi,kal,kgr,kod,kit,kgl,kol,kwh,khv,kli,ksk,acI,dI,gc,bg,q1,q2,q3,aR,am,ch,bd]
 refine bX q.fr.length (fun k s=>s.fr 0=.ptr 0 0∧s.fr 3=.of (.ref (aKO q))∧s.fr 24=.of (slC fmC q.fr)∧s.fr 25=aU q.fr.length∧s.fr 26=aU k∧∃ A,s.objs=[wT cw (iH o A)]∧[115,101,108,101,99,116]::(aF q.di [[100,105,115,116,105,110,99,116]]++(bc true (q.its.map imT)++frT q.fr))=A++frT (q.fr.drop k)) ?_ ?_
 .simp -implicitDefEqProofs(maxSteps:=9^9)only[Tryz.f24,↓zA,sevalprocAttr,aiq]
  exact⟨_,rfl,by simp⟩
 rintro k ⟨frk,obk,ckk⟩ hk ⟨f0,f3,f24,f25,f26,A,fo,E⟩
 dsimp only at f0 f3 f24 f25 f26 fo
 have E2:=congrArg List.length E
 simp only[av,aB] at E2
 rcases ap k q.fr.length with dk|dk
 .have hwr:=cF k (by have:=hl.fr;omega)
  have gx:=bq dk
  have hx:=hw.fr _ (ay dk)
  rw[aWM dk] at E E2
  generalize q.fr[k]=x at *
  have kx:=fun o K=>hx.k o K
  simp only[av,aB] at E2
  have q1:bi o+A.length+1≤LIM:=by omega
  have q2:bi o+(A.length+1)+(fmT x).length≤LIM:=by omega
  simp -implicitDefEqProofs(maxSteps:=9^9)only[Tryz.f24,↓zA,sevalprocAttr,aiq,f0,f3,f24,f25,f26,fo,zW,aK,dk,gx,hwr,bS,cj,dR,bN,dM,fW,bT,fD,ic,gn,ia,eV,gu,jp,dI,kx,q1,q2,aR,am,ch,bd]
  exact⟨_,rfl,by rw[E];simp⟩
 have e:k=q.fr.length:=by omega
 subst e
 rw[aw,show frT []=[] from rfl,cE] at E
 rw[aw,show frT []=[] from rfl,ce] at E2
 by_cases ha:0≤q.li
 .by_cases hb:0<q.sk
  .have hR:aaV q=[[108,105,109,105,116],Lib.itoa q.li,[111,102,102,115,101,116],Lib.itoa q.sk]:=by simp[aaV,aF,ha,hb]
   rw[hR] at h ⊢
   simp only[aR] at h
   have q2:bi o+(A).length+(dC [119,104,101,114,101] q.wh).length≤LIM:=by omega
   have q3:bi o+((A).length+(dC [119,104,101,114,101] q.wh).length)+(aF (decide (0<q.gr.length)) [[103,114,111,117,112],[98,121]]).length≤LIM:=by omega
   have q4:bi o+((A).length+((dC [119,104,101,114,101] q.wh).length+(aF (decide (0<q.gr.length)) [[103,114,111,117,112],[98,121]]).length))+(bc true (q.gr.map bv)).length≤LIM:=by omega
   have q5:bi o+((A).length+((dC [119,104,101,114,101] q.wh).length+((aF (decide (0<q.gr.length)) [[103,114,111,117,112],[98,121]]).length+(bc true (q.gr.map bv)).length)))+(dC [104,97,118,105,110,103] q.hv).length≤LIM:=by omega
   have q6:bi o+((A).length+((dC [119,104,101,114,101] q.wh).length+((aF (decide (0<q.gr.length)) [[103,114,111,117,112],[98,121]]).length+((bc true (q.gr.map bv)).length+(dC [104,97,118,105,110,103] q.hv).length))))+(aF (decide (0<q.od.length)) [[111,114,100,101,114],[98,121]]).length≤LIM:=by omega
   have q7:bi o+((A).length+((dC [119,104,101,114,101] q.wh).length+((aF (decide (0<q.gr.length)) [[103,114,111,117,112],[98,121]]).length+((bc true (q.gr.map bv)).length+((dC [104,97,118,105,110,103] q.hv).length+(aF (decide (0<q.od.length)) [[111,114,100,101,114],[98,121]]).length)))))+(bc true (q.od.map odT)).length≤LIM:=by omega
   have q8:bi o+((A).length+((dC [119,104,101,114,101] q.wh).length+((aF (decide (0<q.gr.length)) [[103,114,111,117,112],[98,121]]).length+((bc true (q.gr.map bv)).length+((dC [104,97,118,105,110,103] q.hv).length+((aF (decide (0<q.od.length)) [[111,114,100,101,114],[98,121]]).length+(bc true (q.od.map odT)).length))))))+1≤LIM:=by omega
   have q9:bi o+((A).length+((dC [119,104,101,114,101] q.wh).length+((aF (decide (0<q.gr.length)) [[103,114,111,117,112],[98,121]]).length+((bc true (q.gr.map bv)).length+((dC [104,97,118,105,110,103] q.hv).length+((aF (decide (0<q.od.length)) [[111,114,100,101,114],[98,121]]).length+((bc true (q.od.map odT)).length+1)))))))+1≤LIM:=by omega
   have q10:bi o+((A).length+((dC [119,104,101,114,101] q.wh).length+((aF (decide (0<q.gr.length)) [[103,114,111,117,112],[98,121]]).length+((bc true (q.gr.map bv)).length+((dC [104,97,118,105,110,103] q.hv).length+((aF (decide (0<q.od.length)) [[111,114,100,101,114],[98,121]]).length+((bc true (q.od.map odT)).length+(1+1))))))))+1≤LIM:=by omega
   have q11:bi o+((A).length+((dC [119,104,101,114,101] q.wh).length+((aF (decide (0<q.gr.length)) [[103,114,111,117,112],[98,121]]).length+((bc true (q.gr.map bv)).length+((dC [104,97,118,105,110,103] q.hv).length+((aF (decide (0<q.od.length)) [[111,114,100,101,114],[98,121]]).length+((bc true (q.od.map odT)).length+((1+1)+1))))))))+1≤LIM:=by omega
   simp -implicitDefEqProofs(maxSteps:=9^9)only[Tryz.f24,↓zA,sevalprocAttr,aiq,f0,f3,f24,f25,f26,fo,zW,aK,au,bS,cj,dR,bN,dM,fW,bT,fD,ic,gn,ia,eV,gu,jp,kdi,kal,kgr,kod,kit,kgl,kol,kwh,khv,kli,ksk,acI,dI,gc,bg,ha,hb,q2,q3,q4,q5,q6,q7,q8,q9,q10,q11,aR,am,ch,bd]
   have E3:∀ Z:List To,[115,101,108,101,99,116]::(aF q.di [[100,105,115,116,105,110,99,116]]++(bc true (q.its.map imT)++(frT q.fr++Z)))=A++Z:=fun Z=>by rw[← E];simp
   rw[E3]
   try simp
  .have hR:aaV q=[[108,105,109,105,116],Lib.itoa q.li]:=by simp[aaV,aF,ha,hb]
   rw[hR] at h ⊢
   simp only[aR] at h
   have q2:bi o+(A).length+(dC [119,104,101,114,101] q.wh).length≤LIM:=by omega
   have q3:bi o+((A).length+(dC [119,104,101,114,101] q.wh).length)+(aF (decide (0<q.gr.length)) [[103,114,111,117,112],[98,121]]).length≤LIM:=by omega
   have q4:bi o+((A).length+((dC [119,104,101,114,101] q.wh).length+(aF (decide (0<q.gr.length)) [[103,114,111,117,112],[98,121]]).length))+(bc true (q.gr.map bv)).length≤LIM:=by omega
   have q5:bi o+((A).length+((dC [119,104,101,114,101] q.wh).length+((aF (decide (0<q.gr.length)) [[103,114,111,117,112],[98,121]]).length+(bc true (q.gr.map bv)).length)))+(dC [104,97,118,105,110,103] q.hv).length≤LIM:=by omega
   have q6:bi o+((A).length+((dC [119,104,101,114,101] q.wh).length+((aF (decide (0<q.gr.length)) [[103,114,111,117,112],[98,121]]).length+((bc true (q.gr.map bv)).length+(dC [104,97,118,105,110,103] q.hv).length))))+(aF (decide (0<q.od.length)) [[111,114,100,101,114],[98,121]]).length≤LIM:=by omega
   have q7:bi o+((A).length+((dC [119,104,101,114,101] q.wh).length+((aF (decide (0<q.gr.length)) [[103,114,111,117,112],[98,121]]).length+((bc true (q.gr.map bv)).length+((dC [104,97,118,105,110,103] q.hv).length+(aF (decide (0<q.od.length)) [[111,114,100,101,114],[98,121]]).length)))))+(bc true (q.od.map odT)).length≤LIM:=by omega
   have q8:bi o+((A).length+((dC [119,104,101,114,101] q.wh).length+((aF (decide (0<q.gr.length)) [[103,114,111,117,112],[98,121]]).length+((bc true (q.gr.map bv)).length+((dC [104,97,118,105,110,103] q.hv).length+((aF (decide (0<q.od.length)) [[111,114,100,101,114],[98,121]]).length+(bc true (q.od.map odT)).length))))))+1≤LIM:=by omega
   have q9:bi o+((A).length+((dC [119,104,101,114,101] q.wh).length+((aF (decide (0<q.gr.length)) [[103,114,111,117,112],[98,121]]).length+((bc true (q.gr.map bv)).length+((dC [104,97,118,105,110,103] q.hv).length+((aF (decide (0<q.od.length)) [[111,114,100,101,114],[98,121]]).length+((bc true (q.od.map odT)).length+1)))))))+1≤LIM:=by omega
   simp -implicitDefEqProofs(maxSteps:=9^9)only[Tryz.f24,↓zA,sevalprocAttr,aiq,f0,f3,f24,f25,f26,fo,zW,aK,au,bS,cj,dR,bN,dM,fW,bT,fD,ic,gn,ia,eV,gu,jp,kdi,kal,kgr,kod,kit,kgl,kol,kwh,khv,kli,ksk,acI,dI,gc,bg,ha,hb,q2,q3,q4,q5,q6,q7,q8,q9,aR,am,ch,bd]
   have E3:∀ Z:List To,[115,101,108,101,99,116]::(aF q.di [[100,105,115,116,105,110,99,116]]++(bc true (q.its.map imT)++(frT q.fr++Z)))=A++Z:=fun Z=>by rw[← E];simp
   rw[E3]
   try simp
 .by_cases hb:0<q.sk
  .have hR:aaV q=[[111,102,102,115,101,116],Lib.itoa q.sk]:=by simp[aaV,aF,ha,hb]
   rw[hR] at h ⊢
   simp only[aR] at h
   have q2:bi o+(A).length+(dC [119,104,101,114,101] q.wh).length≤LIM:=by omega
   have q3:bi o+((A).length+(dC [119,104,101,114,101] q.wh).length)+(aF (decide (0<q.gr.length)) [[103,114,111,117,112],[98,121]]).length≤LIM:=by omega
   have q4:bi o+((A).length+((dC [119,104,101,114,101] q.wh).length+(aF (decide (0<q.gr.length)) [[103,114,111,117,112],[98,121]]).length))+(bc true (q.gr.map bv)).length≤LIM:=by omega
   have q5:bi o+((A).length+((dC [119,104,101,114,101] q.wh).length+((aF (decide (0<q.gr.length)) [[103,114,111,117,112],[98,121]]).length+(bc true (q.gr.map bv)).length)))+(dC [104,97,118,105,110,103] q.hv).length≤LIM:=by omega
   have q6:bi o+((A).length+((dC [119,104,101,114,101] q.wh).length+((aF (decide (0<q.gr.length)) [[103,114,111,117,112],[98,121]]).length+((bc true (q.gr.map bv)).length+(dC [104,97,118,105,110,103] q.hv).length))))+(aF (decide (0<q.od.length)) [[111,114,100,101,114],[98,121]]).length≤LIM:=by omega
   have q7:bi o+((A).length+((dC [119,104,101,114,101] q.wh).length+((aF (decide (0<q.gr.length)) [[103,114,111,117,112],[98,121]]).length+((bc true (q.gr.map bv)).length+((dC [104,97,118,105,110,103] q.hv).length+(aF (decide (0<q.od.length)) [[111,114,100,101,114],[98,121]]).length)))))+(bc true (q.od.map odT)).length≤LIM:=by omega
   have q8:bi o+((A).length+((dC [119,104,101,114,101] q.wh).length+((aF (decide (0<q.gr.length)) [[103,114,111,117,112],[98,121]]).length+((bc true (q.gr.map bv)).length+((dC [104,97,118,105,110,103] q.hv).length+((aF (decide (0<q.od.length)) [[111,114,100,101,114],[98,121]]).length+(bc true (q.od.map odT)).length))))))+1≤LIM:=by omega
   have q9:bi o+((A).length+((dC [119,104,101,114,101] q.wh).length+((aF (decide (0<q.gr.length)) [[103,114,111,117,112],[98,121]]).length+((bc true (q.gr.map bv)).length+((dC [104,97,118,105,110,103] q.hv).length+((aF (decide (0<q.od.length)) [[111,114,100,101,114],[98,121]]).length+((bc true (q.od.map odT)).length+1)))))))+1≤LIM:=by omega
   simp -implicitDefEqProofs(maxSteps:=9^9)only[Tryz.f24,↓zA,sevalprocAttr,aiq,f0,f3,f24,f25,f26,fo,zW,aK,au,bS,cj,dR,bN,dM,fW,bT,fD,ic,gn,ia,eV,gu,jp,kdi,kal,kgr,kod,kit,kgl,kol,kwh,khv,kli,ksk,acI,dI,gc,bg,ha,hb,q2,q3,q4,q5,q6,q7,q8,q9,aR,am,ch,bd]
   have E3:∀ Z:List To,[115,101,108,101,99,116]::(aF q.di [[100,105,115,116,105,110,99,116]]++(bc true (q.its.map imT)++(frT q.fr++Z)))=A++Z:=fun Z=>by rw[← E];simp
   rw[E3]
   try simp
  .have hR:aaV q=[]:=by simp[aaV,aF,ha,hb]
   rw[hR] at h ⊢
   simp only[aR] at h
   have q2:bi o+(A).length+(dC [119,104,101,114,101] q.wh).length≤LIM:=by omega
   have q3:bi o+((A).length+(dC [119,104,101,114,101] q.wh).length)+(aF (decide (0<q.gr.length)) [[103,114,111,117,112],[98,121]]).length≤LIM:=by omega
   have q4:bi o+((A).length+((dC [119,104,101,114,101] q.wh).length+(aF (decide (0<q.gr.length)) [[103,114,111,117,112],[98,121]]).length))+(bc true (q.gr.map bv)).length≤LIM:=by omega
   have q5:bi o+((A).length+((dC [119,104,101,114,101] q.wh).length+((aF (decide (0<q.gr.length)) [[103,114,111,117,112],[98,121]]).length+(bc true (q.gr.map bv)).length)))+(dC [104,97,118,105,110,103] q.hv).length≤LIM:=by omega
   have q6:bi o+((A).length+((dC [119,104,101,114,101] q.wh).length+((aF (decide (0<q.gr.length)) [[103,114,111,117,112],[98,121]]).length+((bc true (q.gr.map bv)).length+(dC [104,97,118,105,110,103] q.hv).length))))+(aF (decide (0<q.od.length)) [[111,114,100,101,114],[98,121]]).length≤LIM:=by omega
   have q7:bi o+((A).length+((dC [119,104,101,114,101] q.wh).length+((aF (decide (0<q.gr.length)) [[103,114,111,117,112],[98,121]]).length+((bc true (q.gr.map bv)).length+((dC [104,97,118,105,110,103] q.hv).length+(aF (decide (0<q.od.length)) [[111,114,100,101,114],[98,121]]).length)))))+(bc true (q.od.map odT)).length≤LIM:=by omega
   simp -implicitDefEqProofs(maxSteps:=9^9)only[Tryz.f24,↓zA,sevalprocAttr,aiq,f0,f3,f24,f25,f26,fo,zW,aK,au,bS,cj,dR,bN,dM,fW,bT,fD,ic,gn,ia,eV,gu,jp,kdi,kal,kgr,kod,kit,kgl,kol,kwh,khv,kli,ksk,acI,dI,gc,bg,ha,hb,q2,q3,q4,q5,q6,q7,aR,am,ch,bd]
   have E3:∀ Z:List To,[115,101,108,101,99,116]::(aF q.di [[100,105,115,116,105,110,99,116]]++(bc true (q.its.map imT)++(frT q.fr++Z)))=A++Z:=fun Z=>by rw[← E];simp
   rw[E3]
   try simp
def aKP (q:Qy) (hop:q.op=2∨q.op=3∨q.op=4) (hks:q.ks.length=2) (hli:ji q.li=true) (hsk:ji q.sk=true) (hl:QyL q) (hw:QyW q):WQ q:=by
 intro o h
 have bS:=aL [115,101,108,101,99,116]
 have cj:=aL [100,105,115,116,105,110,99,116]
 have dR:=aL [102,114,111,109]
 have bN:=aL [119,104,101,114,101]
 have dM:=aL [103,114,111,117,112]
 have fW:=aL [98,121]
 have bT:=aL [104,97,118,105,110,103]
 have fD:=aL [111,114,100,101,114]
 have ic:=aL [108,105,109,105,116]
 have gn:=aL [111,102,102,115,101,116]
 have ia:=aL [117,110,105,111,110]
 have eV:=aL [105,110,116,101,114,115,101,99,116]
 have gu:=aL [101,120,99,101,112,116]
 have jp:=aL [97,108,108]
 have kb:∀ (b:Bool) (cs:List C) (T:List To) (n:Nat) (hn:n=T.length) (hc:cs=fl bA T) (hT:T≠[]) (o:Option (List To)) (K:An→Prop),_:=fun b cs T n hn hc hT o K=>(gD b cs T n hn hc hT).k o K
 have kdi:=fun o K=>kb q.di [.lit (.string (aD [100,105,115,116,105,110,99,116]))] [[100,105,115,116,105,110,99,116]] 1 rfl rfl (by simp) o K
 have kal:=fun o K=>kb q.al [.lit (.string (aD [97,108,108]))] [[97,108,108]] 1 rfl rfl (by simp) o K
 have kgr:=fun o K=>kb (decide (0<q.gr.length)) [.lit (.string (aD [103,114,111,117,112])),.lit (.string (aD [98,121]))] [[103,114,111,117,112],[98,121]] 2 rfl rfl (by simp) o K
 have kod:=fun o K=>kb (decide (0<q.od.length)) [.lit (.string (aD [111,114,100,101,114])),.lit (.string (aD [98,121]))] [[111,114,100,101,114],[98,121]] 2 rfl rfl (by simp) o K
 have kit:=fun o K=>(ai8 64 q.its imT hl.its aCY aJ7 avZ hw.its).k o K
 have kgl:=fun o K=>(aes 43 q.gr bv hl.gr agv aiv aeO fun x hx=>adr x (hw.gr x hx)).k o K
 have kol:=fun o K=>(aiC 70 q.od odT hl.od aCV aJ4 avW hw.od).k o K
 simp only[Nat.reduceMul,Nat.reduceAdd] at kit kgl kol
 have kwh:=fun o K=>(aeA [119,104,101,114,101] q.wh hl.wh hw.wh).k o K
 have khv:=fun o K=>(aeA [104,97,118,105,110,103] q.hv hl.hv hw.hv).k o K
 have kli:=apo q.li hli
 have ksk:=apo q.sk hsk
 obtain⟨a,b,hk⟩:=ks2 hks
 have hop':(q.op=1)=False:=aO (by omega)
 have hT:=aQY q a b (by omega) hk
 rw[hT] at h ⊢
 have ha':=hw.ks a (by rw[hk];simp)
 have hb':=hw.ks b (by rw[hk];simp)
 have g0:dH q.ks 0=some a:=by rw[hk];rfl
 have g1:dH q.ks 1=some b:=by rw[hk];rfl
 have e1:bI (aeF a||decide (abn a.op<abn q.op)) (qyT a)=dZ (cL q.op) (qyP a):=by rw[(ar1 (ayh ha'.2.1) hop).1];rfl
 have e2:bI (aeF b||decide (abn b.op<abn q.op+1)) (qyT b)=dZ (cL q.op+1) (qyP b):=by rw[(ar1 (ayh hb'.2.1) hop).2];rfl
 have ka:=fun o K=>(au7 a (abn q.op) ha'.2.2 ha'.1).k o K
 have kb':=fun o K=>(au7 b (abn q.op+1) hb'.2.2 hb'.1).k o K
 rw[e1] at ka
 rw[e2] at kb'
 have hbw:IntKind.i64.wrap (abn q.op+1)=abn q.op+1:=eX _ (by unfold abn;split <;> (try split) <;> omega) (by unfold abn;split <;> (try split) <;> omega)
 have kl:=fun A=>aLh A q.op hop
 refine ah rfl aLN ave rfl ?_
 by_cases ha:0≤q.li
 .by_cases hb:0<q.sk
  .have hR:aaV q=[[108,105,109,105,116],Lib.itoa q.li,[111,102,102,115,101,116],Lib.itoa q.sk]:=by simp[aaV,aF,ha,hb]
   rw[hR] at h ⊢
   simp only[aR] at h
   have q1:bi o+(dZ (cL q.op) (qyP a)).length≤LIM:=by omega
   have q2:bi o+(dZ (cL q.op) (qyP a)).length+1≤LIM:=by omega
   have q3:bi o+((dZ (cL q.op) (qyP a)).length+1)+(aF q.al [[97,108,108]]).length≤LIM:=by omega
   have q4:bi o+((dZ (cL q.op) (qyP a)).length+((aF q.al [[97,108,108]]).length+1))+(dZ (cL q.op+1) (qyP b)).length≤LIM:=by omega
   have q5:bi o+((dZ (cL q.op) (qyP a)).length+(((aF q.al [[97,108,108]]).length+(dZ (cL q.op+1) (qyP b)).length)+1))+(aF (decide (0<q.od.length)) [[111,114,100,101,114],[98,121]]).length≤LIM:=by omega
   have q6:bi o+((dZ (cL q.op) (qyP a)).length+(((aF q.al [[97,108,108]]).length+((dZ (cL q.op+1) (qyP b)).length+(aF (decide (0<q.od.length)) [[111,114,100,101,114],[98,121]]).length))+1))+(bc true (q.od.map odT)).length≤LIM:=by omega
   have q7:bi o+((dZ (cL q.op) (qyP a)).length+(((aF q.al [[97,108,108]]).length+((dZ (cL q.op+1) (qyP b)).length+((aF (decide (0<q.od.length)) [[111,114,100,101,114],[98,121]]).length+(bc true (q.od.map odT)).length)))+1))+1≤LIM:=by omega
   have q8:bi o+((dZ (cL q.op) (qyP a)).length+(((aF q.al [[97,108,108]]).length+((dZ (cL q.op+1) (qyP b)).length+((aF (decide (0<q.od.length)) [[111,114,100,101,114],[98,121]]).length+((bc true (q.od.map odT)).length+1))))+1))+1≤LIM:=by omega
   have q9:bi o+((dZ (cL q.op) (qyP a)).length+(((aF q.al [[97,108,108]]).length+((dZ (cL q.op+1) (qyP b)).length+((aF (decide (0<q.od.length)) [[111,114,100,101,114],[98,121]]).length+((bc true (q.od.map odT)).length+(1+1)))))+1))+1≤LIM:=by omega
   have q10:bi o+((dZ (cL q.op) (qyP a)).length+(((aF q.al [[97,108,108]]).length+((dZ (cL q.op+1) (qyP b)).length+((aF (decide (0<q.od.length)) [[111,114,100,101,114],[98,121]]).length+((bc true (q.od.map odT)).length+((1+1)+1)))))+1))+1≤LIM:=by omega
   simp -implicitDefEqProofs(maxSteps:=9^9)only[Tryz.f24,↓zA,sevalprocAttr,aiq,zW,cO,co,hop',g0,g1,agh,ka,kb',hbw,acx (ht:=M89),aaL (ht:=M89),ab5,agt,aeb,aer,aeE,aa6,ahf,Int.reduceEq,ch,kl,bS,cj,dR,bN,dM,fW,bT,fD,ic,gn,ia,eV,gu,jp,kdi,kal,kgr,kod,kit,kgl,kol,kwh,khv,kli,ksk,acI,dI,gc,bg,ha,hb,q1,q2,q3,q4,q5,q6,q7,q8,q9,q10,aR,am,ch,bd]
   try simp
  .have hR:aaV q=[[108,105,109,105,116],Lib.itoa q.li]:=by simp[aaV,aF,ha,hb]
   rw[hR] at h ⊢
   simp only[aR] at h
   have q1:bi o+(dZ (cL q.op) (qyP a)).length≤LIM:=by omega
   have q2:bi o+(dZ (cL q.op) (qyP a)).length+1≤LIM:=by omega
   have q3:bi o+((dZ (cL q.op) (qyP a)).length+1)+(aF q.al [[97,108,108]]).length≤LIM:=by omega
   have q4:bi o+((dZ (cL q.op) (qyP a)).length+((aF q.al [[97,108,108]]).length+1))+(dZ (cL q.op+1) (qyP b)).length≤LIM:=by omega
   have q5:bi o+((dZ (cL q.op) (qyP a)).length+(((aF q.al [[97,108,108]]).length+(dZ (cL q.op+1) (qyP b)).length)+1))+(aF (decide (0<q.od.length)) [[111,114,100,101,114],[98,121]]).length≤LIM:=by omega
   have q6:bi o+((dZ (cL q.op) (qyP a)).length+(((aF q.al [[97,108,108]]).length+((dZ (cL q.op+1) (qyP b)).length+(aF (decide (0<q.od.length)) [[111,114,100,101,114],[98,121]]).length))+1))+(bc true (q.od.map odT)).length≤LIM:=by omega
   have q7:bi o+((dZ (cL q.op) (qyP a)).length+(((aF q.al [[97,108,108]]).length+((dZ (cL q.op+1) (qyP b)).length+((aF (decide (0<q.od.length)) [[111,114,100,101,114],[98,121]]).length+(bc true (q.od.map odT)).length)))+1))+1≤LIM:=by omega
   have q8:bi o+((dZ (cL q.op) (qyP a)).length+(((aF q.al [[97,108,108]]).length+((dZ (cL q.op+1) (qyP b)).length+((aF (decide (0<q.od.length)) [[111,114,100,101,114],[98,121]]).length+((bc true (q.od.map odT)).length+1))))+1))+1≤LIM:=by omega
   simp -implicitDefEqProofs(maxSteps:=9^9)only[Tryz.f24,↓zA,sevalprocAttr,aiq,zW,cO,co,hop',g0,g1,agh,ka,kb',hbw,acx (ht:=M89),aaL (ht:=M89),ab5,agt,aeb,aer,aeE,aa6,ahf,Int.reduceEq,ch,kl,bS,cj,dR,bN,dM,fW,bT,fD,ic,gn,ia,eV,gu,jp,kdi,kal,kgr,kod,kit,kgl,kol,kwh,khv,kli,ksk,acI,dI,gc,bg,ha,hb,q1,q2,q3,q4,q5,q6,q7,q8,aR,am,ch,bd]
   try simp
 .by_cases hb:0<q.sk
  .have hR:aaV q=[[111,102,102,115,101,116],Lib.itoa q.sk]:=by simp[aaV,aF,ha,hb]
   rw[hR] at h ⊢
   simp only[aR] at h
   have q1:bi o+(dZ (cL q.op) (qyP a)).length≤LIM:=by omega
   have q2:bi o+(dZ (cL q.op) (qyP a)).length+1≤LIM:=by omega
   have q3:bi o+((dZ (cL q.op) (qyP a)).length+1)+(aF q.al [[97,108,108]]).length≤LIM:=by omega
   have q4:bi o+((dZ (cL q.op) (qyP a)).length+((aF q.al [[97,108,108]]).length+1))+(dZ (cL q.op+1) (qyP b)).length≤LIM:=by omega
   have q5:bi o+((dZ (cL q.op) (qyP a)).length+(((aF q.al [[97,108,108]]).length+(dZ (cL q.op+1) (qyP b)).length)+1))+(aF (decide (0<q.od.length)) [[111,114,100,101,114],[98,121]]).length≤LIM:=by omega
   have q6:bi o+((dZ (cL q.op) (qyP a)).length+(((aF q.al [[97,108,108]]).length+((dZ (cL q.op+1) (qyP b)).length+(aF (decide (0<q.od.length)) [[111,114,100,101,114],[98,121]]).length))+1))+(bc true (q.od.map odT)).length≤LIM:=by omega
   have q7:bi o+((dZ (cL q.op) (qyP a)).length+(((aF q.al [[97,108,108]]).length+((dZ (cL q.op+1) (qyP b)).length+((aF (decide (0<q.od.length)) [[111,114,100,101,114],[98,121]]).length+(bc true (q.od.map odT)).length)))+1))+1≤LIM:=by omega
   have q8:bi o+((dZ (cL q.op) (qyP a)).length+(((aF q.al [[97,108,108]]).length+((dZ (cL q.op+1) (qyP b)).length+((aF (decide (0<q.od.length)) [[111,114,100,101,114],[98,121]]).length+((bc true (q.od.map odT)).length+1))))+1))+1≤LIM:=by omega
   simp -implicitDefEqProofs(maxSteps:=9^9)only[Tryz.f24,↓zA,sevalprocAttr,aiq,zW,cO,co,hop',g0,g1,agh,ka,kb',hbw,acx (ht:=M89),aaL (ht:=M89),ab5,agt,aeb,aer,aeE,aa6,ahf,Int.reduceEq,ch,kl,bS,cj,dR,bN,dM,fW,bT,fD,ic,gn,ia,eV,gu,jp,kdi,kal,kgr,kod,kit,kgl,kol,kwh,khv,kli,ksk,acI,dI,gc,bg,ha,hb,q1,q2,q3,q4,q5,q6,q7,q8,aR,am,ch,bd]
   try simp
  .have hR:aaV q=[]:=by simp[aaV,aF,ha,hb]
   rw[hR] at h ⊢
   simp only[aR] at h
   have q1:bi o+(dZ (cL q.op) (qyP a)).length≤LIM:=by omega
   have q2:bi o+(dZ (cL q.op) (qyP a)).length+1≤LIM:=by omega
   have q3:bi o+((dZ (cL q.op) (qyP a)).length+1)+(aF q.al [[97,108,108]]).length≤LIM:=by omega
   have q4:bi o+((dZ (cL q.op) (qyP a)).length+((aF q.al [[97,108,108]]).length+1))+(dZ (cL q.op+1) (qyP b)).length≤LIM:=by omega
   have q5:bi o+((dZ (cL q.op) (qyP a)).length+(((aF q.al [[97,108,108]]).length+(dZ (cL q.op+1) (qyP b)).length)+1))+(aF (decide (0<q.od.length)) [[111,114,100,101,114],[98,121]]).length≤LIM:=by omega
   have q6:bi o+((dZ (cL q.op) (qyP a)).length+(((aF q.al [[97,108,108]]).length+((dZ (cL q.op+1) (qyP b)).length+(aF (decide (0<q.od.length)) [[111,114,100,101,114],[98,121]]).length))+1))+(bc true (q.od.map odT)).length≤LIM:=by omega
   simp -implicitDefEqProofs(maxSteps:=9^9)only[Tryz.f24,↓zA,sevalprocAttr,aiq,zW,cO,co,hop',g0,g1,agh,ka,kb',hbw,acx (ht:=M89),aaL (ht:=M89),ab5,agt,aeb,aer,aeE,aa6,ahf,Int.reduceEq,ch,kl,bS,cj,dR,bN,dM,fW,bT,fD,ic,gn,ia,eV,gu,jp,kdi,kal,kgr,kod,kit,kgl,kol,kwh,khv,kli,ksk,acI,dI,gc,bg,ha,hb,q1,q2,q3,q4,q5,q6,aR,am,ch,bd]
   try simp
def akZ (w:To) (l:List Xp) (hl:l.length≤1) (hx:∀ y∈l,RX y) (h:(jA w (l.map xpP)).length≤LIM):(jA w (l.map xpP)=[]∧∀ K,bp Tryz.prog pr 60 [.of (aH (aD w)),.of (slC xpC l)] [] K↔K ⟨false,[.nil],[]⟩) ∨
  ∀ K,bp Tryz.prog pr 60 [.of (aH (aD w)),.of (slC xpC l)] [] K↔K ⟨false,[.own (.nm 0 0 0) 9 1 (fl bA (jA w (l.map xpP))) (jA w (l.map xpP)).length],[]⟩:=by
 rcases l with _|⟨y,_|⟨z,r⟩⟩
 .exact .inl ⟨rfl,fun K=>aN.k (aCE w) K⟩
 .have e:jA w ([y].map xpP)=w::bv y:=by simp[jA];rfl
  rw[e] at h ⊢
  exact .inr fun K=>(aCD w y (hx y (by simp))).k h K
 .simp at hl
def aqd:=ai (ai (ai @zq (ai @a6g @aGx)) (ai (ai @aBh @aVV) (ai @aSX @eY))) (ai (ai (ai @bO @eI) (ai @Q3 @P4)) (ai (ai @Q4 @zT0) (ai @aiF (ba aok))))
def aut (q a b:Qy) (hk:q.ks=[a,b]) (hop:q.op=2∨q.op=3∨q.op=4) (oa:a.op=1∨a.op=2∨a.op=3∨a.op=4) (ob:b.op=1∨b.op=2∨b.op=3∨b.op=4) (wa:RQ a) (wb:RQ b):GR 75 [.of (.agg (qyC q))] (ahn q.op q.al (q.ks.map qyP)):=by
 intro h
 have ia:=aL [117,110,105,111,110]
 have eV:=aL [105,110,116,101,114,115,101,99,116]
 have gu:=aL [101,120,99,101,112,116]
 have jp:=aL [97,108,108]
 have eB:ahn q.op q.al (q.ks.map qyP)=dZ (cL q.op) (qyP a)++(ahS q.op::(aF q.al [[97,108,108]]++dZ (cL q.op+1) (qyP b))):=by rw[hk];rfl
 rw[eB] at h ⊢
 simp only[av,aB] at h
 have ga:dH q.ks 0=some a:=by rw[hk];rfl
 have gb:dH q.ks 1=some b:=by rw[hk];rfl
 have ka:=fun K=>(al1 a (cL q.op) oa wa).k (by omega) K
 have kb:=fun K=>(al1 b (cL q.op+1) ob wb).k (by omega) K
 have kbi:=fun K=>ao6 q.op (by omega) K
 have hb:1≤cL q.op∧cL q.op≤3:=by unfold cL;split;omega;split <;> omega
 have hw:IntKind.i64.wrap (cL q.op+1)=cL q.op+1:=eX _ (by omega) (by omega)
 cases hal:q.al
 .have eA:aF false [[97,108,108]]=([]:List To):=rfl
  rw[hal,eA] at h
  rw[eA]
  rcases hop with k2|k3|k4
  .have hop:=aa k2
   have eS:ahS q.op=[117,110,105,111,110]:=by rw[k2];rfl
   rw[eS]
   simp only[dN] at h
   refine ah rfl aok aiF rfl ?_
   simp -implicitDefEqProofs(maxSteps:=9^9)only[Tryz.f75,↓zA,sevalprocAttr,aqd,hop,hal,ga,gb,ka,kb,kbi,hw,ia,jp]
   (and_intros <;> first|(exact cz (by (try simp only[cJ,cI]) <;> rfl) (by (try simp only[aR]) <;> omega))|((try simp only[aR]) <;> omega))
  .have hop:=aa k3
   have k2:¬q.op=2:=by omega
   have eS:ahS q.op=[105,110,116,101,114,115,101,99,116]:=by rw[k3];rfl
   rw[eS]
   simp only[dN] at h
   refine ah rfl aok aiF rfl ?_
   simp -implicitDefEqProofs(maxSteps:=9^9)only[Tryz.f75,↓zA,sevalprocAttr,aqd,hop,k2,hal,ga,gb,ka,kb,kbi,hw,eV,jp]
   (and_intros <;> first|(exact cz (by (try simp only[cJ,cI]) <;> rfl) (by (try simp only[aR]) <;> omega))|((try simp only[aR]) <;> omega))
  .have hop:=aa k4
   have k2:¬q.op=2:=by omega
   have k3:¬q.op=3:=by omega
   have eS:ahS q.op=[101,120,99,101,112,116]:=by rw[k4];rfl
   rw[eS]
   simp only[dN] at h
   refine ah rfl aok aiF rfl ?_
   simp -implicitDefEqProofs(maxSteps:=9^9)only[Tryz.f75,↓zA,sevalprocAttr,aqd,hop,k2,k3,hal,ga,gb,ka,kb,kbi,hw,gu,jp]
   (and_intros <;> first|(exact cz (by (try simp only[cJ,cI]) <;> rfl) (by (try simp only[aR]) <;> omega))|((try simp only[aR]) <;> omega))
 .have eA:aF true [[97,108,108]]=[[97,108,108]]:=rfl
  rw[hal,eA] at h
  rw[eA]
  rcases hop with k2|k3|k4
  .have hop:=aa k2
   have eS:ahS q.op=[117,110,105,111,110]:=by rw[k2];rfl
   rw[eS]
   simp only[dN] at h
   refine ah rfl aok aiF rfl ?_
   simp -implicitDefEqProofs(maxSteps:=9^9)only[Tryz.f75,↓zA,sevalprocAttr,aqd,hop,hal,ga,gb,ka,kb,kbi,hw,ia,jp]
   (and_intros <;> first|(exact cz (by (try simp only[cJ,cI]) <;> rfl) (by (try simp only[aR]) <;> omega))|((try simp only[aR]) <;> omega))
  .have hop:=aa k3
   have k2:¬q.op=2:=by omega
   have eS:ahS q.op=[105,110,116,101,114,115,101,99,116]:=by rw[k3];rfl
   rw[eS]
   simp only[dN] at h
   refine ah rfl aok aiF rfl ?_
   simp -implicitDefEqProofs(maxSteps:=9^9)only[Tryz.f75,↓zA,sevalprocAttr,aqd,hop,k2,hal,ga,gb,ka,kb,kbi,hw,eV,jp]
   (and_intros <;> first|(exact cz (by (try simp only[cJ,cI]) <;> rfl) (by (try simp only[aR]) <;> omega))|((try simp only[aR]) <;> omega))
  .have hop:=aa k4
   have k2:¬q.op=2:=by omega
   have k3:¬q.op=3:=by omega
   have eS:ahS q.op=[101,120,99,101,112,116]:=by rw[k4];rfl
   rw[eS]
   simp only[dN] at h
   refine ah rfl aok aiF rfl ?_
   simp -implicitDefEqProofs(maxSteps:=9^9)only[Tryz.f75,↓zA,sevalprocAttr,aqd,hop,k2,k3,hal,ga,gb,ka,kb,kbi,hw,gu,jp]
   (and_intros <;> first|(exact cz (by (try simp only[cJ,cI]) <;> rfl) (by (try simp only[aR]) <;> omega))|((try simp only[aR]) <;> omega))
def aaC:=ai (ai (ai (ai @zq @a6i) (ai @aVW (ai @aSY @aGy))) (ai (ai @aBi (ai @aNm @aJc)) (ai @aCT (ai @avU @eY)))) (ai (ai (ai @cR @jq) (ai @abb (ai @bO @ey))) (ai (ai @iU (ai @P4 @Q4)) (ai @zT0 (ai @gA (ba aas)))))
def an3 (q:Qy) (hi:q.its.length≤4611686018427387903) (hix:∀ x∈q.its,aaR x=true∧(x.st=false→RX x.e)) (hf:q.fr.length≤1) (hfx:∀ x∈q.fr,RF x) (hw:q.wh.length≤1) (hwx:∀ x∈q.wh,RX x) (hg:q.gr.length≤4611686018427387903) (hgx:∀ x∈q.gr,RX x) (hv:q.hv.length≤1) (hvx:∀ x∈q.hv,RX x) :
  GR 74 [.of (.agg (qyC q))] (akH q.di (q.its.map imT) ((q.fr.map fmP).map Prod.snd) (q.wh.map xpP) (q.gr.map xpP) (q.hv.map xpP)):=by
 intro h
 have bS:=aL [115,101,108,101,99,116]
 have cj:=aL [100,105,115,116,105,110,99,116]
 have dR:=aL [102,114,111,109]
 have bN:=aL [119,104,101,114,101]
 have dM:=aL [103,114,111,117,112]
 have fW:=aL [98,121]
 have bT:=aL [104,97,118,105,110,103]
 unfold akH at h ⊢
 simp only[av,aB] at h
 have ki:=fun K=>(asn q.its hi hix).k (by omega) K
 have kw:=akZ [119,104,101,114,101] q.wh hw hwx (by omega)
 have kv:=akZ [104,97,118,105,110,103] q.hv hv hvx (by omega)
 have kg:(q.gr=[]∧bc true ((q.gr.map xpP).map (atT 1))=[])∨(q.gr≠[]∧∀ K,bp Tryz.prog pr 91 [.of (slC xpC q.gr)] [] K↔K ⟨false,[.own (.nm 0 0 0) 9 1 (fl bA (bc true ((q.gr.map xpP).map (atT 1)))) (bc true ((q.gr.map xpP).map (atT 1))).length],[]⟩):=by
  by_cases e:q.gr=[]
  .exact .inl ⟨e,by rw[e];rfl⟩
  .refine .inr ⟨e,fun K=>?_⟩
   have hl:(bc true ((q.gr.map xpP).map (atT 1))).length≤LIM:=by omega
   rw[amZ] at hl ⊢
   exact (aeD q.gr hg hgx).k hl K
 have kf:(q.fr=[]∧(((q.fr.map fmP).map Prod.snd).map fun l=>[102,114,111,109]::l).flatten=[])∨∃ y,dH q.fr 0=some y∧q.fr.length=1∧(((q.fr.map fmP).map Prod.snd).map fun l=>[102,114,111,109]::l).flatten=[102,114,111,109]::fmT y∧RF y:=by
  rcases hq:q.fr with _|⟨y,_|⟨z,r⟩⟩
  .exact .inl ⟨rfl,rfl⟩
  .exact .inr ⟨y,rfl,rfl,by simp;rfl,hfx y (by rw[hq];simp)⟩
  .rw[hq] at hf;simp at hf
 generalize (((q.fr.map fmP).map Prod.snd).map fun l=>[102,114,111,109]::l).flatten=FT at *
 generalize bc true ((q.gr.map xpP).map (atT 1))=GT' at *
 generalize jA [119,104,101,114,101] (q.wh.map xpP)=WT' at *
 generalize jA [104,97,118,105,110,103] (q.hv.map xpP)=VT' at *
 generalize bc true (q.its.map imT)=IT' at *
 have dg:decide (q.gr.map xpP≠[])=decide (q.gr≠[]):=by cases q.gr <;> rfl
 rw[dg] at h ⊢
 cases hdi:q.di
 .have eD:aF false [[100,105,115,116,105,110,99,116]]=([]:List To):=rfl
  rw[hdi,eD] at h
  rw[eD]
  try simp only[dN] at h
  rcases kf with ⟨hf0,rfl⟩|⟨y,gy,hf1,rfl,wy⟩
  .have cf:((0:Int)<(q.fr.length:Int))=False:=aO (by rw[hf0];simp)
   try simp only[dN] at h
   rcases kg with ⟨hg0,rfl⟩|⟨hg1,kg⟩
   .have cg:((0:Int)<(q.gr.length:Int))=False:=aO (by rw[hg0];simp)
    have eG:aF (decide (q.gr≠[])) [[103,114,111,117,112],[98,121]]=[]:=by simp[aF,hg0]
    rw[eG] at h ⊢
    try simp only[dN] at h
    rcases kw with ⟨rfl,kw⟩|kw
    .rcases kv with ⟨rfl,kv⟩|kv
     .skip
      refine ah rfl aas gA rfl ?_
      simp -implicitDefEqProofs(maxSteps:=9^9)only[Tryz.f74,↓zA,sevalprocAttr,aaC,hdi,ki,bg,cf,cg,kw,kv,dz,bS,bN,bT]
      (and_intros <;> first|(exact cz (by (try simp only[cJ,cI]) <;> rfl) (by (try simp only[aR]) <;> omega))|((try simp only[aR]) <;> omega))
     .skip
      refine ah rfl aas gA rfl ?_
      simp -implicitDefEqProofs(maxSteps:=9^9)only[Tryz.f74,↓zA,sevalprocAttr,aaC,hdi,ki,bg,cf,cg,kw,kv,dz,bS,bN,bT]
      (and_intros <;> first|(exact cz (by (try simp only[cJ,cI]) <;> rfl) (by (try simp only[aR]) <;> omega))|((try simp only[aR]) <;> omega))
    .rcases kv with ⟨rfl,kv⟩|kv
     .skip
      refine ah rfl aas gA rfl ?_
      simp -implicitDefEqProofs(maxSteps:=9^9)only[Tryz.f74,↓zA,sevalprocAttr,aaC,hdi,ki,bg,cf,cg,kw,kv,dz,bS,bN,bT]
      (and_intros <;> first|(exact cz (by (try simp only[cJ,cI]) <;> rfl) (by (try simp only[aR]) <;> omega))|((try simp only[aR]) <;> omega))
     .skip
      refine ah rfl aas gA rfl ?_
      simp -implicitDefEqProofs(maxSteps:=9^9)only[Tryz.f74,↓zA,sevalprocAttr,aaC,hdi,ki,bg,cf,cg,kw,kv,dz,bS,bN,bT]
      (and_intros <;> first|(exact cz (by (try simp only[cJ,cI]) <;> rfl) (by (try simp only[aR]) <;> omega))|((try simp only[aR]) <;> omega))
   .have cg:((0:Int)<(q.gr.length:Int))=True:=aa (by have:=List.length_pos_iff.2 hg1;omega)
    have eG:aF (decide (q.gr≠[])) [[103,114,111,117,112],[98,121]]=[[103,114,111,117,112],[98,121]]:=by simp[aF,hg1]
    rw[eG] at h ⊢
    try simp only[dN] at h
    rcases kw with ⟨rfl,kw⟩|kw
    .rcases kv with ⟨rfl,kv⟩|kv
     .skip
      refine ah rfl aas gA rfl ?_
      simp -implicitDefEqProofs(maxSteps:=9^9)only[Tryz.f74,↓zA,sevalprocAttr,aaC,hdi,ki,bg,cf,cg,kw,kv,dz,kg,dM,fW,bS,bN,bT]
      (and_intros <;> first|(exact cz (by (try simp only[cJ,cI]) <;> rfl) (by (try simp only[aR]) <;> omega))|((try simp only[aR]) <;> omega))
     .skip
      refine ah rfl aas gA rfl ?_
      simp -implicitDefEqProofs(maxSteps:=9^9)only[Tryz.f74,↓zA,sevalprocAttr,aaC,hdi,ki,bg,cf,cg,kw,kv,dz,kg,dM,fW,bS,bN,bT]
      (and_intros <;> first|(exact cz (by (try simp only[cJ,cI]) <;> rfl) (by (try simp only[aR]) <;> omega))|((try simp only[aR]) <;> omega))
    .rcases kv with ⟨rfl,kv⟩|kv
     .skip
      refine ah rfl aas gA rfl ?_
      simp -implicitDefEqProofs(maxSteps:=9^9)only[Tryz.f74,↓zA,sevalprocAttr,aaC,hdi,ki,bg,cf,cg,kw,kv,dz,kg,dM,fW,bS,bN,bT]
      (and_intros <;> first|(exact cz (by (try simp only[cJ,cI]) <;> rfl) (by (try simp only[aR]) <;> omega))|((try simp only[aR]) <;> omega))
     .skip
      refine ah rfl aas gA rfl ?_
      simp -implicitDefEqProofs(maxSteps:=9^9)only[Tryz.f74,↓zA,sevalprocAttr,aaC,hdi,ki,bg,cf,cg,kw,kv,dz,kg,dM,fW,bS,bN,bT]
      (and_intros <;> first|(exact cz (by (try simp only[cJ,cI]) <;> rfl) (by (try simp only[aR]) <;> omega))|((try simp only[aR]) <;> omega))
  .have cf:((0:Int)<(q.fr.length:Int))=True:=aa (by omega)
   try simp only[dN] at h
   have ky:=fun K=>wy.k (by omega) K
   rcases kg with ⟨hg0,rfl⟩|⟨hg1,kg⟩
   .have cg:((0:Int)<(q.gr.length:Int))=False:=aO (by rw[hg0];simp)
    have eG:aF (decide (q.gr≠[])) [[103,114,111,117,112],[98,121]]=[]:=by simp[aF,hg0]
    rw[eG] at h ⊢
    try simp only[dN] at h
    rcases kw with ⟨rfl,kw⟩|kw
    .rcases kv with ⟨rfl,kv⟩|kv
     .skip
      refine ah rfl aas gA rfl ?_
      simp -implicitDefEqProofs(maxSteps:=9^9)only[Tryz.f74,↓zA,sevalprocAttr,aaC,hdi,ki,bg,cf,cg,kw,kv,dz,gy,ky,dR,bS,bN,bT]
      (and_intros <;> first|(exact cz (by (try simp only[cJ,cI]) <;> rfl) (by (try simp only[aR]) <;> omega))|((try simp only[aR]) <;> omega))
     .skip
      refine ah rfl aas gA rfl ?_
      simp -implicitDefEqProofs(maxSteps:=9^9)only[Tryz.f74,↓zA,sevalprocAttr,aaC,hdi,ki,bg,cf,cg,kw,kv,dz,gy,ky,dR,bS,bN,bT]
      (and_intros <;> first|(exact cz (by (try simp only[cJ,cI]) <;> rfl) (by (try simp only[aR]) <;> omega))|((try simp only[aR]) <;> omega))
    .rcases kv with ⟨rfl,kv⟩|kv
     .skip
      refine ah rfl aas gA rfl ?_
      simp -implicitDefEqProofs(maxSteps:=9^9)only[Tryz.f74,↓zA,sevalprocAttr,aaC,hdi,ki,bg,cf,cg,kw,kv,dz,gy,ky,dR,bS,bN,bT]
      (and_intros <;> first|(exact cz (by (try simp only[cJ,cI]) <;> rfl) (by (try simp only[aR]) <;> omega))|((try simp only[aR]) <;> omega))
     .skip
      refine ah rfl aas gA rfl ?_
      simp -implicitDefEqProofs(maxSteps:=9^9)only[Tryz.f74,↓zA,sevalprocAttr,aaC,hdi,ki,bg,cf,cg,kw,kv,dz,gy,ky,dR,bS,bN,bT]
      (and_intros <;> first|(exact cz (by (try simp only[cJ,cI]) <;> rfl) (by (try simp only[aR]) <;> omega))|((try simp only[aR]) <;> omega))
   .have cg:((0:Int)<(q.gr.length:Int))=True:=aa (by have:=List.length_pos_iff.2 hg1;omega)
    have eG:aF (decide (q.gr≠[])) [[103,114,111,117,112],[98,121]]=[[103,114,111,117,112],[98,121]]:=by simp[aF,hg1]
    rw[eG] at h ⊢
    try simp only[dN] at h
    rcases kw with ⟨rfl,kw⟩|kw
    .rcases kv with ⟨rfl,kv⟩|kv
     .skip
      refine ah rfl aas gA rfl ?_
      simp -implicitDefEqProofs(maxSteps:=9^9)only[Tryz.f74,↓zA,sevalprocAttr,aaC,hdi,ki,bg,cf,cg,kw,kv,dz,gy,ky,dR,kg,dM,fW,bS,bN,bT]
      (and_intros <;> first|(exact cz (by (try simp only[cJ,cI]) <;> rfl) (by (try simp only[aR]) <;> omega))|((try simp only[aR]) <;> omega))
     .skip
      refine ah rfl aas gA rfl ?_
      simp -implicitDefEqProofs(maxSteps:=9^9)only[Tryz.f74,↓zA,sevalprocAttr,aaC,hdi,ki,bg,cf,cg,kw,kv,dz,gy,ky,dR,kg,dM,fW,bS,bN,bT]
      (and_intros <;> first|(exact cz (by (try simp only[cJ,cI]) <;> rfl) (by (try simp only[aR]) <;> omega))|((try simp only[aR]) <;> omega))
    .rcases kv with ⟨rfl,kv⟩|kv
     .skip
      refine ah rfl aas gA rfl ?_
      simp -implicitDefEqProofs(maxSteps:=9^9)only[Tryz.f74,↓zA,sevalprocAttr,aaC,hdi,ki,bg,cf,cg,kw,kv,dz,gy,ky,dR,kg,dM,fW,bS,bN,bT]
      (and_intros <;> first|(exact cz (by (try simp only[cJ,cI]) <;> rfl) (by (try simp only[aR]) <;> omega))|((try simp only[aR]) <;> omega))
     .skip
      refine ah rfl aas gA rfl ?_
      simp -implicitDefEqProofs(maxSteps:=9^9)only[Tryz.f74,↓zA,sevalprocAttr,aaC,hdi,ki,bg,cf,cg,kw,kv,dz,gy,ky,dR,kg,dM,fW,bS,bN,bT]
      (and_intros <;> first|(exact cz (by (try simp only[cJ,cI]) <;> rfl) (by (try simp only[aR]) <;> omega))|((try simp only[aR]) <;> omega))
 .have eD:aF true [[100,105,115,116,105,110,99,116]]=[[100,105,115,116,105,110,99,116]]:=rfl
  rw[hdi,eD] at h
  rw[eD]
  try simp only[dN] at h
  rcases kf with ⟨hf0,rfl⟩|⟨y,gy,hf1,rfl,wy⟩
  .have cf:((0:Int)<(q.fr.length:Int))=False:=aO (by rw[hf0];simp)
   try simp only[dN] at h
   rcases kg with ⟨hg0,rfl⟩|⟨hg1,kg⟩
   .have cg:((0:Int)<(q.gr.length:Int))=False:=aO (by rw[hg0];simp)
    have eG:aF (decide (q.gr≠[])) [[103,114,111,117,112],[98,121]]=[]:=by simp[aF,hg0]
    rw[eG] at h ⊢
    try simp only[dN] at h
    rcases kw with ⟨rfl,kw⟩|kw
    .rcases kv with ⟨rfl,kv⟩|kv
     .skip
      refine ah rfl aas gA rfl ?_
      simp -implicitDefEqProofs(maxSteps:=9^9)only[Tryz.f74,↓zA,sevalprocAttr,aaC,hdi,ki,bg,cf,cg,kw,kv,dz,bS,bN,bT,cj]
      (and_intros <;> first|(exact cz (by (try simp only[cJ,cI]) <;> rfl) (by (try simp only[aR]) <;> omega))|((try simp only[aR]) <;> omega))
     .skip
      refine ah rfl aas gA rfl ?_
      simp -implicitDefEqProofs(maxSteps:=9^9)only[Tryz.f74,↓zA,sevalprocAttr,aaC,hdi,ki,bg,cf,cg,kw,kv,dz,bS,bN,bT,cj]
      (and_intros <;> first|(exact cz (by (try simp only[cJ,cI]) <;> rfl) (by (try simp only[aR]) <;> omega))|((try simp only[aR]) <;> omega))
    .rcases kv with ⟨rfl,kv⟩|kv
     .skip
      refine ah rfl aas gA rfl ?_
      simp -implicitDefEqProofs(maxSteps:=9^9)only[Tryz.f74,↓zA,sevalprocAttr,aaC,hdi,ki,bg,cf,cg,kw,kv,dz,bS,bN,bT,cj]
      (and_intros <;> first|(exact cz (by (try simp only[cJ,cI]) <;> rfl) (by (try simp only[aR]) <;> omega))|((try simp only[aR]) <;> omega))
     .skip
      refine ah rfl aas gA rfl ?_
      simp -implicitDefEqProofs(maxSteps:=9^9)only[Tryz.f74,↓zA,sevalprocAttr,aaC,hdi,ki,bg,cf,cg,kw,kv,dz,bS,bN,bT,cj]
      (and_intros <;> first|(exact cz (by (try simp only[cJ,cI]) <;> rfl) (by (try simp only[aR]) <;> omega))|((try simp only[aR]) <;> omega))
   .have cg:((0:Int)<(q.gr.length:Int))=True:=aa (by have:=List.length_pos_iff.2 hg1;omega)
    have eG:aF (decide (q.gr≠[])) [[103,114,111,117,112],[98,121]]=[[103,114,111,117,112],[98,121]]:=by simp[aF,hg1]
    rw[eG] at h ⊢
    try simp only[dN] at h
    rcases kw with ⟨rfl,kw⟩|kw
    .rcases kv with ⟨rfl,kv⟩|kv
     .skip
      refine ah rfl aas gA rfl ?_
      simp -implicitDefEqProofs(maxSteps:=9^9)only[Tryz.f74,↓zA,sevalprocAttr,aaC,hdi,ki,bg,cf,cg,kw,kv,dz,kg,dM,fW,bS,bN,bT,cj]
      (and_intros <;> first|(exact cz (by (try simp only[cJ,cI]) <;> rfl) (by (try simp only[aR]) <;> omega))|((try simp only[aR]) <;> omega))
     .skip
      refine ah rfl aas gA rfl ?_
      simp -implicitDefEqProofs(maxSteps:=9^9)only[Tryz.f74,↓zA,sevalprocAttr,aaC,hdi,ki,bg,cf,cg,kw,kv,dz,kg,dM,fW,bS,bN,bT,cj]
      (and_intros <;> first|(exact cz (by (try simp only[cJ,cI]) <;> rfl) (by (try simp only[aR]) <;> omega))|((try simp only[aR]) <;> omega))
    .rcases kv with ⟨rfl,kv⟩|kv
     .skip
      refine ah rfl aas gA rfl ?_
      simp -implicitDefEqProofs(maxSteps:=9^9)only[Tryz.f74,↓zA,sevalprocAttr,aaC,hdi,ki,bg,cf,cg,kw,kv,dz,kg,dM,fW,bS,bN,bT,cj]
      (and_intros <;> first|(exact cz (by (try simp only[cJ,cI]) <;> rfl) (by (try simp only[aR]) <;> omega))|((try simp only[aR]) <;> omega))
     .skip
      refine ah rfl aas gA rfl ?_
      simp -implicitDefEqProofs(maxSteps:=9^9)only[Tryz.f74,↓zA,sevalprocAttr,aaC,hdi,ki,bg,cf,cg,kw,kv,dz,kg,dM,fW,bS,bN,bT,cj]
      (and_intros <;> first|(exact cz (by (try simp only[cJ,cI]) <;> rfl) (by (try simp only[aR]) <;> omega))|((try simp only[aR]) <;> omega))
  .have cf:((0:Int)<(q.fr.length:Int))=True:=aa (by omega)
   try simp only[dN] at h
   have ky:=fun K=>wy.k (by omega) K
   rcases kg with ⟨hg0,rfl⟩|⟨hg1,kg⟩
   .have cg:((0:Int)<(q.gr.length:Int))=False:=aO (by rw[hg0];simp)
    have eG:aF (decide (q.gr≠[])) [[103,114,111,117,112],[98,121]]=[]:=by simp[aF,hg0]
    rw[eG] at h ⊢
    try simp only[dN] at h
    rcases kw with ⟨rfl,kw⟩|kw
    .rcases kv with ⟨rfl,kv⟩|kv
     .skip
      refine ah rfl aas gA rfl ?_
      simp -implicitDefEqProofs(maxSteps:=9^9)only[Tryz.f74,↓zA,sevalprocAttr,aaC,hdi,ki,bg,cf,cg,kw,kv,dz,gy,ky,dR,bS,bN,bT,cj]
      (and_intros <;> first|(exact cz (by (try simp only[cJ,cI]) <;> rfl) (by (try simp only[aR]) <;> omega))|((try simp only[aR]) <;> omega))
     .skip
      refine ah rfl aas gA rfl ?_
      simp -implicitDefEqProofs(maxSteps:=9^9)only[Tryz.f74,↓zA,sevalprocAttr,aaC,hdi,ki,bg,cf,cg,kw,kv,dz,gy,ky,dR,bS,bN,bT,cj]
      (and_intros <;> first|(exact cz (by (try simp only[cJ,cI]) <;> rfl) (by (try simp only[aR]) <;> omega))|((try simp only[aR]) <;> omega))
    .rcases kv with ⟨rfl,kv⟩|kv
     .skip
      refine ah rfl aas gA rfl ?_
      simp -implicitDefEqProofs(maxSteps:=9^9)only[Tryz.f74,↓zA,sevalprocAttr,aaC,hdi,ki,bg,cf,cg,kw,kv,dz,gy,ky,dR,bS,bN,bT,cj]
      (and_intros <;> first|(exact cz (by (try simp only[cJ,cI]) <;> rfl) (by (try simp only[aR]) <;> omega))|((try simp only[aR]) <;> omega))
     .skip
      refine ah rfl aas gA rfl ?_
      simp -implicitDefEqProofs(maxSteps:=9^9)only[Tryz.f74,↓zA,sevalprocAttr,aaC,hdi,ki,bg,cf,cg,kw,kv,dz,gy,ky,dR,bS,bN,bT,cj]
      (and_intros <;> first|(exact cz (by (try simp only[cJ,cI]) <;> rfl) (by (try simp only[aR]) <;> omega))|((try simp only[aR]) <;> omega))
   .have cg:((0:Int)<(q.gr.length:Int))=True:=aa (by have:=List.length_pos_iff.2 hg1;omega)
    have eG:aF (decide (q.gr≠[])) [[103,114,111,117,112],[98,121]]=[[103,114,111,117,112],[98,121]]:=by simp[aF,hg1]
    rw[eG] at h ⊢
    try simp only[dN] at h
    rcases kw with ⟨rfl,kw⟩|kw
    .rcases kv with ⟨rfl,kv⟩|kv
     .skip
      refine ah rfl aas gA rfl ?_
      simp -implicitDefEqProofs(maxSteps:=9^9)only[Tryz.f74,↓zA,sevalprocAttr,aaC,hdi,ki,bg,cf,cg,kw,kv,dz,gy,ky,dR,kg,dM,fW,bS,bN,bT,cj]
      (and_intros <;> first|(exact cz (by (try simp only[cJ,cI]) <;> rfl) (by (try simp only[aR]) <;> omega))|((try simp only[aR]) <;> omega))
     .skip
      refine ah rfl aas gA rfl ?_
      simp -implicitDefEqProofs(maxSteps:=9^9)only[Tryz.f74,↓zA,sevalprocAttr,aaC,hdi,ki,bg,cf,cg,kw,kv,dz,gy,ky,dR,kg,dM,fW,bS,bN,bT,cj]
      (and_intros <;> first|(exact cz (by (try simp only[cJ,cI]) <;> rfl) (by (try simp only[aR]) <;> omega))|((try simp only[aR]) <;> omega))
    .rcases kv with ⟨rfl,kv⟩|kv
     .skip
      refine ah rfl aas gA rfl ?_
      simp -implicitDefEqProofs(maxSteps:=9^9)only[Tryz.f74,↓zA,sevalprocAttr,aaC,hdi,ki,bg,cf,cg,kw,kv,dz,gy,ky,dR,kg,dM,fW,bS,bN,bT,cj]
      (and_intros <;> first|(exact cz (by (try simp only[cJ,cI]) <;> rfl) (by (try simp only[aR]) <;> omega))|((try simp only[aR]) <;> omega))
     .skip
      refine ah rfl aas gA rfl ?_
      simp -implicitDefEqProofs(maxSteps:=9^9)only[Tryz.f74,↓zA,sevalprocAttr,aaC,hdi,ki,bg,cf,cg,kw,kv,dz,gy,ky,dR,kg,dM,fW,bS,bN,bT,cj]
      (and_intros <;> first|(exact cz (by (try simp only[cJ,cI]) <;> rfl) (by (try simp only[aR]) <;> omega))|((try simp only[aR]) <;> omega))
def aCP (l:List Xp) (h:aiR l) (hw:lsW xpW l≤WL) (K:An→Prop):bp Tryz.prog pr 117 [.of (slC xpC l)] [] K↔K ⟨false,[aG (bu l 0 1 cW)],[]⟩:=aN.k (aK0 l h hw) K
def acV:=ai (ai (ai (ai (ai @zq @a3T) (ai @aV2 @aS4)) (ai (ai @aV1 @aS3) (ai @aGH (ai @aBr @aGN)))) (ai (ai (ai @aBx @ajR) (ai @ail (ai @apm @anp))) (ai (ai @eY @cR) (ai @abb (ai @jq @acL))))) (ai (ai (ai (ai @ey @eI) (ai @ab7 (ai @iU @aGJ))) (ai (ai @aBt @aGI) (ai @aBs (ai @aGG @aBq)))) (ai (ai (ai @ahi @afC) (ai @am2 (ai @aj6 @Q3))) (ai (ai @P4 @Q4) (ai @zT0 (ai @aHS (ba aYe))))))
def aCF (q:Qy) (hw:qyW q≤WL) (h1:ard q.ks) (h2:aMr q.its) (h3:aMs q.fr) (h4:aiR q.wh) (h5:aiR q.gr) (h6:aiR q.hv):G1 62 [.of (.agg (qyC q))] (aG (d7 q)):=by
 have hw2:=hw
 rw[iK] at hw2
 simp only[WL] at hw2
 have n2:=da imW q.its fun x _=>adw x
 have n3:=da fmW q.fr fun x _=>abk x
 have n4:=da xpW q.wh fun x _=>aaw x
 have n5:=da xpW q.gr fun x _=>aaw x
 have n6:=da xpW q.hv fun x _=>aaw x
 have kO:=zO (l:=q.od) (by simp only[WL];omega)
 have k1:=zQ h1 (by simp only[WL];omega)
 have k2:=zI h2 (by simp only[WL];omega)
 have k3:=zF h3 (by simp only[WL];omega)
 have k4:=aCP q.wh h4 (by simp only[WL];omega)
 have k5:=zX h5 (by simp only[WL];omega)
 have k6:=aCP q.hv h6 (by simp only[WL];omega)
 have w1:=akz q.its.length q.fr.length (by simp only[WL];omega)
 have w2:=akz (q.its.length+q.fr.length) q.wh.length (by simp only[WL];omega)
 have w3:=akz (q.its.length+q.fr.length+q.wh.length) q.gr.length (by simp only[WL];omega)
 have w4:=akz (q.its.length+q.fr.length+q.wh.length+q.gr.length) q.hv.length (by simp only[WL];omega)
 rw[af9]
 simp only[aap]
 refine ah rfl aYe aHS rfl ?_
 by_cases a1:-1≤q.li
 rotate_left
 .simp -implicitDefEqProofs(maxSteps:=9^9)only[Tryz.f62,↓zA,sevalprocAttr,acV,kO,k1,k2,k3,k4,k5,k6,gB,w1,w2,w3,w4,br,bo,bm,a1,show q.li < -1 from by omega]
 have a1':¬q.li < -1:=by omega
 by_cases a2:q.li≤1000000000000000
 rotate_left
 .simp -implicitDefEqProofs(maxSteps:=9^9)only[Tryz.f62,↓zA,sevalprocAttr,acV,kO,k1,k2,k3,k4,k5,k6,gB,w1,w2,w3,w4,br,bo,bm,a1',a2,show 1000000000000000<q.li from by omega]
 have a2':¬1000000000000000<q.li:=by omega
 by_cases a3:0≤q.sk
 rotate_left
 .simp -implicitDefEqProofs(maxSteps:=9^9)only[Tryz.f62,↓zA,sevalprocAttr,acV,kO,k1,k2,k3,k4,k5,k6,gB,w1,w2,w3,w4,br,bo,bm,a1',a2',a3,show q.sk<0 from by omega]
 have a3':¬q.sk<0:=by omega
 by_cases a4:q.sk≤1000000000000000
 rotate_left
 .simp -implicitDefEqProofs(maxSteps:=9^9)only[Tryz.f62,↓zA,sevalprocAttr,acV,kO,k1,k2,k3,k4,k5,k6,gB,w1,w2,w3,w4,br,bo,bm,a1',a2',a3',a4,show 1000000000000000<q.sk from by omega]
 have a4':¬1000000000000000<q.sk:=by omega
 cases a5:bu q.od 0 64 iy
 .simp -implicitDefEqProofs(maxSteps:=9^9)only[Tryz.f62,↓zA,sevalprocAttr,acV,kO,k1,k2,k3,k4,k5,k6,gB,w1,w2,w3,w4,br,bo,bm,a1',a2',a3',a4',a5]
 by_cases o1:q.op=1
 .cases b1:q.al
  rotate_left
  .simp -implicitDefEqProofs(maxSteps:=9^9)only[Tryz.f62,↓zA,sevalprocAttr,acV,kO,k1,k2,k3,k4,k5,k6,gB,w1,w2,w3,w4,br,bo,bm,a1,a2,a3,a4,a1',a2',a3',a4',a5,aa o1,b1]
  by_cases b2:q.ks.length=0
  rotate_left
  .simp -implicitDefEqProofs(maxSteps:=9^9)only[Tryz.f62,↓zA,sevalprocAttr,acV,kO,k1,k2,k3,k4,k5,k6,gB,w1,w2,w3,w4,br,bo,bm,a1,a2,a3,a4,a1',a2',a3',a4',a5,aa o1,b1,b2]
  cases b3:bu q.its 1 64 aaR
  .simp -implicitDefEqProofs(maxSteps:=9^9)only[Tryz.f62,↓zA,sevalprocAttr,acV,kO,k1,k2,k3,k4,k5,k6,gB,w1,w2,w3,w4,br,bo,bm,a1,a2,a3,a4,a1',a2',a3',a4',a5,aa o1,b1,aa b2,b3]
  cases b4:bu q.fr 0 1 aaA
  .simp -implicitDefEqProofs(maxSteps:=9^9)only[Tryz.f62,↓zA,sevalprocAttr,acV,kO,k1,k2,k3,k4,k5,k6,gB,w1,w2,w3,w4,br,bo,bm,a1,a2,a3,a4,a1',a2',a3',a4',a5,aa o1,b1,aa b2,b3,b4]
  cases b5:bu q.wh 0 1 cW
  .simp -implicitDefEqProofs(maxSteps:=9^9)only[Tryz.f62,↓zA,sevalprocAttr,acV,kO,k1,k2,k3,k4,k5,k6,gB,w1,w2,w3,w4,br,bo,bm,a1,a2,a3,a4,a1',a2',a3',a4',a5,aa o1,b1,aa b2,b3,b4,b5]
  cases b6:bu q.gr 0 64 cW
  .simp -implicitDefEqProofs(maxSteps:=9^9)only[Tryz.f62,↓zA,sevalprocAttr,acV,kO,k1,k2,k3,k4,k5,k6,gB,w1,w2,w3,w4,br,bo,bm,a1,a2,a3,a4,a1',a2',a3',a4',a5,aa o1,b1,aa b2,b3,b4,b5,b6]
  simp -implicitDefEqProofs(maxSteps:=9^9)only[Tryz.f62,↓zA,sevalprocAttr,acV,kO,k1,k2,k3,k4,k5,k6,gB,w1,w2,w3,w4,br,bo,bm,a1,a2,a3,a4,a1',a2',a3',a4',a5,aa o1,b1,aa b2,b3,b4,b5,b6]
 .by_cases o2:q.op=2∨q.op=3∨q.op=4
  .cases b1:bu q.ks 2 2 d7
   .rcases o2 with o2|o2|o2
    .simp -implicitDefEqProofs(maxSteps:=9^9)only[Tryz.f62,↓zA,sevalprocAttr,acV,kO,k1,k2,k3,k4,k5,k6,gB,w1,w2,w3,w4,br,bo,bm,a1,a2,a3,a4,a1',a2',a3',a4',a5,o2,Int.reduceEq,b1]
    .simp -implicitDefEqProofs(maxSteps:=9^9)only[Tryz.f62,↓zA,sevalprocAttr,acV,kO,k1,k2,k3,k4,k5,k6,gB,w1,w2,w3,w4,br,bo,bm,a1,a2,a3,a4,a1',a2',a3',a4',a5,o2,Int.reduceEq,b1]
    .simp -implicitDefEqProofs(maxSteps:=9^9)only[Tryz.f62,↓zA,sevalprocAttr,acV,kO,k1,k2,k3,k4,k5,k6,gB,w1,w2,w3,w4,br,bo,bm,a1,a2,a3,a4,a1',a2',a3',a4',a5,o2,Int.reduceEq,b1]
   .cases b2:q.di
    .rcases o2 with o2|o2|o2
     .simp -implicitDefEqProofs(maxSteps:=9^9)only[Tryz.f62,↓zA,sevalprocAttr,acV,kO,k1,k2,k3,k4,k5,k6,gB,w1,w2,w3,w4,br,bo,bm,a1,a2,a3,a4,a1',a2',a3',a4',a5,o2,Int.reduceEq,b1,b2]
     .simp -implicitDefEqProofs(maxSteps:=9^9)only[Tryz.f62,↓zA,sevalprocAttr,acV,kO,k1,k2,k3,k4,k5,k6,gB,w1,w2,w3,w4,br,bo,bm,a1,a2,a3,a4,a1',a2',a3',a4',a5,o2,Int.reduceEq,b1,b2]
     .simp -implicitDefEqProofs(maxSteps:=9^9)only[Tryz.f62,↓zA,sevalprocAttr,acV,kO,k1,k2,k3,k4,k5,k6,gB,w1,w2,w3,w4,br,bo,bm,a1,a2,a3,a4,a1',a2',a3',a4',a5,o2,Int.reduceEq,b1,b2]
    .rcases o2 with o2|o2|o2
     .simp -implicitDefEqProofs(maxSteps:=9^9)only[Tryz.f62,↓zA,sevalprocAttr,acV,kO,k1,k2,k3,k4,k5,k6,gB,w1,w2,w3,w4,br,bo,bm,a1,a2,a3,a4,a1',a2',a3',a4',a5,o2,Int.reduceEq,b1,b2]
     .simp -implicitDefEqProofs(maxSteps:=9^9)only[Tryz.f62,↓zA,sevalprocAttr,acV,kO,k1,k2,k3,k4,k5,k6,gB,w1,w2,w3,w4,br,bo,bm,a1,a2,a3,a4,a1',a2',a3',a4',a5,o2,Int.reduceEq,b1,b2]
     .simp -implicitDefEqProofs(maxSteps:=9^9)only[Tryz.f62,↓zA,sevalprocAttr,acV,kO,k1,k2,k3,k4,k5,k6,gB,w1,w2,w3,w4,br,bo,bm,a1,a2,a3,a4,a1',a2',a3',a4',a5,o2,Int.reduceEq,b1,b2]
  .simp only[acn] at o2
   simp -implicitDefEqProofs(maxSteps:=9^9)only[Tryz.f62,↓zA,sevalprocAttr,acV,kO,k1,k2,k3,k4,k5,k6,gB,w1,w2,w3,w4,br,bo,bm,a1,a2,a3,a4,a1',a2',a3',a4',a5,o1,o2]
theorem ajO:∀ n,n≤WL→(∀ e,fh e→xpW e≤n→G1 78 [.of (.agg (xpC e))] (aG (cW e)))∧(∀ e,io e→qyW e≤n→G1 62 [.of (.agg (qyC e))] (aG (d7 e)))
  ∧ (∀ e,aeS e→imW e≤n→G1 146 [.of (.agg (imC e))] (aG (aaR e)))∧(∀ e,acX e→fmW e≤n→G1 218 [.of (.agg (fmC e))] (aG (gL e))∧G1 219 [.of (.agg (fmC e))] (aU (gV e)))
 | 0,_=>⟨fun e _ h=>by have:=aaw e;omega,fun e _ h=>by have:=adu e;omega,fun e _ h=>by have:=adw e;omega,fun e _ h=>by have:=abk e;omega⟩
 | n+1,hn=>by
  obtain⟨i1,i2,i3,i4⟩:=ajO n (by omega)
  have sX:∀ l:List Xp,lsP fh l→lsW xpW l≤n+1→aiR l:=fun l g h x hx=>i1 x (g x hx) (by have:=bQ (w:=xpW) hx;omega)
  have sQ:∀ l:List Qy,lsP io l→lsW qyW l≤n+1→ard l:=fun l g h x hx=>i2 x (g x hx) (by have:=bQ (w:=qyW) hx;omega)
  have sI:∀ l:List Im,lsP aeS l→lsW imW l≤n+1→aMr l:=fun l g h x hx=>i3 x (g x hx) (by have:=bQ (w:=imW) hx;omega)
  have sS:∀ l:List Fm,lsP acX l→lsW fmW l≤n+1→aMq l:=fun l g h x hx=>(i4 x (g x hx) (by have:=bQ (w:=fmW) hx;omega)).1
  have sT:∀ l:List Fm,lsP acX l→lsW fmW l≤n+1→a0b l:=fun l g h x hx=>(i4 x (g x hx) (by have:=bQ (w:=fmW) hx;omega)).2
  have sF:∀ l:List Fm,lsP acX l→lsW fmW l≤n+1→aMs l:=fun l g h x hx=>aIE x (sS l g h x hx) (sT l g h x hx)
  refine⟨fun e g h=>?_,fun e g h=>?_,fun e g h=>?_,fun e g h=>?_⟩
  .have h':=aaU e
   rw[ac1] at g
   exact aIN e (by omega) g.2.1.2 (sX _ g.2.2.2.2.2.1 (by omega)) (sQ _ g.2.2.2.2.2.2 (by omega))
  .have h':=iK e
   rw[ag7] at g
   obtain⟨_,_,g1,_,g2,g3,g4,g5,g6,_⟩:=g
   exact aCF e (by omega) (sQ _ g1 (by omega)) (sI _ g2 (by omega)) (sF _ g3 (by omega)) (sX _ g4 (by omega)) (sX _ g5 (by omega)) (sX _ g6 (by omega))
  .have h':=aci e
   rw[ain] at g
   exact aIs e (by omega) (i1 _ g.2.2.1 (by omega))
  .have h':=jg e
   rw[aio] at g
   obtain⟨_,_,_,g1,g2,g3⟩:=g
   exact⟨awM e (by omega) (sQ _ g1 (by omega)) (sS _ g2 (by omega)) (sX _ g3 (by omega)),awC e (by omega) (sT _ g2 (by omega))⟩
def awr (l:List Xp) (g:lsP fh l) (h:lsW xpW l≤WL):aiR l:=fun x hx=>(ajO WL (aM _)).1 x (g x hx) (by have:=bQ (w:=xpW) hx;omega)
def a0A (l:List Qy) (g:lsP io l) (h:lsW qyW l≤WL):ard l:=fun x hx=>(ajO WL (aM _)).2.1 x (g x hx) (by have:=bQ (w:=qyW) hx;omega)
def aTM:=ai (ai (ai @zq (ai @a3q @ah4)) (ai @agM (ai @aC3 @av4))) (ai (ai @ahi (ai @afC @cR)) (ai @zT0 (ai @aIh (ba aYD))))
def aJF (e:Xp) (h:fh e∧xpW e≤WL):G1 27 [.of (.agg (xpC e))] (aG (ab2 e)):=by
 have k1:=fun K=>aN.k ((agS WL (aM _)).1 e h.2) K
 have k2:=fun K=>aN.k ((ajO WL (aM _)).1 e h.1 h.2) K
 refine ah rfl aYD aIh rfl ?_
 cases c:adb (cG e)
 .simp -implicitDefEqProofs(maxSteps:=9^9)only[Tryz.f27,↓zA,sevalprocAttr,aTM,k1,aj1,c,ab2]
 .simp -implicitDefEqProofs(maxSteps:=9^9)only[Tryz.f27,↓zA,sevalprocAttr,aTM,k1,k2,aj1,c,ab2]
def aJE (e:Xp) (K:An→Prop):bp Tryz.prog pr 27 [.of (.agg (xpC e))] [] K↔ifP (fh e∧xpW e≤WL) (K ⟨false,[aG (ab2 e)],[]⟩) (abU Tryz.prog pr 27 [.of (.agg (xpC e))] K):=adC (aJF e) K
def s64 {n:Int} (h:I64 n):ji n=true:=by simp only[ji,ar];exact h
def auG {e:Xp} (h:cW e=true):(∀ x∈e.ks,cW x=true)∧∀ q∈e.sb,d7 q=true:=by
 cases e with
 | mk op v tb nm di ks sb =>
  rw[cW] at h
  split at h
  .cases h
  .simp only[ab,aht,ahu,bR] at h
   exact⟨h.1.2,h.2⟩
def aag {α:Type} {l:List α} {a b:Nat} {p:α→Bool} (h:bu l a b p=true):l.length≤b∧∀ x∈l,p x=true:=by
 rw[fY,ab,bR] at h
 simp only[dD,ab,ar] at h
 exact⟨h.1.2,h.2⟩
def ayi {f:Fm} (h:gL f=true):(∀ x∈f.ks,gL x=true)∧(∀ q∈f.sb,d7 q=true)∧∀ x∈f.on,cW x=true:=by
 rw[agX] at h
 split at h
 .simp only[ab,ar] at h
  have h0:=h.2
  have e1:f.ks=[]:=aJ (by omega)
  have e2:f.sb=[]:=aJ (by omega)
  have e3:f.on=[]:=aJ (by omega)
  rw[e1,e2,e3]
  exact⟨fun x hx=>by (cases hx),fun x hx=>by (cases hx),fun x hx=>by (cases hx)⟩
 .split at h
  .simp only[ab,ar] at h
   have h0:=h.2
   have e1:f.ks=[]:=aJ (by omega)
   have e3:f.on=[]:=aJ (by omega)
   rw[e1,e3]
   exact⟨fun x hx=>by (cases hx),(aag (a:=1) (b:=1) h.1.2).2,fun x hx=>by (cases hx)⟩
  .split at h
   .simp only[ab,ar] at h
    have e2:f.sb=[]:=aJ (by omega)
    rw[e2]
    refine⟨(aag (a:=2) (b:=2) h.1.2).2,fun x hx=>by (cases hx),?_⟩
    by_cases h3:f.kd=3
    .rw[aE h3] at h
     exact (aag (a:=0) (b:=0) h.2).2
    .rw[aj h3] at h
     exact (aag (a:=1) (b:=1) h.2).2
   .cases h
def aG7 {n:Int} (h1:-1≤n) (h2:n≤aap):ji n=true:=by simp only[ji,ar,aap] at *;omega
def aRd {x:Od} (h:iy x=true):ji x.pl=true:=by
 unfold iy at h
 simp only[ji,ar]
 split at h
 .simp only[ab,ar] at h;omega
 .simp only[ab,ar] at h
  have e:aap=1000000000000000:=rfl
  omega
theorem alE:∀ n,n≤1048576→(∀ e,cW e=true→fh e→xpW e≤n→WX e)∧(∀ q,d7 q=true→io q→qyW q≤n→WQ q)
  ∧ (∀ i,aaR i=true→aeS i→imW i≤n→GW 64 [.of (.agg (imC i))] (imT i))∧(∀ f,gL f=true→acX f→fmW f≤n→WF f)
 | 0,_=>⟨fun e _ _ h=>by have:=aaw e;omega,fun e _ _ h=>by have:=adu e;omega,fun e _ _ h=>by have:=adw e;omega,fun e _ _ h=>by have:=abk e;omega⟩
 | n+1,hn=>by
  obtain⟨i1,i2,i3,i4⟩:=alE n (by omega)
  have sX:∀ l:List Xp,(∀ x∈l,cW x=true)→lsP fh l→lsW xpW l≤n+1→∀ x∈l,WX x:=fun l o g h x hx=>i1 x (o x hx) (g x hx) (by have:=bQ (w:=xpW) hx;omega)
  have sQ:∀ l:List Qy,(∀ x∈l,d7 x=true)→lsP io l→lsW qyW l≤n+1→∀ x∈l,WQ x:=fun l o g h x hx=>i2 x (o x hx) (g x hx) (by have:=bQ (w:=qyW) hx;omega)
  have sI:∀ l:List Im,(∀ x∈l,aaR x=true)→lsP aeS l→lsW imW l≤n+1→∀ x∈l,GW 64 [.of (.agg (imC x))] (imT x):=fun l o g h x hx=>i3 x (o x hx) (g x hx) (by have:=bQ (w:=imW) hx;omega)
  have sF:∀ l:List Fm,(∀ x∈l,gL x=true)→lsP acX l→lsW fmW l≤n+1→∀ x∈l,WF x:=fun l o g h x hx=>i4 x (o x hx) (g x hx) (by have:=bQ (w:=fmW) hx;omega)
  refine⟨fun e o g h=>?_,fun q o g h=>?_,fun e o g h=>?_,fun f o g h=>?_⟩
  .have h':=aaU e
   rw[ac1] at g
   obtain⟨o1,o2⟩:=auG o
   have hl:=da xpW e.ks fun x _=>aaw x
   have hv:e.v.s.size+4=alF e.v:=rfl
   exact aY6 e o (s64 g.2.1.2) (by omega) (by omega) (sX _ o1 g.2.2.2.2.2.1 (by omega)) (sQ _ o2 g.2.2.2.2.2.2 (by omega))
  .have h':=iK q
   rw[ag7] at g
   obtain⟨_,_,g1,_,g2,g3,g4,g5,g6,g7,_⟩:=g
   have ho:=o
   rw[af9] at o
   simp only[ab,ar] at o
   obtain⟨⟨⟨⟨⟨a1,a2⟩,a3⟩,a4⟩,a5⟩,o⟩:=o
   have hod:=aag (a:=0) (b:=64) a5
   have hli:=aG7 a1 a2
   have hsk:=aG7 (by omega) a4
   have l1:=da imW q.its fun x _=>adw x
   have l2:=da fmW q.fr fun x _=>abk x
   have l3:=da xpW q.wh fun x _=>aaw x
   have l4:=da xpW q.gr fun x _=>aaw x
   have l5:=da xpW q.hv fun x _=>aaw x
   have hl:QyL q:=⟨by omega,by omega,by omega,by omega,by omega,by omega⟩
   have wod:∀ x∈q.od,GW 70 [.of (.agg (odC x))] (odT x):=fun x hx=>aJR x (hod.2 x hx) (aRd (hod.2 x hx))
   by_cases h1:q.op=1
   .rw[aE h1] at o
    simp only[ab,ar] at o
    obtain⟨⟨⟨⟨⟨⟨_,b1⟩,b2⟩,b3⟩,b4⟩,b5⟩,b6⟩:=o
    have ek:q.ks=[]:=aJ b1
    refine aKQ q h1 hli hsk hl ⟨by (rw[ek];intro x hx;cases hx),sI _ (aag (a:=1) (b:=64) b2).2 g2 (by omega),sF _ (fun x hx=>by have:=(aag (a:=0) (b:=1) b3).2 x hx;simp only[aaA,ab] at this;exact this.1) g3 (by omega),sX _ (aag (a:=0) (b:=1) b4).2 g4 (by omega),sX _ (aag (a:=0) (b:=64) b5).2 g5 (by omega),sX _ (aag (a:=0) (b:=1) b6).2 g6 (by omega),wod⟩
   .rw[aj h1] at o
    split at o
    rotate_left
    .cases o
    rename_i h2
    simp only[ab,ar] at o
    obtain⟨⟨b1,_⟩,b2⟩:=o
    have hk:=b1
    rw[show bu q.ks 2 2 d7=_ from fY q.ks 2 2 d7] at hk
    simp only[ab,dD,ar] at hk
    have e1:q.its=[]:=aJ (by omega)
    have e2:q.fr=[]:=aJ (by omega)
    have e3:q.wh=[]:=aJ (by omega)
    have e4:q.gr=[]:=aJ (by omega)
    have e5:q.hv=[]:=aJ (by omega)
    have kq:=aag (a:=2) (b:=2) b1
    have sk:=sQ _ kq.2 g1 (by omega)
    refine aKP q h2 (by omega) hli hsk hl ⟨fun x hx=>⟨sk x hx,kq.2 x hx,?_⟩,by (rw[e1];intro x hx;cases hx),by (rw[e2];intro x hx;cases hx),by (rw[e3];intro x hx;cases hx),by (rw[e4];intro x hx;cases hx),by (rw[e5];intro x hx;cases hx),wod⟩
    have hx2:=kq.2 x hx
    rw[af9] at hx2
    simp only[ab,ar] at hx2
    have:=(aag (a:=0) (b:=64) hx2.1.2).1
    omega
  .have h':=aci e
   rw[ain] at g
   refine aIt e o fun hst=>i1 _ ?_ g.2.2.1 (by omega)
   rw[aij,hst] at o
   simp only[aW,aQ,ab] at o
   exact o.2
  .have h':=jg f
   rw[aio] at g
   obtain⟨_,_,_,g1,g2,g3⟩:=g
   obtain⟨o1,o2,o3⟩:=ayi o
   have hl:=da xpW f.on fun x _=>aaw x
   exact aKy f o (by omega) (sF _ o1 g2 (by omega)) (sQ _ o2 g1 (by omega)) (sX _ o3 g3 (by omega))
def aej (k:Nat) (l:List Od):List To:=if k=0 then aF (decide (l≠[])) [[111,114,100,101,114],[98,121]]++bc true (l.map odT) else bc false (l.map odT)
def aCH (k:Nat):List To:=if k=0 then [[111,114,100,101,114],[98,121]] else [[44]]
def aQ5 {l:List Od} {k:Nat} (h:k<l.length):aej k (l.drop k)=aCH k++(odT l[k]++aej (k+1) (l.drop (k+1))):=by
 unfold aej aCH
 rw[aj (abg k),bM h]
 by_cases hk:k=0
 .rw[aE hk,aE hk]
  simp only[aV,bc,ct,List.cons_ne_nil,jw,bG,aF,aA]
 .rw[aj hk,aj hk]
  simp only[aV,bc,cmT,ch]
def aCS {o:Od} (h:iy o=true):(¬o.nm=[]∧bk o.nm=true)∨(o.nm=[]∧∃ n:Nat,o.pl=(n:Int)∧n≤1000000000000000):=by
 unfold iy at h
 by_cases e:o.nm=[]
 .rw[aj (fun q=>q e)] at h
  simp only[ab,ar] at h
  have em:aap=1000000000000000:=rfl
  exact .inr ⟨e,o.pl.toNat,by omega,by omega⟩
 .rw[aE e] at h
  simp only[ab] at h
  exact .inl ⟨e,h.1⟩
def auU {n:Int} (h:0≤n) (h2:n≤aap):∃ k:Nat,n=(k:Int)∧k≤1000000000000000:=⟨n.toNat,by omega,by have em:aap=1000000000000000:=rfl;omega⟩
def agi:=ai (ai (ai (ai @zq @a6f) (ai @a2t (ai @aZw @a2s))) (ai (ai @aZv @ahj) (ai @afD (ai @aCU @avV)))) (ai (ai (ai @eY @acL) (ai @bO (ai @abV @Q3))) (ai (ai @Q9 (ai @P4 @Q4)) (ai @zT0 (ai @aIi (ba aYE)))))
def asm (q:Qy) (H:List To) (hH:qyT q=H++ajx q.od q.li q.sk) (hS:q.op=1→GR 74 [.of (.agg (qyC q))] H) (hB:¬q.op=1→GR 75 [.of (.agg (qyC q))] H)
  (hol:q.od.length≤4611686018427387903) (hod:∀ o∈q.od,iy o=true) (hli:q.li≤aap) (hsk:q.sk≤aap):RQ q:=by
 intro h
 rw[hH] at h ⊢
 have fD:=aL [111,114,100,101,114]
 have fW:=aL [98,121]
 have adf:=aL [100,101,115,99]
 have ic:=aL [108,105,109,105,116]
 have gn:=aL [111,102,102,115,101,116]
 have e44:=aL [44]
 have eE:H++ajx q.od q.li q.sk=(H++aej 0 q.od)++(aF (decide (0≤q.li)) [[108,105,109,105,116],Lib.itoa q.li]++aF (decide (0<q.sk)) [[111,102,102,115,101,116],Lib.itoa q.sk]):=by
  unfold ajx aej
  rw[aE rfl]
  simp only[am]
 rw[eE] at h ⊢
 simp only[av] at h
 have hl0:(H++aej 0 q.od).length=H.length+(aej 0 q.od).length:=av
 have h0:H.length≤LIM:=by omega
 have Hd:((q.op=1)=True∧∀ K,bp Tryz.prog pr 74 [.of (.agg (qyC q))] [] K↔K ⟨false,[.own (.nm 0 0 0) 9 1 (fl bA H) H.length],[]⟩)∨((q.op=1)=False∧∀ K,bp Tryz.prog pr 75 [.of (.agg (qyC q))] [] K↔K ⟨false,[.own (.nm 0 0 0) 9 1 (fl bA H) H.length],[]⟩):=by
  by_cases e:q.op=1
  .exact .inl ⟨aa e,fun K=>(hS e).k h0 K⟩
  .exact .inr ⟨aO e,fun K=>(hB e).k h0 K⟩
 generalize hT:H++aej 0 q.od=T at *
 refine ah rfl aYE aIi rfl ?_
 rcases Hd with ⟨hop,Hd⟩|⟨hop,Hd⟩
 all_goals simp -implicitDefEqProofs(maxSteps:=9^9)only[Tryz.f26,↓zA,sevalprocAttr,agi,hop,Hd]
 all_goals
  refine bX q.od.length (fun k s=>s.fr 1=.of (.ref [ci q.op,cb q.al,slC qyC q.ks,cb q.di,slC imC q.its,slC fmC q.fr,slC xpC q.wh,slC xpC q.gr,slC xpC q.hv,slC odC q.od,ci q.li,ci q.sk])∧s.fr 4=aU k∧s.objs=[]∧∃ A c x i,c<s.clk∧s.fr 3=.own (.nm c x i) 9 1 (fl bA A) A.length∧T=A++aej (k) (q.od.drop k)) ?_ ?_
  .simp -implicitDefEqProofs(maxSteps:=9^9)only[Tryz.f26,↓zA,sevalprocAttr,agi]
   exact⟨H,_,_,_,by omega,rfl,hT.symm⟩
  rintro k ⟨frk,obk,ckk⟩ hk ⟨f1,fi,fo,A,c,x,i,hc,fa,E⟩
  dsimp only at f1 fi fo hc fa
  rcases ap k q.od.length with dk|dk
  .have hw:=cF k (by omega)
   have gx:=bq dk
   rw[aQ5 dk] at E
   have ho:=aCS (hod q.od[k] (ay dk))
   generalize q.od[k]=y at *
   have EL:=congrArg List.length E
   simp only[aR] at EL
   rcases fM k with hkz|hz
   .subst hkz
    have hw1:aCH 0=[[111,114,100,101,114],[98,121]]:=rfl
    have dk':((0:Int)<(q.od.length:Int))=True:=aa (by omega)
    have fi':frk 4=aU 0:=fi
    have gx':dH q.od 0=some y:=gx
    have hw':IntKind.i64.wrap 1=1:=by decide
    rw[hw1] at EL
    simp only[dN] at EL
    rcases ho with ⟨b1,b2⟩|⟨b1,n,hp,hp2⟩
    .cases b3:y.dn
     rotate_left
     .have eT:odT y=[bF y.nm,[100,101,115,99]]:=by simp[odT,b1,b3,aF]
      rw[eT] at EL
      simp only[aR] at EL
      have b4:=aO b1
      have kn:=fun K=>fX y.nm b2 K
      have E2:T=(A++([[111,114,100,101,114],[98,121]]++([bF y.nm,[100,101,115,99]])))++aej (0+1) (q.od.drop (0+1)):=by rw[E,hw1];simp only[am,bw,bt,eT]
      simp -implicitDefEqProofs(maxSteps:=9^9)only[Tryz.f26,↓zA,sevalprocAttr,agi,f1,fa,fo,fi',dk',gx',hw',b3,b4,kn,ij,fD,fW,adf,bg]
      and_intros
      all_goals first|exact okN _ _ (by omega) _|omega|rfl|exact abS (A++([[111,114,100,101,114],[98,121]]++([bF y.nm,[100,101,115,99]]))) (by omega) (by (try simp only[cJ,cI]) <;> rfl) (by (try simp only[aR]) <;> omega) E2|((try simp only[aR]) <;> omega)
     .have eT:odT y=[bF y.nm]:=by simp[odT,b1,b3,aF]
      rw[eT] at EL
      simp only[aR] at EL
      have b4:=aO b1
      have kn:=fun K=>fX y.nm b2 K
      have E2:T=(A++([[111,114,100,101,114],[98,121]]++([bF y.nm])))++aej (0+1) (q.od.drop (0+1)):=by rw[E,hw1];simp only[am,bw,bt,eT]
      simp -implicitDefEqProofs(maxSteps:=9^9)only[Tryz.f26,↓zA,sevalprocAttr,agi,f1,fa,fo,fi',dk',gx',hw',b3,b4,kn,ij,fD,fW,adf,bg]
      and_intros
      all_goals first|exact okN _ _ (by omega) _|omega|rfl|exact abS (A++([[111,114,100,101,114],[98,121]]++([bF y.nm]))) (by omega) (by (try simp only[cJ,cI]) <;> rfl) (by (try simp only[aR]) <;> omega) E2|((try simp only[aR]) <;> omega)
    .cases b3:y.dn
     rotate_left
     .have eT:odT y=[Lib.itoa n,[100,101,115,99]]:=by simp[odT,b1,b3,hp,aF]
      rw[eT] at EL
      simp only[aR] at EL
      have b4:=aa b1
      have kn:=fun K=>aeC n (by omega) K
      have E2:T=(A++([[111,114,100,101,114],[98,121]]++([Lib.itoa n,[100,101,115,99]])))++aej (0+1) (q.od.drop (0+1)):=by rw[E,hw1];simp only[am,bw,bt,eT]
      simp -implicitDefEqProofs(maxSteps:=9^9)only[Tryz.f26,↓zA,sevalprocAttr,agi,f1,fa,fo,fi',dk',gx',hw',b3,b4,kn,hp,ij,fD,fW,adf,bg]
      and_intros
      all_goals first|exact okN _ _ (by omega) _|omega|rfl|exact abS (A++([[111,114,100,101,114],[98,121]]++([Lib.itoa n,[100,101,115,99]]))) (by omega) (by (try simp only[cJ,cI]) <;> rfl) (by (try simp only[aR]) <;> omega) E2|((try simp only[aR]) <;> omega)
     .have eT:odT y=[Lib.itoa n]:=by simp[odT,b1,b3,hp,aF]
      rw[eT] at EL
      simp only[aR] at EL
      have b4:=aa b1
      have kn:=fun K=>aeC n (by omega) K
      have E2:T=(A++([[111,114,100,101,114],[98,121]]++([Lib.itoa n])))++aej (0+1) (q.od.drop (0+1)):=by rw[E,hw1];simp only[am,bw,bt,eT]
      simp -implicitDefEqProofs(maxSteps:=9^9)only[Tryz.f26,↓zA,sevalprocAttr,agi,f1,fa,fo,fi',dk',gx',hw',b3,b4,kn,hp,ij,fD,fW,adf,bg]
      and_intros
      all_goals first|exact okN _ _ (by omega) _|omega|rfl|exact abS (A++([[111,114,100,101,114],[98,121]]++([Lib.itoa n]))) (by omega) (by (try simp only[cJ,cI]) <;> rfl) (by (try simp only[aR]) <;> omega) E2|((try simp only[aR]) <;> omega)
   .have hkz:k≠0:=by omega
    have hw1:aCH k=[[44]]:=aj hkz
    rw[hw1] at EL
    simp only[dN] at EL
    have kz:((k:Int)=0)=False:=aO (by omega)
    rcases ho with ⟨b1,b2⟩|⟨b1,n,hp,hp2⟩
    .cases b3:y.dn
     rotate_left
     .have eT:odT y=[bF y.nm,[100,101,115,99]]:=by simp[odT,b1,b3,aF]
      rw[eT] at EL
      simp only[aR] at EL
      have b4:=aO b1
      have kn:=fun K=>fX y.nm b2 K
      have E2:T=(A++([44]::([bF y.nm,[100,101,115,99]])))++aej (k+1) (q.od.drop (k+1)):=by rw[E,hw1];simp only[am,bw,bt,eT]
      simp -implicitDefEqProofs(maxSteps:=9^9)only[Tryz.f26,↓zA,sevalprocAttr,agi,f1,fa,fo,fi,aK,dk,kz,e44,gx,hw,b3,b4,kn,ij,fD,fW,adf,bg]
      and_intros
      all_goals first|exact okN _ _ (by omega) _|omega|rfl|exact abS (A++([44]::([bF y.nm,[100,101,115,99]]))) (by omega) (by (try simp only[cJ,cI]) <;> rfl) (by (try simp only[aR]) <;> omega) E2|((try simp only[aR]) <;> omega)
     .have eT:odT y=[bF y.nm]:=by simp[odT,b1,b3,aF]
      rw[eT] at EL
      simp only[aR] at EL
      have b4:=aO b1
      have kn:=fun K=>fX y.nm b2 K
      have E2:T=(A++([44]::([bF y.nm])))++aej (k+1) (q.od.drop (k+1)):=by rw[E,hw1];simp only[am,bw,bt,eT]
      simp -implicitDefEqProofs(maxSteps:=9^9)only[Tryz.f26,↓zA,sevalprocAttr,agi,f1,fa,fo,fi,aK,dk,kz,e44,gx,hw,b3,b4,kn,ij,fD,fW,adf,bg]
      and_intros
      all_goals first|exact okN _ _ (by omega) _|omega|rfl|exact abS (A++([44]::([bF y.nm]))) (by omega) (by (try simp only[cJ,cI]) <;> rfl) (by (try simp only[aR]) <;> omega) E2|((try simp only[aR]) <;> omega)
    .cases b3:y.dn
     rotate_left
     .have eT:odT y=[Lib.itoa n,[100,101,115,99]]:=by simp[odT,b1,b3,hp,aF]
      rw[eT] at EL
      simp only[aR] at EL
      have b4:=aa b1
      have kn:=fun K=>aeC n (by omega) K
      have E2:T=(A++([44]::([Lib.itoa n,[100,101,115,99]])))++aej (k+1) (q.od.drop (k+1)):=by rw[E,hw1];simp only[am,bw,bt,eT]
      simp -implicitDefEqProofs(maxSteps:=9^9)only[Tryz.f26,↓zA,sevalprocAttr,agi,f1,fa,fo,fi,aK,dk,kz,e44,gx,hw,b3,b4,kn,hp,ij,fD,fW,adf,bg]
      and_intros
      all_goals first|exact okN _ _ (by omega) _|omega|rfl|exact abS (A++([44]::([Lib.itoa n,[100,101,115,99]]))) (by omega) (by (try simp only[cJ,cI]) <;> rfl) (by (try simp only[aR]) <;> omega) E2|((try simp only[aR]) <;> omega)
     .have eT:odT y=[Lib.itoa n]:=by simp[odT,b1,b3,hp,aF]
      rw[eT] at EL
      simp only[aR] at EL
      have b4:=aa b1
      have kn:=fun K=>aeC n (by omega) K
      have E2:T=(A++([44]::([Lib.itoa n])))++aej (k+1) (q.od.drop (k+1)):=by rw[E,hw1];simp only[am,bw,bt,eT]
      simp -implicitDefEqProofs(maxSteps:=9^9)only[Tryz.f26,↓zA,sevalprocAttr,agi,f1,fa,fo,fi,aK,dk,kz,e44,gx,hw,b3,b4,kn,hp,ij,fD,fW,adf,bg]
      and_intros
      all_goals first|exact okN _ _ (by omega) _|omega|rfl|exact abS (A++([44]::([Lib.itoa n]))) (by omega) (by (try simp only[cJ,cI]) <;> rfl) (by (try simp only[aR]) <;> omega) E2|((try simp only[aR]) <;> omega)
  .have e:k=q.od.length:=by omega
   subst e
   rw[aw] at E
   have E:T=A:=by rw[E];unfold aej;cases q.od.length <;> simp[bc,aF]
   subst E
   by_cases cl:0≤q.li
   .have eL:aF (decide (0≤q.li)) [[108,105,109,105,116],Lib.itoa q.li]=[[108,105,109,105,116],Lib.itoa q.li]:=by simp[aF,cl]
    rw[eL] at h ⊢
    obtain⟨nl,el,hl⟩:=auU cl hli
    have kl:=fun K=>aeC nl (by omega) K
    by_cases cs:0<q.sk
    .have eS:aF (decide (0<q.sk)) [[111,102,102,115,101,116],Lib.itoa q.sk]=[[111,102,102,115,101,116],Lib.itoa q.sk]:=by simp[aF,cs]
     rw[eS] at h ⊢
     obtain⟨ns,es,hs⟩:=auU (Int.le_of_lt cs) hsk
     have ks:=fun K=>aeC ns (by omega) K
     rw[el] at f1 cl h ⊢
     rw[es] at f1 cs h ⊢
     try simp only[dN] at h
     simp -implicitDefEqProofs(maxSteps:=9^9)only[Tryz.f26,↓zA,sevalprocAttr,agi,f1,fa,fi,fo,aK,au,cl,cs,bg,kl,ic,ks,gn]
     and_intros
     all_goals first|exact okN _ _ (by omega) _|(exact cz (by (try simp only[cJ,cI]) <;> rfl) (by (try simp only[aR]) <;> omega))|omega
    .have eS:aF (decide (0<q.sk)) [[111,102,102,115,101,116],Lib.itoa q.sk]=[]:=by simp[aF,cs]
     rw[eS] at h ⊢
     rw[el] at f1 cl h ⊢
     try simp only[dN] at h
     simp -implicitDefEqProofs(maxSteps:=9^9)only[Tryz.f26,↓zA,sevalprocAttr,agi,f1,fa,fi,fo,aK,au,cl,cs,bg,kl,ic]
     and_intros
     all_goals first|exact okN _ _ (by omega) _|(exact cz (by (try simp only[cJ,cI]) <;> rfl) (by (try simp only[aR]) <;> omega))|omega
   .have eL:aF (decide (0≤q.li)) [[108,105,109,105,116],Lib.itoa q.li]=[]:=by simp[aF,cl]
    rw[eL] at h ⊢
    by_cases cs:0<q.sk
    .have eS:aF (decide (0<q.sk)) [[111,102,102,115,101,116],Lib.itoa q.sk]=[[111,102,102,115,101,116],Lib.itoa q.sk]:=by simp[aF,cs]
     rw[eS] at h ⊢
     obtain⟨ns,es,hs⟩:=auU (Int.le_of_lt cs) hsk
     have ks:=fun K=>aeC ns (by omega) K
     rw[es] at f1 cs h ⊢
     try simp only[dN] at h
     simp -implicitDefEqProofs(maxSteps:=9^9)only[Tryz.f26,↓zA,sevalprocAttr,agi,f1,fa,fi,fo,aK,au,cl,cs,bg,ks,gn]
     and_intros
     all_goals first|exact okN _ _ (by omega) _|(exact cz (by (try simp only[cJ,cI]) <;> rfl) (by (try simp only[aR]) <;> omega))|omega
    .have eS:aF (decide (0<q.sk)) [[111,102,102,115,101,116],Lib.itoa q.sk]=[]:=by simp[aF,cs]
     rw[eS] at h ⊢
     try simp only[dN] at h
     simp -implicitDefEqProofs(maxSteps:=9^9)only[Tryz.f26,↓zA,sevalprocAttr,agi,f1,fa,fi,fo,aK,au,cl,cs,bg]
     and_intros
     all_goals first|exact okN _ _ (by omega) _|(exact cz (by (try simp only[cJ,cI]) <;> rfl) (by (try simp only[aR]) <;> omega))|omega
abbrev fB (b:Bool):Ob:=.var 4 [aG b]
def a1i:=ai (ai (ai @zq @aeq) (ai @adh (ai @agl @bO))) (ai (ai @P65 (ai @P4 @Q4)) (ai @zT0 (ai @aAl (ba aPH))))
def aGV (b:Bool) (o:Option (List To)) (h:bi o+(aF (!b) [[44]]).length≤LIM):aN Tryz.prog pr 119 [.ptr 0 0,.ptr 2 0] [wP 1,wT (.cell 1 0) o,fB b] ⟨false,[],[wP 1,wT (.cell 1 0) (iH o (aF (!b) [[44]])),fB false]⟩:=by
 have e44:=aL [44]
 have kw:=fun o K=>(gD (!b) [.lit (.string (aD [44]))] [[44]] 1 rfl rfl (by simp)).k o K
 refine ah rfl aPH aAl rfl ?_
 simp -implicitDefEqProofs(maxSteps:=9^9)only[Tryz.f119,↓zA,sevalprocAttr,a1i,zW,du,cO,co,e44,kw,h]
 try rfl
def iv (b:Bool):(fB b).refs=[]:=rfl
def adg (s:Sm):List (List To):=s.cs.map cdT++(s.kys.map kdT++(s.rfs.map rdT++s.chs.map chT))
def aCv {b:Bool} {a:List To} {r:List (List To)}:bc b (a::r)=aF (!b) [[44]]++(a++bc false r):=arw b a r
abbrev agR (s:Sm):List C:=[ci s.kd,aH (aD s.tb),aH (aD s.nm),slC cdC s.cs,slC bA s.ns,cb s.un,slC kdC s.kys,slC rdC s.rfs,slC xpC s.chs,slC (lsC xpC) s.rws,slC asC s.sts,slC xpC s.wh,slC qyC s.q]
def aRx (k:Int) (h:1≤k∧k≤3):ac9 (TT.of Tryz.prog) 155 (.agg [dy ⟨#[]⟩,dy (aD [98,111,111,108]),dy (aD [105,110,116]),dy (aD [116,101,120,116])]) (.of (.lit (.int .i64 k)))=out (.of (aH (aD (aeV k)))):=by
 obtain⟨h1,h2⟩:=h
 have:k=1∨k=2∨k=3:=by omega
 rcases this with h|h|h <;> (subst h;rfl)
structure SmL (s:Sm):Prop where
 tb:bk s.tb=true
 cs:s.cs.length≤4611686018427387903∧∀ c∈s.cs,bk c.nm=true∧1≤c.ty∧c.ty≤3
 kys:s.kys.length≤4611686018427387903∧∀ k∈s.kys,k.ns.length≤4611686018427387903∧∀ n∈k.ns,bk n=true
 rfs:s.rfs.length≤4611686018427387903∧∀ r∈s.rfs,(r.ns.length≤4611686018427387903∧∀ n∈r.ns,bk n=true)∧bk r.tb=true∧(r.to.length≤4611686018427387903∧∀ n∈r.to,bk n=true)
 chs:s.chs.length≤4611686018427387903∧∀ x∈s.chs,WX x
end Go.Proofs.YtemdljoideegeaaGreatDoor

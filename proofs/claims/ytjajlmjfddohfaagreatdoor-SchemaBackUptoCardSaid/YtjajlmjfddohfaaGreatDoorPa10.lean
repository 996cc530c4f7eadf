/-
  Instances of the library's generic functions. Conditions: none.
-/
import Derived.Test.YtjajlmjfddohfaaGreatDoorPa9
set_option linter.defProp false
set_option linter.unusedSectionVars false
set_option maxRecDepth 100000
set_option maxHeartbeats 32000000
namespace Go.Tab
open Go Go.Pe
structure Nn where
 nd:Int
 dp:Int
 deriving DecidableEq
def nnC (x:Nn):List C:=[ci x.nd,ci x.dp]
theorem alk (x:Nn):nnC x=[ci x.nd,ci x.dp]:=rfl
theorem aL1 (x:Nn):(nnC x).length=2:=rfl
structure Sz where
 nd:Int
 dp:Int
 deriving DecidableEq
def szC (x:Sz):List C:=[ci x.nd,ci x.dp]
theorem aqc (x:Sz):szC x=[ci x.nd,ci x.dp]:=rfl
theorem aLn (x:Sz):(szC x).length=2:=rfl
structure Sh where
 le:Int
 mo:Int
 su:Int
 deriving DecidableEq
def shC (x:Sh):List C:=[ci x.le,ci x.mo,ci x.su]
theorem aqr (x:Sh):shC x=[ci x.le,ci x.mo,ci x.su]:=rfl
theorem aLF (x:Sh):(shC x).length=3:=rfl
end Go.Tab
namespace Go.Proofs.YtjajlmjfddohfaaGreatDoor
open Go Go.Pe Go.Tab
theorem aVS (x:Od):C.ref (odC x)=C.ref [ao (ar x.nm),ci x.pl,cb x.dn]:=by rw[ahC]
theorem aV8 (x:Od) (r:List C):C.ref (odC x++r)=C.ref (ao (ar x.nm)::ci x.pl::cb x.dn::r):=by rw[ahC];rfl
theorem aZx (anm:List UInt8) (apl:Int) (adn:Bool):C.agg [ao (ar anm),ci apl,cb adn]=C.agg (odC ⟨anm,apl,adn⟩):=by rw[ahC]
theorem aZN (x:Od):Od.mk x.nm x.pl x.dn=x:=rfl
theorem aVK (x:Xp):C.ref (xpC x)=C.ref [ci x.op,ci x.v.k,ci x.v.n,ao x.v.s,ao (ar x.tb),ao (ar x.nm),cb x.di,slC xpC x.ks,slC qyC x.sb]:=by rw[aaG]
theorem aV2 (x:Xp) (r:List C):C.ref (xpC x++r)=C.ref (ci x.op::ci x.v.k::ci x.v.n::ao x.v.s::ao (ar x.tb)::ao (ar x.nm)::cb x.di::slC xpC x.ks::slC qyC x.sb::r):=by rw[aaG];rfl
theorem aZ1 (x:Xp):(xpC x).map X.of=[.of (ci x.op),.of (ci x.v.k),.of (ci x.v.n),.of (ao x.v.s),.of (ao (ar x.tb)),.of (ao (ar x.nm)),.of (cb x.di),.of (slC xpC x.ks),.of (slC qyC x.sb)]:=by rw[aaG];rfl
theorem aZp (aop:Int) (avk avn:Int) (avs:ByteArray) (atb:List UInt8) (anm:List UInt8) (adi:Bool) (aks:List Xp) (asb:List Qy):C.agg [ci aop,ci avk,ci avn,ao avs,ao (ar atb),ao (ar anm),cb adi,slC xpC aks,slC qyC asb]=C.agg (xpC (.mk aop ⟨avk,avn,avs⟩ atb anm adi aks asb)):=by rw[aaG];rfl
theorem azS (x:Xp):Xp.mk x.op x.v x.tb x.nm x.di x.ks x.sb=x:=by cases x;rfl
section
variable (op:Int) (v:V) (tb:List UInt8) (nm:List UInt8) (di:Bool) (ks:List Xp) (sb:List Qy)
theorem aF6:(Xp.mk op v tb nm di ks sb).op=op:=rfl
theorem aLP:(Xp.mk op v tb nm di ks sb).v=v:=rfl
theorem aF4:(Xp.mk op v tb nm di ks sb).tb=tb:=rfl
theorem aF7:(Xp.mk op v tb nm di ks sb).nm=nm:=rfl
theorem aF9:(Xp.mk op v tb nm di ks sb).di=di:=rfl
theorem aF8:(Xp.mk op v tb nm di ks sb).ks=ks:=rfl
theorem aF5:(Xp.mk op v tb nm di ks sb).sb=sb:=rfl
end
theorem aVR (x:Qy):C.ref (qyC x)=C.ref [ci x.op,cb x.al,slC qyC x.ks,cb x.di,slC imC x.its,slC fmC x.fr,slC xpC x.wh,slC xpC x.gr,slC xpC x.hv,slC odC x.od,ci x.li,ci x.sk]:=by rw[ahx]
theorem aV7 (x:Qy) (r:List C):C.ref (qyC x++r)=C.ref (ci x.op::cb x.al::slC qyC x.ks::cb x.di::slC imC x.its::slC fmC x.fr::slC xpC x.wh::slC xpC x.gr::slC xpC x.hv::slC odC x.od::ci x.li::ci x.sk::r):=by rw[ahx];rfl
theorem aZ8 (x:Qy):(qyC x).map X.of=[.of (ci x.op),.of (cb x.al),.of (slC qyC x.ks),.of (cb x.di),.of (slC imC x.its),.of (slC fmC x.fr),.of (slC xpC x.wh),.of (slC xpC x.gr),.of (slC xpC x.hv),.of (slC odC x.od),.of (ci x.li),.of (ci x.sk)]:=by rw[ahx];rfl
theorem aZw (aop:Int) (aal:Bool) (aks:List Qy) (adi:Bool) (aits:List Im) (afr:List Fm) (awh:List Xp) (agr:List Xp) (ahv:List Xp) (aod:List Od) (ali:Int) (ask:Int):C.agg [ci aop,cb aal,slC qyC aks,cb adi,slC imC aits,slC fmC afr,slC xpC awh,slC xpC agr,slC xpC ahv,slC odC aod,ci ali,ci ask]=C.agg (qyC (.mk aop aal aks adi aits afr awh agr ahv aod ali ask)):=by rw[ahx];rfl
theorem aZM (x:Qy):Qy.mk x.op x.al x.ks x.di x.its x.fr x.wh x.gr x.hv x.od x.li x.sk=x:=by cases x;rfl
theorem aVX (x:Im):C.ref (imC x)=C.ref [cb x.st,ao (ar x.tb),ci x.e.op,ci x.e.v.k,ci x.e.v.n,ao x.e.v.s,ao (ar x.e.tb),ao (ar x.e.nm),cb x.e.di,slC xpC x.e.ks,slC qyC x.e.sb,ao (ar x.az)]:=by rw[ahY]
theorem aWd (x:Im) (r:List C):C.ref (imC x++r)=C.ref (cb x.st::ao (ar x.tb)::ci x.e.op::ci x.e.v.k::ci x.e.v.n::ao x.e.v.s::ao (ar x.e.tb)::ao (ar x.e.nm)::cb x.e.di::slC xpC x.e.ks::slC qyC x.e.sb::ao (ar x.az)::r):=by rw[ahY];rfl
theorem a0d (x:Im):(imC x).map X.of=[.of (cb x.st),.of (ao (ar x.tb)),.of (ci x.e.op),.of (ci x.e.v.k),.of (ci x.e.v.n),.of (ao x.e.v.s),.of (ao (ar x.e.tb)),.of (ao (ar x.e.nm)),.of (cb x.e.di),.of (slC xpC x.e.ks),.of (slC qyC x.e.sb),.of (ao (ar x.az))]:=by rw[ahY];rfl
theorem aZC (ast:Bool) (atb:List UInt8) (aeop:Int) (aevk aevn:Int) (aevs:ByteArray) (aetb:List UInt8) (aenm:List UInt8) (aedi:Bool) (aeks:List Xp) (aesb:List Qy) (aaz:List UInt8):C.agg [cb ast,ao (ar atb),ci aeop,ci aevk,ci aevn,ao aevs,ao (ar aetb),ao (ar aenm),cb aedi,slC xpC aeks,slC qyC aesb,ao (ar aaz)]=C.agg (imC (.mk ast atb (.mk aeop ⟨aevk,aevn,aevs⟩ aetb aenm aedi aeks aesb) aaz)):=by rw[ahY];rfl
theorem aZR (x:Im):Im.mk x.st x.tb x.e x.az=x:=by cases x;rfl
theorem aVY (x:Fm):C.ref (fmC x)=C.ref [ci x.kd,ao (ar x.nm),ao (ar x.az),slC qyC x.sb,slC fmC x.ks,slC xpC x.on]:=by rw[ah1]
theorem aWe (x:Fm) (r:List C):C.ref (fmC x++r)=C.ref (ci x.kd::ao (ar x.nm)::ao (ar x.az)::slC qyC x.sb::slC fmC x.ks::slC xpC x.on::r):=by rw[ah1];rfl
theorem a0e (x:Fm):(fmC x).map X.of=[.of (ci x.kd),.of (ao (ar x.nm)),.of (ao (ar x.az)),.of (slC qyC x.sb),.of (slC fmC x.ks),.of (slC xpC x.on)]:=by rw[ah1];rfl
theorem aZD (akd:Int) (anm:List UInt8) (aaz:List UInt8) (asb:List Qy) (aks:List Fm) (aon:List Xp):C.agg [ci akd,ao (ar anm),ao (ar aaz),slC qyC asb,slC fmC aks,slC xpC aon]=C.agg (fmC (.mk akd anm aaz asb aks aon)):=by rw[ah1];rfl
theorem aZS (x:Fm):Fm.mk x.kd x.nm x.az x.sb x.ks x.on=x:=by cases x;rfl
theorem aV0 (x:Cd):C.ref (cdC x)=C.ref [ao (ar x.nm),ci x.ty,cb x.nn]:=by rw[afC]
theorem aWf (x:Cd) (r:List C):C.ref (cdC x++r)=C.ref (ao (ar x.nm)::ci x.ty::cb x.nn::r):=by rw[afC];rfl
theorem a0g (x:Cd):(cdC x).map X.of=[.of (ao (ar x.nm)),.of (ci x.ty),.of (cb x.nn)]:=by rw[afC];rfl
theorem aZF (anm:List UInt8) (aty:Int) (ann:Bool):C.agg [ao (ar anm),ci aty,cb ann]=C.agg (cdC ⟨anm,aty,ann⟩):=by rw[afC]
theorem aZU (x:Cd):Cd.mk x.nm x.ty x.nn=x:=rfl
theorem aVV (x:Kd):C.ref (kdC x)=C.ref [cb x.pr,slC bd x.ns]:=by rw[ahR]
theorem aWb (x:Kd) (r:List C):C.ref (kdC x++r)=C.ref (cb x.pr::slC bd x.ns::r):=by rw[ahR];rfl
theorem a0b (x:Kd):(kdC x).map X.of=[.of (cb x.pr),.of (slC bd x.ns)]:=by rw[ahR];rfl
theorem aZA (apr:Bool) (ans:List (List UInt8)):C.agg [cb apr,slC bd ans]=C.agg (kdC ⟨apr,ans⟩):=by rw[ahR]
theorem aZP (x:Kd):Kd.mk x.pr x.ns=x:=rfl
theorem aVQ (x:Rd):C.ref (rdC x)=C.ref [slC bd x.ns,ao (ar x.tb),slC bd x.to]:=by rw[aht]
theorem aV6 (x:Rd) (r:List C):C.ref (rdC x++r)=C.ref (slC bd x.ns::ao (ar x.tb)::slC bd x.to::r):=by rw[aht];rfl
theorem aZ7 (x:Rd):(rdC x).map X.of=[.of (slC bd x.ns),.of (ao (ar x.tb)),.of (slC bd x.to)]:=by rw[aht];rfl
theorem aZv (ans:List (List UInt8)) (atb:List UInt8) (ato:List (List UInt8)):C.agg [slC bd ans,ao (ar atb),slC bd ato]=C.agg (rdC ⟨ans,atb,ato⟩):=by rw[aht]
theorem aZL (x:Rd):Rd.mk x.ns x.tb x.to=x:=rfl
theorem aV1 (x:As):C.ref (asC x)=C.ref [ao (ar x.nm),ci x.e.op,ci x.e.v.k,ci x.e.v.n,ao x.e.v.s,ao (ar x.e.tb),ao (ar x.e.nm),cb x.e.di,slC xpC x.e.ks,slC qyC x.e.sb]:=by rw[aii]
theorem aWg (x:As) (r:List C):C.ref (asC x++r)=C.ref (ao (ar x.nm)::ci x.e.op::ci x.e.v.k::ci x.e.v.n::ao x.e.v.s::ao (ar x.e.tb)::ao (ar x.e.nm)::cb x.e.di::slC xpC x.e.ks::slC qyC x.e.sb::r):=by rw[aii];rfl
theorem a0h (x:As):(asC x).map X.of=[.of (ao (ar x.nm)),.of (ci x.e.op),.of (ci x.e.v.k),.of (ci x.e.v.n),.of (ao x.e.v.s),.of (ao (ar x.e.tb)),.of (ao (ar x.e.nm)),.of (cb x.e.di),.of (slC xpC x.e.ks),.of (slC qyC x.e.sb)]:=by rw[aii];rfl
theorem aZG (anm:List UInt8) (aeop:Int) (aevk aevn:Int) (aevs:ByteArray) (aetb:List UInt8) (aenm:List UInt8) (aedi:Bool) (aeks:List Xp) (aesb:List Qy):C.agg [ao (ar anm),ci aeop,ci aevk,ci aevn,ao aevs,ao (ar aetb),ao (ar aenm),cb aedi,slC xpC aeks,slC qyC aesb]=C.agg (asC ⟨anm,(.mk aeop ⟨aevk,aevn,aevs⟩ aetb aenm aedi aeks aesb)⟩):=by rw[aii] <;> rfl
theorem aZV (x:As):As.mk x.nm x.e=x:=rfl
theorem aVN (x:Sm):C.ref (smC x)=C.ref [ci x.kd,ao (ar x.tb),ao (ar x.nm),slC cdC x.cs,slC bd x.ns,cb x.un,slC kdC x.kys,slC rdC x.rfs,slC xpC x.chs,slC (lsC xpC) x.rws,slC asC x.sts,slC xpC x.wh,slC qyC x.q]:=by rw[eu]
theorem aV4 (x:Sm) (r:List C):C.ref (smC x++r)=C.ref (ci x.kd::ao (ar x.tb)::ao (ar x.nm)::slC cdC x.cs::slC bd x.ns::cb x.un::slC kdC x.kys::slC rdC x.rfs::slC xpC x.chs::slC (lsC xpC) x.rws::slC asC x.sts::slC xpC x.wh::slC qyC x.q::r):=by rw[eu];rfl
theorem aZ4 (x:Sm):(smC x).map X.of=[.of (ci x.kd),.of (ao (ar x.tb)),.of (ao (ar x.nm)),.of (slC cdC x.cs),.of (slC bd x.ns),.of (cb x.un),.of (slC kdC x.kys),.of (slC rdC x.rfs),.of (slC xpC x.chs),.of (slC (lsC xpC) x.rws),.of (slC asC x.sts),.of (slC xpC x.wh),.of (slC qyC x.q)]:=by rw[eu];rfl
theorem aZs (akd:Int) (atb:List UInt8) (anm:List UInt8) (acs:List Cd) (ans:List (List UInt8)) (aun:Bool) (akys:List Kd) (arfs:List Rd) (achs:List Xp) (arws:List (List Xp)) (asts:List As) (awh:List Xp) (aq:List Qy):C.agg [ci akd,ao (ar atb),ao (ar anm),slC cdC acs,slC bd ans,cb aun,slC kdC akys,slC rdC arfs,slC xpC achs,slC (lsC xpC) arws,slC asC asts,slC xpC awh,slC qyC aq]=C.agg (smC ⟨akd,atb,anm,acs,ans,aun,akys,arfs,achs,arws,asts,awh,aq⟩):=by rw[eu]
theorem aZJ (x:Sm):Sm.mk x.kd x.tb x.nm x.cs x.ns x.un x.kys x.rfs x.chs x.rws x.sts x.wh x.q=x:=rfl
theorem aVU (x:Ky):C.ref (kyC x)=C.ref [cb x.pr,slC aV x.cs,ci x.ix]:=by rw[ahP]
theorem aWa (x:Ky) (r:List C):C.ref (kyC x++r)=C.ref (cb x.pr::slC aV x.cs::ci x.ix::r):=by rw[ahP];rfl
theorem a0a (x:Ky):(kyC x).map X.of=[.of (cb x.pr),.of (slC aV x.cs),.of (ci x.ix)]:=by rw[ahP];rfl
theorem aZz (apr:Bool) (acs:List Int) (aix:Int):C.agg [cb apr,slC aV acs,ci aix]=C.agg (kyC ⟨apr,acs,aix⟩):=by rw[ahP]
theorem aZO (x:Ky):Ky.mk x.pr x.cs x.ix=x:=rfl
theorem aVP (x:Rf):C.ref (rfC x)=C.ref [slC aV x.cs,ao (ar x.tb),slC aV x.to]:=by rw[ahq]
theorem aV5 (x:Rf) (r:List C):C.ref (rfC x++r)=C.ref (slC aV x.cs::ao (ar x.tb)::slC aV x.to::r):=by rw[ahq];rfl
theorem aZ6 (x:Rf):(rfC x).map X.of=[.of (slC aV x.cs),.of (ao (ar x.tb)),.of (slC aV x.to)]:=by rw[ahq];rfl
theorem aZu (acs:List Int) (atb:List UInt8) (ato:List Int):C.agg [slC aV acs,ao (ar atb),slC aV ato]=C.agg (rfC ⟨acs,atb,ato⟩):=by rw[ahq]
theorem aZK (x:Rf):Rf.mk x.cs x.tb x.to=x:=rfl
theorem aVL (x:Tb):C.ref (tbC x)=C.ref [ao (ar x.nm),ci x.id,slC cdC x.cs,slC kyC x.kys,slC rfC x.rfs,slC xpC x.chs]:=by rw[ahf]
theorem aV3 (x:Tb) (r:List C):C.ref (tbC x++r)=C.ref (ao (ar x.nm)::ci x.id::slC cdC x.cs::slC kyC x.kys::slC rfC x.rfs::slC xpC x.chs::r):=by rw[ahf];rfl
theorem aZ2 (x:Tb):(tbC x).map X.of=[.of (ao (ar x.nm)),.of (ci x.id),.of (slC cdC x.cs),.of (slC kyC x.kys),.of (slC rfC x.rfs),.of (slC xpC x.chs)]:=by rw[ahf];rfl
theorem aZq (anm:List UInt8) (aid:Int) (acs:List Cd) (akys:List Ky) (arfs:List Rf) (achs:List Xp):C.agg [ao (ar anm),ci aid,slC cdC acs,slC kyC akys,slC rfC arfs,slC xpC achs]=C.agg (tbC ⟨anm,aid,acs,akys,arfs,achs⟩):=by rw[ahf]
theorem aZH (x:Tb):Tb.mk x.nm x.id x.cs x.kys x.rfs x.chs=x:=rfl
theorem aVW (x:Ix):C.ref (ixC x)=C.ref [ao (ar x.nm),ci x.id,ao (ar x.tb),slC aV x.cs,cb x.un]:=by rw[ahT]
theorem aWc (x:Ix) (r:List C):C.ref (ixC x++r)=C.ref (ao (ar x.nm)::ci x.id::ao (ar x.tb)::slC aV x.cs::cb x.un::r):=by rw[ahT];rfl
theorem a0c (x:Ix):(ixC x).map X.of=[.of (ao (ar x.nm)),.of (ci x.id),.of (ao (ar x.tb)),.of (slC aV x.cs),.of (cb x.un)]:=by rw[ahT];rfl
theorem aZB (anm:List UInt8) (aid:Int) (atb:List UInt8) (acs:List Int) (aun:Bool):C.agg [ao (ar anm),ci aid,ao (ar atb),slC aV acs,cb aun]=C.agg (ixC ⟨anm,aid,atb,acs,aun⟩):=by rw[ahT]
theorem aZQ (x:Ix):Ix.mk x.nm x.id x.tb x.cs x.un=x:=rfl
theorem aVZ (x:Ct):C.ref (ctC x)=C.ref [slC tbC x.tbs,slC ixC x.ixs,ci x.nx]:=by rw[alU]
theorem a0f (x:Ct):(ctC x).map X.of=[.of (slC tbC x.tbs),.of (slC ixC x.ixs),.of (ci x.nx)]:=by rw[alU];rfl
theorem aZE (atbs:List Tb) (aixs:List Ix) (anx:Int):C.agg [slC tbC atbs,slC ixC aixs,ci anx]=C.agg (ctC ⟨atbs,aixs,anx⟩):=by rw[alU]
theorem aZT (x:Ct):Ct.mk x.tbs x.ixs x.nx=x:=rfl
theorem aVT (x:Nn):C.ref (nnC x)=C.ref [ci x.nd,ci x.dp]:=by rw[alk]
theorem aZ9 (x:Nn):(nnC x).map X.of=[.of (ci x.nd),.of (ci x.dp)]:=by rw[alk];rfl
theorem aZy (and:Int) (adp:Int):C.agg [ci and,ci adp]=C.agg (nnC ⟨and,adp⟩):=by rw[alk]
theorem aVM (x:Sz):C.ref (szC x)=C.ref [ci x.nd,ci x.dp]:=by rw[aqc]
theorem aZ3 (x:Sz):(szC x).map X.of=[.of (ci x.nd),.of (ci x.dp)]:=by rw[aqc];rfl
theorem aZr (and:Int) (adp:Int):C.agg [ci and,ci adp]=C.agg (szC ⟨and,adp⟩):=by rw[aqc]
theorem aZI (x:Sz):Sz.mk x.nd x.dp=x:=rfl
theorem aVO (x:Sh):C.ref (shC x)=C.ref [ci x.le,ci x.mo,ci x.su]:=by rw[aqr]
theorem aZ5 (x:Sh):(shC x).map X.of=[.of (ci x.le),.of (ci x.mo),.of (ci x.su)]:=by rw[aqr];rfl
theorem aZt (ale:Int) (amo:Int) (asu:Int):C.agg [ci ale,ci amo,ci asu]=C.agg (shC ⟨ale,amo,asu⟩):=by rw[aqr]
theorem aPg (x:V):C.ref (aay x)=C.ref [ci x.k,ci x.n,ao x.s]:=rfl
theorem alN (k n:Int) (s:ByteArray):C.agg [ci k,ci n,ao s]=C.agg (aay ⟨k,n,s⟩):=rfl
theorem alO (x:V):V.mk x.k x.n x.s=x:=rfl
theorem aPm (x:Int) (r:List C):C.ref (aV x++r)=C.ref (ci x::r):=rfl
theorem aPl (x:List UInt8) (r:List C):C.ref (bd x++r)=C.ref (ao (ar x)::r):=rfl
theorem amH (x:Bool) (r:List C):C.ref (eP x++r)=C.ref (cb x::r):=rfl
theorem aV9 {α:Type} (f:α→List C) (x:List α) (r:List C):C.ref (lsC f x++r)=C.ref (slC f x::r):=rfl
theorem aEk (l) (i:Int):bF (TT.of Tryz.prog) 166 (.of (slC odC l)) (.of (.lit (.int .i64 i)))=fv (ey l i) fun x=>.of (.ref (odC x++fl odC (l.drop (i.toNat+1)))):=fW a2H auz (by decide) l i
theorem aCL (l):fh (some (.slice 219)) (.of (slC odC l))=out (ak l.length):=fj odC l rfl
theorem aGK (l) (i:Int):bF (TT.of Tryz.prog) 33 (.of (slC xpC l)) (.of (.lit (.int .i64 i)))=fv (ey l i) fun x=>.of (.ref (xpC x++fl xpC (l.drop (i.toNat+1)))):=fW E33 aiP (by decide) l i
theorem aGx (l):fh (some (.slice 88)) (.of (slC xpC l))=out (ak l.length):=fj xpC l rfl
theorem aGW (l):(fl xpC l).length=l.length*9:=kK (f:=xpC) (z:=9) aiP l
theorem aHp (tk tk':Tk) (cs0:List C) (n:Nat) (l):dh (TT.of Tryz.prog) tk 33 33 (.own tk' 88 9 cs0 n) (.of (slC xpC l))=if (fl xpC l).length=l.length*9∧n+l.length≤LIM then some (.own tk 88 9 (cs0++fl xpC l) (n+l.length),some tk') else none:=aaR E33 (by decide) (by decide) tk tk' cs0 n _ _ _ rfl
theorem aFc (tk:Tk) (xs:List X):bM tk 1 (Pe.elemOf (TT.of Tryz.prog) 33) (some [(0,xs)])=if xs.length=9 then bB ((X.rds xs).map fun cs=>.own tk 88 9 cs 1) else none:=acq E33 (by decide) (by decide) rfl tk xs
theorem aFe (tk:Tk):bM tk 0 (Pe.elemOf (TT.of Tryz.prog) 33) (some [])=out (.own tk 88 9 [] 0):=anj E33 (by decide) rfl tk
theorem azC (l) (i:Int):bF (TT.of Tryz.prog) 36 (.of (slC qyC l)) (.of (.lit (.int .i64 i)))=fv (ey l i) fun x=>.of (.ref (qyC x++fl qyC (l.drop (i.toNat+1)))):=fW E36 auv (by decide) l i
theorem azm (l):fh (some (.slice 168)) (.of (slC qyC l))=out (ak l.length):=fj qyC l rfl
theorem aGI (l) (i:Int):bF (TT.of Tryz.prog) 164 (.of (slC imC l)) (.of (.lit (.int .i64 i)))=fv (ey l i) fun x=>.of (.ref (imC x++fl imC (l.drop (i.toNat+1)))):=fW a2J aw5 (by decide) l i
theorem aGv (l):fh (some (.slice 188)) (.of (slC imC l))=out (ak l.length):=fj imC l rfl
theorem aGJ (l) (i:Int):bF (TT.of Tryz.prog) 165 (.of (slC fmC l)) (.of (.lit (.int .i64 i)))=fv (ey l i) fun x=>.of (.ref (fmC x++fl fmC (l.drop (i.toNat+1)))):=fW a2I axa (by decide) l i
theorem aGw (l):fh (some (.slice 210)) (.of (slC fmC l))=out (ak l.length):=fj fmC l rfl
theorem azF (l) (i:Int):bF (TT.of Tryz.prog) 29 (.of (slC cdC l)) (.of (.lit (.int .i64 i)))=fv (ey l i) fun x=>.of (.ref (cdC x++fl cdC (l.drop (i.toNat+1)))):=fW E29 ajc (by decide) l i
theorem azp (l):fh (some (.slice 53)) (.of (slC cdC l))=out (ak l.length):=fj cdC l rfl
theorem azL (l):(fl cdC l).length=l.length*3:=kK (f:=cdC) (z:=3) ajc l
theorem aAq (tk tk':Tk) (cs0:List C) (n:Nat) (l):dh (TT.of Tryz.prog) tk 29 29 (.own tk' 53 3 cs0 n) (.of (slC cdC l))=if (fl cdC l).length=l.length*3∧n+l.length≤LIM then some (.own tk 53 3 (cs0++fl cdC l) (n+l.length),some tk') else none:=aaR E29 (by decide) (by decide) tk tk' cs0 n _ _ _ rfl
theorem atV (tk:Tk) (xs:List X):bM tk 1 (Pe.elemOf (TT.of Tryz.prog) 29) (some [(0,xs)])=if xs.length=3 then bB ((X.rds xs).map fun cs=>.own tk 53 3 cs 1) else none:=acq E29 (by decide) (by decide) rfl tk xs
theorem atY (tk:Tk):bM tk 0 (Pe.elemOf (TT.of Tryz.prog) 29) (some [])=out (.own tk 53 3 [] 0):=anj E29 (by decide) rfl tk
theorem azD (l) (i:Int):bF (TT.of Tryz.prog) 31 (.of (slC kdC l)) (.of (.lit (.int .i64 i)))=fv (ey l i) fun x=>.of (.ref (kdC x++fl kdC (l.drop (i.toNat+1)))):=fW E31 aw3 (by decide) l i
theorem azn (l):fh (some (.slice 55)) (.of (slC kdC l))=out (ak l.length):=fj kdC l rfl
theorem atT (tk:Tk) (xs:List X):bM tk 1 (Pe.elemOf (TT.of Tryz.prog) 31) (some [(0,xs)])=if xs.length=2 then bB ((X.rds xs).map fun cs=>.own tk 55 2 cs 1) else none:=acq E31 (by decide) (by decide) rfl tk xs
theorem azB (l) (i:Int):bF (TT.of Tryz.prog) 32 (.of (slC rdC l)) (.of (.lit (.int .i64 i)))=fv (ey l i) fun x=>.of (.ref (rdC x++fl rdC (l.drop (i.toNat+1)))):=fW E32 auu (by decide) l i
theorem azl (l):fh (some (.slice 97)) (.of (slC rdC l))=out (ak l.length):=fj rdC l rfl
theorem azG (l) (i:Int):bF (TT.of Tryz.prog) 35 (.of (slC asC l)) (.of (.lit (.int .i64 i)))=fv (ey l i) fun x=>.of (.ref (asC x++fl asC (l.drop (i.toNat+1)))):=fW E35 ax2 (by decide) l i
theorem azq (l):fh (some (.slice 143)) (.of (slC asC l))=out (ak l.length):=fj asC l rfl
theorem aGH (l) (i:Int):bF (TT.of Tryz.prog) 22 (.of (slC smC l)) (.of (.lit (.int .i64 i)))=fv (ey l i) fun x=>.of (.ref (smC x++fl smC (l.drop (i.toNat+1)))):=fW E22 aup (by decide) l i
theorem aGu (l):fh (some (.slice 38)) (.of (slC smC l))=out (ak l.length):=fj smC l rfl
theorem aMh (l) (i:Int):bF (TT.of Tryz.prog) 45 (.of (slC kyC l)) (.of (.lit (.int .i64 i)))=fv (ey l i) fun x=>.of (.ref (kyC x++fl kyC (l.drop (i.toNat+1)))):=fW E45 auC (by decide) l i
theorem aL6 (l):fh (some (.slice 93)) (.of (slC kyC l))=out (ak l.length):=fj kyC l rfl
theorem aOs (tk tk' tk2:Tk) (cs0 cs:List C) (n m e2 z2:Nat):dh (TT.of Tryz.prog) tk 45 45 (.own tk' 93 3 cs0 n) (.own tk2 e2 z2 cs m)=if cs.length=m*3∧n+m≤LIM then some (.own tk 93 3 (cs0++cs) (n+m),some tk') else none:=aaR E45 (by decide) (by decide) tk tk' cs0 n _ cs m rfl
theorem aHt (tk tk2:Tk) (cs:List C) (m e2 z2:Nat):dh (TT.of Tryz.prog) tk 45 45 .nil (.own tk2 e2 z2 cs m)=if cs.length=m*3∧m≤LIM then some (.own tk 93 3 cs m,none) else none:=adU E45 (by decide) (by decide) tk _ cs m rfl
theorem aHm (tk:Tk) (xs:List X):bM tk 1 (Pe.elemOf (TT.of Tryz.prog) 45) (some [(0,xs)])=if xs.length=3 then bB ((X.rds xs).map fun cs=>.own tk 93 3 cs 1) else none:=acq E45 (by decide) (by decide) rfl tk xs
theorem aMg (l) (i:Int):bF (TT.of Tryz.prog) 46 (.of (slC rfC l)) (.of (.lit (.int .i64 i)))=fv (ey l i) fun x=>.of (.ref (rfC x++fl rfC (l.drop (i.toNat+1)))):=fW E46 auq (by decide) l i
theorem aL5 (l):fh (some (.slice 99)) (.of (slC rfC l))=out (ak l.length):=fj rfC l rfl
theorem aOr (tk tk' tk2:Tk) (cs0 cs:List C) (n m e2 z2:Nat):dh (TT.of Tryz.prog) tk 46 46 (.own tk' 99 3 cs0 n) (.own tk2 e2 z2 cs m)=if cs.length=m*3∧n+m≤LIM then some (.own tk 99 3 (cs0++cs) (n+m),some tk') else none:=aaR E46 (by decide) (by decide) tk tk' cs0 n _ cs m rfl
theorem aHs (tk tk2:Tk) (cs:List C) (m e2 z2:Nat):dh (TT.of Tryz.prog) tk 46 46 .nil (.own tk2 e2 z2 cs m)=if cs.length=m*3∧m≤LIM then some (.own tk 99 3 cs m,none) else none:=adU E46 (by decide) (by decide) tk _ cs m rfl
theorem aHl (tk:Tk) (xs:List X):bM tk 1 (Pe.elemOf (TT.of Tryz.prog) 46) (some [(0,xs)])=if xs.length=3 then bB ((X.rds xs).map fun cs=>.own tk 99 3 cs 1) else none:=acq E46 (by decide) (by decide) rfl tk xs
theorem aEj (l) (i:Int):bF (TT.of Tryz.prog) 24 (.of (slC tbC l)) (.of (.lit (.int .i64 i)))=fv (ey l i) fun x=>.of (.ref (tbC x++fl tbC (l.drop (i.toNat+1)))):=fW E24 aiS (by decide) l i
theorem aCK (l):fh (some (.slice 48)) (.of (slC tbC l))=out (ak l.length):=fj tbC l rfl
theorem aEs (l):(fl tbC l).length=l.length*6:=kK (f:=tbC) (z:=6) aiS l
theorem aFi (tk tk' tk2:Tk) (cs0 cs:List C) (n m e2 z2:Nat):dh (TT.of Tryz.prog) tk 24 24 (.own tk' 48 6 cs0 n) (.own tk2 e2 z2 cs m)=if cs.length=m*6∧n+m≤LIM then some (.own tk 48 6 (cs0++cs) (n+m),some tk') else none:=aaR E24 (by decide) (by decide) tk tk' cs0 n _ cs m rfl
theorem aAw (tk tk2:Tk) (cs:List C) (m e2 z2:Nat):dh (TT.of Tryz.prog) tk 24 24 .nil (.own tk2 e2 z2 cs m)=if cs.length=m*6∧m≤LIM then some (.own tk 48 6 cs m,none) else none:=adU E24 (by decide) (by decide) tk _ cs m rfl
theorem aFh (tk tk':Tk) (cs0:List C) (n:Nat) (l):dh (TT.of Tryz.prog) tk 24 24 (.own tk' 48 6 cs0 n) (.of (slC tbC l))=if (fl tbC l).length=l.length*6∧n+l.length≤LIM then some (.own tk 48 6 (cs0++fl tbC l) (n+l.length),some tk') else none:=aaR E24 (by decide) (by decide) tk tk' cs0 n _ _ _ rfl
theorem aAi (tk:Tk) (xs:List X):bM tk 1 (Pe.elemOf (TT.of Tryz.prog) 24) (some [(0,xs)])=if xs.length=6 then bB ((X.rds xs).map fun cs=>.own tk 48 6 cs 1) else none:=acq E24 (by decide) (by decide) rfl tk xs
theorem aAk (tk:Tk):bM tk 0 (Pe.elemOf (TT.of Tryz.prog) 24) (some [])=out (.own tk 48 6 [] 0):=anj E24 (by decide) rfl tk
theorem azE (l) (i:Int):bF (TT.of Tryz.prog) 25 (.of (slC ixC l)) (.of (.lit (.int .i64 i)))=fv (ey l i) fun x=>.of (.ref (ixC x++fl ixC (l.drop (i.toNat+1)))):=fW E25 adQ (by decide) l i
theorem aqn (l) (a:Int):fE (TT.of Tryz.prog) 25 (.of (slC ixC l)) (some (.of (.lit (.int .i64 a)))) none=fv (aa7 l a l.length) fun q=>.of (slC ixC q):=aFW E25 adQ l a
theorem aqp (l) (b:Int):fE (TT.of Tryz.prog) 25 (.of (slC ixC l)) none (some (.of (.lit (.int .i64 b))))=fv (aa7 l 0 b) fun q=>.of (slC ixC q):=ajV E25 adQ l b
theorem azo (l):fh (some (.slice 60)) (.of (slC ixC l))=out (ak l.length):=fj ixC l rfl
theorem azK (l):(fl ixC l).length=l.length*5:=kK (f:=ixC) (z:=5) adQ l
theorem aAs (tk tk' tk2:Tk) (cs0 cs:List C) (n m e2 z2:Nat):dh (TT.of Tryz.prog) tk 25 25 (.own tk' 60 5 cs0 n) (.own tk2 e2 z2 cs m)=if cs.length=m*5∧n+m≤LIM then some (.own tk 60 5 (cs0++cs) (n+m),some tk') else none:=aaR E25 (by decide) (by decide) tk tk' cs0 n _ cs m rfl
theorem at3 (tk tk2:Tk) (cs:List C) (m e2 z2:Nat):dh (TT.of Tryz.prog) tk 25 25 .nil (.own tk2 e2 z2 cs m)=if cs.length=m*5∧m≤LIM then some (.own tk 60 5 cs m,none) else none:=adU E25 (by decide) (by decide) tk _ cs m rfl
theorem aAp (tk tk':Tk) (cs0:List C) (n:Nat) (l):dh (TT.of Tryz.prog) tk 25 25 (.own tk' 60 5 cs0 n) (.of (slC ixC l))=if (fl ixC l).length=l.length*5∧n+l.length≤LIM then some (.own tk 60 5 (cs0++fl ixC l) (n+l.length),some tk') else none:=aaR E25 (by decide) (by decide) tk tk' cs0 n _ _ _ rfl
theorem atU (tk:Tk) (xs:List X):bM tk 1 (Pe.elemOf (TT.of Tryz.prog) 25) (some [(0,xs)])=if xs.length=5 then bB ((X.rds xs).map fun cs=>.own tk 60 5 cs 1) else none:=acq E25 (by decide) (by decide) rfl tk xs
theorem atX (tk:Tk):bM tk 0 (Pe.elemOf (TT.of Tryz.prog) 25) (some [])=out (.own tk 60 5 [] 0):=anj E25 (by decide) rfl tk
theorem azA (l) (i:Int):bF (TT.of Tryz.prog) 30 (.of (slC bd l)) (.of (.lit (.int .i64 i)))=fv (ey l i) fun x=>.of (.ref (bd x++fl bd (l.drop (i.toNat+1)))):=fW E30 (fun _=>rfl) (by decide) l i
theorem aqo (l) (b:Int):fE (TT.of Tryz.prog) 30 (.of (slC bd l)) none (some (.of (.lit (.int .i64 b))))=fv (aa7 l 0 b) fun q=>.of (slC bd q):=ajV E30 (fun _=>rfl) l b
theorem azk (l):fh (some (.slice 9)) (.of (slC bd l))=out (ak l.length):=fj bd l rfl
theorem aAr (tk tk' tk2:Tk) (cs0 cs:List C) (n m e2 z2:Nat):dh (TT.of Tryz.prog) tk 30 30 (.own tk' 9 1 cs0 n) (.own tk2 e2 z2 cs m)=if cs.length=m*1∧n+m≤LIM then some (.own tk 9 1 (cs0++cs) (n+m),some tk') else none:=aaR E30 (by decide) (by decide) tk tk' cs0 n _ cs m rfl
theorem at2 (tk tk2:Tk) (cs:List C) (m e2 z2:Nat):dh (TT.of Tryz.prog) tk 30 30 .nil (.own tk2 e2 z2 cs m)=if cs.length=m*1∧m≤LIM then some (.own tk 9 1 cs m,none) else none:=adU E30 (by decide) (by decide) tk _ cs m rfl
theorem atS (tk:Tk) (xs:List X):bM tk 1 (Pe.elemOf (TT.of Tryz.prog) 30) (some [(0,xs)])=if xs.length=1 then bB ((X.rds xs).map fun cs=>.own tk 9 1 cs 1) else none:=acq E30 (by decide) (by decide) rfl tk xs
theorem atW (tk:Tk):bM tk 0 (Pe.elemOf (TT.of Tryz.prog) 30) (some [])=out (.own tk 9 1 [] 0):=anj E30 (by decide) rfl tk
theorem aMf (l) (i:Int):bF (TT.of Tryz.prog) 58 (.of (slC aV l)) (.of (.lit (.int .i64 i)))=fv (ey l i) fun x=>.of (.ref (aV x++fl aV (l.drop (i.toNat+1)))):=fW E58 (fun _=>rfl) (by decide) l i
theorem aBB (l) (b:Int):fE (TT.of Tryz.prog) 58 (.of (slC aV l)) none (some (.of (.lit (.int .i64 b))))=fv (aa7 l 0 b) fun q=>.of (slC aV q):=ajV E58 (fun _=>rfl) l b
theorem aL4 (l):fh (some (.slice 3)) (.of (slC aV l))=out (ak l.length):=fj aV l rfl
theorem aMU (l):(fl aV l).length=l.length*1:=kK (f:=aV) (z:=1) (fun _=>rfl) l
theorem aOq (tk tk' tk2:Tk) (cs0 cs:List C) (n m e2 z2:Nat):dh (TT.of Tryz.prog) tk 58 58 (.own tk' 3 1 cs0 n) (.own tk2 e2 z2 cs m)=if cs.length=m*1∧n+m≤LIM then some (.own tk 3 1 (cs0++cs) (n+m),some tk') else none:=aaR E58 (by decide) (by decide) tk tk' cs0 n _ cs m rfl
theorem aHr (tk tk2:Tk) (cs:List C) (m e2 z2:Nat):dh (TT.of Tryz.prog) tk 58 58 .nil (.own tk2 e2 z2 cs m)=if cs.length=m*1∧m≤LIM then some (.own tk 3 1 cs m,none) else none:=adU E58 (by decide) (by decide) tk _ cs m rfl
theorem aOp (tk tk':Tk) (cs0:List C) (n:Nat) (l):dh (TT.of Tryz.prog) tk 58 58 (.own tk' 3 1 cs0 n) (.of (slC aV l))=if (fl aV l).length=l.length*1∧n+l.length≤LIM then some (.own tk 3 1 (cs0++fl aV l) (n+l.length),some tk') else none:=aaR E58 (by decide) (by decide) tk tk' cs0 n _ _ _ rfl
theorem aHk (tk:Tk) (xs:List X):bM tk 1 (Pe.elemOf (TT.of Tryz.prog) 58) (some [(0,xs)])=if xs.length=1 then bB ((X.rds xs).map fun cs=>.own tk 3 1 cs 1) else none:=acq E58 (by decide) (by decide) rfl tk xs
theorem aHn (tk:Tk):bM tk 0 (Pe.elemOf (TT.of Tryz.prog) 58) (some [])=out (.own tk 3 1 [] 0):=anj E58 (by decide) rfl tk
theorem atB (l) (i:Int):bF (TT.of Tryz.prog) 34 (.of (slC (lsC xpC) l)) (.of (.lit (.int .i64 i)))=fv (ey l i) fun x=>.of (.ref ((lsC xpC) x++fl (lsC xpC) (l.drop (i.toNat+1)))):=fW E34 (fun _=>rfl) (by decide) l i
theorem ats (l):fh (some (.slice 33)) (.of (slC (lsC xpC) l))=out (ak l.length):=fj (lsC xpC) l rfl
theorem aGG (l) (i:Int):bF (TT.of Tryz.prog) 114 (.of (slC (lsC aV) l)) (.of (.lit (.int .i64 i)))=fv (ey l i) fun x=>.of (.ref ((lsC aV) x++fl (lsC aV) (l.drop (i.toNat+1)))):=fW aUW (fun _=>rfl) (by decide) l i
theorem aGt (l):fh (some (.slice 58)) (.of (slC (lsC aV) l))=out (ak l.length):=fj (lsC aV) l rfl
theorem arz (l) (i:Int):bF (TT.of Tryz.prog) 132 (.of (slC (lsC ixC) l)) (.of (.lit (.int .i64 i)))=fv (ey l i) fun x=>.of (.ref ((lsC ixC) x++fl (lsC ixC) (l.drop (i.toNat+1)))):=fW aUV (fun _=>rfl) (by decide) l i
theorem ark (l):fh (some (.slice 25)) (.of (slC (lsC ixC) l))=out (ak l.length):=fj (lsC ixC) l rfl
theorem aQV (s:List UInt8) (i:Int):aak (TT.of Tryz.prog) 9 (.of (.lit (.string (ar s)))) (.of (.lit (.int .i64 i)))=fv (ey s i) fun c=>.of (.lit (.int .u8 (c.toNat:Nat))):=aEe (T:=TT.of Tryz.prog) (t:=9) U9 s i
def abx:=ai (ai (ai @aVS @aV8) (ai @aZx (ai @aZN @auz))) (ai (ai @anp (ai @a2u @aMq)) (ai @aMp (ai @aHA @a2y)))
def bK:=ai (ai (ai (ai (ai @aVK @aV2) (ai @aZ1 @aZp)) (ai (ai @azS @aF6) (ai @aLP @aF4))) (ai (ai (ai @aF7 @aF9) (ai @aF8 @aF5)) (ai (ai @aiP @T88) (ai @P88 (ai @Q88 @aTi))))) (ai (ai (ai (ai @aRj @aTh) (ai @aRi @aTg)) (ai (ai @aRh @aTf) (ai @aRf @aTe))) (ai (ai (ai @aRe @aTd) (ai @aRd @aTc)) (ai (ai @aRc @T33) (ai @Q33 (ai @alO @alN)))))
def dY:=ai (ai (ai (ai @aVR @aV7) (ai @aZ8 (ai @aZw @aZM))) (ai (ai @auv (ai @abL @a2x)) (ai @aMN (ai @aMM @aML)))) (ai (ai (ai @aMK @aMJ) (ai @aMI (ai @aMH @aMG))) (ai (ai @aMF (ai @aME @aGT)) (ai @aGS (ai @T36 @Q36))))
def jh:=ai (ai (ai (ai @aVX @aWd) (ai @a0d @aZC)) (ai (ai @aZR @aw5) (ai @akr @a2w))) (ai (ai (ai @aMD @aMC) (ai @aMB @aMA)) (ai (ai @aHC @a2A) (ai @azS (ai @alO @alN))))
def gV:=ai (ai (ai (ai @aVY @aWe) (ai @a0e @aZD)) (ai (ai @aZS @axa) (ai @agT @a2v))) (ai (ai (ai @aMw @aMv) (ai @aMu @aMt)) (ai (ai @aMs @aMr) (ai @aHB @a2z)))
def dw:=ai (ai (ai @aV0 (ai @aWf @a0g)) (ai @aZF (ai @aZU @ajc))) (ai (ai @T53 (ai @Q53 @aRv)) (ai (ai @aRu @T29) (ai @P29 @Q29)))
def jz:=ai (ai (ai @aVV (ai @aWb @a0b)) (ai @aZA (ai @aZP @aw3))) (ai (ai @T55 (ai @Q55 @aRt)) (ai @aRs (ai @T31 @Q31)))
def jy:=ai (ai (ai @aVQ (ai @aV6 @aZ7)) (ai @aZv (ai @aZL @auu))) (ai (ai @T97 (ai @Q97 @aQ8)) (ai (ai @aQ7 @aQ6) (ai @T32 @Q32)))
def j0:=ai (ai (ai @aV1 (ai @aWg @a0h)) (ai (ai @aZG @aZV) (ai @ax2 @aso))) (ai (ai (ai @a2B @aMP) (ai @aMO @T35)) (ai (ai @Q35 @azS) (ai @alO @alN)))
def fa:=ai (ai (ai (ai (ai @aVN @aV4) (ai @aZ4 @aZs)) (ai (ai @aZJ @aup) (ai @T38 (ai @P38 @Q38)))) (ai (ai (ai @aTv @aRM) (ai @aTu @aRL)) (ai (ai @aTt @aRK) (ai @aTs (ai @aRJ @aTr))))) (ai (ai (ai (ai @aRI @aTq) (ai @aRH @aTp)) (ai (ai @aRF @aTo) (ai @aRE (ai @aTn @aRD)))) (ai (ai (ai @aTm @aRC) (ai @aM0 @aMo)) (ai (ai @aMZ @aMn) (ai @aMY (ai @aMm @T22)))))
def il:=ai (ai (ai @aVU (ai @aWa @a0a)) (ai (ai @aZz @aZO) (ai @auC @T93))) (ai (ai @Q93 (ai @aRb @aRa)) (ai (ai @aQ9 @T45) (ai @P45 @Q45)))
def aaC:=ai (ai (ai @aVP (ai @aV5 @aZ6)) (ai (ai @aZu @aZK) (ai @auq @T99))) (ai (ai (ai @P99 @Q99) (ai @aQ5 @aQ4)) (ai (ai @aQ3 @T46) (ai @P46 @Q46)))
def dH:=ai (ai (ai (ai @aVL @aV3) (ai @aZ2 (ai @aZq @aZH))) (ai (ai @aiS @T48) (ai @P48 (ai @Q48 @aRB)))) (ai (ai (ai @aRA @aTl) (ai @aRz (ai @aTk @aRy))) (ai (ai @aTj (ai @aRx @aRw)) (ai @T24 (ai @P24 @Q24))))
def fb:=ai (ai (ai (ai @aVW @aWc) (ai @a0c @aZB)) (ai (ai @aZQ @adQ) (ai @T60 @P60))) (ai (ai (ai @Q60 @aRr) (ai @aRq @aRp)) (ai (ai @aRo @aRn) (ai @T25 (ai @P25 @Q25))))
def cU:=ai (ai (ai @aVZ (ai @a0f @aZE)) (ai (ai @aZT @aM5) (ai @T27 @P27))) (ai (ai @Q27 (ai @aTy @aRP)) (ai (ai @aTx @aRO) (ai @aTw @aRN)))
def aeD:=ai (ai (ai @aVT @aZ9) (ai @aZy @aL1)) (ai (ai @asq @a2E) (ai @aMT (ai @aMX @aMS)))
def jZ:=ai (ai (ai @aVM @aZ3) (ai @aZr (ai @aZI @aLn))) (ai (ai @asp @a2D) (ai @a2C (ai @aMR @aMQ)))
def aIe:=ai (ai (ai @aVO @aZ5) (ai @aZt @aLF)) (ai (ai @aAD @aMz) (ai @aMy @aMx))
def adY:=ai (ai (ai @aPg @alN) (ai @alO @T86)) (ai (ai @Q86 @aRm) (ai @aRl @aRk))
def ac5:=ai @aEk @aCL
def dR:=ai (ai @aGK (ai @aGx @aGW)) (ai @aHp (ai @aFc @aFe))
def ec:=ai @azC @azm
def kQ:=ai @aGI @aGv
def hU:=ai @aGJ @aGw
def cE:=ai (ai @azF (ai @azp @azL)) (ai @aAq (ai @atV @atY))
def gG:=ai @azD (ai @azn @atT)
def jA:=ai @azB @azl
def kT:=ai @azG @azq
def ajQ:=ai @aGH @aGu
def kb:=ai (ai @aMh @aL6) (ai @aOs (ai @aHt @aHm))
def abM:=ai (ai @aMg @aL5) (ai @aOr (ai @aHs @aHl))
def d9:=ai (ai (ai @aEj @aCK) (ai @aEs @aFi)) (ai (ai @aAw @aFh) (ai @aAi @aAk))
def cW:=ai (ai (ai @azE @aqn) (ai @aqp (ai @azo @azK))) (ai (ai @aAs @at3) (ai @aAp (ai @atU @atX)))
def bH:=ai (ai (ai @azA @aqo) (ai @azk @aAr)) (ai (ai @at2 @atS) (ai @atW (ai @T30 @Q30)))
def cV:=ai (ai (ai @aMf @aBB) (ai @aL4 (ai @aMU @aOq))) (ai (ai @aHr (ai @aOp @aHk)) (ai @aHn (ai @T58 @Q58)))
def fT:=ai (ai @atB @ats) (ai @T34 @Q34)
def ap0:=ai @aGG (ai @aGt @aUF)
def ag8:=ai @arz (ai @ark @aUD)
def zT0:=ai (ai (ai (ai @aPm @aPl) (ai @amH @aV9)) (ai (ai @aQV @T3) (ai @P3 @Q3))) (ai (ai (ai @T4 @Q4) (ai @T9 @Q9)) (ai (ai @U9 @T5) (ai @Q5 @T39)))
end Go.Proofs.YtjajlmjfddohfaaGreatDoor
namespace Go.Pe
theorem aL {P:Program} {pr:Pr} {c:Code} {s:S} {Q:Ex→S→Prop} (n:Nat) (I:Nat→S→Prop) (h0:I 0 s)
  (h:∀ k s,k≤n→I k s→WC P pr c s (fun e s'=>match e with
   | .normal=>k<n∧I (k+1) s'
   | e=>Q e s')):WC P pr (.loop c) s Q:=by
 refine aUr c Q (fun m s=>∃ k,k≤n∧m=n-k∧I k s) ?_ n s ⟨0,Nat.zero_le _,rfl,h0⟩
 rintro m s ⟨k,hk,rfl,hI⟩
 refine WC.mono (h k s hk hI) fun e s' hq=>?_
 cases e with
 | normal=>exact⟨n-(k+1),by omega,k+1,by omega,rfl,hq.2⟩
 | _=>exact hq
end Go.Pe
namespace Go.Proofs.YtjajlmjfddohfaaGreatDoor
open Go Go.Pe Go.Tab
theorem aQ (n:Nat) (h:n<4611686018427387904):IntKind.i64.wrap ((n:Int)+1)=((n+1:Nat):Int):=by rw[da _ (by omega) (by omega)];rfl
theorem aFN (a b:List UInt8):ar a++ar b=ar (a++b):=by
 apply ayv.1
 simp[ar]
theorem al1 {P:Program} {T:TT} {t:Nat} {u:Option TypeDesc} (a b:List UInt8):dX P T t u .add (.of (.lit (.string (ar a)))) (.of (.lit (.string (ar b))))=if a.length+b.length≤aba then out (dA (ar (a++b))) else none:=by
 rw[Z1u,abR,abR,aFN]
theorem aFy (u:TypeDesc) (n b:Nat) (a:Bool) (z:List Value) (f:List (Nat×Nat)):dG ⟨u,n,b,a,z,f⟩=z.map iV:=rfl
theorem av (a b:List UInt8):(ar a=ar b)=(a=b):=propext ⟨aFM,fun h=>h▸rfl⟩
theorem bI (a:List UInt8):(ar a=({data:=#[]}:ByteArray))=(a=[]):=av a []
theorem aa (a b:Nat):((a:Int)<(b:Int))=(a<b):=propext Int.ofNat_lt
theorem aHi (P:Program) (t n b:Nat) (a:Bool) (fs:Array Field) (z:List Value) (fl:List (Nat×Nat)) (qs:List (Nat×List X)):asf P t (some ⟨.struct fs,n,b,a,z,fl⟩) (some qs)=bB ((eC (fun i=>fl[i]?) (dG ⟨.struct fs,n,b,a,z,fl⟩) qs).map .agg):=rfl
theorem a0I (x:X):Option.map (fun p:X×Option Tk=>p.1) (out x)=some x:=rfl
theorem aGV (f:Nat) (cs:List C):fnX f (some cs)=out (.of (.fn f cs)):=rfl
def zG:=ai (ai (ai (ai @anR @aBN) (ai @aLH @aEK)) (ai (ai @aFy @aHi) (ai @a0I (ai @bI @aGV)))) (ai (ai (ai @Z2x @aVJ) (ai @aRQ @arw)) (ai (ai @abR @aPo) (ai @aWi (ai @auw @aWj))))
def zH:=ai (ai (ai @not_true_eq_false @not_false_eq_true) (ai @decide_true (ai @decide_false @Bool.not_true))) (ai (ai @Bool.not_false (ai @Bool.true_and @Bool.false_and)) (ai @Bool.and_true (ai @Bool.and_false @Bool.and_self)))
def zq:=ai (ai @zU @zB) (ai @zG @zH)
def zA:=ai @zD @zE
def amm:=ai (ai (ai @zq @aZd) (ai @cU @dH)) (ai (ai @d9 @Q9) (ai @zT0 (ai @aDM (aw aSJ))))
theorem acJ (c:Ct) (nm:List UInt8) (h:c.tbs.length≤4611686018427387903):G1 37 [.of (.agg (ctC c)),.of (ao (ar nm))] (ak (bE (fun t=>decide (t.nm=nm)) c.tbs)):=by
 refine aj rfl aSJ aDM rfl ?_
 simp -implicitDefEqProofs(maxSteps:=9^9)only[Tryz.f37,↓zA,sevalprocAttr,amm]
 refine aL c.tbs.length (fun k s=>s.fr 1=dA (ar nm)∧s.fr 2=.of (.ref [slC tbC c.tbs,slC ixC c.ixs,ci c.nx])∧s.fr 5=ak k∧s.objs=[]∧bE (fun t=>decide (t.nm=nm)) c.tbs=bJ (fun t=>decide (t.nm=nm)) k (c.tbs.drop k)) ?_ ?_
 .simp -implicitDefEqProofs(maxSteps:=9^9)only[Tryz.f37,↓zA,sevalprocAttr,amm]
  exact rfl
 .rintro k s hk ⟨f1,f2,f5,ho,E⟩
  rcases Nat.lt_or_ge k c.tbs.length with c1|c1
  .have hw:=aQ k (by omega)
   rw[aJ c1,bJ] at E
   simp -implicitDefEqProofs(maxSteps:=9^9)only[Tryz.f37,↓zA,sevalprocAttr,amm,f1,f2,f5,ho,aa,c1,ap c1,hw,av]
   by_cases c2:c.tbs[k].nm=nm
   .simp only[c2,decide_true,if_true] at E
    simp -implicitDefEqProofs(maxSteps:=9^9)only[Tryz.f37,↓zA,sevalprocAttr,amm,c2,E]
   .simp only[c2,decide_false,Bool.false_eq_true,if_false] at E
    simp -implicitDefEqProofs(maxSteps:=9^9)only[Tryz.f37,↓zA,sevalprocAttr,amm,c2,E]
  .have e:k=c.tbs.length:=by omega
   subst e
   rw[List.drop_length,bJ] at E
   simp -implicitDefEqProofs(maxSteps:=9^9)only[Tryz.f37,↓zA,sevalprocAttr,amm,f1,f2,f5,ho,aa,Nat.lt_irrefl,E]
end Go.Proofs.YtjajlmjfddohfaaGreatDoor
namespace Go.Tab
deriving instance DecidableEq for Od,Cd
end Go.Tab
namespace Go.Proofs.YtjajlmjfddohfaaGreatDoor
open Go Go.Pe Go.Tab
def FnB {α:Type} (A:α→C) (g:Nat) (cp:List C) (p:α→Bool) (l:List α):Prop:=aD g=false∧ab Tryz.prog g=true∧∀ x∈l,G1 g (.of (A x)::cp.map .of) (ah (p x))
def abb {α:Type} (A:α→C) (g:Nat) (cp:List C) (p:α→α→Bool) (l:List α) (m:List α):Prop:=aD g=false∧ab Tryz.prog g=true∧∀ x∈l,∀ y∈m,G1 g (.of (A x)::.of (A y)::cp.map .of) (ah (p x y))
theorem aw7 {α:Type} (p:α→Bool):∀ (l:List α) (k:Nat),bJ p k l=-1∧l.any p=false∨(k:Int)≤bJ p k l∧l.any p=true
 | [],k=>by simp[bJ]
 | x::r,k=>by
  simp only[bJ,List.any_cons]
  cases hp:p x
  .simp only[Bool.false_eq_true,if_false,Bool.false_or]
   rcases aw7 p r (k+1) with h|h
   .exact .inl h
   .exact .inr ⟨by omega,h.2⟩
  .exact .inr ⟨by simp,rfl⟩
theorem fx {α:Type} (p:α→Bool) (l:List α):decide (0≤bE p l)=l.any p:=by
 rcases aw7 p l 0 with h|h
 .rw[bE,h.1,h.2];rfl
 .rw[h.2];exact decide_eq_true h.1
theorem ary {α:Type} [DecidableEq α] (v:α) (l:List α) [Decidable (v∈l)]:decide (0≤bE (fun x=>decide (v=x)) l)=decide (v∈l):=by
 rw[fx,Bool.eq_iff_iff]
 simp
theorem bV (a b:Nat):((a:Int)=(b:Int))=(a=b):=propext Int.natCast_inj
def eqR {α:Type} (q:α→α→Bool):List α→List α→Bool
 | [],[]=>true
 | x::l,y::m=>q x y&&eqR q l m
 | _,_=>false
theorem jI {α:Type} (q:α→α→Bool):∀ l m:List α,¬l.length=m.length→eqR q l m=false
 | [],[],h=>absurd rfl h
 | [],_::_,_=>rfl
 | _::_,[],_=>rfl
 | x::l,y::m,h=>by
  rw[eqR,jI q l m (fun e=>h (by simp[e])),Bool.and_false]
theorem afB {α:Type} [DecidableEq α] (q:α→α→Bool):∀ l m:List α,(∀ x∈l,∀ y∈m,q x y=decide (x=y))→eqR q l m=decide (l=m)
 | [],[],_=>by simp[eqR]
 | [],_::_,_=>by simp[eqR]
 | _::_,[],_=>by simp[eqR]
 | x::l,y::m,h=>by
  rw[eqR,h x (by simp) y (by simp),afB q l m (fun a ha b hb=>h a (by simp[ha]) b (by simp[hb])),Bool.eq_iff_iff]
  simp
theorem aki {P:Program} {T:TT} {t:Nat} {u:Option TypeDesc} {cs ds:List C} {b:Bool} (h:aah P T t cs ds=some b):dX P T t u .eql (.of (.agg cs)) (.of (.agg ds))=out (ah b)∧dX P T t u .neq (.of (.agg cs)) (.of (.agg ds))=out (ah (!b)):=by
 constructor
 .simp only[dX,dN,X.rd,adb,h]
  rfl
 .simp only[dX,dN,X.rd,adb,h]
  rfl
theorem ayt (a c:V):(a.k=c.k∧a.n=c.n∧a.s=c.s)=(a=c):=by
 apply propext
 constructor
 .rintro⟨h1,h2,h3⟩
  cases a;cases c
  simp only at h1 h2 h3
  rw[h1,h2,h3]
 .rintro rfl;exact⟨rfl,rfl,rfl⟩
theorem aTE (a c:Cd):(a.nm=c.nm∧a.ty=c.ty∧a.nn=c.nn)=(a=c):=by
 apply propext
 constructor
 .rintro⟨h1,h2,h3⟩
  cases a;cases c
  simp only at h1 h2 h3
  rw[h1,h2,h3]
 .rintro rfl;exact⟨rfl,rfl,rfl⟩
theorem aPw (a c:Od):(a.nm=c.nm∧a.pl=c.pl∧a.dn=c.dn)=(a=c):=by
 apply propext
 constructor
 .rintro⟨h1,h2,h3⟩
  cases a;cases c
  simp only at h1 h2 h3
  rw[h1,h2,h3]
 .rintro rfl;exact⟨rfl,rfl,rfl⟩
theorem aQY:Tryz.prog.stoodInHeld 86=false:=by kernel_rfl
theorem aMk:Tryz.prog.eqGuardType Tryz.prog.depth 86=false:=by kernel_rfl
theorem aMj:Tryz.prog.stoodInHeld 53=false:=by kernel_rfl
theorem aGM:Tryz.prog.eqGuardType Tryz.prog.depth 53=false:=by kernel_rfl
theorem aMi:Tryz.prog.stoodInHeld 219=false:=by kernel_rfl
theorem aGL:Tryz.prog.eqGuardType Tryz.prog.depth 219=false:=by kernel_rfl
theorem aog (x y:V):aah Tryz.prog (TT.of Tryz.prog) 86 (aay x) (aay y)=some (decide (x=y)):=by
 simp only[aah,T86,aQY,aMk,and_self,if_true,aay,jJ,T3,T9,Option.map_some,afd,adH,← ayt]
 by_cases h1:x.k=y.k
 .by_cases h2:x.n=y.n
  .by_cases h3:x.s=y.s
   .simp[h1,h2,h3]
   .simp[h1,h2,h3]
  .simp[h1,h2]
 .simp[h1]
theorem azT (x y:Cd):aah Tryz.prog (TT.of Tryz.prog) 53 (cdC x) (cdC y)=some (decide (x=y)):=by
 simp only[aah,T53,aMj,aGM,and_self,if_true,afC,jJ,T3,T9,T4,Option.map_some,afd,adH,← aTE]
 by_cases h1:x.nm=y.nm
 .by_cases h2:x.ty=y.ty
  .by_cases h3:x.nn=y.nn
   .simp[h1,h2,h3]
   .simp[h1,h2,h3]
  .simp[h1,h2]
 .simp[h1,av]
theorem aEz (x y:Od):aah Tryz.prog (TT.of Tryz.prog) 219 (odC x) (odC y)=some (decide (x=y)):=by
 simp only[aah,anp,aMi,aGL,and_self,if_true,ahC,jJ,T3,T9,T4,Option.map_some,afd,adH,← aPw]
 by_cases h1:x.nm=y.nm
 .by_cases h2:x.pl=y.pl
  .by_cases h3:x.dn=y.dn
   .simp[h1,h2,h3]
   .simp[h1,h2,h3]
  .simp[h1,h2]
 .simp[h1,av]
def aX:=fun (u:Option TypeDesc) (x y:V)=>aki (u:=u) (aog x y)
def eh:=fun (u:Option TypeDesc) (x y:Cd)=>aki (u:=u) (azT x y)
def kP:=fun (u:Option TypeDesc) (x y:Od)=>aki (u:=u) (aEz x y)
def szP (a:Nat×Nat):Sz:=⟨a.1,a.2⟩
theorem akM (a:Nat×Nat):(szP a).nd=a.1:=rfl
theorem akN (a:Nat×Nat):(szP a).dp=a.2:=rfl
def FnS {α:Type} (A:α→C) (g:Nat) (cp:List C) (w:α→Nat×Nat) (l:List α):Prop:=aD g=false∧ab Tryz.prog g=true∧∀ x∈l,G1 g (.of (A x)::cp.map .of) (.of (.agg (szC (szP (w x)))))
theorem jr {α:Type} (w:α→Nat×Nat) (x:α) (r:List α):aH w (x::r)=aM (w x) (aH w r):=rfl
theorem afK (a b:Nat×Nat):(aM a b).1=a.1+b.1:=rfl
def am {α:Type} (l:List α) (a b:Int) (p:α→Bool):Bool:=decide (a≤(l.length:Int))&&decide ((l.length:Int)≤b)&&l.all p
theorem ii {α:Type} (p:α→Bool) (l:List α):l.any (fun x=>!p x)=!l.all p:=by
 induction l with
 | nil=>rfl
 | cons x r ih=>simp[List.any_cons,List.all_cons,ih]
theorem azh (n:Int):(n<0)=¬(0≤n):=propext (by omega)
theorem okT {c:Nat} {t:Tk} (h:Old c t) {d:Nat} (hd:c≤d) (af:List Edge):gJ d af (some t)=true:=by
 obtain⟨n,rfl⟩:=Nat.exists_eq_add_of_le hd
 exact Z69 (aLU h n) af
theorem bS (n:Nat):((0:Int)<(n:Int))=(0<n):=propext (by omega)
theorem agE (a b:Int):(b≤a)=¬(a<b):=propext (by omega)
theorem gR {α:Type} {l:List α} {k:Nat} (h:k<l.length):l.take (k+1)=l.take k++[l[k]]:=by rw[List.take_add_one,List.getElem?_eq_getElem h];rfl
theorem als {α:Type} {l:List α} {k:Nat} (h:k<l.length) (x:α):(x∈l.take (k+1))=(x∈l.take k∨l[k]=x):=by
 rw[gR h,List.mem_append,List.mem_singleton,eq_comm (a:=x)]
def apT:=ai (ai @zq (ai @dw @cE)) (ai (ai @Q9 @zT0) (ai @aC5 (aw aR4)))
theorem ati (l:List Cd) (nm:List UInt8) (h:l.length≤4611686018427387903):G1 85 [.of (slC cdC l),.of (ao (ar nm))] (ak (bE (fun x=>decide (x.nm=nm)) l)):=by
 refine aj rfl aR4 aC5 rfl ?_
 simp -implicitDefEqProofs(maxSteps:=9^9)only[Tryz.f85,↓zA,sevalprocAttr,apT]
 refine aL (l.length) (fun k tk=>tk.fr 0=.of (slC cdC l)∧tk.fr 1=dA (ar nm)∧tk.fr 5=ak k∧tk.objs=[]∧bE (fun x=>decide (x.nm=nm)) l=bJ (fun x=>decide (x.nm=nm)) k (l.drop k)) ?_ ?_
 .simp -implicitDefEqProofs(maxSteps:=9^9)only[Tryz.f85,↓zA,sevalprocAttr,apT]
  exact rfl
 rintro k ⟨frk,obk,ckk⟩ hk ⟨f0,f1,f5,fo,Ek⟩
 dsimp only at f0 f1 f5 fo
 rcases Nat.lt_or_ge k (l.length) with dk|dk
 .have hw:=aQ k (by omega)
  have gx:=ap dk
  rw[aJ dk,bJ] at Ek
  generalize l[k]=x at *
  by_cases c2:x.nm=nm
  .simp only[c2,decide_true,if_true] at Ek
   simp -implicitDefEqProofs(maxSteps:=9^9)only[Tryz.f85,↓zA,sevalprocAttr,apT,f0,f1,f5,fo,aa,dk,gx,hw,av,eq_true c2,Ek]
  .simp only[c2,decide_false,Bool.false_eq_true,if_false] at Ek
   simp -implicitDefEqProofs(maxSteps:=9^9)only[Tryz.f85,↓zA,sevalprocAttr,apT,f0,f1,f5,fo,aa,dk,gx,hw,av,c2,Ek]
 .have e:k=l.length:=by omega
  subst e
  rw[List.drop_length,bJ] at Ek
  simp -implicitDefEqProofs(maxSteps:=9^9)only[Tryz.f85,↓zA,sevalprocAttr,apT,f0,f1,f5,fo,aa,Nat.lt_irrefl,Ek]
theorem aqK (l:List Cd) (nm:List UInt8) (h:l.length≤4611686018427387903) (K:An→Prop):aG Tryz.prog pr 85 [.of (slC cdC l),.of (ao (ar nm))] [] K↔K ⟨false,[ak (bE (fun x=>decide (x.nm=nm)) l)],[]⟩:=ae.k (ati l nm h) K
def apV:=ai (ai (ai @zq @aZc) (ai @cU @fb)) (ai (ai @cW @Q9) (ai @zT0 (ai @aDp (aw aSn))))
theorem aoQ (c:Ct) (nm:List UInt8) (h:c.ixs.length≤4611686018427387903):G1 64 [.of (.agg (ctC c)),.of (ao (ar nm))] (ak (bE (fun x=>decide (x.nm=nm)) c.ixs)):=by
 refine aj rfl aSn aDp rfl ?_
 simp -implicitDefEqProofs(maxSteps:=9^9)only[Tryz.f64,↓zA,sevalprocAttr,apV]
 refine aL (c.ixs.length) (fun k tk=>tk.fr 1=dA (ar nm)∧tk.fr 2=.of (.ref [slC tbC c.tbs,slC ixC c.ixs,ci c.nx])∧tk.fr 5=ak k∧tk.objs=[]∧bE (fun x=>decide (x.nm=nm)) c.ixs=bJ (fun x=>decide (x.nm=nm)) k (c.ixs.drop k)) ?_ ?_
 .simp -implicitDefEqProofs(maxSteps:=9^9)only[Tryz.f64,↓zA,sevalprocAttr,apV]
  exact rfl
 rintro k ⟨frk,obk,ckk⟩ hk ⟨f1,f2,f5,fo,Ek⟩
 dsimp only at f1 f2 f5 fo
 rcases Nat.lt_or_ge k (c.ixs.length) with dk|dk
 .have hw:=aQ k (by omega)
  have gx:=ap dk
  rw[aJ dk,bJ] at Ek
  generalize c.ixs[k]=x at *
  by_cases c2:x.nm=nm
  .simp only[c2,decide_true,if_true] at Ek
   simp -implicitDefEqProofs(maxSteps:=9^9)only[Tryz.f64,↓zA,sevalprocAttr,apV,f1,f2,f5,fo,aa,dk,gx,hw,av,eq_true c2,Ek]
  .simp only[c2,decide_false,Bool.false_eq_true,if_false] at Ek
   simp -implicitDefEqProofs(maxSteps:=9^9)only[Tryz.f64,↓zA,sevalprocAttr,apV,f1,f2,f5,fo,aa,dk,gx,hw,av,c2,Ek]
 .have e:k=c.ixs.length:=by omega
  subst e
  rw[List.drop_length,bJ] at Ek
  simp -implicitDefEqProofs(maxSteps:=9^9)only[Tryz.f64,↓zA,sevalprocAttr,apV,f1,f2,f5,fo,aa,Nat.lt_irrefl,Ek]
theorem ady (c:Ct) (nm:List UInt8) (h:c.ixs.length≤4611686018427387903) (K:An→Prop):aG Tryz.prog pr 64 [.of (.agg (ctC c)),.of (ao (ar nm))] [] K↔K ⟨false,[ak (bE (fun x=>decide (x.nm=nm)) c.ixs)],[]⟩:=ae.k (aoQ c nm h) K
def amk:=ai (ai @zq (ai @cV @P3)) (ai (ai @Q3 @zT0) (ai @aDj (aw aSh)))
theorem aFo (l m:List Int) (hl:l.length≤4611686018427387903):G1 70 [.of (slC aV l),.of (slC aV m)] (ah (decide (l=m))):=by
 have er:eqR (fun x y=>decide (x=y)) l m=decide (l=m):=afB _ l m fun _ _ _ _=>rfl
 rw[← er]
 refine aj rfl aSh aDj rfl ?_
 simp -implicitDefEqProofs(maxSteps:=9^9)only[Tryz.f70,↓zA,sevalprocAttr,amk]
 refine aL (l.length) (fun k tk=>tk.fr 0=.of (slC aV l)∧tk.fr 1=.of (slC aV m)∧tk.fr 5=ak k∧tk.objs=[]∧eqR (fun x y=>decide (x=y)) l m=eqR (fun x y=>decide (x=y)) (l.drop k) (m.drop k)) ?_ ?_
 .simp -implicitDefEqProofs(maxSteps:=9^9)only[Tryz.f70,↓zA,sevalprocAttr,amk]
  try exact rfl
 rintro k ⟨frk,obk,ckk⟩ hk ⟨f0,f1,f5,fo,Ek⟩
 dsimp only at f0 f1 f5 fo
 by_cases d:k<l.length∧k<m.length
 .obtain⟨d1,d2⟩:=d
  have hw:=aQ k (by omega)
  have gx:=ap d1
  have gy:=ap d2
  rw[aJ d1,aJ d2,eqR] at Ek
  generalize l[k]=x at *
  generalize m[k]=y at *
  by_cases c0:x=y
  .rw[decide_eq_true c0,Bool.true_and] at Ek
   simp -implicitDefEqProofs(maxSteps:=9^9)only[Tryz.f70,↓zA,sevalprocAttr,amk,f0,f1,f5,fo,aa,d1,d2,gx,gy,hw,eq_true c0,Ek]
  .rw[decide_eq_false c0,Bool.false_and] at Ek
   simp -implicitDefEqProofs(maxSteps:=9^9)only[Tryz.f70,↓zA,sevalprocAttr,amk,f0,f1,f5,fo,aa,d1,d2,gx,gy,hw,c0,Ek]
 .have F:eqR (fun x y=>decide (x=y)) l m=decide (l.length=m.length):=by
   by_cases e:l.length=m.length
   .have h1:l.length≤k:=by omega
    rw[Ek,List.drop_of_length_le h1,List.drop_of_length_le (by omega),decide_eq_true e];rfl
   .rw[jI _ l m e,decide_eq_false e]
  by_cases d1:k<l.length
  .have d2:¬k<m.length:=fun h=>d ⟨d1,h⟩
   simp -implicitDefEqProofs(maxSteps:=9^9)only[Tryz.f70,↓zA,sevalprocAttr,amk,f0,f1,f5,fo,aa,d1,d2,F,bV]
  .simp -implicitDefEqProofs(maxSteps:=9^9)only[Tryz.f70,↓zA,sevalprocAttr,amk,f0,f1,f5,fo,aa,d1,F,bV]
theorem act (l m:List Int) (K:An→Prop):aG Tryz.prog pr 70 [.of (slC aV l),.of (slC aV m)] [] K↔ifP (l.length≤4611686018427387903) (K ⟨false,[ah (decide (l=m))],[]⟩) (fp Tryz.prog pr 70 [.of (slC aV l),.of (slC aV m)] K):=hZ (aFo l m) K
def apS:=ai (ai (ai @zq @apE) (ai @al3 @il)) (ai (ai @kb @cV) (ai @zT0 (ai @aC3 (aw aR2))))
theorem ae9 (l:List Ky) (to:List Int) (h:l.length≤4611686018427387903) (hks:∀ k∈l,k.cs.length≤4611686018427387903):G1 87 [.of (slC kyC l),.of (slC aV to)] (ah (fF l to)):=by
 refine aj rfl aR2 aC3 rfl ?_
 simp -implicitDefEqProofs(maxSteps:=9^9)only[Tryz.f87,↓zA,sevalprocAttr,apS]
 refine aL (l.length) (fun k tk=>tk.fr 0=.of (slC kyC l)∧tk.fr 1=.of (slC aV to)∧tk.fr 5=ak k∧tk.objs=[]∧fF l to=fF (l.drop k) to) ?_ ?_
 .simp -implicitDefEqProofs(maxSteps:=9^9)only[Tryz.f87,↓zA,sevalprocAttr,apS]
  try exact rfl
 rintro k ⟨frk,obk,ckk⟩ hk ⟨f0,f1,f5,fo,Ek⟩
 dsimp only at f0 f1 f5 fo
 rcases Nat.lt_or_ge k (l.length) with dk|dk
 .have hw:=aQ k (by omega)
  have gx:=ap dk
  have hx:=hks _ (List.getElem_mem dk)
  rw[aJ dk,atC] at Ek
  generalize l[k]=x at *
  by_cases c2:x.cs=to
  .rw[decide_eq_true c2,Bool.true_or] at Ek
   simp -implicitDefEqProofs(maxSteps:=9^9)only[Tryz.f87,↓zA,sevalprocAttr,apS,f0,f1,f5,fo,aa,dk,gx,hw,act,hx,eq_true c2,Ek]
  .rw[decide_eq_false c2,Bool.false_or] at Ek
   simp -implicitDefEqProofs(maxSteps:=9^9)only[Tryz.f87,↓zA,sevalprocAttr,apS,f0,f1,f5,fo,aa,dk,gx,hw,act,hx,c2,Ek]
 .have e:k=l.length:=by omega
  subst e
  rw[List.drop_length] at Ek
  change fF l to=false at Ek
  simp -implicitDefEqProofs(maxSteps:=9^9)only[Tryz.f87,↓zA,sevalprocAttr,apS,f0,f1,f5,fo,aa,Nat.lt_irrefl,Ek]
def amh:=ai (ai (ai @zq @dw) (ai @cE @cV)) (ai (ai @P3 @Q3) (ai @zT0 (ai @aC2 (aw aR1))))
theorem agb (a b:List Cd) (x y:List Int) (hl:x.length≤4611686018427387903) (hx:∀ i∈x,0≤i∧i<(a.length:Int)) (hy:∀ i∈y,0≤i∧i<(b.length:Int)):G1 88 [.of (slC cdC a),.of (slC aV x),.of (slC cdC b),.of (slC aV y)] (ah (iI a b x y&&decide (x.length=y.length))):=by
 refine aj rfl aR1 aC2 rfl ?_
 simp -implicitDefEqProofs(maxSteps:=9^9)only[Tryz.f88,↓zA,sevalprocAttr,amh]
 refine aL (x.length) (fun k tk=>tk.fr 0=.of (slC cdC a)∧tk.fr 1=.of (slC aV x)∧tk.fr 2=.of (slC cdC b)∧tk.fr 3=.of (slC aV y)∧tk.fr 9=ak k∧tk.objs=[]∧iI a b x y=iI a b (x.drop k) (y.drop k)) ?_ ?_
 .simp -implicitDefEqProofs(maxSteps:=9^9)only[Tryz.f88,↓zA,sevalprocAttr,amh]
  try exact rfl
 rintro k ⟨frk,obk,ckk⟩ hk ⟨f0,f1,f2,f3,f9,fo,Ek⟩
 dsimp only at f0 f1 f2 f3 f9 fo
 by_cases d:k<x.length∧k<y.length
 .obtain⟨d1,d2⟩:=d
  have hw:=aQ k (by omega)
  have gx:=ap d1
  have gy:=ap d2
  obtain⟨i,hi⟩:=Int.eq_ofNat_of_zero_le (hx _ (List.getElem_mem d1)).1
  obtain⟨j,hj⟩:=Int.eq_ofNat_of_zero_le (hy _ (List.getElem_mem d2)).1
  have hi2:=(hx _ (List.getElem_mem d1)).2
  have hj2:=(hy _ (List.getElem_mem d2)).2
  rw[aJ d1,aJ d2,iI] at Ek
  rw[hi] at hi2 gx Ek
  rw[hj] at hj2 gy Ek
  have hi3:i<a.length:=by omega
  have hj3:j<b.length:=by omega
  have ga:=ap hi3
  have gb:=ap hj3
  have ea:kj a (i:Int)=some a[i].ty:=by simp[kj,hi3]
  have eb:kj b (j:Int)=some b[j].ty:=by simp[kj,hj3]
  rw[ea,eb] at Ek
  generalize a[i]=p at *
  generalize b[j]=q at *
  by_cases c0:p.ty=q.ty
  .rw[c0,decide_eq_true rfl,Bool.true_and] at Ek
   simp -implicitDefEqProofs(maxSteps:=9^9)only[Tryz.f88,↓zA,sevalprocAttr,amh,f0,f1,f2,f3,f9,fo,aa,d1,d2,gx,gy,ga,gb,hw,eq_true c0,Ek]
  .have c1:¬some p.ty=some q.ty:=fun e=>c0 (Option.some.inj e)
   rw[decide_eq_false c1,Bool.false_and] at Ek
   simp -implicitDefEqProofs(maxSteps:=9^9)only[Tryz.f88,↓zA,sevalprocAttr,amh,f0,f1,f2,f3,f9,fo,aa,d1,d2,gx,gy,ga,gb,hw,c0,Ek]
 .have F:iI a b x y=true:=by
   rw[Ek]
   by_cases e:k<x.length
   .rw[List.drop_of_length_le (l:=y) (by omega)]
    cases x.drop k <;> rfl
   .rw[List.drop_of_length_le (l:=x) (by omega)]
    simp[iI]
  by_cases d1:k<x.length
  .have d2:¬k<y.length:=fun h=>d ⟨d1,h⟩
   simp -implicitDefEqProofs(maxSteps:=9^9)only[Tryz.f88,↓zA,sevalprocAttr,amh,f0,f1,f2,f3,f9,fo,aa,d1,d2,F,bV]
  .simp -implicitDefEqProofs(maxSteps:=9^9)only[Tryz.f88,↓zA,sevalprocAttr,amh,f0,f1,f2,f3,f9,fo,aa,d1,F,bV]
def ag5:=ai (ai @zq (ai @bH @Q9)) (ai @zT0 (ai @aDo (aw aSm)))
theorem aoN (l:List (List UInt8)) (h:l.length≤4611686018427387903):G1 65 [.of (slC bd l)] (ah (!decide l.Nodup)):=by
 rw[← akq]
 refine aj rfl aSm aDo rfl ?_
 simp -implicitDefEqProofs(maxSteps:=9^9)only[Tryz.f65,↓zA,sevalprocAttr,ag5]
 refine aL (l.length) (fun k tk=>tk.fr 0=.of (slC bd l)∧tk.fr 3=ak k∧tk.objs=[]∧bi (aec l) 0 l=bi (aec l) k (l.drop k)) ?_ ?_
 .simp -implicitDefEqProofs(maxSteps:=9^9)only[Tryz.f65,↓zA,sevalprocAttr,ag5]
  try exact rfl
 rintro k ⟨frk,obk,ckk⟩ hk ⟨f0,f3,fo,Ek⟩
 dsimp only at f0 f3 fo
 rcases Nat.lt_or_ge k (l.length) with dk|dk
 .have hw:=aQ k (by omega)
  have gx:=ap dk
  rw[aJ dk,jw] at Ek
  generalize hx:l[k]=x at *
  simp -implicitDefEqProofs(maxSteps:=9^9)only[Tryz.f65,↓zA,sevalprocAttr,ag5,f0,f3,fo,aa,dk]
  refine aL (k) (fun j tj=>tj.fr 0=.of (slC bd l)∧tj.fr 3=ak k∧tj.fr 4=ak j∧tj.objs=[]∧x∉l.take j) ?_ ?_
  .simp -implicitDefEqProofs(maxSteps:=9^9)only[Tryz.f65,↓zA,sevalprocAttr,ag5,f0,f3,fo,aa]
   try exact (by simp)
  rintro j ⟨frj,obj,ckj⟩ hj ⟨g0,g3,g4,go,Ej⟩
  dsimp only at g0 g3 g4 go
  rcases Nat.lt_or_ge j (k) with dj|dj
  .have hwj:=aQ j (by omega)
   have dj':j<l.length:=by omega
   have gy:=ap dj'
   have hm:=als dj' x
   generalize l[j]=y at *
   by_cases c0:y=x
   .have hin:x∈l.take k:=by
     have:l.take (j+1)=(l.take k).take (j+1):=by rw[List.take_take,Nat.min_eq_left (by omega)]
     exact List.mem_of_mem_take (this▸hm.mpr (.inr c0))
    rw[amS hin,Bool.false_and] at Ek
    simp -implicitDefEqProofs(maxSteps:=9^9)only[Tryz.f65,↓zA,sevalprocAttr,ag5,g0,g3,g4,go,aa,dj,gx,gy,hwj,av,eq_true c0,Ek]
   .have hn:x∉l.take (j+1):=fun h=>(hm.mp h).elim Ej c0
    simp -implicitDefEqProofs(maxSteps:=9^9)only[Tryz.f65,↓zA,sevalprocAttr,ag5,g0,g3,g4,go,aa,dj,gx,gy,hwj,av,c0]
    exact hn
  .have e:j=k:=by omega
   subst e
   rw[aj5 Ej,Bool.true_and] at Ek
   simp -implicitDefEqProofs(maxSteps:=9^9)only[Tryz.f65,↓zA,sevalprocAttr,ag5,g0,g3,g4,go,aa,Nat.lt_irrefl,hw,Ek]
 .have e:k=l.length:=by omega
  subst e
  rw[List.drop_length,iH] at Ek
  simp -implicitDefEqProofs(maxSteps:=9^9)only[Tryz.f65,↓zA,sevalprocAttr,ag5,f0,f3,fo,aa,Nat.lt_irrefl,Ek]
theorem cY (l:List (List UInt8)) (K:An→Prop):aG Tryz.prog pr 65 [.of (slC bd l)] [] K↔ifP (l.length≤4611686018427387903) (K ⟨false,[ah (!decide l.Nodup)],[]⟩) (fp Tryz.prog pr 65 [.of (slC bd l)] K):=hZ (aoN l) K
def azY:ByteArray:=⟨#[48,49,50,51,52,53,54,55,56,57]⟩
theorem axg:(⟨#[48,49,50,51,52,53,54,55,56,57]⟩ : ByteArray)=azY:=rfl
theorem aM3:∀ k:Fin 10,azY.extract k.val (k.val+1)=ar [UInt8.ofNat (48+k.val)]:=by decide +kernel
theorem aoh (k:Nat) (h:k<10):fE (TT.of Tryz.prog) 9 (.of (.lit (.string azY))) (some (ak k)) (some (ak ((k:Int)+1)))=out (dA (ar [UInt8.ofNat (48+k)])):=by
 have hs:azY.size=10:=rfl
 have e2:(((k:Int)+1).toNat)=k+1:=by omega
 simp only[fE,T9,Option.map_some,abm,if_true,kM,jF,hs]
 rw[if_pos ⟨by omega,by omega,by omega⟩,Int.toNat_natCast,e2,aM3 ⟨k,h⟩]
theorem aom (P:Program) (T:TT) (t:Nat) (u:Option TypeDesc) (n:Int):dX P T t u .rem (.of (.lit (.int .i64 n))) (.of (.lit (.int .i64 10)))=out (ak (n.tmod 10)):=by simp[dX,dN,gp,kN,bB,out]
theorem aoo (P:Program) (T:TT) (t:Nat) (u:Option TypeDesc) (n:Int):dX P T t u .quo (.of (.lit (.int .i64 n))) (.of (.lit (.int .i64 10)))=out (ak (IntKind.i64.wrap (n.tdiv 10))):=by simp[dX,dN,gp,kN,bB,out]
theorem aFI (k:Nat):(k:Int).tdiv 10=((k / 10:Nat):Int):=rfl
theorem aFE (k:Nat):(k:Int).tmod 10=((k % 10:Nat):Int):=rfl
def aIc:=ai (ai @zq (ai @aCw @axW)) (ai @zT0 (ai @amX (aw azR)))
theorem ahw (n:Nat) (h:n<10):G1 113 [ak n] (dA (ar (Lib.itoa n))):=by
 have h0:(0:Int)≤(n:Int):=by omega
 have h1:(n:Int)<10:=by omega
 have hw:IntKind.i64.wrap ((n:Int)+1)=(n:Int)+1:=da _ (by omega) (by omega)
 refine aj rfl azR amX rfl ?_
 simp -implicitDefEqProofs(maxSteps:=9^9)only[Tryz.f113,↓zA,sevalprocAttr,aIc,U3,U9,axg,aom,aoo,aa,al1,h0,h1,hw,aoh n h,aa0 n h]
theorem atg:∀ (m n:Nat),n≤m→n≤1152921504606846976→G1 113 [ak n] (dA (ar (Lib.itoa n))):=by
 intro m
 induction m with
 | zero =>
  intro n hn _
  exact ahw n (by omega)
 | succ m ih =>
  intro n hn hs
  by_cases h:n<10
  .exact ahw n h
  .refine aj rfl azR amX rfl ?_
   have h0:(0:Int)≤(n:Int):=by omega
   have h1:¬(n:Int)<10:=by omega
   have h2:¬(n:Int)<0:=by omega
   have hk:=fun K=>ae.k (ih (n / 10) (by omega) (by omega)) K
   have hw0:IntKind.i64.wrap ((n / 10:Nat):Int)=((n / 10:Nat):Int):=da _ (by omega) (by omega)
   have hw:IntKind.i64.wrap (((n % 10:Nat):Int)+1)=((n % 10:Nat):Int)+1:=da _ (by omega) (by omega)
   have h3:¬((n % 10:Nat):Int)<0:=by omega
   have hd:=aoh (n % 10) (by omega)
   have hl:(Lib.itoa ((n / 10:Nat):Int)).length+1≤aba:=by
    have hz:∀ (m n:Nat),n≤m→n≤1152921504606846976→(Lib.itoa (n:Int)).length≤19:=fun m n _ hb=>by
     have key:∀ (d n:Nat),n<10 ^ (d+1)→(Lib.itoa (n:Int)).length≤d+1:=by
      intro d
      induction d with
      | zero=>intro n hn;rw[aa0 n (by omega)];simp
      | succ d ihd =>
       intro n hn
       by_cases h10:10≤n
       .rw[ahU n h10,List.length_append]
        have:=ihd (n / 10) (by
         rw[Nat.pow_succ] at hn
         omega)
        simp only[List.length_cons,List.length_nil]
        omega
       .rw[aa0 n (by omega)];simp
     exact key 18 n (by omega)
    have:=hz (n / 10) (n / 10) (Nat.le_refl _) (by omega)
    unfold aba
    omega
   rw[ahU n (by omega)]
   simp -implicitDefEqProofs(maxSteps:=9^9)only[Tryz.f113,↓zA,sevalprocAttr,aIc,U3,U9,axg,aom,aoo,aa,al1,h0,h1,h2,aFI,aFE,hw0,hw,h3,hk,hd,hl,List.length_cons,List.length_nil,if_true]
theorem aF2 (n:Nat) (h:n≤1152921504606846976) (K:An→Prop):aG Tryz.prog pr 113 [.of (ci (n:Int))] [] K↔K ⟨false,[dA (ar (Lib.itoa n))],[]⟩:=ae.k (atg n n (Nat.le_refl _) h) K
def a0v:=ai (ai @zq (ai @aCw @axW)) (ai @zT0 (ai @aDq (aw aSo)))
theorem ath (tb:List UInt8) (k:Nat) (h:tb.length≤LB∧k<LB):G1 63 [.of (ao (ar tb)),ak k] (dA (ar (cy tb (k+1)))):=by
 obtain⟨h1,h2⟩:=h
 simp only[LB] at h1 h2
 have hw:=aQ k (by omega)
 have hl:=aeU (k+1) (k+1) (Nat.le_refl _)
 have hc:tb.length+1≤aba:=by unfold aba;omega
 have hc2:(tb++[95]).length+(Lib.itoa ((k+1:Nat):Int)).length≤aba:=by
  unfold aba
  simp only[List.length_append,List.length_cons,List.length_nil]
  omega
 simp only[List.length_append,List.length_cons,List.length_nil] at hc2
 have e95:({data:=#[95]}:ByteArray)=ar [95]:=rfl
 unfold cy
 refine aj rfl aSo aDq rfl ?_
 simp -implicitDefEqProofs(maxSteps:=9^9)only[Tryz.f63,↓zA,sevalprocAttr,a0v,hw,aF2 (k+1) (by omega),e95,al1,hc,hc2,List.length_append,List.length_cons,List.length_nil,if_true,List.append_assoc]
theorem ab7 (tb:List UInt8) (k:Nat) (K:An→Prop):aG Tryz.prog pr 63 [.of (ao (ar tb)),.of (ci (k:Int))] [] K↔ifP (tb.length≤LB∧k<LB) (K ⟨false,[dA (ar (cy tb (k+1)))],[]⟩) (fp Tryz.prog pr 63 [.of (ao (ar tb)),.of (ci (k:Int))] K):=hZ (ath tb k) K
theorem ayN (n:Int) (h:acy n=true):ae Tryz.prog pr 154 [ak n] [] ⟨false,[dA (ar (Lib.itoa n))],[]⟩:=ae.of_prim (by simp only[pr,abA,if_true,apJ,h];rfl)
def aVD:=ai (ai @zq (ai @aQo @aN2)) (ai @zT0 (ai @awZ (aw aK7)))
theorem ara (n:Int) (h:acy n=true):G1 103 [ak n] (dA (ar (Lib.itoa n))):=by
 have hk:=fun K=>ae.k (ayN n h) K
 refine aj rfl aK7 awZ rfl ?_
 simp -implicitDefEqProofs(maxSteps:=9^9)only[Tryz.f103,↓zA,sevalprocAttr,aVD,hk]
def a0x:=ai (ai @zq (ai @aQH @aOl)) (ai @zT0 (ai @aDy (aw aSw)))
theorem atO (tb:List UInt8) (k:Nat) (h:tb.length≤LB∧k≤LB):G1 54 [.of (ao (ar tb)),ak ((k+1:Nat):Int)] (dA (ar (cy tb (k+1)))):=by
 obtain⟨h1,h2⟩:=h
 simp only[LB] at h1 h2
 have hl:=aeU (k+1) (k+1) (Nat.le_refl _)
 have hc:tb.length+1≤aba:=by unfold aba;omega
 have hc2:tb.length+1+(Lib.itoa ((k+1:Nat):Int)).length≤aba:=by
  unfold aba
  omega
 have e95:({data:=#[95]}:ByteArray)=ar [95]:=rfl
 have hk:=fun K=>ae.k (ara ((k+1:Nat):Int) (by simp only[acy,decide_eq_true_eq];omega)) K
 unfold cy
 refine aj rfl aSw aDy rfl ?_
 simp -implicitDefEqProofs(maxSteps:=9^9)only[Tryz.f54,↓zA,sevalprocAttr,a0x,hk,e95,al1,hc,hc2,List.length_append,List.length_cons,List.length_nil,if_true,List.append_assoc]
theorem du (tb:List UInt8) (k:Nat) (K:An→Prop):aG Tryz.prog pr 54 [.of (ao (ar tb)),.of (ci ((k+1:Nat):Int))] [] K↔ifP (tb.length≤LB∧k≤LB) (K ⟨false,[dA (ar (cy tb (k+1)))],[]⟩) (fp Tryz.prog pr 54 [.of (ao (ar tb)),.of (ci ((k+1:Nat):Int))] K):=hZ (atO tb k) K
def aml:=ai (ai @zq (ai @fb @cW)) (ai @zT0 (ai @aDF (aw aSC)))
theorem asB (l:List Ix) (p:Ix→Bool) (g:Nat) (cp:List C) (h:l.length≤4611686018427387903∧FnB (fun x=>.agg (ixC x)) g cp p l):G1 44 [.of (slC ixC l),.of (.fn g cp)] (ak (bE p l)):=by
 obtain⟨hl,ho,hc,hg⟩:=h
 refine aj rfl aSC aDF rfl ?_
 simp -implicitDefEqProofs(maxSteps:=9^9)only[Tryz.f44,↓zA,sevalprocAttr,aml,ho]
 refine aL l.length (fun k s=>s.fr 0=.of (slC ixC l)∧s.fr 1=.of (.fn g cp)∧s.fr 7=ak l.length∧s.fr 8=ak k∧s.objs=[]∧bE p l=bJ p k (l.drop k)) ?_ ?_
 .simp -implicitDefEqProofs(maxSteps:=9^9)only[Tryz.f44,↓zA,sevalprocAttr,aml]
  exact rfl
 .rintro k s hk ⟨f0,f1,f7,f8,hob,E⟩
  rcases Nat.lt_or_ge k l.length with c1|c1
  .have hw:=aQ k (by omega)
   have hx:=fun K=>ae.k (hg l[k] (List.getElem_mem c1)) K
   rw[aJ c1,bJ] at E
   simp -implicitDefEqProofs(maxSteps:=9^9)only[Tryz.f44,↓zA,sevalprocAttr,aml,f0,f1,f7,f8,hob,ho,hc,aa,c1,ap c1,hw,hx]
   by_cases c2:p l[k]=true
   .simp only[c2,if_true] at E
    simp -implicitDefEqProofs(maxSteps:=9^9)only[Tryz.f44,↓zA,sevalprocAttr,aml,c2,E]
   .simp only[c2,Bool.false_eq_true,if_false] at E
    simp -implicitDefEqProofs(maxSteps:=9^9)only[Tryz.f44,↓zA,sevalprocAttr,aml,c2,E]
  .have e:k=l.length:=by omega
   subst e
   rw[List.drop_length,bJ] at E
   simp -implicitDefEqProofs(maxSteps:=9^9)only[Tryz.f44,↓zA,sevalprocAttr,aml,f0,f1,f7,f8,hob,aa,Nat.lt_irrefl,E]
theorem aio (l:List Ix) (p:Ix→Bool) (g:Nat) (cp:List C) (h:l.length≤4611686018427387903∧FnB (fun x=>.agg (ixC x)) g cp p l) (K:An→Prop):aG Tryz.prog pr 44 [.of (slC ixC l),.of (.fn g cp)] [] K↔K ⟨false,[ak (bE p l)],[]⟩:=ae.k (asB l p g cp h) K
def amj:=ai (ai @zq (ai @dH @d9)) (ai @zT0 (ai @aDg (aw aSe)))
theorem asy (l:List Tb) (p:Tb→Bool) (g:Nat) (cp:List C) (h:l.length≤4611686018427387903∧FnB (fun x=>.agg (tbC x)) g cp p l):G1 75 [.of (slC tbC l),.of (.fn g cp)] (ak (bE p l)):=by
 obtain⟨hl,ho,hc,hg⟩:=h
 refine aj rfl aSe aDg rfl ?_
 simp -implicitDefEqProofs(maxSteps:=9^9)only[Tryz.f75,↓zA,sevalprocAttr,amj,ho]
 refine aL l.length (fun k s=>s.fr 0=.of (slC tbC l)∧s.fr 1=.of (.fn g cp)∧s.fr 7=ak l.length∧s.fr 8=ak k∧s.objs=[]∧bE p l=bJ p k (l.drop k)) ?_ ?_
 .simp -implicitDefEqProofs(maxSteps:=9^9)only[Tryz.f75,↓zA,sevalprocAttr,amj]
  exact rfl
 .rintro k s hk ⟨f0,f1,f7,f8,hob,E⟩
  rcases Nat.lt_or_ge k l.length with c1|c1
  .have hw:=aQ k (by omega)
   have hx:=fun K=>ae.k (hg l[k] (List.getElem_mem c1)) K
   rw[aJ c1,bJ] at E
   simp -implicitDefEqProofs(maxSteps:=9^9)only[Tryz.f75,↓zA,sevalprocAttr,amj,f0,f1,f7,f8,hob,ho,hc,aa,c1,ap c1,hw,hx]
   by_cases c2:p l[k]=true
   .simp only[c2,if_true] at E
    simp -implicitDefEqProofs(maxSteps:=9^9)only[Tryz.f75,↓zA,sevalprocAttr,amj,c2,E]
   .simp only[c2,Bool.false_eq_true,if_false] at E
    simp -implicitDefEqProofs(maxSteps:=9^9)only[Tryz.f75,↓zA,sevalprocAttr,amj,c2,E]
  .have e:k=l.length:=by omega
   subst e
   rw[List.drop_length,bJ] at E
   simp -implicitDefEqProofs(maxSteps:=9^9)only[Tryz.f75,↓zA,sevalprocAttr,amj,f0,f1,f7,f8,hob,aa,Nat.lt_irrefl,E]
theorem aFp (l:List Tb) (p:Tb→Bool) (g:Nat) (cp:List C) (h:l.length≤4611686018427387903∧FnB (fun x=>.agg (tbC x)) g cp p l) (K:An→Prop):aG Tryz.prog pr 75 [.of (slC tbC l),.of (.fn g cp)] [] K↔K ⟨false,[ak (bE p l)],[]⟩:=ae.k (asy l p g cp h) K
def aiO:=ai (ai @zq (ai @dw @cE)) (ai @zT0 (ai @aw1 (aw aK9)))
theorem ao1 (l:List Cd) (p:Cd→Bool) (g:Nat) (cp:List C) (h:l.length≤4611686018427387903∧FnB (fun x=>.agg (cdC x)) g cp p l):G1 101 [.of (slC cdC l),.of (.fn g cp)] (ak (bE p l)):=by
 obtain⟨hl,ho,hc,hg⟩:=h
 refine aj rfl aK9 aw1 rfl ?_
 simp -implicitDefEqProofs(maxSteps:=9^9)only[Tryz.f101,↓zA,sevalprocAttr,aiO,ho]
 refine aL l.length (fun k s=>s.fr 0=.of (slC cdC l)∧s.fr 1=.of (.fn g cp)∧s.fr 7=ak l.length∧s.fr 8=ak k∧s.objs=[]∧bE p l=bJ p k (l.drop k)) ?_ ?_
 .simp -implicitDefEqProofs(maxSteps:=9^9)only[Tryz.f101,↓zA,sevalprocAttr,aiO]
  exact rfl
 .rintro k s hk ⟨f0,f1,f7,f8,hob,E⟩
  rcases Nat.lt_or_ge k l.length with c1|c1
  .have hw:=aQ k (by omega)
   have hx:=fun K=>ae.k (hg l[k] (List.getElem_mem c1)) K
   rw[aJ c1,bJ] at E
   simp -implicitDefEqProofs(maxSteps:=9^9)only[Tryz.f101,↓zA,sevalprocAttr,aiO,f0,f1,f7,f8,hob,ho,hc,aa,c1,ap c1,hw,hx]
   by_cases c2:p l[k]=true
   .simp only[c2,if_true] at E
    simp -implicitDefEqProofs(maxSteps:=9^9)only[Tryz.f101,↓zA,sevalprocAttr,aiO,c2,E]
   .simp only[c2,Bool.false_eq_true,if_false] at E
    simp -implicitDefEqProofs(maxSteps:=9^9)only[Tryz.f101,↓zA,sevalprocAttr,aiO,c2,E]
  .have e:k=l.length:=by omega
   subst e
   rw[List.drop_length,bJ] at E
   simp -implicitDefEqProofs(maxSteps:=9^9)only[Tryz.f101,↓zA,sevalprocAttr,aiO,f0,f1,f7,f8,hob,aa,Nat.lt_irrefl,E]
theorem amf (l:List Cd) (p:Cd→Bool) (g:Nat) (cp:List C) (h:l.length≤4611686018427387903∧FnB (fun x=>.agg (cdC x)) g cp p l) (K:An→Prop):aG Tryz.prog pr 101 [.of (slC cdC l),.of (.fn g cp)] [] K↔K ⟨false,[ak (bE p l)],[]⟩:=ae.k (ao1 l p g cp h) K
def aiL:=ai (ai @zq (ai @bK @dR)) (ai @zT0 (ai @awM (aw aKU)))
theorem at9 (l:List Xp) (p:Xp→Bool) (g:Nat) (cp:List C) (h:l.length≤4611686018427387903∧FnB (fun x=>.agg (xpC x)) g cp p l):G1 120 [.of (slC xpC l),.of (.fn g cp)] (ak (bE p l)):=by
 obtain⟨hl,ho,hc,hg⟩:=h
 refine aj rfl aKU awM rfl ?_
 simp -implicitDefEqProofs(maxSteps:=9^9)only[Tryz.f120,↓zA,sevalprocAttr,aiL,ho]
 refine aL l.length (fun k s=>s.fr 0=.of (slC xpC l)∧s.fr 1=.of (.fn g cp)∧s.fr 7=ak l.length∧s.fr 8=ak k∧s.objs=[]∧bE p l=bJ p k (l.drop k)) ?_ ?_
 .simp -implicitDefEqProofs(maxSteps:=9^9)only[Tryz.f120,↓zA,sevalprocAttr,aiL]
  exact rfl
 .rintro k s hk ⟨f0,f1,f7,f8,hob,E⟩
  rcases Nat.lt_or_ge k l.length with c1|c1
  .have hw:=aQ k (by omega)
   have hx:=fun K=>ae.k (hg l[k] (List.getElem_mem c1)) K
   rw[aJ c1,bJ] at E
   simp -implicitDefEqProofs(maxSteps:=9^9)only[Tryz.f120,↓zA,sevalprocAttr,aiL,f0,f1,f7,f8,hob,ho,hc,aa,c1,ap c1,hw,hx]
   by_cases c2:p l[k]=true
   .simp only[c2,if_true] at E
    simp -implicitDefEqProofs(maxSteps:=9^9)only[Tryz.f120,↓zA,sevalprocAttr,aiL,c2,E]
   .simp only[c2,Bool.false_eq_true,if_false] at E
    simp -implicitDefEqProofs(maxSteps:=9^9)only[Tryz.f120,↓zA,sevalprocAttr,aiL,c2,E]
  .have e:k=l.length:=by omega
   subst e
   rw[List.drop_length,bJ] at E
   simp -implicitDefEqProofs(maxSteps:=9^9)only[Tryz.f120,↓zA,sevalprocAttr,aiL,f0,f1,f7,f8,hob,aa,Nat.lt_irrefl,E]
theorem aHS (l:List Xp) (p:Xp→Bool) (g:Nat) (cp:List C) (h:l.length≤4611686018427387903∧FnB (fun x=>.agg (xpC x)) g cp p l) (K:An→Prop):aG Tryz.prog pr 120 [.of (slC xpC l),.of (.fn g cp)] [] K↔K ⟨false,[ak (bE p l)],[]⟩:=ae.k (at9 l p g cp h) K
def aiK:=ai (ai @zq (ai @aaC @abM)) (ai @zT0 (ai @awg (aw aKp)))
theorem aAN (l:List Rf) (p:Rf→Bool) (g:Nat) (cp:List C) (h:l.length≤4611686018427387903∧FnB (fun x=>.agg (rfC x)) g cp p l):G1 151 [.of (slC rfC l),.of (.fn g cp)] (ak (bE p l)):=by
 obtain⟨hl,ho,hc,hg⟩:=h
 refine aj rfl aKp awg rfl ?_
 simp -implicitDefEqProofs(maxSteps:=9^9)only[Tryz.f151,↓zA,sevalprocAttr,aiK,ho]
 refine aL l.length (fun k s=>s.fr 0=.of (slC rfC l)∧s.fr 1=.of (.fn g cp)∧s.fr 7=ak l.length∧s.fr 8=ak k∧s.objs=[]∧bE p l=bJ p k (l.drop k)) ?_ ?_
 .simp -implicitDefEqProofs(maxSteps:=9^9)only[Tryz.f151,↓zA,sevalprocAttr,aiK]
  exact rfl
 .rintro k s hk ⟨f0,f1,f7,f8,hob,E⟩
  rcases Nat.lt_or_ge k l.length with c1|c1
  .have hw:=aQ k (by omega)
   have hx:=fun K=>ae.k (hg l[k] (List.getElem_mem c1)) K
   rw[aJ c1,bJ] at E
   simp -implicitDefEqProofs(maxSteps:=9^9)only[Tryz.f151,↓zA,sevalprocAttr,aiK,f0,f1,f7,f8,hob,ho,hc,aa,c1,ap c1,hw,hx]
   by_cases c2:p l[k]=true
   .simp only[c2,if_true] at E
    simp -implicitDefEqProofs(maxSteps:=9^9)only[Tryz.f151,↓zA,sevalprocAttr,aiK,c2,E]
   .simp only[c2,Bool.false_eq_true,if_false] at E
    simp -implicitDefEqProofs(maxSteps:=9^9)only[Tryz.f151,↓zA,sevalprocAttr,aiK,c2,E]
  .have e:k=l.length:=by omega
   subst e
   rw[List.drop_length,bJ] at E
   simp -implicitDefEqProofs(maxSteps:=9^9)only[Tryz.f151,↓zA,sevalprocAttr,aiK,f0,f1,f7,f8,hob,aa,Nat.lt_irrefl,E]
theorem aOy (l:List Rf) (p:Rf→Bool) (g:Nat) (cp:List C) (h:l.length≤4611686018427387903∧FnB (fun x=>.agg (rfC x)) g cp p l) (K:An→Prop):aG Tryz.prog pr 151 [.of (slC rfC l),.of (.fn g cp)] [] K↔K ⟨false,[ak (bE p l)],[]⟩:=ae.k (aAN l p g cp h) K
def aiJ:=ai (ai @zq (ai @il @kb)) (ai @zT0 (ai @awf (aw aKo)))
theorem aAP (l:List Ky) (p:Ky→Bool) (g:Nat) (cp:List C) (h:l.length≤4611686018427387903∧FnB (fun x=>.agg (kyC x)) g cp p l):G1 152 [.of (slC kyC l),.of (.fn g cp)] (ak (bE p l)):=by
 obtain⟨hl,ho,hc,hg⟩:=h
 refine aj rfl aKo awf rfl ?_
 simp -implicitDefEqProofs(maxSteps:=9^9)only[Tryz.f152,↓zA,sevalprocAttr,aiJ,ho]
 refine aL l.length (fun k s=>s.fr 0=.of (slC kyC l)∧s.fr 1=.of (.fn g cp)∧s.fr 7=ak l.length∧s.fr 8=ak k∧s.objs=[]∧bE p l=bJ p k (l.drop k)) ?_ ?_
 .simp -implicitDefEqProofs(maxSteps:=9^9)only[Tryz.f152,↓zA,sevalprocAttr,aiJ]
  exact rfl
 .rintro k s hk ⟨f0,f1,f7,f8,hob,E⟩
  rcases Nat.lt_or_ge k l.length with c1|c1
  .have hw:=aQ k (by omega)
   have hx:=fun K=>ae.k (hg l[k] (List.getElem_mem c1)) K
   rw[aJ c1,bJ] at E
   simp -implicitDefEqProofs(maxSteps:=9^9)only[Tryz.f152,↓zA,sevalprocAttr,aiJ,f0,f1,f7,f8,hob,ho,hc,aa,c1,ap c1,hw,hx]
   by_cases c2:p l[k]=true
   .simp only[c2,if_true] at E
    simp -implicitDefEqProofs(maxSteps:=9^9)only[Tryz.f152,↓zA,sevalprocAttr,aiJ,c2,E]
   .simp only[c2,Bool.false_eq_true,if_false] at E
    simp -implicitDefEqProofs(maxSteps:=9^9)only[Tryz.f152,↓zA,sevalprocAttr,aiJ,c2,E]
  .have e:k=l.length:=by omega
   subst e
   rw[List.drop_length,bJ] at E
   simp -implicitDefEqProofs(maxSteps:=9^9)only[Tryz.f152,↓zA,sevalprocAttr,aiJ,f0,f1,f7,f8,hob,aa,Nat.lt_irrefl,E]
theorem aOz (l:List Ky) (p:Ky→Bool) (g:Nat) (cp:List C) (h:l.length≤4611686018427387903∧FnB (fun x=>.agg (kyC x)) g cp p l) (K:An→Prop):aG Tryz.prog pr 152 [.of (slC kyC l),.of (.fn g cp)] [] K↔K ⟨false,[ak (bE p l)],[]⟩:=ae.k (aAP l p g cp h) K
def aiI:=ai (ai @zq (ai @jy @jA)) (ai @zT0 (ai @awe (aw aKn)))
theorem aoZ (l:List Rd) (p:Rd→Bool) (g:Nat) (cp:List C) (h:l.length≤4611686018427387903∧FnB (fun x=>.agg (rdC x)) g cp p l):G1 153 [.of (slC rdC l),.of (.fn g cp)] (ak (bE p l)):=by
 obtain⟨hl,ho,hc,hg⟩:=h
 refine aj rfl aKn awe rfl ?_
 simp -implicitDefEqProofs(maxSteps:=9^9)only[Tryz.f153,↓zA,sevalprocAttr,aiI,ho]
 refine aL l.length (fun k s=>s.fr 0=.of (slC rdC l)∧s.fr 1=.of (.fn g cp)∧s.fr 7=ak l.length∧s.fr 8=ak k∧s.objs=[]∧bE p l=bJ p k (l.drop k)) ?_ ?_
 .simp -implicitDefEqProofs(maxSteps:=9^9)only[Tryz.f153,↓zA,sevalprocAttr,aiI]
  exact rfl
 .rintro k s hk ⟨f0,f1,f7,f8,hob,E⟩
  rcases Nat.lt_or_ge k l.length with c1|c1
  .have hw:=aQ k (by omega)
   have hx:=fun K=>ae.k (hg l[k] (List.getElem_mem c1)) K
   rw[aJ c1,bJ] at E
   simp -implicitDefEqProofs(maxSteps:=9^9)only[Tryz.f153,↓zA,sevalprocAttr,aiI,f0,f1,f7,f8,hob,ho,hc,aa,c1,ap c1,hw,hx]
   by_cases c2:p l[k]=true
   .simp only[c2,if_true] at E
    simp -implicitDefEqProofs(maxSteps:=9^9)only[Tryz.f153,↓zA,sevalprocAttr,aiI,c2,E]
   .simp only[c2,Bool.false_eq_true,if_false] at E
    simp -implicitDefEqProofs(maxSteps:=9^9)only[Tryz.f153,↓zA,sevalprocAttr,aiI,c2,E]
  .have e:k=l.length:=by omega
   subst e
   rw[List.drop_length,bJ] at E
   simp -implicitDefEqProofs(maxSteps:=9^9)only[Tryz.f153,↓zA,sevalprocAttr,aiI,f0,f1,f7,f8,hob,aa,Nat.lt_irrefl,E]
theorem aAO (l:List Rd) (p:Rd→Bool) (g:Nat) (cp:List C) (h:l.length≤4611686018427387903∧FnB (fun x=>.agg (rdC x)) g cp p l) (K:An→Prop):aG Tryz.prog pr 153 [.of (slC rdC l),.of (.fn g cp)] [] K↔K ⟨false,[ak (bE p l)],[]⟩:=ae.k (aoZ l p g cp h) K
def aiF:=ai (ai @zq (ai @cV @P3)) (ai (ai @Q3 @zT0) (ai @avV (aw aJ4)))
theorem aAM (l:List Int) (p:Int→Bool) (g:Nat) (cp:List C) (h:l.length≤4611686018427387903∧FnB ci g cp p l):G1 173 [.of (slC aV l),.of (.fn g cp)] (ak (bE p l)):=by
 obtain⟨hl,ho,hc,hg⟩:=h
 refine aj rfl aJ4 avV rfl ?_
 simp -implicitDefEqProofs(maxSteps:=9^9)only[Tryz.f173,↓zA,sevalprocAttr,aiF,ho]
 refine aL l.length (fun k s=>s.fr 0=.of (slC aV l)∧s.fr 1=.of (.fn g cp)∧s.fr 7=ak l.length∧s.fr 8=ak k∧s.objs=[]∧bE p l=bJ p k (l.drop k)) ?_ ?_
 .simp -implicitDefEqProofs(maxSteps:=9^9)only[Tryz.f173,↓zA,sevalprocAttr,aiF]
  exact rfl
 .rintro k s hk ⟨f0,f1,f7,f8,hob,E⟩
  rcases Nat.lt_or_ge k l.length with c1|c1
  .have hw:=aQ k (by omega)
   have hx:=fun K=>ae.k (hg l[k] (List.getElem_mem c1)) K
   rw[aJ c1,bJ] at E
   simp -implicitDefEqProofs(maxSteps:=9^9)only[Tryz.f173,↓zA,sevalprocAttr,aiF,f0,f1,f7,f8,hob,ho,hc,aa,c1,ap c1,hw,hx]
   by_cases c2:p l[k]=true
   .simp only[c2,if_true] at E
    simp -implicitDefEqProofs(maxSteps:=9^9)only[Tryz.f173,↓zA,sevalprocAttr,aiF,c2,E]
   .simp only[c2,Bool.false_eq_true,if_false] at E
    simp -implicitDefEqProofs(maxSteps:=9^9)only[Tryz.f173,↓zA,sevalprocAttr,aiF,c2,E]
  .have e:k=l.length:=by omega
   subst e
   rw[List.drop_length,bJ] at E
   simp -implicitDefEqProofs(maxSteps:=9^9)only[Tryz.f173,↓zA,sevalprocAttr,aiF,f0,f1,f7,f8,hob,aa,Nat.lt_irrefl,E]
theorem aOx (l:List Int) (p:Int→Bool) (g:Nat) (cp:List C) (h:l.length≤4611686018427387903∧FnB ci g cp p l) (K:An→Prop):aG Tryz.prog pr 173 [.of (slC aV l),.of (.fn g cp)] [] K↔K ⟨false,[ak (bE p l)],[]⟩:=ae.k (aAM l p g cp h) K
def aiD:=ai (ai @zq (ai @jz @gG)) (ai @zT0 (ai @au6 (aw aJi)))
theorem ao0 (l:List Kd) (p:Kd→Bool) (g:Nat) (cp:List C) (h:l.length≤4611686018427387903∧FnB (fun x=>.agg (kdC x)) g cp p l):G1 225 [.of (slC kdC l),.of (.fn g cp)] (ak (bE p l)):=by
 obtain⟨hl,ho,hc,hg⟩:=h
 refine aj rfl aJi au6 rfl ?_
 simp -implicitDefEqProofs(maxSteps:=9^9)only[Tryz.f225,↓zA,sevalprocAttr,aiD,ho]
 refine aL l.length (fun k s=>s.fr 0=.of (slC kdC l)∧s.fr 1=.of (.fn g cp)∧s.fr 7=ak l.length∧s.fr 8=ak k∧s.objs=[]∧bE p l=bJ p k (l.drop k)) ?_ ?_
 .simp -implicitDefEqProofs(maxSteps:=9^9)only[Tryz.f225,↓zA,sevalprocAttr,aiD]
  exact rfl
 .rintro k s hk ⟨f0,f1,f7,f8,hob,E⟩
  rcases Nat.lt_or_ge k l.length with c1|c1
  .have hw:=aQ k (by omega)
   have hx:=fun K=>ae.k (hg l[k] (List.getElem_mem c1)) K
   rw[aJ c1,bJ] at E
   simp -implicitDefEqProofs(maxSteps:=9^9)only[Tryz.f225,↓zA,sevalprocAttr,aiD,f0,f1,f7,f8,hob,ho,hc,aa,c1,ap c1,hw,hx]
   by_cases c2:p l[k]=true
   .simp only[c2,if_true] at E
    simp -implicitDefEqProofs(maxSteps:=9^9)only[Tryz.f225,↓zA,sevalprocAttr,aiD,c2,E]
   .simp only[c2,Bool.false_eq_true,if_false] at E
    simp -implicitDefEqProofs(maxSteps:=9^9)only[Tryz.f225,↓zA,sevalprocAttr,aiD,c2,E]
  .have e:k=l.length:=by omega
   subst e
   rw[List.drop_length,bJ] at E
   simp -implicitDefEqProofs(maxSteps:=9^9)only[Tryz.f225,↓zA,sevalprocAttr,aiD,f0,f1,f7,f8,hob,aa,Nat.lt_irrefl,E]
theorem aAQ (l:List Kd) (p:Kd→Bool) (g:Nat) (cp:List C) (h:l.length≤4611686018427387903∧FnB (fun x=>.agg (kdC x)) g cp p l) (K:An→Prop):aG Tryz.prog pr 225 [.of (slC kdC l),.of (.fn g cp)] [] K↔K ⟨false,[ak (bE p l)],[]⟩:=ae.k (ao0 l p g cp h) K
def aiC:=ai (ai @zq (ai @dY @ec)) (ai @zT0 (ai @au3 (aw aJf)))
theorem asz (l:List Qy) (p:Qy→Bool) (g:Nat) (cp:List C) (h:l.length≤4611686018427387903∧FnB (fun x=>.agg (qyC x)) g cp p l):G1 228 [.of (slC qyC l),.of (.fn g cp)] (ak (bE p l)):=by
 obtain⟨hl,ho,hc,hg⟩:=h
 refine aj rfl aJf au3 rfl ?_
 simp -implicitDefEqProofs(maxSteps:=9^9)only[Tryz.f228,↓zA,sevalprocAttr,aiC,ho]
 refine aL l.length (fun k s=>s.fr 0=.of (slC qyC l)∧s.fr 1=.of (.fn g cp)∧s.fr 7=ak l.length∧s.fr 8=ak k∧s.objs=[]∧bE p l=bJ p k (l.drop k)) ?_ ?_
 .simp -implicitDefEqProofs(maxSteps:=9^9)only[Tryz.f228,↓zA,sevalprocAttr,aiC]
  exact rfl
 .rintro k s hk ⟨f0,f1,f7,f8,hob,E⟩
  rcases Nat.lt_or_ge k l.length with c1|c1
  .have hw:=aQ k (by omega)
   have hx:=fun K=>ae.k (hg l[k] (List.getElem_mem c1)) K
   rw[aJ c1,bJ] at E
   simp -implicitDefEqProofs(maxSteps:=9^9)only[Tryz.f228,↓zA,sevalprocAttr,aiC,f0,f1,f7,f8,hob,ho,hc,aa,c1,ap c1,hw,hx]
   by_cases c2:p l[k]=true
   .simp only[c2,if_true] at E
    simp -implicitDefEqProofs(maxSteps:=9^9)only[Tryz.f228,↓zA,sevalprocAttr,aiC,c2,E]
   .simp only[c2,Bool.false_eq_true,if_false] at E
    simp -implicitDefEqProofs(maxSteps:=9^9)only[Tryz.f228,↓zA,sevalprocAttr,aiC,c2,E]
  .have e:k=l.length:=by omega
   subst e
   rw[List.drop_length,bJ] at E
   simp -implicitDefEqProofs(maxSteps:=9^9)only[Tryz.f228,↓zA,sevalprocAttr,aiC,f0,f1,f7,f8,hob,aa,Nat.lt_irrefl,E]
theorem aFq (l:List Qy) (p:Qy→Bool) (g:Nat) (cp:List C) (h:l.length≤4611686018427387903∧FnB (fun x=>.agg (qyC x)) g cp p l) (K:An→Prop):aG Tryz.prog pr 228 [.of (slC qyC l),.of (.fn g cp)] [] K↔K ⟨false,[ak (bE p l)],[]⟩:=ae.k (asz l p g cp h) K
def aiA:=ai (ai @zq (ai @bK @fT)) (ai @zT0 (ai @auU (aw aI6)))
theorem anw (l:List (List Xp)) (p:(List Xp)→Bool) (g:Nat) (cp:List C) (h:l.length≤4611686018427387903∧FnB (slC xpC) g cp p l):G1 237 [.of (slC (lsC xpC) l),.of (.fn g cp)] (ak (bE p l)):=by
 obtain⟨hl,ho,hc,hg⟩:=h
 refine aj rfl aI6 auU rfl ?_
 simp -implicitDefEqProofs(maxSteps:=9^9)only[Tryz.f237,↓zA,sevalprocAttr,aiA,ho]
 refine aL l.length (fun k s=>s.fr 0=.of (slC (lsC xpC) l)∧s.fr 1=.of (.fn g cp)∧s.fr 7=ak l.length∧s.fr 8=ak k∧s.objs=[]∧bE p l=bJ p k (l.drop k)) ?_ ?_
 .simp -implicitDefEqProofs(maxSteps:=9^9)only[Tryz.f237,↓zA,sevalprocAttr,aiA]
  exact rfl
 .rintro k s hk ⟨f0,f1,f7,f8,hob,E⟩
  rcases Nat.lt_or_ge k l.length with c1|c1
  .have hw:=aQ k (by omega)
   have hx:=fun K=>ae.k (hg l[k] (List.getElem_mem c1)) K
   rw[aJ c1,bJ] at E
   simp -implicitDefEqProofs(maxSteps:=9^9)only[Tryz.f237,↓zA,sevalprocAttr,aiA,f0,f1,f7,f8,hob,ho,hc,aa,c1,ap c1,hw,hx]
   by_cases c2:p l[k]=true
   .simp only[c2,if_true] at E
    simp -implicitDefEqProofs(maxSteps:=9^9)only[Tryz.f237,↓zA,sevalprocAttr,aiA,c2,E]
   .simp only[c2,Bool.false_eq_true,if_false] at E
    simp -implicitDefEqProofs(maxSteps:=9^9)only[Tryz.f237,↓zA,sevalprocAttr,aiA,c2,E]
  .have e:k=l.length:=by omega
   subst e
   rw[List.drop_length,bJ] at E
   simp -implicitDefEqProofs(maxSteps:=9^9)only[Tryz.f237,↓zA,sevalprocAttr,aiA,f0,f1,f7,f8,hob,aa,Nat.lt_irrefl,E]
theorem aua (l:List (List Xp)) (p:(List Xp)→Bool) (g:Nat) (cp:List C) (h:l.length≤4611686018427387903∧FnB (slC xpC) g cp p l) (K:An→Prop):aG Tryz.prog pr 237 [.of (slC (lsC xpC) l),.of (.fn g cp)] [] K↔K ⟨false,[ak (bE p l)],[]⟩:=ae.k (anw l p g cp h) K
def aiz:=ai (ai @zq (ai @j0 @kT)) (ai @zT0 (ai @auT (aw aI5)))
theorem ao2 (l:List As) (p:As→Bool) (g:Nat) (cp:List C) (h:l.length≤4611686018427387903∧FnB (fun x=>.agg (asC x)) g cp p l):G1 238 [.of (slC asC l),.of (.fn g cp)] (ak (bE p l)):=by
 obtain⟨hl,ho,hc,hg⟩:=h
 refine aj rfl aI5 auT rfl ?_
 simp -implicitDefEqProofs(maxSteps:=9^9)only[Tryz.f238,↓zA,sevalprocAttr,aiz,ho]
 refine aL l.length (fun k s=>s.fr 0=.of (slC asC l)∧s.fr 1=.of (.fn g cp)∧s.fr 7=ak l.length∧s.fr 8=ak k∧s.objs=[]∧bE p l=bJ p k (l.drop k)) ?_ ?_
 .simp -implicitDefEqProofs(maxSteps:=9^9)only[Tryz.f238,↓zA,sevalprocAttr,aiz]
  exact rfl
 .rintro k s hk ⟨f0,f1,f7,f8,hob,E⟩
  rcases Nat.lt_or_ge k l.length with c1|c1
  .have hw:=aQ k (by omega)
   have hx:=fun K=>ae.k (hg l[k] (List.getElem_mem c1)) K
   rw[aJ c1,bJ] at E
   simp -implicitDefEqProofs(maxSteps:=9^9)only[Tryz.f238,↓zA,sevalprocAttr,aiz,f0,f1,f7,f8,hob,ho,hc,aa,c1,ap c1,hw,hx]
   by_cases c2:p l[k]=true
   .simp only[c2,if_true] at E
    simp -implicitDefEqProofs(maxSteps:=9^9)only[Tryz.f238,↓zA,sevalprocAttr,aiz,c2,E]
   .simp only[c2,Bool.false_eq_true,if_false] at E
    simp -implicitDefEqProofs(maxSteps:=9^9)only[Tryz.f238,↓zA,sevalprocAttr,aiz,c2,E]
  .have e:k=l.length:=by omega
   subst e
   rw[List.drop_length,bJ] at E
   simp -implicitDefEqProofs(maxSteps:=9^9)only[Tryz.f238,↓zA,sevalprocAttr,aiz,f0,f1,f7,f8,hob,aa,Nat.lt_irrefl,E]
theorem aAR (l:List As) (p:As→Bool) (g:Nat) (cp:List C) (h:l.length≤4611686018427387903∧FnB (fun x=>.agg (asC x)) g cp p l) (K:An→Prop):aG Tryz.prog pr 238 [.of (slC asC l),.of (.fn g cp)] [] K↔K ⟨false,[ak (bE p l)],[]⟩:=ae.k (ao2 l p g cp h) K
def aiu:=ai (ai @zq (ai @bH @Q9)) (ai @zT0 (ai @auG (aw aIS)))
theorem aoY (l:List (List UInt8)) (p:(List UInt8)→Bool) (g:Nat) (cp:List C) (h:l.length≤4611686018427387903∧FnB (fun x=>ao (ar x)) g cp p l):G1 253 [.of (slC bd l),.of (.fn g cp)] (ak (bE p l)):=by
 obtain⟨hl,ho,hc,hg⟩:=h
 refine aj rfl aIS auG rfl ?_
 simp -implicitDefEqProofs(maxSteps:=9^9)only[Tryz.f253,↓zA,sevalprocAttr,aiu,ho]
 refine aL l.length (fun k s=>s.fr 0=.of (slC bd l)∧s.fr 1=.of (.fn g cp)∧s.fr 7=ak l.length∧s.fr 8=ak k∧s.objs=[]∧bE p l=bJ p k (l.drop k)) ?_ ?_
 .simp -implicitDefEqProofs(maxSteps:=9^9)only[Tryz.f253,↓zA,sevalprocAttr,aiu]
  exact rfl
 .rintro k s hk ⟨f0,f1,f7,f8,hob,E⟩
  rcases Nat.lt_or_ge k l.length with c1|c1
  .have hw:=aQ k (by omega)
   have hx:=fun K=>ae.k (hg l[k] (List.getElem_mem c1)) K
   rw[aJ c1,bJ] at E
   simp -implicitDefEqProofs(maxSteps:=9^9)only[Tryz.f253,↓zA,sevalprocAttr,aiu,f0,f1,f7,f8,hob,ho,hc,aa,c1,ap c1,hw,hx]
   by_cases c2:p l[k]=true
   .simp only[c2,if_true] at E
    simp -implicitDefEqProofs(maxSteps:=9^9)only[Tryz.f253,↓zA,sevalprocAttr,aiu,c2,E]
   .simp only[c2,Bool.false_eq_true,if_false] at E
    simp -implicitDefEqProofs(maxSteps:=9^9)only[Tryz.f253,↓zA,sevalprocAttr,aiu,c2,E]
  .have e:k=l.length:=by omega
   subst e
   rw[List.drop_length,bJ] at E
   simp -implicitDefEqProofs(maxSteps:=9^9)only[Tryz.f253,↓zA,sevalprocAttr,aiu,f0,f1,f7,f8,hob,aa,Nat.lt_irrefl,E]
theorem aAL (l:List (List UInt8)) (p:(List UInt8)→Bool) (g:Nat) (cp:List C) (h:l.length≤4611686018427387903∧FnB (fun x=>ao (ar x)) g cp p l) (K:An→Prop):aG Tryz.prog pr 253 [.of (slC bd l),.of (.fn g cp)] [] K↔K ⟨false,[ak (bE p l)],[]⟩:=ae.k (aoY l p g cp h) K
def ait:=ai (ai @zq (ai @abx @ac5)) (ai @zT0 (ai @auF (aw aIR)))
theorem asA (l:List Od) (p:Od→Bool) (g:Nat) (cp:List C) (h:l.length≤4611686018427387903∧FnB (fun x=>.agg (odC x)) g cp p l):G1 254 [.of (slC odC l),.of (.fn g cp)] (ak (bE p l)):=by
 obtain⟨hl,ho,hc,hg⟩:=h
 refine aj rfl aIR auF rfl ?_
 simp -implicitDefEqProofs(maxSteps:=9^9)only[Tryz.f254,↓zA,sevalprocAttr,ait,ho]
 refine aL l.length (fun k s=>s.fr 0=.of (slC odC l)∧s.fr 1=.of (.fn g cp)∧s.fr 7=ak l.length∧s.fr 8=ak k∧s.objs=[]∧bE p l=bJ p k (l.drop k)) ?_ ?_
 .simp -implicitDefEqProofs(maxSteps:=9^9)only[Tryz.f254,↓zA,sevalprocAttr,ait]
  exact rfl
 .rintro k s hk ⟨f0,f1,f7,f8,hob,E⟩
  rcases Nat.lt_or_ge k l.length with c1|c1
  .have hw:=aQ k (by omega)
   have hx:=fun K=>ae.k (hg l[k] (List.getElem_mem c1)) K
   rw[aJ c1,bJ] at E
   simp -implicitDefEqProofs(maxSteps:=9^9)only[Tryz.f254,↓zA,sevalprocAttr,ait,f0,f1,f7,f8,hob,ho,hc,aa,c1,ap c1,hw,hx]
   by_cases c2:p l[k]=true
   .simp only[c2,if_true] at E
    simp -implicitDefEqProofs(maxSteps:=9^9)only[Tryz.f254,↓zA,sevalprocAttr,ait,c2,E]
   .simp only[c2,Bool.false_eq_true,if_false] at E
    simp -implicitDefEqProofs(maxSteps:=9^9)only[Tryz.f254,↓zA,sevalprocAttr,ait,c2,E]
  .have e:k=l.length:=by omega
   subst e
   rw[List.drop_length,bJ] at E
   simp -implicitDefEqProofs(maxSteps:=9^9)only[Tryz.f254,↓zA,sevalprocAttr,ait,f0,f1,f7,f8,hob,aa,Nat.lt_irrefl,E]
theorem aFr (l:List Od) (p:Od→Bool) (g:Nat) (cp:List C) (h:l.length≤4611686018427387903∧FnB (fun x=>.agg (odC x)) g cp p l) (K:An→Prop):aG Tryz.prog pr 254 [.of (slC odC l),.of (.fn g cp)] [] K↔K ⟨false,[ak (bE p l)],[]⟩:=ae.k (asA l p g cp h) K
def ais:=ai (ai @zq (ai @jh @kQ)) (ai @zT0 (ai @auE (aw aIQ)))
theorem at6 (l:List Im) (p:Im→Bool) (g:Nat) (cp:List C) (h:l.length≤4611686018427387903∧FnB (fun x=>.agg (imC x)) g cp p l):G1 255 [.of (slC imC l),.of (.fn g cp)] (ak (bE p l)):=by
 obtain⟨hl,ho,hc,hg⟩:=h
 refine aj rfl aIQ auE rfl ?_
 simp -implicitDefEqProofs(maxSteps:=9^9)only[Tryz.f255,↓zA,sevalprocAttr,ais,ho]
 refine aL l.length (fun k s=>s.fr 0=.of (slC imC l)∧s.fr 1=.of (.fn g cp)∧s.fr 7=ak l.length∧s.fr 8=ak k∧s.objs=[]∧bE p l=bJ p k (l.drop k)) ?_ ?_
 .simp -implicitDefEqProofs(maxSteps:=9^9)only[Tryz.f255,↓zA,sevalprocAttr,ais]
  exact rfl
 .rintro k s hk ⟨f0,f1,f7,f8,hob,E⟩
  rcases Nat.lt_or_ge k l.length with c1|c1
  .have hw:=aQ k (by omega)
   have hx:=fun K=>ae.k (hg l[k] (List.getElem_mem c1)) K
   rw[aJ c1,bJ] at E
   simp -implicitDefEqProofs(maxSteps:=9^9)only[Tryz.f255,↓zA,sevalprocAttr,ais,f0,f1,f7,f8,hob,ho,hc,aa,c1,ap c1,hw,hx]
   by_cases c2:p l[k]=true
   .simp only[c2,if_true] at E
    simp -implicitDefEqProofs(maxSteps:=9^9)only[Tryz.f255,↓zA,sevalprocAttr,ais,c2,E]
   .simp only[c2,Bool.false_eq_true,if_false] at E
    simp -implicitDefEqProofs(maxSteps:=9^9)only[Tryz.f255,↓zA,sevalprocAttr,ais,c2,E]
  .have e:k=l.length:=by omega
   subst e
   rw[List.drop_length,bJ] at E
   simp -implicitDefEqProofs(maxSteps:=9^9)only[Tryz.f255,↓zA,sevalprocAttr,ais,f0,f1,f7,f8,hob,aa,Nat.lt_irrefl,E]
theorem aHQ (l:List Im) (p:Im→Bool) (g:Nat) (cp:List C) (h:l.length≤4611686018427387903∧FnB (fun x=>.agg (imC x)) g cp p l) (K:An→Prop):aG Tryz.prog pr 255 [.of (slC imC l),.of (.fn g cp)] [] K↔K ⟨false,[ak (bE p l)],[]⟩:=ae.k (at6 l p g cp h) K
def air:=ai (ai @zq (ai @gV @hU)) (ai @zT0 (ai @auD (aw aIP)))
theorem at7 (l:List Fm) (p:Fm→Bool) (g:Nat) (cp:List C) (h:l.length≤4611686018427387903∧FnB (fun x=>.agg (fmC x)) g cp p l):G1 256 [.of (slC fmC l),.of (.fn g cp)] (ak (bE p l)):=by
 obtain⟨hl,ho,hc,hg⟩:=h
 refine aj rfl aIP auD rfl ?_
 simp -implicitDefEqProofs(maxSteps:=9^9)only[Tryz.f256,↓zA,sevalprocAttr,air,ho]
 refine aL l.length (fun k s=>s.fr 0=.of (slC fmC l)∧s.fr 1=.of (.fn g cp)∧s.fr 7=ak l.length∧s.fr 8=ak k∧s.objs=[]∧bE p l=bJ p k (l.drop k)) ?_ ?_
 .simp -implicitDefEqProofs(maxSteps:=9^9)only[Tryz.f256,↓zA,sevalprocAttr,air]
  exact rfl
 .rintro k s hk ⟨f0,f1,f7,f8,hob,E⟩
  rcases Nat.lt_or_ge k l.length with c1|c1
  .have hw:=aQ k (by omega)
   have hx:=fun K=>ae.k (hg l[k] (List.getElem_mem c1)) K
   rw[aJ c1,bJ] at E
   simp -implicitDefEqProofs(maxSteps:=9^9)only[Tryz.f256,↓zA,sevalprocAttr,air,f0,f1,f7,f8,hob,ho,hc,aa,c1,ap c1,hw,hx]
   by_cases c2:p l[k]=true
   .simp only[c2,if_true] at E
    simp -implicitDefEqProofs(maxSteps:=9^9)only[Tryz.f256,↓zA,sevalprocAttr,air,c2,E]
   .simp only[c2,Bool.false_eq_true,if_false] at E
    simp -implicitDefEqProofs(maxSteps:=9^9)only[Tryz.f256,↓zA,sevalprocAttr,air,c2,E]
  .have e:k=l.length:=by omega
   subst e
   rw[List.drop_length,bJ] at E
   simp -implicitDefEqProofs(maxSteps:=9^9)only[Tryz.f256,↓zA,sevalprocAttr,air,f0,f1,f7,f8,hob,aa,Nat.lt_irrefl,E]
theorem aHR (l:List Fm) (p:Fm→Bool) (g:Nat) (cp:List C) (h:l.length≤4611686018427387903∧FnB (fun x=>.agg (fmC x)) g cp p l) (K:An→Prop):aG Tryz.prog pr 256 [.of (slC fmC l),.of (.fn g cp)] [] K↔K ⟨false,[ak (bE p l)],[]⟩:=ae.k (at7 l p g cp h) K
end Go.Proofs.YtjajlmjfddohfaaGreatDoor

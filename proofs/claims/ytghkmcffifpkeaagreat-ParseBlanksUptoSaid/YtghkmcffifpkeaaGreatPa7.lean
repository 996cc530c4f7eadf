/- A part. Conditions: none. -/
import Derived.Test.YtghkmcffifpkeaaGreatPa6
set_option linter.all false
set_option maxRecDepth 100000
set_option maxHeartbeats 64000000
namespace Go.Tab
open Pe
structure Nn where
 nd:Int
 dp:Int
 deriving DecidableEq
structure Sz where
 nd:Int
 dp:Int
 deriving DecidableEq
def szC(x:Sz):List C:=[ci x.nd,ci x.dp]
def axx(x:Sz):szC x=[ci x.nd,ci x.dp]:=rfl
def aS3(x:Sz):(szC x).length=2:=rfl
structure Sh where
 le:Int
 mo:Int
 su:Int
 deriving DecidableEq
def shC(x:Sh):List C:=[ci x.le,ci x.mo,ci x.su]
def axK(x:Sh):shC x=[ci x.le,ci x.mo,ci x.su]:=rfl
def aTn(x:Sh):(shC x).length=3:=rfl
end Go.Tab
namespace Go.Proofs.YtghkmcffifpkeaaGreat
open Pe Tab
def a5a(x:Od):C.ref (odC x)=C.ref [aJ (aK x.nm),ci x.pl,cb x.dn]:=by rw[akN]
def a5m(x:Od)(r:List C):C.ref (odC x++r)=C.ref (aJ (aK x.nm)::ci x.pl::cb x.dn::r):=by rw[akN];rfl
def bac(x:Od):(odC x).map X.of=[.of (aJ (aK x.nm)),.of (ci x.pl),.of (cb x.dn)]:=by rw[akN];rfl
def a7Q(anm:List UInt8)(apl:Int)(adn:Bool):C.agg [aJ (aK anm),ci apl,cb adn]=C.agg (odC ⟨anm,apl,adn⟩):=by rw[akN]
def a71(x:Od):Od.mk x.nm x.pl x.dn=x:=rfl
def a41(x:Xp):C.ref (xpC x)=C.ref [ci x.op,ci x.v.k,ci x.v.n,aJ x.v.s,aJ (aK x.tb),aJ (aK x.nm),cb x.di,slC xpC x.ks,slC qyC x.sb]:=by rw[ff]
def a5g(x:Xp)(r:List C):C.ref (xpC x++r)=C.ref (ci x.op::ci x.v.k::ci x.v.n::aJ x.v.s::aJ (aK x.tb)::aJ (aK x.nm)::cb x.di::slC xpC x.ks::slC qyC x.sb::r):=by rw[ff];rfl
def a94(x:Xp):(xpC x).map X.of=[.of (ci x.op),.of (ci x.v.k),.of (ci x.v.n),.of (aJ x.v.s),.of (aJ (aK x.tb)),.of (aJ (aK x.nm)),.of (cb x.di),.of (slC xpC x.ks),.of (slC qyC x.sb)]:=by rw[ff];rfl
def a7I(aop:Int)(avk avn:Int)(avs:ByteArray)(atb:List UInt8)(anm:List UInt8)(adi:Bool)(aks:List Xp)(asb:List Qy):C.agg [ci aop,ci avk,ci avn,aJ avs,aJ (aK atb),aJ (aK anm),cb adi,slC xpC aks,slC qyC asb]=C.agg (xpC (.mk aop ⟨avk,avn,avs⟩ atb anm adi aks asb)):=by rw[ff];rfl
def aFL(x:Xp):Xp.mk x.op x.v x.tb x.nm x.di x.ks x.sb=x:=by cases x;rfl
section
variable (op:Int) (v:V) (tb:List UInt8) (nm:List UInt8) (di:Bool) (ks:List Xp) (sb:List Qy)
theorem aLN:(Xp.mk op v tb nm di ks sb).op=op:=rfl
theorem aTR:(Xp.mk op v tb nm di ks sb).v=v:=rfl
theorem aLK:(Xp.mk op v tb nm di ks sb).tb=tb:=rfl
theorem aLO:(Xp.mk op v tb nm di ks sb).nm=nm:=rfl
theorem aLQ:(Xp.mk op v tb nm di ks sb).di=di:=rfl
theorem aLP:(Xp.mk op v tb nm di ks sb).ks=ks:=rfl
theorem aLM:(Xp.mk op v tb nm di ks sb).sb=sb:=rfl
end
def a49(x:Qy):C.ref (qyC x)=C.ref [ci x.op,cb x.al,slC qyC x.ks,cb x.di,slC imC x.its,slC fmC x.fr,slC xpC x.wh,slC xpC x.gr,slC xpC x.hv,slC odC x.od,ci x.li,ci x.sk]:=by rw[ad6]
def a5l(x:Qy)(r:List C):C.ref (qyC x++r)=C.ref (ci x.op::cb x.al::slC qyC x.ks::cb x.di::slC imC x.its::slC fmC x.fr::slC xpC x.wh::slC xpC x.gr::slC xpC x.hv::slC odC x.od::ci x.li::ci x.sk::r):=by rw[ad6];rfl
def bab(x:Qy):(qyC x).map X.of=[.of (ci x.op),.of (cb x.al),.of (slC qyC x.ks),.of (cb x.di),.of (slC imC x.its),.of (slC fmC x.fr),.of (slC xpC x.wh),.of (slC xpC x.gr),.of (slC xpC x.hv),.of (slC odC x.od),.of (ci x.li),.of (ci x.sk)]:=by rw[ad6];rfl
def a7P(aop:Int)(aal:Bool)(aks:List Qy)(adi:Bool)(aits:List Im)(afr:List Fm)(awh:List Xp)(agr:List Xp)(ahv:List Xp)(aod:List Od)(ali:Int)(ask:Int):C.agg [ci aop,cb aal,slC qyC aks,cb adi,slC imC aits,slC fmC afr,slC xpC awh,slC xpC agr,slC xpC ahv,slC odC aod,ci ali,ci ask]=C.agg (qyC (.mk aop aal aks adi aits afr awh agr ahv aod ali ask)):=by rw[ad6];rfl
def a70(x:Qy):Qy.mk x.op x.al x.ks x.di x.its x.fr x.wh x.gr x.hv x.od x.li x.sk=x:=by cases x;rfl
section
variable (op:Int) (al:Bool) (ks:List Qy) (di:Bool) (its:List Im) (fr:List Fm) (wh:List Xp) (gr:List Xp) (hv:List Xp) (od:List Od) (li:Int) (sk:Int)
theorem aLT:(Qy.mk op al ks di its fr wh gr hv od li sk).op=op:=rfl
theorem aL1:(Qy.mk op al ks di its fr wh gr hv od li sk).al=al:=rfl
theorem aLW:(Qy.mk op al ks di its fr wh gr hv od li sk).ks=ks:=rfl
theorem aL0:(Qy.mk op al ks di its fr wh gr hv od li sk).di=di:=rfl
theorem aIc:(Qy.mk op al ks di its fr wh gr hv od li sk).its=its:=rfl
theorem aLZ:(Qy.mk op al ks di its fr wh gr hv od li sk).fr=fr:=rfl
theorem aLR:(Qy.mk op al ks di its fr wh gr hv od li sk).wh=wh:=rfl
theorem aLY:(Qy.mk op al ks di its fr wh gr hv od li sk).gr=gr:=rfl
theorem aLX:(Qy.mk op al ks di its fr wh gr hv od li sk).hv=hv:=rfl
theorem aLU:(Qy.mk op al ks di its fr wh gr hv od li sk).od=od:=rfl
theorem aLV:(Qy.mk op al ks di its fr wh gr hv od li sk).li=li:=rfl
theorem aLS:(Qy.mk op al ks di its fr wh gr hv od li sk).sk=sk:=rfl
end
def a5c(x:Im):C.ref (imC x)=C.ref [cb x.st,aJ (aK x.tb),ci x.e.op,ci x.e.v.k,ci x.e.v.n,aJ x.e.v.s,aJ (aK x.e.tb),aJ (aK x.e.nm),cb x.e.di,slC xpC x.e.ks,slC qyC x.e.sb,aJ (aK x.az)]:=by rw[amB]
def a5p(x:Im)(r:List C):C.ref (imC x++r)=C.ref (cb x.st::aJ (aK x.tb)::ci x.e.op::ci x.e.v.k::ci x.e.v.n::aJ x.e.v.s::aJ (aK x.e.tb)::aJ (aK x.e.nm)::cb x.e.di::slC xpC x.e.ks::slC qyC x.e.sb::aJ (aK x.az)::r):=by rw[amB];rfl
def baf(x:Im):(imC x).map X.of=[.of (cb x.st),.of (aJ (aK x.tb)),.of (ci x.e.op),.of (ci x.e.v.k),.of (ci x.e.v.n),.of (aJ x.e.v.s),.of (aJ (aK x.e.tb)),.of (aJ (aK x.e.nm)),.of (cb x.e.di),.of (slC xpC x.e.ks),.of (slC qyC x.e.sb),.of (aJ (aK x.az))]:=by rw[amB];rfl
def a7S(ast:Bool)(atb:List UInt8)(aeop:Int)(aevk aevn:Int)(aevs:ByteArray)(aetb:List UInt8)(aenm:List UInt8)(aedi:Bool)(aeks:List Xp)(aesb:List Qy)(aaz:List UInt8):C.agg [cb ast,aJ (aK atb),ci aeop,ci aevk,ci aevn,aJ aevs,aJ (aK aetb),aJ (aK aenm),cb aedi,slC xpC aeks,slC qyC aesb,aJ (aK aaz)]=C.agg (imC (.mk ast atb (.mk aeop ⟨aevk,aevn,aevs⟩ aetb aenm aedi aeks aesb) aaz)):=by rw[amB];rfl
def a73(x:Im):Im.mk x.st x.tb x.e x.az=x:=by cases x;rfl
section
variable (st:Bool) (tb:List UInt8) (e:Xp) (az:List UInt8)
theorem aL3:(Im.mk st tb e az).st=st:=rfl
theorem aL2:(Im.mk st tb e az).tb=tb:=rfl
theorem aTS:(Im.mk st tb e az).e=e:=rfl
theorem aL4:(Im.mk st tb e az).az=az:=rfl
end
def a5d(x:Fm):C.ref (fmC x)=C.ref [ci x.kd,aJ (aK x.nm),aJ (aK x.az),slC qyC x.sb,slC fmC x.ks,slC xpC x.on]:=by rw[aee]
def a5q(x:Fm)(r:List C):C.ref (fmC x++r)=C.ref (ci x.kd::aJ (aK x.nm)::aJ (aK x.az)::slC qyC x.sb::slC fmC x.ks::slC xpC x.on::r):=by rw[aee];rfl
def bag(x:Fm):(fmC x).map X.of=[.of (ci x.kd),.of (aJ (aK x.nm)),.of (aJ (aK x.az)),.of (slC qyC x.sb),.of (slC fmC x.ks),.of (slC xpC x.on)]:=by rw[aee];rfl
def a7T(akd:Int)(anm:List UInt8)(aaz:List UInt8)(asb:List Qy)(aks:List Fm)(aon:List Xp):C.agg [ci akd,aJ (aK anm),aJ (aK aaz),slC qyC asb,slC fmC aks,slC xpC aon]=C.agg (fmC (.mk akd anm aaz asb aks aon)):=by rw[aee];rfl
def a74(x:Fm):Fm.mk x.kd x.nm x.az x.sb x.ks x.on=x:=by cases x;rfl
section
variable (kd:Int) (nm:List UInt8) (az:List UInt8) (sb:List Qy) (ks:List Fm) (on:List Xp)
theorem aL9:(Fm.mk kd nm az sb ks on).kd=kd:=rfl
theorem aL7:(Fm.mk kd nm az sb ks on).nm=nm:=rfl
theorem aMa:(Fm.mk kd nm az sb ks on).az=az:=rfl
theorem aL5:(Fm.mk kd nm az sb ks on).sb=sb:=rfl
theorem aL8:(Fm.mk kd nm az sb ks on).ks=ks:=rfl
theorem aL6:(Fm.mk kd nm az sb ks on).on=on:=rfl
end
def a5e(x:Cd):C.ref (cdC x)=C.ref [aJ (aK x.nm),ci x.ty,cb x.nn]:=by rw[amI]
def a5r(x:Cd)(r:List C):C.ref (cdC x++r)=C.ref (aJ (aK x.nm)::ci x.ty::cb x.nn::r):=by rw[amI];rfl
def a7U(anm:List UInt8)(aty:Int)(ann:Bool):C.agg [aJ (aK anm),ci aty,cb ann]=C.agg (cdC ⟨anm,aty,ann⟩):=by rw[amI]
def a75(x:Cd):Cd.mk x.nm x.ty x.nn=x:=rfl
def a5b(x:Kd):C.ref (kdC x)=C.ref [cb x.pr,slC bI x.ns]:=by rw[amw]
def a5o(x:Kd)(r:List C):C.ref (kdC x++r)=C.ref (cb x.pr::slC bI x.ns::r):=by rw[amw];rfl
def bae(x:Kd):(kdC x).map X.of=[.of (cb x.pr),.of (slC bI x.ns)]:=by rw[amw];rfl
def a7R(apr:Bool)(ans:List (List UInt8)):C.agg [cb apr,slC bI ans]=C.agg (kdC ⟨apr,ans⟩):=by rw[amw]
def a72(x:Kd):Kd.mk x.pr x.ns=x:=rfl
def a48(x:Rd):C.ref (rdC x)=C.ref [slC bI x.ns,aJ (aK x.tb),slC bI x.to]:=by rw[amh]
def a5k(x:Rd)(r:List C):C.ref (rdC x++r)=C.ref (slC bI x.ns::aJ (aK x.tb)::slC bI x.to::r):=by rw[amh];rfl
def baa(x:Rd):(rdC x).map X.of=[.of (slC bI x.ns),.of (aJ (aK x.tb)),.of (slC bI x.to)]:=by rw[amh];rfl
def a7O(ans:List (List UInt8))(atb:List UInt8)(ato:List (List UInt8)):C.agg [slC bI ans,aJ (aK atb),slC bI ato]=C.agg (rdC ⟨ans,atb,ato⟩):=by rw[amh]
def a7Z(x:Rd):Rd.mk x.ns x.tb x.to=x:=rfl
def a5f(x:As):C.ref (asC x)=C.ref [aJ (aK x.nm),ci x.e.op,ci x.e.v.k,ci x.e.v.n,aJ x.e.v.s,aJ (aK x.e.tb),aJ (aK x.e.nm),cb x.e.di,slC xpC x.e.ks,slC qyC x.e.sb]:=by rw[amL]
def a5s(x:As)(r:List C):C.ref (asC x++r)=C.ref (aJ (aK x.nm)::ci x.e.op::ci x.e.v.k::ci x.e.v.n::aJ x.e.v.s::aJ (aK x.e.tb)::aJ (aK x.e.nm)::cb x.e.di::slC xpC x.e.ks::slC qyC x.e.sb::r):=by rw[amL];rfl
def bah(x:As):(asC x).map X.of=[.of (aJ (aK x.nm)),.of (ci x.e.op),.of (ci x.e.v.k),.of (ci x.e.v.n),.of (aJ x.e.v.s),.of (aJ (aK x.e.tb)),.of (aJ (aK x.e.nm)),.of (cb x.e.di),.of (slC xpC x.e.ks),.of (slC qyC x.e.sb)]:=by rw[amL];rfl
def a7V(anm:List UInt8)(aeop:Int)(aevk aevn:Int)(aevs:ByteArray)(aetb:List UInt8)(aenm:List UInt8)(aedi:Bool)(aeks:List Xp)(aesb:List Qy):C.agg [aJ (aK anm),ci aeop,ci aevk,ci aevn,aJ aevs,aJ (aK aetb),aJ (aK aenm),cb aedi,slC xpC aeks,slC qyC aesb]=C.agg (asC ⟨anm,(.mk aeop ⟨aevk,aevn,aevs⟩ aetb aenm aedi aeks aesb)⟩):=by rw[amL] <;> rfl
def a76(x:As):As.mk x.nm x.e=x:=rfl
def a45(x:Sm):C.ref (smC x)=C.ref [ci x.kd,aJ (aK x.tb),aJ (aK x.nm),slC cdC x.cs,slC bI x.ns,cb x.un,slC kdC x.kys,slC rdC x.rfs,slC xpC x.chs,slC (lsC xpC) x.rws,slC asC x.sts,slC xpC x.wh,slC qyC x.q]:=by rw[aeB]
def a5j(x:Sm)(r:List C):C.ref (smC x++r)=C.ref (ci x.kd::aJ (aK x.tb)::aJ (aK x.nm)::slC cdC x.cs::slC bI x.ns::cb x.un::slC kdC x.kys::slC rdC x.rfs::slC xpC x.chs::slC (lsC xpC) x.rws::slC asC x.sts::slC xpC x.wh::slC qyC x.q::r):=by rw[aeB];rfl
def a98(x:Sm):(smC x).map X.of=[.of (ci x.kd),.of (aJ (aK x.tb)),.of (aJ (aK x.nm)),.of (slC cdC x.cs),.of (slC bI x.ns),.of (cb x.un),.of (slC kdC x.kys),.of (slC rdC x.rfs),.of (slC xpC x.chs),.of (slC (lsC xpC) x.rws),.of (slC asC x.sts),.of (slC xpC x.wh),.of (slC qyC x.q)]:=by rw[aeB];rfl
def a7M(akd:Int)(atb:List UInt8)(anm:List UInt8)(acs:List Cd)(ans:List (List UInt8))(aun:Bool)(akys:List Kd)(arfs:List Rd)(achs:List Xp)(arws:List (List Xp))(asts:List As)(awh:List Xp)(aq:List Qy):C.agg [ci akd,aJ (aK atb),aJ (aK anm),slC cdC acs,slC bI ans,cb aun,slC kdC akys,slC rdC arfs,slC xpC achs,slC (lsC xpC) arws,slC asC asts,slC xpC awh,slC qyC aq]=C.agg (smC ⟨akd,atb,anm,acs,ans,aun,akys,arfs,achs,arws,asts,awh,aq⟩):=by rw[aeB]
def a7Y(x:Sm):Sm.mk x.kd x.tb x.nm x.cs x.ns x.un x.kys x.rfs x.chs x.rws x.sts x.wh x.q=x:=rfl
def a42(x:Tn):C.ref (tnC x)=C.ref [ci x.k,ci x.pl,ci x.sz,ci x.n,aJ (aK x.s)]:=by rw[bE]
def a5i(x:Tn)(r:List C):C.ref (tnC x++r)=C.ref (ci x.k::ci x.pl::ci x.sz::ci x.n::aJ (aK x.s)::r):=by rw[bE];rfl
def a95(x:Tn):(tnC x).map X.of=[.of (ci x.k),.of (ci x.pl),.of (ci x.sz),.of (ci x.n),.of (aJ (aK x.s))]:=by rw[bE];rfl
def a7J(ak:Int)(apl:Int)(asz:Int)(an:Int)(a_s:List UInt8):C.agg [ci ak,ci apl,ci asz,ci an,aJ (aK a_s)]=C.agg (tnC ⟨ak,apl,asz,an,a_s⟩):=by rw[bE]
def a7W(x:Tn):Tn.mk x.k x.pl x.sz x.n x.s=x:=rfl
def a43(x:Th):C.ref (thC x)=C.ref [cb x.q,cb x.w,ci x.y.op,cb x.y.al,slC qyC x.y.ks,cb x.y.di,slC imC x.y.its,slC fmC x.y.fr,slC xpC x.y.wh,slC xpC x.y.gr,slC xpC x.y.hv,slC odC x.y.od,ci x.y.li,ci x.y.sk,ci x.e.op,ci x.e.v.k,ci x.e.v.n,aJ x.e.v.s,aJ (aK x.e.tb),aJ (aK x.e.nm),cb x.e.di,slC xpC x.e.ks,slC qyC x.e.sb,ci x.f.kd,aJ (aK x.f.nm),aJ (aK x.f.az),slC qyC x.f.sb,slC fmC x.f.ks,slC xpC x.f.on]:=by rw[al9]
def a96(x:Th):(thC x).map X.of=[.of (cb x.q),.of (cb x.w),.of (ci x.y.op),.of (cb x.y.al),.of (slC qyC x.y.ks),.of (cb x.y.di),.of (slC imC x.y.its),.of (slC fmC x.y.fr),.of (slC xpC x.y.wh),.of (slC xpC x.y.gr),.of (slC xpC x.y.hv),.of (slC odC x.y.od),.of (ci x.y.li),.of (ci x.y.sk),.of (ci x.e.op),.of (ci x.e.v.k),.of (ci x.e.v.n),.of (aJ x.e.v.s),.of (aJ (aK x.e.tb)),.of (aJ (aK x.e.nm)),.of (cb x.e.di),.of (slC xpC x.e.ks),.of (slC qyC x.e.sb),.of (ci x.f.kd),.of (aJ (aK x.f.nm)),.of (aJ (aK x.f.az)),.of (slC qyC x.f.sb),.of (slC fmC x.f.ks),.of (slC xpC x.f.on)]:=by rw[al9];rfl
def a7K(aq:Bool)(aw:Bool)(ayop:Int)(ayal:Bool)(ayks:List Qy)(aydi:Bool)(ayits:List Im)(ayfr:List Fm)(aywh:List Xp)(aygr:List Xp)(ayhv:List Xp)(ayod:List Od)(ayli:Int)(aysk:Int)(aeop:Int)(aevk aevn:Int)(aevs:ByteArray)(aetb:List UInt8)(aenm:List UInt8)(aedi:Bool)(aeks:List Xp)(aesb:List Qy)(afkd:Int)(afnm:List UInt8)(afaz:List UInt8)(afsb:List Qy)(afks:List Fm)(afon:List Xp):C.agg [cb aq,cb aw,ci ayop,cb ayal,slC qyC ayks,cb aydi,slC imC ayits,slC fmC ayfr,slC xpC aywh,slC xpC aygr,slC xpC ayhv,slC odC ayod,ci ayli,ci aysk,ci aeop,ci aevk,ci aevn,aJ aevs,aJ (aK aetb),aJ (aK aenm),cb aedi,slC xpC aeks,slC qyC aesb,ci afkd,aJ (aK afnm),aJ (aK afaz),slC qyC afsb,slC fmC afks,slC xpC afon]=C.agg (thC ⟨aq,aw,(.mk ayop ayal ayks aydi ayits ayfr aywh aygr ayhv ayod ayli aysk),(.mk aeop ⟨aevk,aevn,aevs⟩ aetb aenm aedi aeks aesb),(.mk afkd afnm afaz afsb afks afon)⟩):=by rw[al9] <;> rfl
def a44(x:Sz):C.ref (szC x)=C.ref [ci x.nd,ci x.dp]:=by rw[axx]
def a97(x:Sz):(szC x).map X.of=[.of (ci x.nd),.of (ci x.dp)]:=by rw[axx];rfl
def a7L(and:Int)(adp:Int):C.agg [ci and,ci adp]=C.agg (szC ⟨and,adp⟩):=by rw[axx]
def a7X(x:Sz):Sz.mk x.nd x.dp=x:=rfl
def a47(x:Sh):C.ref (shC x)=C.ref [ci x.le,ci x.mo,ci x.su]:=by rw[axK]
def a99(x:Sh):(shC x).map X.of=[.of (ci x.le),.of (ci x.mo),.of (ci x.su)]:=by rw[axK];rfl
def a7N(ale:Int)(amo:Int)(asu:Int):C.agg [ci ale,ci amo,ci asu]=C.agg (shC ⟨ale,amo,asu⟩):=by rw[axK]
def aX3(x:V):C.ref (aiA x)=C.ref [ci x.k,ci x.n,aJ x.s]:=rfl
def a2J(x:V):(aiA x).map X.of=[.of (ci x.k),.of (ci x.n),.of (aJ x.s)]:=rfl
def asv(k n:Int)(s:ByteArray):C.agg [ci k,ci n,aJ s]=C.agg (aiA ⟨k,n,s⟩):=rfl
def asw(x:V):V.mk x.k x.n x.s=x:=rfl
def aYa(x:Int)(r:List C):C.ref (abC x++r)=C.ref (ci x::r):=rfl
def aX9(x:List UInt8)(r:List C):C.ref (bI x++r)=C.ref (aJ (aK x)::r):=rfl
def a5n{α:Type}(f:α->List C)(x:List α)(r:List C):C.ref (lsC f x++r)=C.ref (slC f x::r):=rfl
def aJl(l)(i:Int):bP tP 36 (.of (slC odC l)) (.of (.lit (.int .i64 i)))=aen (aaF l i) λx=>.of (.ref (odC x++fl odC (l.drop (i.toNat+1)))):=adk E36 aCs aI l i
def aIS(l):aah (some (.slice 126)) (.of (slC odC l))=out (aQ l.length):=ac6 odC l rfl
def aKs(tk tk' tk2:Tk)(cs0 cs:List C)(n m e2 z2:Nat):dV tP tk 36 36 (.own tk' 126 3 cs0 n) (.own tk2 e2 z2 cs m)=if cs.length=m*3/\n+m<=LIM then some (.own tk 126 3 (cs0++cs) (n+m),some tk') else none:=aek E36 aI aI tk tk' cs0 n _ cs m rfl
def aGu(tk:Tk)(xs:List X):cy tk 1 (Pe.elemOf tP 36) (some [(0,xs)])=if xs.length=3 then bJ ((X.rds xs).map λcs=>.own tk 126 3 cs 1) else none:=adl E36 aI aI rfl tk xs
def aNE(l)(i:Int):bP tP 25 (.of (slC xpC l)) (.of (.lit (.int .i64 i)))=aen (aaF l i) λx=>.of (.ref (xpC x++fl xpC (l.drop (i.toNat+1)))):=adk E25 as6 aI l i
def aNe(l):aah (some (.slice 28)) (.of (slC xpC l))=out (aQ l.length):=ac6 xpC l rfl
def aNR(l):(fl xpC l).length=l.length*9:=ayU (f:=xpC) (z:=9) as6 l
def aOP(tk tk' tk2:Tk)(cs0 cs:List C)(n m e2 z2:Nat):dV tP tk 25 25 (.own tk' 28 9 cs0 n) (.own tk2 e2 z2 cs m)=if cs.length=m*9/\n+m<=LIM then some (.own tk 28 9 (cs0++cs) (n+m),some tk') else none:=aek E25 aI aI tk tk' cs0 n _ cs m rfl
def aKw(tk tk2:Tk)(cs:List C)(m e2 z2:Nat):dV tP tk 25 25 .nil (.own tk2 e2 z2 cs m)=if cs.length=m*9/\m<=LIM then some (.own tk 28 9 cs m,none) else none:=afG E25 aI aI tk _ cs m rfl
def aOK(tk tk':Tk)(cs0:List C)(n:Nat)(l):dV tP tk 25 25 (.own tk' 28 9 cs0 n) (.of (slC xpC l))=if (fl xpC l).length=l.length*9/\n+l.length<=LIM then some (.own tk 28 9 (cs0++fl xpC l) (n+l.length),some tk') else none:=aek E25 aI aI tk tk' cs0 n _ _ _ rfl
def aKj(tk:Tk)(xs:List X):cy tk 1 (Pe.elemOf tP 25) (some [(0,xs)])=if xs.length=9 then bJ ((X.rds xs).map λcs=>.own tk 28 9 cs 1) else none:=adl E25 aI aI rfl tk xs
def aFj(l)(i:Int):bP tP 26 (.of (slC qyC l)) (.of (.lit (.int .i64 i)))=aen (aaF l i) λx=>.of (.ref (qyC x++fl qyC (l.drop (i.toNat+1)))):=adk E26 aCp aI l i
def aEW(l):aah (some (.slice 38)) (.of (slC qyC l))=out (aQ l.length):=ac6 qyC l rfl
def aBs(tk:Tk)(xs:List X):cy tk 1 (Pe.elemOf tP 26) (some [(0,xs)])=if xs.length=12 then bJ ((X.rds xs).map λcs=>.own tk 38 12 cs 1) else none:=adl E26 aI aI rfl tk xs
def aNB(l)(i:Int):bP tP 34 (.of (slC imC l)) (.of (.lit (.int .i64 i)))=aen (aaF l i) λx=>.of (.ref (imC x++fl imC (l.drop (i.toNat+1)))):=adk E34 aCM aI l i
def aNb(l):aah (some (.slice 138)) (.of (slC imC l))=out (aQ l.length):=ac6 imC l rfl
def aOO(tk tk' tk2:Tk)(cs0 cs:List C)(n m e2 z2:Nat):dV tP tk 34 34 (.own tk' 138 12 cs0 n) (.own tk2 e2 z2 cs m)=if cs.length=m*12/\n+m<=LIM then some (.own tk 138 12 (cs0++cs) (n+m),some tk') else none:=aek E34 aI aI tk tk' cs0 n _ cs m rfl
def aKh(tk:Tk)(xs:List X):cy tk 1 (Pe.elemOf tP 34) (some [(0,xs)])=if xs.length=12 then bJ ((X.rds xs).map λcs=>.own tk 138 12 cs 1) else none:=adl E34 aI aI rfl tk xs
def aNC(l)(i:Int):bP tP 35 (.of (slC fmC l)) (.of (.lit (.int .i64 i)))=aen (aaF l i) λx=>.of (.ref (fmC x++fl fmC (l.drop (i.toNat+1)))):=adk E35 aCV aI l i
def aNc(l):aah (some (.slice 140)) (.of (slC fmC l))=out (aQ l.length):=ac6 fmC l rfl
def aKi(tk:Tk)(xs:List X):cy tk 1 (Pe.elemOf tP 35) (some [(0,xs)])=if xs.length=6 then bJ ((X.rds xs).map λcs=>.own tk 140 6 cs 1) else none:=adl E35 aI aI rfl tk xs
def aFl(l)(i:Int):bP tP 42 (.of (slC cdC l)) (.of (.lit (.int .i64 i)))=aen (aaF l i) λx=>.of (.ref (cdC x++fl cdC (l.drop (i.toNat+1)))):=adk E42 aC5 aI l i
def aEY(l):aah (some (.slice 149)) (.of (slC cdC l))=out (aQ l.length):=ac6 cdC l rfl
def aGI(tk tk' tk2:Tk)(cs0 cs:List C)(n m e2 z2:Nat):dV tP tk 42 42 (.own tk' 149 3 cs0 n) (.own tk2 e2 z2 cs m)=if cs.length=m*3/\n+m<=LIM then some (.own tk 149 3 (cs0++cs) (n+m),some tk') else none:=aek E42 aI aI tk tk' cs0 n _ cs m rfl
def aBE(tk tk2:Tk)(cs:List C)(m e2 z2:Nat):dV tP tk 42 42 .nil (.own tk2 e2 z2 cs m)=if cs.length=m*3/\m<=LIM then some (.own tk 149 3 cs m,none) else none:=afG E42 aI aI tk _ cs m rfl
def aBu(tk:Tk)(xs:List X):cy tk 1 (Pe.elemOf tP 42) (some [(0,xs)])=if xs.length=3 then bJ ((X.rds xs).map λcs=>.own tk 149 3 cs 1) else none:=adl E42 aI aI rfl tk xs
def aFk(l)(i:Int):bP tP 44 (.of (slC kdC l)) (.of (.lit (.int .i64 i)))=aen (aaF l i) λx=>.of (.ref (kdC x++fl kdC (l.drop (i.toNat+1)))):=adk E44 aCE aI l i
def aEX(l):aah (some (.slice 151)) (.of (slC kdC l))=out (aQ l.length):=ac6 kdC l rfl
def aGH(tk tk' tk2:Tk)(cs0 cs:List C)(n m e2 z2:Nat):dV tP tk 44 44 (.own tk' 151 2 cs0 n) (.own tk2 e2 z2 cs m)=if cs.length=m*2/\n+m<=LIM then some (.own tk 151 2 (cs0++cs) (n+m),some tk') else none:=aek E44 aI aI tk tk' cs0 n _ cs m rfl
def aBD(tk tk2:Tk)(cs:List C)(m e2 z2:Nat):dV tP tk 44 44 .nil (.own tk2 e2 z2 cs m)=if cs.length=m*2/\m<=LIM then some (.own tk 151 2 cs m,none) else none:=afG E44 aI aI tk _ cs m rfl
def aBt(tk:Tk)(xs:List X):cy tk 1 (Pe.elemOf tP 44) (some [(0,xs)])=if xs.length=2 then bJ ((X.rds xs).map λcs=>.own tk 151 2 cs 1) else none:=adl E44 aI aI rfl tk xs
def aFi(l)(i:Int):bP tP 45 (.of (slC rdC l)) (.of (.lit (.int .i64 i)))=aen (aaF l i) λx=>.of (.ref (rdC x++fl rdC (l.drop (i.toNat+1)))):=adk E45 aCo aI l i
def aEV(l):aah (some (.slice 153)) (.of (slC rdC l))=out (aQ l.length):=ac6 rdC l rfl
def aGG(tk tk' tk2:Tk)(cs0 cs:List C)(n m e2 z2:Nat):dV tP tk 45 45 (.own tk' 153 3 cs0 n) (.own tk2 e2 z2 cs m)=if cs.length=m*3/\n+m<=LIM then some (.own tk 153 3 (cs0++cs) (n+m),some tk') else none:=aek E45 aI aI tk tk' cs0 n _ cs m rfl
def aBC(tk tk2:Tk)(cs:List C)(m e2 z2:Nat):dV tP tk 45 45 .nil (.own tk2 e2 z2 cs m)=if cs.length=m*3/\m<=LIM then some (.own tk 153 3 cs m,none) else none:=afG E45 aI aI tk _ cs m rfl
def aBr(tk:Tk)(xs:List X):cy tk 1 (Pe.elemOf tP 45) (some [(0,xs)])=if xs.length=3 then bJ ((X.rds xs).map λcs=>.own tk 153 3 cs 1) else none:=adl E45 aI aI rfl tk xs
def aFm(l)(i:Int):bP tP 47 (.of (slC asC l)) (.of (.lit (.int .i64 i)))=aen (aaF l i) λx=>.of (.ref (asC x++fl asC (l.drop (i.toNat+1)))):=adk E47 aDk aI l i
def aEZ(l):aah (some (.slice 93)) (.of (slC asC l))=out (aQ l.length):=ac6 asC l rfl
def aGJ(tk tk' tk2:Tk)(cs0 cs:List C)(n m e2 z2:Nat):dV tP tk 47 47 (.own tk' 93 10 cs0 n) (.own tk2 e2 z2 cs m)=if cs.length=m*10/\n+m<=LIM then some (.own tk 93 10 (cs0++cs) (n+m),some tk') else none:=aek E47 aI aI tk tk' cs0 n _ cs m rfl
def aBF(tk tk2:Tk)(cs:List C)(m e2 z2:Nat):dV tP tk 47 47 .nil (.own tk2 e2 z2 cs m)=if cs.length=m*10/\m<=LIM then some (.own tk 93 10 cs m,none) else none:=afG E47 aI aI tk _ cs m rfl
def aBv(tk:Tk)(xs:List X):cy tk 1 (Pe.elemOf tP 47) (some [(0,xs)])=if xs.length=10 then bJ ((X.rds xs).map λcs=>.own tk 93 10 cs 1) else none:=adl E47 aI aI rfl tk xs
def aNA(l)(i:Int):bP tP 53 (.of (slC smC l)) (.of (.lit (.int .i64 i)))=aen (aaF l i) λx=>.of (.ref (smC x++fl smC (l.drop (i.toNat+1)))):=adk E53 aCi aI l i
def aNa(l):aah (some (.slice 49)) (.of (slC smC l))=out (aQ l.length):=ac6 smC l rfl
def aON(tk tk' tk2:Tk)(cs0 cs:List C)(n m e2 z2:Nat):dV tP tk 53 53 (.own tk' 49 13 cs0 n) (.own tk2 e2 z2 cs m)=if cs.length=m*13/\n+m<=LIM then some (.own tk 49 13 (cs0++cs) (n+m),some tk') else none:=aek E53 aI aI tk tk' cs0 n _ cs m rfl
def aKv(tk tk2:Tk)(cs:List C)(m e2 z2:Nat):dV tP tk 53 53 .nil (.own tk2 e2 z2 cs m)=if cs.length=m*13/\m<=LIM then some (.own tk 49 13 cs m,none) else none:=afG E53 aI aI tk _ cs m rfl
def aKg(tk:Tk)(xs:List X):cy tk 1 (Pe.elemOf tP 53) (some [(0,xs)])=if xs.length=13 then bJ ((X.rds xs).map λcs=>.own tk 49 13 cs 1) else none:=adl E53 aI aI rfl tk xs
def aJk(l)(i:Int):bP tP 59 (.of (slC tnC l)) (.of (.lit (.int .i64 i)))=aen (aaF l i) λx=>.of (.ref (tnC x++fl tnC (l.drop (i.toNat+1)))):=adk E59 aB7 aI l i
def aIR(l):aah (some (.slice 63)) (.of (slC tnC l))=out (aQ l.length):=ac6 tnC l rfl
def aKr(tk tk' tk2:Tk)(cs0 cs:List C)(n m e2 z2:Nat):dV tP tk 59 59 (.own tk' 63 5 cs0 n) (.own tk2 e2 z2 cs m)=if cs.length=m*5/\n+m<=LIM then some (.own tk 63 5 (cs0++cs) (n+m),some tk') else none:=aek E59 aI aI tk tk' cs0 n _ cs m rfl
def aGP(tk tk2:Tk)(cs:List C)(m e2 z2:Nat):dV tP tk 59 59 .nil (.own tk2 e2 z2 cs m)=if cs.length=m*5/\m<=LIM then some (.own tk 63 5 cs m,none) else none:=afG E59 aI aI tk _ cs m rfl
def aGt(tk:Tk)(xs:List X):cy tk 1 (Pe.elemOf tP 59) (some [(0,xs)])=if xs.length=5 then bJ ((X.rds xs).map λcs=>.own tk 63 5 cs 1) else none:=adl E59 aI aI rfl tk xs
def aFh(l)(i:Int):bP tP 43 (.of (slC bI l)) (.of (.lit (.int .i64 i)))=aen (aaF l i) λx=>.of (.ref (bI x++fl bI (l.drop (i.toNat+1)))):=adk E43 (λ_=>rfl) aI l i
def aEU(l):aah (some (.slice 9)) (.of (slC bI l))=out (aQ l.length):=ac6 bI l rfl
def aGF(tk tk' tk2:Tk)(cs0 cs:List C)(n m e2 z2:Nat):dV tP tk 43 43 (.own tk' 9 1 cs0 n) (.own tk2 e2 z2 cs m)=if cs.length=m*1/\n+m<=LIM then some (.own tk 9 1 (cs0++cs) (n+m),some tk') else none:=aek E43 aI aI tk tk' cs0 n _ cs m rfl
def aBq(tk:Tk)(xs:List X):cy tk 1 (Pe.elemOf tP 43) (some [(0,xs)])=if xs.length=1 then bJ ((X.rds xs).map λcs=>.own tk 9 1 cs 1) else none:=adl E43 aI aI rfl tk xs
def aUF(l)(i:Int):bP tP 66 (.of (slC abC l)) (.of (.lit (.int .i64 i)))=aen (aaF l i) λx=>.of (.ref (abC x++fl abC (l.drop (i.toNat+1)))):=adk E66 (λ_=>rfl) aI l i
def aOI(tk:Tk)(xs:List X):cy tk 1 (Pe.elemOf tP 66) (some [(0,xs)])=if xs.length=1 then bJ ((X.rds xs).map λcs=>.own tk 3 1 cs 1) else none:=adl E66 aI aI rfl tk xs
def aA4(l)(i:Int):bP tP 46 (.of (slC (lsC xpC) l)) (.of (.lit (.int .i64 i)))=aen (aaF l i) λx=>.of (.ref ((lsC xpC) x++fl (lsC xpC) (l.drop (i.toNat+1)))):=adk E46 (λ_=>rfl) aI l i
def aAV(l):aah (some (.slice 25)) (.of (slC (lsC xpC) l))=out (aQ l.length):=ac6 (lsC xpC) l rfl
def aBB(tk tk' tk2:Tk)(cs0 cs:List C)(n m e2 z2:Nat):dV tP tk 46 46 (.own tk' 25 1 cs0 n) (.own tk2 e2 z2 cs m)=if cs.length=m*1/\n+m<=LIM then some (.own tk 25 1 (cs0++cs) (n+m),some tk') else none:=aek E46 aI aI tk tk' cs0 n _ cs m rfl
def azS(tk tk2:Tk)(cs:List C)(m e2 z2:Nat):dV tP tk 46 46 .nil (.own tk2 e2 z2 cs m)=if cs.length=m*1/\m<=LIM then some (.own tk 25 1 cs m,none) else none:=afG E46 aI aI tk _ cs m rfl
def azG(tk:Tk)(xs:List X):cy tk 1 (Pe.elemOf tP 46) (some [(0,xs)])=if xs.length=1 then bJ ((X.rds xs).map λcs=>.own tk 25 1 cs 1) else none:=adl E46 aI aI rfl tk xs
def aZC(s:List UInt8)(i:Int):agm tP 9 (.of (.lit (.string (aK s)))) (.of (.lit (.int .i64 i)))=aen (aaF s i) λc=>.of (.lit (.int .u8 (c.toNat:Nat))):=aZD (T:=TT.of Tryz.prog) (t:=9) U9 s i
def ahd:=ai (gh @a5a @a5m @bac @a7Q @a71 @aCs @al2 @beq @bei) (fZ @aVH @aVk @aVG @aVj @aVF @T36 @P36 @Q36)
def bG:=fV (gh @a41 @a5g @a94 @a7I @aFL @aLN @aTR @aLK @aLO) (gh @aLQ @aLP @aLM @as6 @T28 @P28 @Q28 @a1G @a0A) (gh @a1F @a0z @a1E @a0y @a1D @a0x @a1C @a0w @a1B) (fZ @a0v @a1A @a0u @T25 @P25 @Q25 @asw @asv)
def ep:=fW (gh @a49 @a5l @bab @a7P @a70 @aLT @aL1 @aLW @aL0) (gh @aIc @aLZ @aLR @aLY @aLX @aLU @aLV @aLS @aCp) (gh @T38 @P38 @Q38 @a0t @a0s @a0r @a0q @a1z @a0p) (gh @a1y @a0o @a1x @a0n @a1w @a0m @a1v @a0l @a1u) (fZ @a0k @aVt @aUT @aVs @aUS @T26 @P26 @Q26)
def acv:=fU (fZ @a5c @a5p @baf @a7S @a73 @aL3 @aL2 @aTS) (fZ @aL4 @aCM @anW @bep @beh @aVi @aVh @aVg) (fZ @aVE @aVf @T34 @P34 @Q34 @aFL @asw @asv)
def eG:=fU (gh @a5d @a5q @bag @a7T @a74 @aL9 @aL7 @aMa @aL5) (gh @aL8 @aL6 @aCV @ai8 @beo @a3n @aVe @aVd @aVD) (fZ @aVc @aVb @aVa @aVC @aU9 @T35 @P35 @Q35)
def ahW:=ai (fZ @a5e @a5r @a7U @a75 @aC5 @anV @ben @beg) (fY @aU8 @aVB @aU7 @aVA @T42 @P42 @Q42)
def ad3:=ai (fY @a5b @a5o @bae @a7R @a72 @aCE @azX) (fX @bef @aU6 @aU5 @T44 @P44 @Q44)
def afQ:=ai (gh @a48 @a5k @baa @a7O @a7Z @aCo @anU @bem @bee) (fZ @aU4 @aVz @aU3 @aVy @aU2 @T45 @P45 @Q45)
def afR:=ai (gh @a5f @a5s @bah @a7V @a76 @aDk @T93 @P93 @Q93) (gh @aZ3 @a1h @aZ2 @T47 @P47 @Q47 @aFL @asw @asv)
def abE:=fV (gh @a45 @a5j @a98 @a7M @a7Y @aCi @T49 @P49 @Q49) (gh @a1t @a0j @a1s @a0i @a1r @a0h @a1q @a0g @a1p) (gh @a0f @a1o @a0e @a1n @a0d @a1m @a0c @a1l @a0b) (gh @a1k @a0a @aVr @aUR @aVq @aUQ @aVp @aUP @T53)
def ab7:=fU (fY @a42 @a5i @a95 @a7J @a7W @aB7 @T63) (fY @P63 @Q63 @a1j @aZ8 @a1g @aZ7 @aZ6) (fX @aZ5 @a1f @a1i @aZ4 @T59 @P59)
def ao7:=ai (fZ @a43 @a96 @a7K @aS1 @aj0 @bek @bed @aVx) (fZ @aUY @aVw @aUX @aVv @aUW @aUV @aVu @aUU)
def aev:=ai (fW @a44 @a97 @a7L @a7X @aS3) (fW @azY @ber @bej @aVm @aVl)
def aPt:=fZ @a47 @a99 @a7N @aTn @aGU @aU1 @aU0 @aUZ
def ajr:=ai (fW @aX3 @a2J @asv @asw @T24) (fW @P24 @Q24 @a0D @a0C @a0B)
def ajs:=fV @aJl @aIS @aKs @aGu
def fq:=fY @aNE @aNe @aNR @aOP @aKw @aOK @aKj
def fC:=fU @aFj @aEW @aBs
def ahr:=fV @aNB @aNb @aOO @aKh
def acC:=fU @aNC @aNc @aKi
def ahZ:=fW @aFl @aEY @aGI @aBE @aBu
def ahY:=fW @aFk @aEX @aGH @aBD @aBt
def ahX:=fW @aFi @aEV @aGG @aBC @aBr
def agy:=fW @aFm @aEZ @aGJ @aBF @aBv
def aqg:=fW @aNA @aNa @aON @aKv @aKg
def acn:=fW @aJk @aIR @aKr @aGP @aGt
def bO:=fX @aFh @aEU @aGF @aBq @T43 @Q43
def ahE:=fU @aUF @aOI @T66
def acJ:=fZ @aA4 @aAV @aBB @azS @azG @T46 @P46 @Q46
def zT0:=fU (fY @aYa @aX9 @a5n @aZC @T3 @P3 @Q3) (fY @U3 @T4 @P4 @Q4 @T9 @P9 @Q9) (fX @U9 @T5 @Q5 @T29 @P29 @Q29)
end Go.Proofs.YtghkmcffifpkeaaGreat
namespace Go.Tab
open Pe
def agJ{α:Type}{l:List α}{k:Nat}(h:k<l.length):l.drop k=l[k]::l.drop (k+1):=ce h
def ajV{α:Type}(p:α->Bool):Nat->List α->Int
 | _,[]=>-1
 | k,x::r=>if p x then k else ajV p (k+1) r
def anC{α:Type}(p:α->Bool)(l:List α):Int:=ajV p 0 l
end Go.Tab
namespace Go.Pe
def aYf(mt:String->Option Nat->Bool)(d:Option Nat)(op:Op)(ty:Nat)(po:String)(af:Array Edge)(g:Option (Nat×Bool))(l:List Oper):plB mt (⟨d,op,ty,po,af,g⟩::l)=mt po none:=rfl
def aYe(Q:Pn->Prop)(p:Pn):plQ Q (some p)↔Q p:=bg
def aLA(P:Program)(pr:Pr)(ops:Array Oper)(s:S)(Q:Option X->S->Prop)(c:Option Nat)(pre mid:List (Nat×Bool))(m:Nat)(b:Bool) :
  aww P pr ops s Q ⟨c,pre,mid,m,b⟩↔WA P pr ops pre [] s λD s1=>WCl P pr ops D s1 c (apw (λs2=>WA P pr ops mid [] s2 λ_ s3=>WT P pr b ops m (ops.toList.drop m) s3 Q) Q):=bg
def aYm(Q:Oper->Prop)(o:Oper):opQ Q (some o)↔Q o:=bg
def aZw(Q:List Nat->Prop)(D:List Nat):ldQ Q (some D)↔Q D:=bg
def a7o(s:S)(o:Op):ldD s true o=some []:=rfl
def a7p(s:S)(o:Op):ldD s false o=aeK s o:=rfl
def aI6(s:S)(t:Nat)(a:Operand):aeK s (.load t a)=afW (s.ev a):=rfl
def aI5(s:S)(x:Operand):aeK s (.move x)=some []:=rfl
def aUw(s:S)(t:Nat)(x:Operand)(f:Nat):aeK s (.fieldAddr t x f)=some []:=rfl
def aNj(s:S)(x:Operand):aeK s (.nilCheck x)=some []:=rfl
def aNl(s:S)(op:BinOp)(t:Nat)(x y:Operand)(u:Nat):aeK s (.binOp op t x y u)=some []:=rfl
def aUx(s:S)(t n:Nat)(ps:Array (Nat×Operand)):aeK s (.buildSlice t n ps)=alz (acF s (ps.toList.map (·.2))):=rfl
def aUv(s:S)(t:Nat)(x i:Operand):aeK s (.indexAddr t x i)=alz (acF s [x]):=rfl
def aNk(s:S)(args:Array Operand)(tys:Array Nat):aeK s (.call {callee:=.builtin .len,args:=args,argTypes:=tys})=alz (acF s args.toList):=rfl
def aUu:alz true=some []:=rfl
def aAJ(s:S):acF s []=true:=rfl
def ayi(s:S)(x:Operand)(l:List Operand):acF s (x::l)=(abz (s.ev x)&&acF s l):=rfl
def aIB(c:C):abz (.of c)=true:=rfl
def aEH:abz .nil=true:=rfl
def aEG(t:Tk)(e z:Nat)(cs:List C)(n:Nat):abz (.own t e z cs n)=true:=rfl
def aEI(xs:List X):abz (.agg xs)=true:=rfl
def aI3(cs:List C):afW (.of (.ref cs))=some []:=rfl
def aI4(r o:Nat):afW (.ptr r o)=some [r]:=rfl
def aTW(Q:Option X->S->Prop)(s:S):aMe Q none s↔Q none s:=bg
def aK6(us:List X):X->Option (Nat×List X)
 | .of (.fn g caps)=>some (g,us++caps.map .of)
 | .clo g caps=>some (aiw g,akZ g caps us)
 | _=>none
def aVO(obj tk:Nat->Bool)(s:S)(D:List Nat)(f:Operand)(args:Array Operand)(tys:Array Nat):aoQ obj tk s D (.call {callee:=.value f,args:=args,argTypes:=tys})=azp obj tk s D (aK6 (args.toList.map s.ev) (s.ev f)):=by
 show azp obj tk s D (ad4 s (.value f) args.toList)=_
 congr 1
def aS2(us:List X)(g:Nat)(caps:List C):aK6 us (.of (.fn g caps))=some (g,us++caps.map .of):=rfl
def aK5(us:List X)(g:Nat)(caps:List X):aK6 us (.clo g caps)=some (aiw g,akZ g caps us):=rfl
def aVP(obj tk:Nat->Bool)(s:S)(D:List Nat)(g:Nat)(us:List X):azp obj tk s D (some (g,us))=(obj g&&!tk g&&(dW s.objs 999 (X.refsL us) []).all λr=>!D.contains r):=rfl
def aBx(K:Option X->S->Prop)(s:S):azI K none s↔K none s:=bg
def aBw(K:Option X->S->Prop)(x:X)(s:S):azI K (some x) s↔K (some x) (blank s):=bg
def aGx(s:S):(blank s).objs=s.objs:=rfl
def aLw(Q:S->Prop)(s:S):arM Q (some s)↔Q s:=bg
def arL(s:S)(ix:Nat)(af:Array Edge)(d1 d2:Option Nat)(ty:Nat)(x:X):Option (Nat×TD)->Option (List C×Nat)->Option Int->Option (List C)->Option S
 | some (e,d),some (cs,1),some j,some ys=>if cs.length=d.size/\ys.length=d.size/\0<d.size/\ty=e then match apk s (.nm s.clk ix 0) e d ys j x with
  | some (z,t,obs)=>if aau s.clk af.toList t=true then some (({s.drop t with objs:=(s.drop t).objs++obs}:S).put d1 z |>.put d2 (.of .any)) else none
  | none=>none
  else none
 | _,_,_,_=>none
def aLu(T:TT)(s:S)(ix:Nat)(d1 d2 d3:Option Nat)(x y w1 w2 i v:Operand)(ts:Array Nat)(t ty t1 t2 t3:Nat)(p1 p2 p3:String)(a1 a2 a3:Array Edge)(g1 g2 g3:Option (Nat×Bool)) :
  ang T s ix ⟨d1,.call {callee:=.builtin .append,args:=#[x,y],argTypes:=ts},t1,p1,a1,g1⟩ ⟨d2,.indexAddr t w1 i,t2,p2,a2,g2⟩ ⟨d3,.store ty w2 v,t3,p3,a3,g3⟩=arL s ix a1 d1 d2 ty (s.ev x) (elemOf T t) (aaY (s.ev y)) (aaM (s.ev i)) (eA (s.ev v)):=by
 show arK T s ix ⟨d1,.call {callee:=.builtin .append,args:=#[x,y],argTypes:=ts},t1,p1,a1,g1⟩ ⟨d2,.indexAddr t w1 i,t2,p2,a2,g2⟩ ⟨d3,.store ty w2 v,t3,p3,a3,g3⟩ t x y i v ty=_
 unfold arK arL
 cases elemOf T t with
 | none=>rfl
 | some p=>cases aaY (s.ev y) with
  | none=>rfl
  | some q=>cases aaM (s.ev i) with
   | none=>cases q.2 <;> rfl
   | some j=>cases eA (s.ev v) with
    | none=>rfl
    | some ys=>rfl
def axU(s:S)(ix:Nat)(af:Array Edge)(d1 d2:Option Nat)(ty:Nat)(x:X)(e:Nat)(d:TD)(cs:List C)(j:Int)(ys:List C) :
  arL s ix af d1 d2 ty x (some (e,d)) (some (cs,1)) (some j) (some ys)=if cs.length=d.size/\ys.length=d.size/\0<d.size/\ty=e then match apk s (.nm s.clk ix 0) e d ys j x with
   | some (z,t,obs)=>if aau s.clk af.toList t=true then some (({s.drop t with objs:=(s.drop t).objs++obs}:S).put d1 z |>.put d2 (.of .any)) else none
   | none=>none
   else none:=rfl
def aH3(s:S)(ix:Nat)(af:Array Edge)(d1 d2:Option Nat)(ty:Nat)(t:Tk)(e' z':Nat)(cs':List C)(n:Nat)(e:Nat)(d:TD)(cs:List C)(j:Int)(ys:List C) :
  arL s ix af d1 d2 ty (.own t e' z' cs' n) (some (e,d)) (some (cs,1)) (some j) (some ys)=if cs.length=d.size/\ys.length=d.size/\0<d.size/\ty=e/\e'=e/\z'=d.size/\j=(n:Int)/\n+1<=LIM/\d.bytes<=32768/\aau s.clk af.toList (some t)=true then
   (if n=0 then some ((({s.drop (some t) with objs:=(s.drop (some t)).objs++[.row e ys]}:S).put d1 (.top s.objs.length e z')).put d2 (.of .any)) else some (((s.drop (some t)).put d1 (.own (.nm s.clk ix 0) e z' (cs'++ys) (n+1))).put d2 (.of .any))) else none:=by
 rw[axU]
 unfold apk
 dsimp only
 by_cases h1:cs.length=d.size/\ys.length=d.size/\0<d.size/\ty=e
 .rw[am h1]
  by_cases h2:e'=e/\z'=d.size/\j=(n:Int)/\n+1<=LIM/\d.bytes<=32768
  .rw[am h2]
   by_cases hn:n=0
   .rw[am hn]
    simp only
    by_cases h3:aau s.clk af.toList (some t)=true
    .rw[am h3,am ⟨h1.1,h1.2.1,h1.2.2.1,h1.2.2.2,h2.1,h2.2.1,h2.2.2.1,h2.2.2.2.1,h2.2.2.2.2,h3⟩,am hn]
    .rw[aj h3,aj λh=>h3 h.2.2.2.2.2.2.2.2.2]
   .rw[aj hn]
    simp only
    by_cases h3:aau s.clk af.toList (some t)=true
    .rw[am h3,am ⟨h1.1,h1.2.1,h1.2.2.1,h1.2.2.2,h2.1,h2.2.1,h2.2.2.1,h2.2.2.2.1,h2.2.2.2.2,h3⟩,aj hn,df]
    .rw[aj h3,aj λh=>h3 h.2.2.2.2.2.2.2.2.2]
  .rw[aj h2,aj λh=>h2 ⟨h.2.2.2.2.1,h.2.2.2.2.2.1,h.2.2.2.2.2.2.1,h.2.2.2.2.2.2.2.1,h.2.2.2.2.2.2.2.2.1⟩]
 .rw[aj h1,aj λh=>h1 ⟨h.1,h.2.1,h.2.2.1,h.2.2.2.1⟩]
def aH4(s:S)(ix:Nat)(af:Array Edge)(d1 d2:Option Nat)(ty:Nat)(e:Nat)(d:TD)(cs:List C)(j:Int)(ys:List C) :
  arL s ix af d1 d2 ty .nil (some (e,d)) (some (cs,1)) (some j) (some ys)=if cs.length=d.size/\ys.length=d.size/\0<d.size/\ty=e/\j=0/\d.bytes<=32768 then
   some ((s.put d1 (.own (.nm s.clk ix 0) e d.size ys 1)).put d2 (.of .any)) else none:=by
 rw[axU]
 unfold apk
 dsimp only
 by_cases h1:cs.length=d.size/\ys.length=d.size/\0<d.size/\ty=e
 .rw[am h1]
  by_cases h2:j=0/\d.bytes<=32768
  .rw[am h2,am ⟨h1.1,h1.2.1,h1.2.2.1,h1.2.2.2,h2.1,h2.2⟩]
   simp only[aau,au,S.drop,df]
  .rw[aj h2,aj λh=>h2 ⟨h.2.2.2.2.1,h.2.2.2.2.2⟩]
 .rw[aj h1,aj λh=>h1 ⟨h.1,h.2.1,h.2.2.1,h.2.2.2.1⟩]
def aXK(A B:Prop):atq false A B↔B:=bg
def aLi(A:Prop)(B:Nat->Nat->Nat->Option S)(Q:S->Prop)(r e z:Nat):aqn A B Q (.top r e z)↔acb Q (B r e z):=bg
def akT:Option Ob->Bool
 | some (.row _ (_::_))=>true
 | _=>false
def aTC(T:TT)(s:S)(ix:Nat)(d:Option Nat)(t r e z e':Nat)(td:TD):aqu T s ix d t r e z (some (e',td)) (some 0)=if e'=e/\td.size=z then match s.objs[r]? with
  | some (.row _ (_::_))=>some (({s.tr (afX r) with objs:=((s.tr (afX r)).objs).set r (.row e [])}:S).put d (.own (.nm s.clk ix 0) e z [] 0))
  | _=>none
  else none:=rfl
def aTD(T:TT)(s:S)(ix:Nat)(d:Option Nat)(t r e z e':Nat)(td:TD):aqu T s ix d t r e z (some (e',td)) (some 0)=if e'=e/\td.size=z/\akT (s.objs[r]?)=true then some (({s.tr (afX r) with objs:=((s.tr (afX r)).objs).set r (.row e [])}:S).put d (.own (.nm s.clk ix 0) e z [] 0)) else none:=by
 rw[aTC]
 by_cases h:e'=e/\td.size=z
 .rw[am h]
  cases hr:s.objs[r]? with
  | none=>rw[aj λh'=>by simp[akT] at h']
  | some ob=>cases ob with
   | row ty cs=>cases cs with
    | nil=>rw[aj λh'=>by simp[akT] at h']
    | cons c cs=>rw[am ⟨h.1,h.2,rfl⟩]
   | _=>rw[aj λh'=>by simp[akT] at h']
 .rw[aj h,aj λh'=>h ⟨h'.1,h'.2.1⟩]
def aNH(x:X):hiX (some x)=aaM x:=rfl
def axn(e z:Nat):Option Nat->Option Tk->X
 | some r',some t'=>if t'=abQ r' then .top r' e z else .of .any
 | _,_=>.of .any
def aXf(σ:Nat->Option Nat)(ρ:Tk->Option Tk)(r e z:Nat):(X.top r e z).tr σ ρ=axn e z (σ r) (ρ (.cell r 1099511627776)):=by
 simp only[X.tr,axn]
 cases σ r with
 | none=>rfl
 | some r' =>
  cases ρ (abQ r) with
  | none=>rfl
  | some t'=>simp only[ab]
def aSW(e z r r' o:Nat):axn e z (some r) (some (.cell r' o))=if r'=r/\o=1099511627776 then .top r e z else .of .any:=by simp only[axn,Tk.cell.injEq]
def aSV(e z:Nat)(x:Option Nat):axn e z x none=.of .any:=by cases x <;> rfl
def aE8(r r' o:Nat):afX r (.cell r' o)=if r'=r/\o=1099511627776 then none else some (.cell r' o):=by simp only[afX,Tk.cell.injEq]
def aJE(t:Tk)(r e z:Nat):(X.top r e z).drop t=.top r e z:=rfl
def aLo(r e z:Nat):(X.top r e z).refs=[r]:=rfl
def aEE(ty:Nat)(cs:List C):(Ob.row ty cs).refs=[]:=rfl
def aMn(σ:Nat->Option Nat)(ρ:Tk->Option Tk)(ty:Nat)(cs:List C):(Ob.row ty cs).tr σ ρ=.row ty cs:=rfl
def aJG(t:Tk)(ty:Nat)(cs:List C):(Ob.row ty cs).drop t=.row ty cs:=rfl
def aJW(r e z:Nat):cE (.top r e z)=some [.top r e z]:=rfl
def aIE(a b c:Nat)(xs:List X):acy (.top a b c::xs)=acy xs:=rfl
def aUt(u:Option TypeDesc)(r e z:Nat):aah u (.top r e z)=if aio u=true then out (aQ 1) else none:=rfl
def ayP{T:TT}{t e n b:Nat}{a:Bool}{zr:List Value}{fl:List (Nat×Nat)}{d:TD}(hT:T t=some ⟨.slice e,n,b,a,zr,fl⟩)(hd:T e=some d)(r e' z:Nat)(i:Int):bP T t (.top r e' z) (.of (.lit (.int .i64 i)))=if e'=e/\z=d.size/\i=0/\0<d.size then out (.ptr r 0) else none:=by
 simp only[bP,aaM,hT,hd,aaY,aiB]
def aly(T:TT)(t off ty:Nat)(c:C)(cs:List C):ant T t off (some (.row ty (c::cs)))=(bm T t ((c::cs).drop off)).map .of:=rfl
def aIV(objs:List Ob):agF objs []=true:=rfl
def aE0(objs:List Ob)(r:Nat)(l:List Nat):agF objs (r::l)=(adq objs[r]?&&agF objs l):=rfl
def aIT(ty:Nat)(xs:List X):adq (some (.var ty xs))=true:=rfl
def aIU(ty:Nat)(c:C)(cs:List C):adq (some (.row ty (c::cs)))=true:=rfl
def aMc(x:Option (List Ob)):akJ true x=x:=rfl
def aNq(e:Nat):aio (some (.slice e))=true:=rfl
def aYd(Q:Pn->Prop){p p':Option Pn}(h:Unit->p=p'):plQ Q p=plQ Q p':=by rw[h ()]
def aYl(Q:Oper->Prop){p p':Option Oper}(h:Unit->p=p'):opQ Q p=opQ Q p':=by rw[h ()]
def aZv(Q:List Nat->Prop){p p':Option (List Nat)}(h:Unit->p=p'):ldQ Q p=ldQ Q p':=by rw[h ()]
def aLv(Q:S->Prop){p p':Option S}(h:Unit->p=p'):arM Q p=arM Q p':=by rw[h ()]
def aTk(A:Prop)(B:Nat->Nat->Nat->Option S)(Q:S->Prop){x x':X}(h:Unit->x=x'):aqn A B Q x=aqn A B Q x':=by rw[h ()]
def aTl{b b':Bool}(A B:Prop)(h:Unit->b=b'):atq b A B=atq b' A B:=by rw[h ()]
attribute [congr] aYd aYl aZv aLv aTk aTl
def zD3:=fU (fY @aYe @aLA @aYm @aZw @aTW @a2S @aWC) (fY @aOX @aOW @aOV @aWA @aOY @aOZ @aKD) (fW @aBx @aBw @aLw @aXK @aLi)
def zU3:=fX (gh @aYf @a7o @a7p @aI6 @aI5 @aUw @aNj @aNl @aUx) (gh @aUv @aNk @aUu @aAJ @ayi @aIB @aEH @aEG @aEI) (gh @aI3 @aI4 @aVO @aS2 @aK5 @aVP @aGx @aLu @aH3) (gh @aH4 @aTD @aNH @aXf @aSW @aSV @aE8 @aJE @aLo) (gh @aEE @aMn @aJG @aJW @aIE @aUt @aly @aIV @aE0) (fV @aIT @aIU @aMc @aNq)
def aas{P:Program}{pr:Pr}{c:Code}{s:S}{Q:Ex->S->Prop}(n:Nat)(I:Nat->S->Prop)(h0:I 0 s)
  (h:∀ k s,k<=n->I k s->WC P pr c s (λe s'=>match e with
   | .normal=>k<n/\I (k+1) s'
   | e=>Q e s')):WC P pr (.loop c) s Q:=by
 refine aaj c Q (λm s=>∃ k,k<=n/\m=n-k/\I k s) ?_ n s ⟨0,aO _,rfl,h0⟩
 rintro m s ⟨k,hk,rfl,hI⟩
 refine WC.mono (h k s hk hI) λe s' hq=>?_
 cases e with
 | normal=>exact⟨n-(k+1),by omega,k+1,by omega,rfl,hq.2⟩
 | _=>exact hq
end Go.Pe
namespace Go.Proofs.YtghkmcffifpkeaaGreat
open Pe Tab
def er(n:Nat)(h:n<4611686018427387904):IntKind.i64.wrap ((n:Int)+1)=((n+1:Nat):Int):=by rw[d9 _ aC aC];rfl
def aLe(a b:List UInt8):aK a++aK b=aK (a++b):=by
 apply amX.1
 simp[aK]
def a9Z{P:Program}{T:TT}{t:Nat}{u:Option TypeDesc}(a b:List UInt8):fE P T t u .add (.of (.lit (.string (aK a)))) (.of (.lit (.string (aK b))))=if a.length+b.length<=aj1 then out (af4 (aK (a++b))) else none:=by
 rw[Z1u,ad5,ad5,aLe]
def aKK(u:TypeDesc)(n b:Nat)(a:Bool)(z:List Value)(f:List (Nat×Nat)):fw ⟨u,n,b,a,z,f⟩=z.map abv:=rfl
def cJ(a b:List UInt8):(aK a=aK b)=(a=b):=propext ⟨aLd,λh=>h▸rfl⟩
def aXz(a:List UInt8):(aK a=({data:=#[]}:ByteArray))=(a=[]):=cJ a []
def aV(a b:Nat):((a:Int)<(b:Int))=(a<b):=propext Int.ofNat_lt
def aOD(P:Program)(t n b:Nat)(a:Bool)(fs:Array Field)(z:List Value)(fl:List (Nat×Nat))(qs:List (Nat×List X)):azD P t (some ⟨.struct fs,n,b,a,z,fl⟩) (some qs)=bJ ((aax (λi=>fl[i]?) (fw ⟨.struct fs,n,b,a,z,fl⟩) qs).map .agg):=rfl
def ba2(x:X):Option.map (λp:X×Option Tk=>p.1) (out x)=some x:=rfl
def aNO(f:Nat)(xs:List X)(cs:List C):fnX f xs (some cs)=out (.of (.fn f cs)):=rfl
def zG:=ai (gh @auQ @aIi @aTs @aJX @aKK @aOD @ba2 @aXz @aNO) (gh @Z2x @a4Z @aso @ayN @ad5 @aYc @a5u @aCr @a5v)
def zH:=ai (fX @abo @abp @aaH @aam @db @dK) (fW @dz @dL @aaw @cW @agW)
def zq:=fX @zU @zU2 @zU3 @zB @zG @zH
def zA:=fV @zD @zD2 @zD3 @zE
end Go.Proofs.YtghkmcffifpkeaaGreat
namespace Go.Tab
open Pe
def isT(l:List Tn)(i:Nat)(w:List UInt8):Bool:=match l[i]? with
 | some t=>(decide (t.k=1)||decide (t.k=5))&&decide (t.s=w)
 | none=>false
def co(l:List Tn)(i:Nat):List (List UInt8)->Bool
 | []=>false
 | w::r=>isT l i w||co l i r
def br(l:List Tn)(i:Nat)(k:Int):Bool:=match l[i]? with
 | some t=>decide (t.k=k)
 | none=>false
def txT(l:List Tn)(i:Nat):List UInt8:=match l[i]? with
 | some t=>t.s
 | none=>[]
def nuT(l:List Tn)(i:Nat):Int:=match l[i]? with
 | some t=>t.n
 | none=>0
def bH(l:List Tn)(i:Nat)(w:List UInt8):Nat×Bool:=if isT l i w then (i+1,false) else (i,true)
def dI(l:List Tn):Nat->List (List UInt8)->Nat×Bool
 | i,[]=>(i,false)
 | i,w::r=>if isT l i w then dI l (i+1) r else (i,true)
def cd(l:List Tn)(i:Nat):List UInt8×Nat×Bool:=if br l i 2 then (txT l i,i+1,false) else ([],i,true)
def v0:V:=⟨0,0,ByteArray.empty⟩
def x0:Xp:=.mk 0 v0 [] [] false [] []
def y0:Qy:=.mk 0 false [] false [] [] [] [] [] [] 0 0
def f0:Fm:=.mk 0 [] [] [] [] []
def dR(o:Int)(ks:List Xp):Xp:=.mk o v0 [] [] false ks []
def ai3(t s:List UInt8):Xp:=.mk 2 v0 t s false [] []
def af8(o:Int)(ks:List Xp)(q:Qy):Xp:=.mk o v0 [] [] false ks [q]
def ajS(no:Bool)(a:Xp):Xp:=if no then dR 4 [a] else a
def Th.ofE(a:Xp):Th:=⟨false,false,y0,a,f0⟩
def Th.ofQ(a:Qy):Th:=⟨true,false,a,x0,f0⟩
def Th.ofF(a:Fm):Th:=⟨false,false,y0,x0,a⟩
def Th.val(t:Th):Xp:=if t.q then af8 26 [] t.y else t.e
abbrev Rz(α:Type):=Option (α×Nat×Bool)
def Rz.on{α β:Type}(r:Rz α)(g:α->β)(f:α->Nat->Rz β):Rz β:=match r with
 | none=>none
 | some (a,i,true)=>some (g a,i,true)
 | some (a,i,false)=>f a i
def Rz.to{α β:Type}(r:Rz α)(g:α->β):Rz β:=match r with
 | none=>none
 | some (a,i,b)=>some (g a,i,b)
def wantR{β:Type}(r:Nat×Bool)(x:β)(f:Nat->Rz β):Rz β:=match r with
 | (i,true)=>some (x,i,true)
 | (i,false)=>f i
def wantE{β:Type}(r:Nat×Bool)(x:β):Rz β:=some (x,r.1,r.2)
def nameR{β:Type}(r:List UInt8×Nat×Bool)(g:List UInt8->β)(f:List UInt8->Nat->Rz β):Rz β:=match r with
 | (s,i,true)=>some (g s,i,true)
 | (s,i,false)=>f s i
structure Fs where
 or:Nat->List Xp->Rz Xp
 no:Nat->Rz Xp
 un:Nat->Rz Xp
 qy:Nat->List Qy->Rz Qy
 ins:Nat->Rz Th
 fr:Nat->List Fm->Rz Fm
 so:Nat->Rz Th
def opT(l:List Tn)(i:Nat):List (List UInt8×Int)->Option Int
 | []=>none
 | (w,o)::r=>if isT l i w then some o else opT l i r
def aer(nx:Nat->List Xp->Rz Xp)(l:List Tn)(so:List (List UInt8×Int)):Nat->Xp->Nat->Rz Xp
 | 0,_,_=>none
 | n+1,a,i=>match opT l i so with
  | none=>some (a,i,false)
  | some o=>(nx (i+1) []).on (λy=>dR o [a,y]) λy j=>aer nx l so n (dR o [a,y]) j
def agi(nx:Nat->List Xp->Rz Xp)(l:List Tn)(so:List (List UInt8×Int))(i:Nat)(pre:List Xp):Rz Xp :=
 (nx i pre).on id λa j=>aer nx l so (l.length+1) a j
def aei(l:List Tn)(i:Nat):Option V :=
 if br l i 3 then some ⟨2,nuT l i,ByteArray.empty⟩
 else if br l i 4 then some ⟨3,0,aK (txT l i)⟩
 else if isT l i [116,114,117,101] then some ⟨1,1,ByteArray.empty⟩
 else if isT l i [102,97,108,115,101] then some ⟨1,0,ByteArray.empty⟩
 else if isT l i [110,117,108,108] then some v0
 else none
def aid(F:Fs)(l:List Tn)(i:Nat):Rz Th:=(F.ins (i+1)).on id λt j=>wantE (bH l j [41]) t
def acM(F:Fs)(l:List Tn):Nat->List Xp->Nat->Rz (List Xp)
 | 0,_,_=>none
 | n+1,ks,i=>if isT l i [44] then (F.or (i+1) []).on (λy=>ks++[y]) λy j=>acM F l n (ks++[y]) j else some (ks,i,false)
def aa1(F:Fs)(l:List Tn)(i:Nat):Rz (List Xp):=(F.or i []).on (λy=>[y]) λy j=>acM F l (l.length+1) [y] j
def af0(l:List Tn)(ks:List Xp)(i:Nat):Rz Xp:=wantE (bH l i [101,110,100]) (dR 23 ks)
def ahk(F:Fs)(l:List Tn)(ks:List Xp)(i:Nat):Rz Xp :=
 if isT l i [101,108,115,101] then (F.or (i+1) []).on (λ_=>dR 23 ks) λy j=>af0 l (ks++[y]) j else af0 l ks i
def aej(F:Fs)(l:List Tn):Nat->List Xp->Nat->Rz Xp
 | 0,_,_=>none
 | n+1,ks,i=>if isT l i [119,104,101,110] then
   (F.or (i+1) []).on (λ_=>dR 23 ks) λa j=>wantR (bH l j [116,104,101,110]) (dR 23 ks) λj' =>
    (F.or j' []).on (λ_=>dR 23 ks) λb m=>aej F l n (ks++[a,b]) m
  else ahk F l ks i
def afZ(F:Fs)(l:List Tn)(i:Nat):Rz Xp:=if isT l i [119,104,101,110] then aej F l (l.length+1) [] i else some (dR 23 [],i,true)
def a2I(f:List UInt8):Bool:=decide (f=[99,111,117,110,116])||decide (f=[115,117,109])||decide (f=[109,105,110])||decide (f=[109,97,120])
def ajW(o:Int)(f:List UInt8)(di:Bool)(ks:List Xp):Xp:=.mk o v0 [] f di ks []
def ak5(F:Fs)(l:List Tn)(i:Nat)(f:List UInt8)(di:Bool):Rz Xp :=
 (F.or i []).on (λa=>ajW 25 f di [a]) λa j=>wantE (bH l j [41]) (ajW 25 f di [a])
def callS(F:Fs)(l:List Tn)(i:Nat)(f:List UInt8):Rz Xp :=
 if a2I f then
  if decide (f=[99,111,117,110,116])&&isT l i [42] then wantE (bH l (i+1) [41]) (ajW 25 f false [])
  else if isT l i [100,105,115,116,105,110,99,116] then ak5 F l (i+1) f true else ak5 F l i f false
 else if isT l i [41] then some (ajW 24 f false [],i+1,false)
 else (aa1 F l i).on (ajW 24 f false) λks j=>wantE (bH l j [41]) (ajW 24 f false ks)
def agp(F:Fs)(l:List Tn)(i:Nat):Rz Xp:=wantR (bH l (i+1) [40]) x0 λj =>
 (F.qy j []).on (af8 27 []) λq m=>wantE (bH l m [41]) (af8 27 [] q)
def ae4(F:Fs)(l:List Tn)(i:Nat):Rz Xp:=match aei l i with
 | some v=>some (.mk 1 v [] [] false [] [],i+1,false)
 | none =>
  if isT l i [40] then (aid F l i).to Th.val
  else if isT l i [99,97,115,101] then afZ F l (i+1)
  else if isT l i [101,120,105,115,116,115] then agp F l i
  else if br l i 2 then
   if isT l (i+1) [40] then callS F l (i+2) (txT l i)
   else if isT l (i+1) [46] then some (ai3 (txT l i) (cd l (i+2)).1,(cd l (i+2)).2.1,(cd l (i+2)).2.2)
   else some (ai3 [] (txT l i),i+1,false)
  else some (x0,i,true)
def agP(F:Fs)(l:List Tn)(i:Nat):List Xp->Rz Xp
 | x::_=>some (x,i,false)
 | []=>if isT l i [45] then (F.un (i+1)).to λa=>dR 3 [a] else ae4 F l i
def akO(F:Fs)(l:List Tn):Nat->List Xp->Rz Xp:=agi (agP F l) l [([42],7),([47],8),([37],9)]
def ak6(F:Fs)(l:List Tn):Nat->List Xp->Rz Xp:=agi (akO F l) l [([43],5),([45],6)]
def acr(F:Fs)(l:List Tn):Nat->List Xp->Rz Xp:=agi (ak6 F l) l [([124,124],10)]
def inL(F:Fs)(l:List Tn)(a:Xp):Nat->List Xp->Nat->Rz Xp
 | 0,_,_=>none
 | n+1,ks,i=>if isT l i [44] then (F.or (i+1) []).on (λ_=>a) λy j=>inL F l a n (ks++[y]) j else wantE (bH l i [41]) (dR 21 ks)
def inS(F:Fs)(l:List Tn)(i:Nat)(a:Xp):Rz Xp:=wantR (bH l i [40]) a λi'=>(F.ins i').on (λ_=>a) λt j =>
 if t.q&&!t.w then wantE (bH l j [41]) (af8 28 [a] t.y) else inL F l a (l.length+1) [a,t.val] j
def aiv:List (List UInt8×Int):=[([61],11),([60,62],12),([60],13),([60,61],14),([62],15),([62,61],16)]
def ace(F:Fs)(l:List Tn)(no:Bool)(i:Nat)(a:Xp):Rz Xp :=
 if isT l i [108,105,107,101] then (acr F l (i+1) []).to λb=>ajS no (dR 20 [a,b])
 else if isT l i [98,101,116,119,101,101,110] then (acr F l (i+1) []).on (λ_=>a) λb j=>wantR (bH l j [97,110,100]) a λj'=>(acr F l j' []).to λc=>ajS no (dR 22 [a,b,c])
 else if isT l i [105,110] then (inS F l (i+1) a).to (ajS no)
 else some (a,i,no)
def isS(l:List Tn)(no:Bool)(i:Nat)(a:Xp):Rz Xp:=wantE (bH l i [110,117,108,108]) (ajS no (dR 19 [a]))
def adA(F:Fs)(l:List Tn)(i:Nat)(a:Xp):Rz Xp:=match opT l i aiv with
 | some o=>(acr F l (i+1) []).to λb=>dR o [a,b]
 | none =>
  if isT l i [105,115] then (if isT l (i+1) [110,111,116] then isS l true (i+2) a else isS l false (i+1) a)
  else if isT l i [110,111,116] then ace F l true (i+1) a else ace F l false i a
def aeF(F:Fs)(l:List Tn)(i:Nat)(pre:List Xp):Rz Xp :=
 if decide (pre=[])&&isT l i [110,111,116] then (F.no (i+1)).to λa=>dR 4 [a]
 else (acr F l i pre).on id λa j=>adA F l j a
def ak4(F:Fs)(l:List Tn):Nat->List Xp->Rz Xp:=agi (aeF F l) l [([97,110,100],17)]
def orS(F:Fs)(l:List Tn):Nat->List Xp->Rz Xp:=agi (ak4 F l) l [([111,114],18)]
def aez(l:List Tn)(i:Nat):Bool:=co l i [[117,110,105,111,110],[101,120,99,101,112,116],[105,110,116,101,114,115,101,99,116],[111,114,100,101,114],[108,105,109,105,116],[111,102,102,115,101,116]]
def aiZ(F:Fs)(l:List Tn)(i:Nat):Rz Th :=
 if isT l i [115,101,108,101,99,116] then (F.qy i []).to Th.ofQ
 else if isT l i [40] then (aid F l i).on id λt j =>
  if t.q&&aez l j then (F.qy j [t.y]).to Th.ofQ
  else if t.q&&isT l j [41] then some ({t with w:=true},j,false)
  else (F.or j [t.val]).to Th.ofE
 else (F.or i []).to Th.ofE
def baU:Qy:=.mk 1 false [] false [] [] [] [] [] [] (-1) 0
def ats(o:Int)(al:Bool)(a b:Qy):Qy:=.mk o al [a,b] false [] [] [] [] [] [] (-1) 0
def eM(l:List Tn)(i:Nat):List UInt8×Nat×Bool:=if isT l i [97,115] then cd l (i+1) else if br l i 2 then (txT l i,i+1,false) else ([],i,false)
def im0:Im:=.mk false [] x0 []
def aec(F:Fs)(l:List Tn)(i:Nat):Rz Im :=
 if isT l i [42] then some (.mk true [] x0 [],i+1,false)
 else if br l i 2&&(isT l (i+1) [46]&&isT l (i+2) [42]) then some (.mk true (txT l i) x0 [],i+3,false)
 else (F.or i []).on (λ_=>im0) λa j=>some (.mk false [] a (eM l j).1,(eM l j).2.1,(eM l j).2.2)
def aaS(F:Fs)(l:List Tn)(i:Nat)(w:List UInt8):Rz (List Xp):=if isT l i w then (F.or (i+1) []).to λa=>[a] else some ([],i,false)
def Qy.set(q:Qy)(di:Bool)(its:List Im)(fr:List Fm)(wh gr hv:List Xp):Qy:=.mk q.op q.al q.ks di its fr wh gr hv q.od q.li q.sk
def aiH(di:Bool)(its:List Im)(fr:List Fm)(wh gr hv:List Xp):Qy:=.mk 1 false [] di its fr wh gr hv [] (-1) 0
def ah6(F:Fs)(l:List Tn)(di:Bool)(its:List Im)(fr:List Fm)(wh gr:List Xp)(i:Nat):Rz Qy:=(aaS F l i [104,97,118,105,110,103]).to (aiH di its fr wh gr)
def ah7(F:Fs)(l:List Tn)(di:Bool)(its:List Im)(fr:List Fm)(wh:List Xp)(i:Nat):Rz Qy :=
 if isT l i [103,114,111,117,112] then wantR (bH l (i+1) [98,121]) (aiH di its fr wh [] []) λj=>(aa1 F l j).on (λ_=>aiH di its fr wh [] []) λg m=>ah6 F l di its fr wh g m
 else ah6 F l di its fr wh [] i
def ah5(F:Fs)(l:List Tn)(di:Bool)(its:List Im)(fr:List Fm)(i:Nat):Rz Qy :=
 (aaS F l i [119,104,101,114,101]).on (λ_=>aiH di its fr [] [] []) λw j=>ah7 F l di its fr w j
def ahu(F:Fs)(l:List Tn)(di:Bool)(its:List Im)(i:Nat):Rz Qy :=
 if isT l i [102,114,111,109] then (F.fr (i+1) []).on (λ_=>aiH di its [] [] [] []) λf j=>ah5 F l di its [f] j else ah5 F l di its [] i
def aga(F:Fs)(l:List Tn)(di:Bool):Nat->List Im->Nat->Rz Qy
 | 0,_,_=>none
 | n+1,its,i=>(aec F l i).on (λ_=>aiH di its [] [] [] []) λx j=>if isT l j [44] then aga F l di n (its++[x]) (j+1) else ahu F l di (its++[x]) j
def ajO(F:Fs)(l:List Tn)(i:Nat):Rz Qy:=if isT l i [100,105,115,116,105,110,99,116] then aga F l true (l.length+1) [] (i+1) else aga F l false (l.length+1) [] i
def acx(F:Fs)(l:List Tn)(i:Nat):List Qy->Rz Qy
 | q::_=>some (q,i,false)
 | []=>if isT l i [40] then (F.qy (i+1) []).on id λq j=>wantE (bH l j [41]) q
  else wantR (bH l i [115,101,108,101,99,116]) y0 λj=>ajO F l j
def adb(nx:Nat->List Qy->Rz Qy)(l:List Tn)(so:List (List UInt8×Int)):Nat->Qy->Nat->Rz Qy
 | 0,_,_=>none
 | n+1,a,i=>match opT l i so with
  | none=>some (a,i,false)
  | some o=>(nx (if isT l (i+1) [97,108,108] then i+2 else i+1) []).on (λy=>ats o (isT l (i+1) [97,108,108]) a y) λy j=>adb nx l so n (ats o (isT l (i+1) [97,108,108]) a y) j
def ah3(nx:Nat->List Qy->Rz Qy)(l:List Tn)(so:List (List UInt8×Int))(i:Nat)(pre:List Qy):Rz Qy :=
 (nx i pre).on id λa j=>adb nx l so (l.length+1) a j
def aaE(F:Fs)(l:List Tn):Nat->List Qy->Rz Qy:=ah3 (acx F l) l [([105,110,116,101,114,115,101,99,116],3)]
def ah1(F:Fs)(l:List Tn):Nat->List Qy->Rz Qy:=ah3 (aaE F l) l [([117,110,105,111,110],2),([101,120,99,101,112,116],4)]
def Qy.endQ(q:Qy)(od:List Od)(li sk:Int):Qy:=.mk q.op q.al q.ks q.di q.its q.fr q.wh q.gr q.hv od li sk
def byL(l:List Tn):Nat->List Od->Nat->Rz (List Od)
 | 0,_,_=>none
 | n+1,os,i =>
  if br l i 2||(br l i 3&&decide (0<nuT l i)) then
   let o:Od:=⟨if br l i 2 then txT l i else [],if br l i 2 then 0 else nuT l i,isT l (i+1) [100,101,115,99]⟩
   let j:=if co l (i+1) [[97,115,99],[100,101,115,99]] then i+2 else i+1
   if isT l j [44] then byL l n (os++[o]) (j+1) else some (os++[o],j,false)
  else some ([],i,true)
def ajY(l:List Tn)(i:Nat):Rz (List Od):=wantR (bH l i [98,121]) [] λj=>byL l (l.length+1) [] j
def agc(l:List Tn)(q:Qy)(od:List Od)(li:Int)(i:Nat):Rz Qy :=
 if isT l i [111,102,102,115,101,116] then (if br l (i+1) 3 then some (q.endQ od li (nuT l (i+1)),i+2,false) else some (q.endQ od li q.sk,i+1,true))
 else some (q.endQ od li q.sk,i,false)
def aep(l:List Tn)(q:Qy)(od:List Od)(i:Nat):Rz Qy :=
 if isT l i [108,105,109,105,116] then (if br l (i+1) 3 then agc l q od (nuT l (i+1)) (i+2) else some (q.endQ od q.li q.sk,i+1,true))
 else agc l q od q.li i
def atH(q:Qy):Bool:=decide (0<q.od.length)||(decide (q.li≠-1)||decide (0<q.sk))
def aeD(F:Fs)(l:List Tn)(i:Nat)(pre:List Qy):Rz Qy:=(ah1 F l i pre).on id λq j =>
 if atH q&&co l j [[111,114,100,101,114],[108,105,109,105,116],[111,102,102,115,101,116]] then some (q,j,true)
 else if isT l j [111,114,100,101,114] then (ajY l (j+1)).on (λ_=>q) λo m=>aep l q o m
 else aep l q q.od j
def abO(l:List Tn)(i:Nat)(q:Qy):Rz Fm:=match eM l i with
 | (s,j,b)=>if !b&&decide (s=[]) then some (f0,j,true) else some (.mk 2 [] s [q] [] [],j,b)
def agL(F:Fs)(l:List Tn)(i:Nat):Rz Th:=(F.so (i+1)).on id λt j=>wantE (bH l j [41]) t
def adY(F:Fs)(l:List Tn)(i:Nat):Rz Fm :=
 if isT l i [40] then (agL F l i).on Th.f λt j=>if t.q then abO l j t.y else some (t.f,j,false)
 else nameR (cd l i) (λ_=>f0) λs j=>some (.mk 1 s (eM l j).1 [] [] [],(eM l j).2.1,(eM l j).2.2)
def ac7(l:List Tn)(i:Nat):Option (Int×List (List UInt8)) :=
 if isT l i [99,114,111,115,115] then some (3,[[99,114,111,115,115],[106,111,105,110]])
 else if isT l i [105,110,110,101,114] then some (4,[[105,110,110,101,114],[106,111,105,110]])
 else if isT l i [108,101,102,116] then some (5,[[108,101,102,116],[106,111,105,110]])
 else if isT l i [106,111,105,110] then some (4,[[106,111,105,110]])
 else none
def acz(F:Fs)(l:List Tn):Nat->Fm->Nat->Rz Fm
 | 0,_,_=>none
 | n+1,a,i=>match ac7 l i with
  | none=>some (a,i,false)
  | some (k,ws)=>wantR (dI l i ws) a λj=>(adY F l j).on (λ_=>a) λb m =>
   if k=3 then acz F l n (.mk k [] [] [] [a,b] []) m
   else if isT l m [111,110] then (F.or (m+1) []).on (λy=>.mk k [] [] [] [a,b] [y]) λy p=>acz F l n (.mk k [] [] [] [a,b] [y]) p
   else some (a,m,true)
def adT(F:Fs)(l:List Tn)(i:Nat):List Fm->Rz Fm
 | a::_=>acz F l (l.length+1) a i
 | []=>(adY F l i).on id λa j=>acz F l (l.length+1) a j
def aed(F:Fs)(l:List Tn):Nat->Fm->Nat->Rz Fm
 | 0,_,_=>none
 | n+1,a,i=>if isT l i [44] then (adT F l (i+1) []).on (λy=>.mk 3 [] [] [] [a,y] []) λy j=>aed F l n (.mk 3 [] [] [] [a,y] []) j else some (a,i,false)
def ahi(F:Fs)(l:List Tn)(i:Nat)(pre:List Fm):Rz Fm:=(adT F l i pre).on id λa j=>aed F l (l.length+1) a j
def ac2(F:Fs)(l:List Tn)(i:Nat):Rz Th :=
 if isT l i [115,101,108,101,99,116] then (F.qy i []).to Th.ofQ
 else if isT l i [40] then (agL F l i).on id λt j =>
  if t.q&&isT l j [41] then some (t,j,false)
  else if t.q&&aez l j then (F.qy j [t.y]).to Th.ofQ
  else if t.q then (abO l j t.y).on (λ_=>t) λf m=>(F.fr m [f]).to Th.ofF
  else (F.fr j [t.f]).to Th.ofF
 else (F.fr i []).to Th.ofF
def alq(l:List Tn)(F:Fs):Fs where
 or:=orS F l
 no i:=aeF F l i []
 un i:=agP F l i []
 qy:=aeD F l
 ins:=aiZ F l
 fr:=ahi F l
 so:=ac2 F l
def apv:Fs:=⟨λ_ _=>none,λ_=>none,λ_=>none,λ_ _=>none,λ_=>none,λ_ _=>none,λ_=>none⟩
def ahh(l:List Tn):Nat->Fs
 | 0=>apv
 | n+1=>alq l (ahh l n)
end Go.Tab
namespace Go.Proofs.YtghkmcffifpkeaaGreat
open Pe Tab
abbrev pT(l:List Tn)(i:Nat)(e:Int):Ob:=.var 112 [.of (slC tnC l),.of (ci i),.of (ci e),.own (.cell 0 3) 28 9 [] 0,.own (.cell 0 4) 38 12 [] 0,.own (.cell 0 5) 140 6 [] 0]
def tn0:Tn:=⟨0,0,0,0,[]⟩
def bS(l:List Tn)(i:Nat):Tn:=(l[i]?).getD tn0
def amW{l:List Tn}{i:Nat}(h:i<l.length):l[i]?=some (bS l i):=by
 unfold bS
 rw[aM h]
 rfl
def ahF{l:List Tn}{i:Nat}(h:l.length<=i):bS l i=tn0:=by
 unfold bS
 rw[aZ h]
 rfl
def amy(l:List Tn)(i:Nat)(w:List UInt8):isT l i w=((decide ((bS l i).k=1)||decide ((bS l i).k=5))&&decide ((bS l i).s=w)):=by
 unfold isT bS
 cases l[i]? with
 | none=>rfl
 | some t=>rfl
def agj(l:List Tn)(i:Nat)(k:Int)(hk:k≠0):br l i k=decide ((bS l i).k=k):=by
 unfold br bS
 cases l[i]? with
 | none=>exact (bw (λh=>hk h.symm)).symm
 | some t=>rfl
def LB:Nat:=4294967296
def afE{l:List Tn}{i:Nat}(h:i<l.length):aaF l (i:Int)=some (bS l i):=by
 unfold aaF
 rw[am aC]
 simpa using amW h
def aG5(P:Program)(pr:Pr)(f:Nat)(xs:List X)(obs:List Ob)(K:An->Prop):Prop:=abl P pr f xs obs K
def aPN{P:Program}{pr:Pr}{f:Nat}{xs:List X}{obs:List Ob}{p:Prop}{an:An}(h:p->aH P pr f xs obs an)(K:An->Prop):abl P pr f xs obs K↔ifP p (K an) (aG5 P pr f xs obs K):=by
 by_cases hp:p
 .rw[at0 hp];exact aH.k (h hp) K
 .simp only[ifP,hp,fH,abp,cV,aij];exact bg
def aZQ{p A B:Prop}(h:p)(a:A):ifP p A B:=(at0 h).2 a
def aPm:=ai (gh @Tryz.f173.eq_1 @zq @bbv @bc1 @bcZ @ab7 @acI @abb @aba) (gh @aa9 @aa8 @aa7 @aa6 @acn @P3 @Q3 @zT0 (kf aRB))
def aou(l:List Tn)(i j:Nat)(e:Int)(hl:l.length<LB)(hi:i<=l.length)(hj:j<=2):aH Tryz.prog pr 173 [.ptr 0 0,.of (ci j)] [pT l i e] ⟨false,[.of (.agg (tnC (bS l (i+j))))],[pT l i e]⟩:=by
 have hw:IntKind.i64.wrap ((i:Int)+(j:Int))=((i+j:Nat):Int):=by
  unfold LB at hl
  rw[d9 _ aC aC];rfl
 refine bB aRB ?_
 by_cases h:l.length<=i+j
 .have h1:(((l.length:Nat):Int)<=((i+j:Nat):Int))=True:=aa aC
  have h2:=ahF h
  simp only[↓zA,sevalprocAttr,aPm,pT,hw,h1,h2]
  try rfl
 .have h1:(((l.length:Nat):Int)<=((i+j:Nat):Int))=False:=aA aC
  have h2:=afE (l:=l) (i:=i+j) aC
  simp only[↓zA,sevalprocAttr,aPm,pT,hw,h1,h2]
  try rfl
def aj9(l:List Tn)(i:Nat)(e:Int)(hl:l.length<LB)(hi:i<=l.length):aH Tryz.prog pr 173 [.ptr 0 0,.of (.lit (.int .i64 0))] [pT l i e] ⟨false,[.of (.agg (tnC (bS l i)))],[pT l i e]⟩:=aou l i 0 e hl hi aC
def aEw(l:List Tn)(i:Nat)(e:Int)(hl:l.length<LB)(hi:i<=l.length):aH Tryz.prog pr 173 [.ptr 0 0,.of (.lit (.int .i64 1))] [pT l i e] ⟨false,[.of (.agg (tnC (bS l (i+1))))],[pT l i e]⟩:=aou l i 1 e hl hi aC
def aEv(l:List Tn)(i:Nat)(e:Int)(hl:l.length<LB)(hi:i<=l.length):aH Tryz.prog pr 173 [.ptr 0 0,.of (.lit (.int .i64 2))] [pT l i e] ⟨false,[.of (.agg (tnC (bS l (i+2))))],[pT l i e]⟩:=aou l i 2 e hl hi aC
def aw2:=ai (fX @Tryz.f76.eq_1 @zq @anO @bbh @ab7 @P3) (fW @Q3 @P9 @Q9 @zT0 (kf a0J))
def amx(l:List Tn)(i:Nat)(e:Int)(w:List UInt8)(hl:l.length<LB)(hi:i<=l.length):aH Tryz.prog pr 76 [.ptr 0 0,.of (aJ (aK w))] [pT l i e] ⟨false,[aL (isT l i w)],[pT l i e]⟩:=by
 have kp:=λK=>aH.k (aj9 l i e hl hi) K
 unfold pT at kp
 rw[amy]
 generalize bS l i=t at kp
 refine bB a0J ?_
 by_cases h1:t.k=1
 .have h1':=aa h1
  by_cases h3:t.s=w
  .have h3':=aa h3
   simp only[↓zA,sevalprocAttr,aw2,kp,pT,h1',h3',cJ]
   try rfl
  .have h3':=aA h3
   simp only[↓zA,sevalprocAttr,aw2,kp,pT,h1',h3',cJ]
   try rfl
 .have h1':=aA h1
  by_cases h2:t.k=5
  .have h2':=aa h2
   by_cases h3:t.s=w
   .have h3':=aa h3
    simp only[↓zA,sevalprocAttr,aw2,kp,pT,h1',h2',h3',cJ]
    try rfl
   .have h3':=aA h3
    simp only[↓zA,sevalprocAttr,aw2,kp,pT,h1',h2',h3',cJ]
    try rfl
  .have h2':=aA h2
   simp only[↓zA,sevalprocAttr,aw2,kp,pT,h1',h2']
   try rfl
def aWW:=ai (fY @Tryz.f78.eq_1 @zq @al0 @acI @abb @aba @aa9) (fY @aa8 @aa7 @aa6 @P3 @Q3 @zT0 (kf aNX))
def acV(l:List Tn)(i:Nat)(e:Int)(w:List UInt8)(hl:l.length<LB)(hi:i<=l.length):aH Tryz.prog pr 78 [.ptr 0 0,.of (aJ (aK w))] [pT l i e] ⟨false,[aL (isT l i w)],[pT l (if isT l i w=true then i+1 else i) e]⟩:=by
 have kp:=λK=>aH.k (amx l i e w hl hi) K
 unfold pT at kp
 have hw:IntKind.i64.wrap ((i:Int)+1)=((i+1:Nat):Int):=er i (by unfold LB at hl;omega)
 cases hc:isT l i w with
 | false =>
  rw[hc] at kp
  refine bB aNX ?_
  simp only[↓zA,sevalprocAttr,aWW,kp,pT]
  try rfl
 | true =>
  rw[hc] at kp
  refine bB aNX ?_
  simp only[↓zA,sevalprocAttr,aWW,kp,pT,hw]
  try rfl
def aTy:List.range 1=[0]:=rfl
def aTx:List.range 2=[0,1]:=rfl
def aaJ(l:List Tn)(i:Nat)(e:Int):X:=if l.length<=i then .of (.ifc 114 (.agg [ci e,ci 3])) else .of (.ifc 114 (.agg [ci (bS l i).pl,ci 2]))
def a0E(σ:Nat->Option Nat)(ρ:Tk->Option Tk)(l:List Tn)(i:Nat)(e:Int):(aaJ l i e).tr σ ρ=aaJ l i e:=by
 unfold aaJ;split <;> rfl
def aNQ(l:List Tn)(i:Nat)(e:Int):(aaJ l i e).refs=[]:=by
 unfold aaJ;split <;> rfl
def aNP(l:List Tn)(i:Nat)(e:Int):(aaJ l i e).toks=[]:=by
 unfold aaJ;split <;> rfl
def zP:=fW @a0E @aNQ @aNP @aTy @aTx
def aWY:=fU (fZ @Tryz.f65.eq_1 @zq @bc7 @bc6 @aYi @acD @ab7 @acI) (fZ @abb @aba @aa9 @aa8 @aa7 @aa6 @aoW @amD) (fX @amC @acn @P3 @Q3 @zT0 (kf aN1))
def aeT(l:List Tn)(i:Nat)(e:Int)(hl:l.length<LB)(hi:i<=l.length):aH Tryz.prog pr 65 [.ptr 0 0] [pT l i e] ⟨true,[aaJ l i e],[pT l i e]⟩:=by
 unfold aaJ
 by_cases h:l.length<=i
 .have h1:((l.length:Int)<=(i:Int))=True:=aa aC
  rw[am h]
  refine bB aN1 ?_
  simp only[↓zA,sevalprocAttr,aWY,pT,h1]
  try rfl
 .have h1:((l.length:Int)<=(i:Int))=False:=aA aC
  have h2:=afE (l:=l) (i:=i) aC
  rw[aj h]
  refine bB aN1 ?_
  simp only[↓zA,sevalprocAttr,aWY,pT,h1,h2]
  try rfl
def arU(l:List Tn)(e:Int)(r:Nat×Bool):An:=if r.2=true then ⟨true,[aaJ l r.1 e],[pT l r.1 e]⟩ else ⟨false,[],[pT l r.1 e]⟩
def fF{l:List Tn}{i:Nat}{w:List UInt8}(h:isT l i w=true):i<l.length:=by
 unfold isT at h
 rcases aD i l.length with g|g
 .exact g
 .rw[aZ g] at h;cases h
def aw1:=gh @Tryz.f79.eq_1 @zq @ab5 @ak1 @bO @P9 @Q9 @zT0 (kf a0I)
def alw(l:List Tn)(i:Nat)(e:Int)(ws:List (List UInt8))(hl:l.length<LB)(hi:i<=l.length)(hn:ws.length<=64):aH Tryz.prog pr 79 [.ptr 0 0,.of (slC bI ws)] [pT l i e] (arU l e (dI l i ws)):=by
 refine bB a0I ?_
 simp only[↓zA,sevalprocAttr,aw1]
 refine aas ws.length (λk s=>s.fr 0=.ptr 0 0/\s.fr 6=.of (slC bI ws)/\s.fr 7=aQ ws.length/\s.fr 8=aQ k/\∃ j,s.objs=[pT l j e]/\j<=l.length/\dI l i ws=dI l j (ws.drop k)) ?_ ?_
 .simp only[↓zA,sevalprocAttr,aw1]
  exact⟨i,rfl,hi,by first|rfl|rw[aaO]⟩
 rintro k ⟨frk,obk,ckk⟩ hk ⟨f0,f6,f7,f8,j,fo,hj,E⟩
 dsimp only at f0 f6 f7 f8 fo
 rcases aD k ws.length with dk|dk
 .have hw:=er k aC
  have gx:=dN dk
  rw[ce dk] at E
  simp only[dI] at E
  generalize ws[k]=x at *
  have kt:=λK=>aH.k (acV l j e x hl hj) K
  unfold pT at kt
  have kg:=λK=>aH.k (aeT l j e hl hj) K
  unfold pT at kg
  cases hc:isT l j x with
  | true =>
   have hj':=fF hc
   rw[hc] at kt E
   simp only[↓zA,sevalprocAttr,aw1,f0,f6,f7,f8,fo,aV,dk,gx,hw,kt,pT]
   exact⟨j+1,rfl,hj',E⟩
  | false =>
   rw[hc] at kt E
   simp only[↓zA,sevalprocAttr,aw1,f0,f6,f7,f8,fo,aV,dk,gx,kt,kg,pT,zP,arU,E]
   try rfl
 have e:k=ws.length:=by omega
 subst e
 rw[cY] at E
 simp only[dI] at E
 simp only[↓zA,sevalprocAttr,aw1,f7,f8,fo,aV,cO,arU,E]
 try rfl
abbrev pTq(l:List Tn)(i:Nat)(e:Int):Ob:=.var 112 [.of (slC tnC l),.of (ci i),.of (ci e),.own (.cell 0 3) 28 9 [] 0,.top 1 38 12,.own (.cell 0 5) 140 6 [] 0]
abbrev pTe(l:List Tn)(i:Nat)(e:Int):Ob:=.var 112 [.of (slC tnC l),.of (ci i),.of (ci e),.top 1 28 9,.own (.cell 0 4) 38 12 [] 0,.own (.cell 0 5) 140 6 [] 0]
abbrev pTf(l:List Tn)(i:Nat)(e:Int):Ob:=.var 112 [.of (slC tnC l),.of (ci i),.of (ci e),.own (.cell 0 3) 28 9 [] 0,.own (.cell 0 4) 38 12 [] 0,.top 1 140 6]
def aw4:IntKind.i64.wrap 0=0:=by rw[d9 _ aC aC]
def a7y:=@ayP _ _ _ _ _ _ _ _ _ T25 T28
def a7w:=@ayP _ _ _ _ _ _ _ _ _ T26 T38
def a7x:=@ayP _ _ _ _ _ _ _ _ _ T35 ai8
def a7l(ty:Nat)(q:Qy):ant tP 38 0 (some (.row ty (qyC q)))=some (.of (.agg (qyC q))):=by
 rw[ad6,aly,aaO,Q38];rfl
def a7n(ty:Nat)(q:Xp):ant tP 28 0 (some (.row ty (xpC q)))=some (.of (.agg (xpC q))):=by
 rw[ff,aly,aaO,Q28];rfl
def a7m(ty:Nat)(q:Fm):ant tP 140 0 (some (.row ty (fmC q)))=some (.of (.agg (fmC q))):=by
 rw[aee,aly,aaO,a3n];rfl
def a7q(ty:Nat)(q:Qy):akT (some (.row ty (qyC q)))=true:=by rw[ad6];rfl
def a7s(ty:Nat)(q:Xp):akT (some (.row ty (xpC q)))=true:=by rw[ff];rfl
def a7r(ty:Nat)(q:Fm):akT (some (.row ty (fmC q)))=true:=by rw[aee];rfl
def a7j(ty:Nat)(q:Xp):adq (some (.row ty (xpC q)))=true:=by rw[ff];rfl
def a1R:cE (abv (Value.agg #[Value.int IntKind.i64 0,Value.bool false,Value.slice none 0 0,Value.bool false,Value.slice none 0 0,Value.slice none 0 0,Value.slice none 0 0,Value.slice none 0 0,Value.slice none 0 0,Value.slice none 0 0,Value.int IntKind.i64 0,Value.int IntKind.i64 0]))=some [X.of (C.lit (Value.int IntKind.i64 0)),X.of (C.lit (Value.bool false)),X.of (C.sl [] 0),X.of (C.lit (Value.bool false)),X.of (C.sl [] 0),X.of (C.sl [] 0),X.of (C.sl [] 0),X.of (C.sl [] 0),X.of (C.sl [] 0),X.of (C.sl [] 0),X.of (C.lit (Value.int IntKind.i64 0)),X.of (C.lit (Value.int IntKind.i64 0))]:=rfl
def aub:cE (abv (Value.agg #[Value.int IntKind.i64 0,Value.int IntKind.i64 0,Value.int IntKind.i64 0,Value.string {data:=#[]},Value.string {data:=#[]},Value.string {data:=#[]},Value.bool false,Value.slice none 0 0,Value.slice none 0 0]))=some [X.of (C.lit (Value.int IntKind.i64 0)),X.of (C.lit (Value.int IntKind.i64 0)),X.of (C.lit (Value.int IntKind.i64 0)),X.of (C.lit (Value.string {data:=#[]})),X.of (C.lit (Value.string {data:=#[]})),X.of (C.lit (Value.string {data:=#[]})),X.of (C.lit (Value.bool false)),X.of (C.sl [] 0),X.of (C.sl [] 0)]:=rfl
def bdK:cE (abv (Value.agg #[Value.int IntKind.i64 0,Value.string {data:=#[]},Value.string {data:=#[]},Value.slice none 0 0,Value.slice none 0 0,Value.slice none 0 0]))=some [X.of (C.lit (Value.int IntKind.i64 0)),X.of (C.lit (Value.string {data:=#[]})),X.of (C.lit (Value.string {data:=#[]})),X.of (C.sl [] 0),X.of (C.sl [] 0),X.of (C.sl [] 0)]:=rfl
def aPn:=fU (fY @zq @bbm @bbl @ab5 @aq1 @bbk @aeN) (fY @a9b @ep @acI @abb @aba @aa9 @aa8) (fX @aa7 @aa6 @fC @bO @zT0 (kf aFG))
def aMd(l:List Tn)(i:Nat)(e:Int)(q:Qy):aH Tryz.prog pr 172 [.ptr 0 0] [pTq l i e,.row 38 (qyC q)] ⟨false,[.of (.agg (qyC q))],[pT l i e,.row 38 []]⟩:=by
 refine bB aFG ?_
 simp only[Tryz.f172,↓zA,sevalprocAttr,aPn,pT,pTq,aw4,a7w,a7l,a7q,E26]
 try rfl
def aaU{l:List Tn}{i:Nat}{k:Int}(h:br l i k=true):i<l.length:=by
 unfold br at h
 rcases aD i l.length with g|g
 .exact g
 .rw[aZ g] at h;cases h
def bz{α:Type}(l:List Tn)(e:Int)(enc:α->X)(r:α×Nat×Bool)(d:List Ob):An:=⟨r.2.2,[if r.2.2=true then aaJ l r.2.1 e else enc r.1],pT l r.2.1 e::d⟩
def a4v:=fW @zq @anO @ab7 @zT0 (kf aRA)
def anp(l:List Tn)(i:Nat)(e:Int)(hl:l.length<LB)(hi:i<=l.length):aH Tryz.prog pr 174 [.ptr 0 0] [pT l i e] ⟨false,[aL (br l i 2)],[pT l i e]⟩:=by
 have kp:=λK=>aH.k (aj9 l i e hl hi) K
 unfold pT at kp
 rw[agj l i 2 aI]
 generalize bS l i=t at kp
 refine bB aRA ?_
 simp only[Tryz.f174,↓zA,sevalprocAttr,a4v,kp,pT]
 try rfl
def aWU:=fU (fY @Tryz.f92.eq_1 @zq @apI @ak1 @bcH @ab7 @acI) (fY @abb @aba @aa9 @aa8 @aa7 @aa6 @acn) (fX @P3 @Q3 @P9 @Q9 @zT0 (kf aNV))
def auW(l:List Tn)(i:Nat)(e:Int)(hl:l.length<LB)(hi:i<=l.length):aH Tryz.prog pr 92 [.ptr 0 0] [pT l i e] (bz l e (λs=>.of (aJ (aK s))) (cd l i) []):=by
 have kp:=λK=>aH.k (anp l i e hl hi) K
 unfold pT at kp
 have kg:=λK=>aH.k (aeT l i e hl hi) K
 unfold pT at kg
 have hw:IntKind.i64.wrap ((i:Int)+1)=((i+1:Nat):Int):=er i (by unfold LB at hl;omega)
 have hw2:IntKind.i64.wrap (((i+1:Nat):Int)-1)=(i:Int):=by
  unfold LB at hl
  rw[d9 _ aC aC];omega
 unfold cd bz
 cases hc:br l i 2 with
 | false =>
  rw[hc] at kp
  refine bB aNV ?_
  simp only[↓zA,sevalprocAttr,aWU,kp,kg,pT,zP]
  try rfl
 | true =>
  have gx:=afE (aaU hc)
  have ht:txT l i=(bS l i).s:=by unfold txT;rw[amW (aaU hc)]
  rw[hc] at kp
  refine bB aNV ?_
  simp only[↓zA,sevalprocAttr,aWU,kp,pT,hw,hw2,gx,ht]
  try rfl
def aw3:=fZ @Tryz.f75.eq_1 @zq @al0 @bO @P9 @Q9 @zT0 (kf a0K)
def aOQ(l:List Tn)(i:Nat)(e:Int)(ws:List (List UInt8))(hl:l.length<LB)(hi:i<=l.length)(hn:ws.length<=64):aH Tryz.prog pr 75 [.ptr 0 0,.of (slC bI ws)] [pT l i e] ⟨false,[aL (co l i ws)],[pT l i e]⟩:=by
 refine bB a0K ?_
 simp only[↓zA,sevalprocAttr,aw3]
 refine aas ws.length (λk s=>s.fr 0=.ptr 0 0/\s.fr 7=.of (slC bI ws)/\s.fr 8=aQ ws.length/\s.fr 9=aQ k/\s.objs=[pT l i e]/\co l i ws=co l i (ws.drop k)) ?_ ?_
 .simp only[↓zA,sevalprocAttr,aw3]
  try rfl
 rintro k ⟨frk,obk,ckk⟩ hk ⟨f0,f7,f8,f9,fo,E⟩
 dsimp only at f0 f7 f8 f9 fo
 rcases aD k ws.length with dk|dk
 .have hw:=er k aC
  have gx:=dN dk
  rw[ce dk] at E
  simp only[co] at E
  generalize ws[k]=x at *
  have kt:=λK=>aH.k (amx l i e x hl hi) K
  unfold pT at kt
  cases hc:isT l i x with
  | true =>
   rw[hc,eK] at E
   rw[hc] at kt
   simp only[↓zA,sevalprocAttr,aw3,f0,f7,f8,f9,fo,aV,dk,gx,kt,pT,E]
   try rfl
  | false =>
   rw[hc,eN] at E
   rw[hc] at kt
   simp only[↓zA,sevalprocAttr,aw3,f0,f7,f8,f9,fo,aV,dk,gx,hw,kt,pT]
   exact E
 have ek:k=ws.length:=by omega
 subst ek
 rw[cY] at E
 simp only[co] at E
 simp only[↓zA,sevalprocAttr,aw3,f8,f9,fo,aV,cO,pT,E]
 try rfl
def awx(x:Tn):bm tP 3 (tnC x)=some (ci x.k)/\bm tP 3 (List.drop 3 (tnC x))=some (ci x.n):=by
 rw[bE]
 exact⟨Q3 _ _,Q3 _ _⟩
def aWV:=ai (gh @Tryz.f81.eq_1 @zq @anO @ak1 @bcG @ab7 @acI @abb @aba) (gh @aa9 @aa8 @aa7 @aa6 @acn @P3 @Q3 @zT0 (kf aNW))
def apY(l:List Tn)(i:Nat)(e:Int)(hl:l.length<LB)(hi:i<=l.length):aH Tryz.prog pr 81 [.ptr 0 0] [pT l i e] (bz l e (λn=>aQ n) (if br l i 3=true then (nuT l i,i+1,false) else (0,i,true)) []):=by
 have kp:=λK=>aH.k (aj9 l i e hl hi) K
 have kg:=λK=>aH.k (aeT l i e hl hi) K
 unfold pT at kp kg
 have hw:IntKind.i64.wrap ((i:Int)+1)=((i+1:Nat):Int):=er i (by unfold LB at hl;omega)
 have hw2:IntKind.i64.wrap (((i+1:Nat):Int)-1)=(i:Int):=by
  unfold LB at hl
  rw[d9 _ aC aC];omega
 unfold bz
 rw[agj l i 3 aI]
 by_cases hc:(bS l i).k=3
 .have hlt:i<l.length:=by
   rcases aD i l.length with g|g
   .exact g
   .rw[ahF g] at hc;cases hc
  have gx:=afE hlt
  have hc':=aa hc
  have ht:nuT l i=(bS l i).n:=by unfold nuT;rw[amW hlt]
  refine bB aNW ?_
  simp only[↓zA,sevalprocAttr,aWV,kp,pT,hw,hw2,gx,ht,hc',awx]
  try rfl
 .have hc':=aA hc
  refine bB aNW ?_
  simp only[↓zA,sevalprocAttr,aWV,kp,kg,pT,zP,hc',awx]
  try rfl
def rdo(tk:Tk)(e z n:Nat)(o:Option (List C)):(match o with|some cs=>out (X.own tk e z cs n)|none=>none)=bJ (o.map λcs=>.own tk e z cs n):=by cases o <;> rfl
def aBo(tk:Tk)(a0 b0:X):cy tk 2 (Pe.elemOf tP 43) (some [(0,[a0]),(1,[b0])])=bJ ((X.rds [a0,b0]).map λcs=>.own tk 9 1 cs 2):=by rw[E43];exact rdo tk _ _ _ _
def aBn(tk:Tk)(a0 b0 c0:X):cy tk 3 (Pe.elemOf tP 43) (some [(0,[a0]),(1,[b0]),(2,[c0])])=bJ ((X.rds [a0,b0,c0]).map λcs=>.own tk 9 1 cs 3):=by rw[E43];exact rdo tk _ _ _ _
def aBm(tk:Tk)(a0 b0 c0 d0:X):cy tk 4 (Pe.elemOf tP 43) (some [(0,[a0]),(1,[b0]),(2,[c0]),(3,[d0])])=bJ ((X.rds [a0,b0,c0,d0]).map λcs=>.own tk 9 1 cs 4):=by rw[E43];exact rdo tk _ _ _ _
def aBl(tk:Tk)(a0 b0 c0 d0 e0 f0:X):cy tk 6 (Pe.elemOf tP 43) (some [(0,[a0]),(1,[b0]),(2,[c0]),(3,[d0]),(4,[e0]),(5,[f0])])=bJ ((X.rds [a0,b0,c0,d0,e0,f0]).map λcs=>.own tk 9 1 cs 6):=by rw[E43];exact rdo tk _ _ _ _
def aOH(tk:Tk)(a0 b0:X):cy tk 2 (Pe.elemOf tP 66) (some [(0,[a0]),(1,[b0])])=bJ ((X.rds [a0,b0]).map λcs=>.own tk 3 1 cs 2):=by rw[E66];exact rdo tk _ _ _ _
def aOG(tk:Tk)(a0 b0 c0:X):cy tk 3 (Pe.elemOf tP 66) (some [(0,[a0]),(1,[b0]),(2,[c0])])=bJ ((X.rds [a0,b0,c0]).map λcs=>.own tk 3 1 cs 3):=by rw[E66];exact rdo tk _ _ _ _
def aOF(tk:Tk)(a0 b0 c0 d0 e0 f0:X):cy tk 6 (Pe.elemOf tP 66) (some [(0,[a0]),(1,[b0]),(2,[c0]),(3,[d0]),(4,[e0]),(5,[f0])])=bJ ((X.rds [a0,b0,c0,d0,e0,f0]).map λcs=>.own tk 3 1 cs 6):=by rw[E66];exact rdo tk _ _ _ _
def avp(tk:Tk)(a0 a1 a2 a3 a4 a5 a6 a7 a8 b0 b1 b2 b3 b4 b5 b6 b7 b8:X):cy tk 2 (Pe.elemOf tP 25) (some [(0,[a0,a1,a2,a3,a4,a5,a6,a7,a8]),(1,[b0,b1,b2,b3,b4,b5,b6,b7,b8])])=bJ ((X.rds [a0,a1,a2,a3,a4,a5,a6,a7,a8,b0,b1,b2,b3,b4,b5,b6,b7,b8]).map λcs=>.own tk 28 9 cs 2):=by rw[E25];exact rdo tk _ _ _ _
def aKe(tk:Tk)(a0 a1 a2 a3 a4 a5 a6 a7 a8 b0 b1 b2 b3 b4 b5 b6 b7 b8 c0 c1 c2 c3 c4 c5 c6 c7 c8:X):cy tk 3 (Pe.elemOf tP 25) (some [(0,[a0,a1,a2,a3,a4,a5,a6,a7,a8]),(1,[b0,b1,b2,b3,b4,b5,b6,b7,b8]),(2,[c0,c1,c2,c3,c4,c5,c6,c7,c8])])=bJ ((X.rds [a0,a1,a2,a3,a4,a5,a6,a7,a8,b0,b1,b2,b3,b4,b5,b6,b7,b8,c0,c1,c2,c3,c4,c5,c6,c7,c8]).map λcs=>.own tk 28 9 cs 3):=by rw[E25];exact rdo tk _ _ _ _
def aBp(tk:Tk)(a0 a1 a2 a3 a4 a5 a6 a7 a8 a9 a10 a11 b0 b1 b2 b3 b4 b5 b6 b7 b8 b9 b10 b11:X):cy tk 2 (Pe.elemOf tP 26) (some [(0,[a0,a1,a2,a3,a4,a5,a6,a7,a8,a9,a10,a11]),(1,[b0,b1,b2,b3,b4,b5,b6,b7,b8,b9,b10,b11])])=bJ ((X.rds [a0,a1,a2,a3,a4,a5,a6,a7,a8,a9,a10,a11,b0,b1,b2,b3,b4,b5,b6,b7,b8,b9,b10,b11]).map λcs=>.own tk 38 12 cs 2):=by rw[E26];exact rdo tk _ _ _ _
def aKf(tk:Tk)(a0 a1 a2 a3 a4 a5 b0 b1 b2 b3 b4 b5:X):cy tk 2 (Pe.elemOf tP 35) (some [(0,[a0,a1,a2,a3,a4,a5]),(1,[b0,b1,b2,b3,b4,b5])])=bJ ((X.rds [a0,a1,a2,a3,a4,a5,b0,b1,b2,b3,b4,b5]).map λcs=>.own tk 140 6 cs 2):=by rw[E35];exact rdo tk _ _ _ _
def zBS:=ai (fX @aBo @aBn @aBm @aBl @aOH @aOG) (fW @aOF @avp @aKe @aBp @aKf)
def aMG(op:Int)(v:V)(tb:List UInt8)(nm:List UInt8)(di:Bool)(ks:List Xp)(sb:List Qy):(Xp.mk op v tb nm di ks sb).op=op:=rfl
def aUj(op:Int)(v:V)(tb:List UInt8)(nm:List UInt8)(di:Bool)(ks:List Xp)(sb:List Qy):(Xp.mk op v tb nm di ks sb).v=v:=rfl
def aME(op:Int)(v:V)(tb:List UInt8)(nm:List UInt8)(di:Bool)(ks:List Xp)(sb:List Qy):(Xp.mk op v tb nm di ks sb).tb=tb:=rfl
def aMH(op:Int)(v:V)(tb:List UInt8)(nm:List UInt8)(di:Bool)(ks:List Xp)(sb:List Qy):(Xp.mk op v tb nm di ks sb).nm=nm:=rfl
def aMJ(op:Int)(v:V)(tb:List UInt8)(nm:List UInt8)(di:Bool)(ks:List Xp)(sb:List Qy):(Xp.mk op v tb nm di ks sb).di=di:=rfl
def aMI(op:Int)(v:V)(tb:List UInt8)(nm:List UInt8)(di:Bool)(ks:List Xp)(sb:List Qy):(Xp.mk op v tb nm di ks sb).ks=ks:=rfl
def aMF(op:Int)(v:V)(tb:List UInt8)(nm:List UInt8)(di:Bool)(ks:List Xp)(sb:List Qy):(Xp.mk op v tb nm di ks sb).sb=sb:=rfl
def aMM(op:Int)(al:Bool)(ks:List Qy)(di:Bool)(its:List Im)(fr:List Fm)(wh:List Xp)(gr:List Xp)(hv:List Xp)(od:List Od)(li:Int)(sk:Int):(Qy.mk op al ks di its fr wh gr hv od li sk).op=op:=rfl
def aMU(op:Int)(al:Bool)(ks:List Qy)(di:Bool)(its:List Im)(fr:List Fm)(wh:List Xp)(gr:List Xp)(hv:List Xp)(od:List Od)(li:Int)(sk:Int):(Qy.mk op al ks di its fr wh gr hv od li sk).al=al:=rfl
def aMP(op:Int)(al:Bool)(ks:List Qy)(di:Bool)(its:List Im)(fr:List Fm)(wh:List Xp)(gr:List Xp)(hv:List Xp)(od:List Od)(li:Int)(sk:Int):(Qy.mk op al ks di its fr wh gr hv od li sk).ks=ks:=rfl
def aMT(op:Int)(al:Bool)(ks:List Qy)(di:Bool)(its:List Im)(fr:List Fm)(wh:List Xp)(gr:List Xp)(hv:List Xp)(od:List Od)(li:Int)(sk:Int):(Qy.mk op al ks di its fr wh gr hv od li sk).di=di:=rfl
def aIL(op:Int)(al:Bool)(ks:List Qy)(di:Bool)(its:List Im)(fr:List Fm)(wh:List Xp)(gr:List Xp)(hv:List Xp)(od:List Od)(li:Int)(sk:Int):(Qy.mk op al ks di its fr wh gr hv od li sk).its=its:=rfl
def aMS(op:Int)(al:Bool)(ks:List Qy)(di:Bool)(its:List Im)(fr:List Fm)(wh:List Xp)(gr:List Xp)(hv:List Xp)(od:List Od)(li:Int)(sk:Int):(Qy.mk op al ks di its fr wh gr hv od li sk).fr=fr:=rfl
def aMK(op:Int)(al:Bool)(ks:List Qy)(di:Bool)(its:List Im)(fr:List Fm)(wh:List Xp)(gr:List Xp)(hv:List Xp)(od:List Od)(li:Int)(sk:Int):(Qy.mk op al ks di its fr wh gr hv od li sk).wh=wh:=rfl
def aMR(op:Int)(al:Bool)(ks:List Qy)(di:Bool)(its:List Im)(fr:List Fm)(wh:List Xp)(gr:List Xp)(hv:List Xp)(od:List Od)(li:Int)(sk:Int):(Qy.mk op al ks di its fr wh gr hv od li sk).gr=gr:=rfl
def aMQ(op:Int)(al:Bool)(ks:List Qy)(di:Bool)(its:List Im)(fr:List Fm)(wh:List Xp)(gr:List Xp)(hv:List Xp)(od:List Od)(li:Int)(sk:Int):(Qy.mk op al ks di its fr wh gr hv od li sk).hv=hv:=rfl
def aMN(op:Int)(al:Bool)(ks:List Qy)(di:Bool)(its:List Im)(fr:List Fm)(wh:List Xp)(gr:List Xp)(hv:List Xp)(od:List Od)(li:Int)(sk:Int):(Qy.mk op al ks di its fr wh gr hv od li sk).od=od:=rfl
def aMO(op:Int)(al:Bool)(ks:List Qy)(di:Bool)(its:List Im)(fr:List Fm)(wh:List Xp)(gr:List Xp)(hv:List Xp)(od:List Od)(li:Int)(sk:Int):(Qy.mk op al ks di its fr wh gr hv od li sk).li=li:=rfl
def aML(op:Int)(al:Bool)(ks:List Qy)(di:Bool)(its:List Im)(fr:List Fm)(wh:List Xp)(gr:List Xp)(hv:List Xp)(od:List Od)(li:Int)(sk:Int):(Qy.mk op al ks di its fr wh gr hv od li sk).sk=sk:=rfl
def aMW(st:Bool)(tb:List UInt8)(e:Xp)(az:List UInt8):(Im.mk st tb e az).st=st:=rfl
def aMV(st:Bool)(tb:List UInt8)(e:Xp)(az:List UInt8):(Im.mk st tb e az).tb=tb:=rfl
def aUk(st:Bool)(tb:List UInt8)(e:Xp)(az:List UInt8):(Im.mk st tb e az).e=e:=rfl
def aMX(st:Bool)(tb:List UInt8)(e:Xp)(az:List UInt8):(Im.mk st tb e az).az=az:=rfl
def aM2(kd:Int)(nm:List UInt8)(az:List UInt8)(sb:List Qy)(ks:List Fm)(on:List Xp):(Fm.mk kd nm az sb ks on).kd=kd:=rfl
def aM0(kd:Int)(nm:List UInt8)(az:List UInt8)(sb:List Qy)(ks:List Fm)(on:List Xp):(Fm.mk kd nm az sb ks on).nm=nm:=rfl
def aM3(kd:Int)(nm:List UInt8)(az:List UInt8)(sb:List Qy)(ks:List Fm)(on:List Xp):(Fm.mk kd nm az sb ks on).az=az:=rfl
def aMY(kd:Int)(nm:List UInt8)(az:List UInt8)(sb:List Qy)(ks:List Fm)(on:List Xp):(Fm.mk kd nm az sb ks on).sb=sb:=rfl
def aM1(kd:Int)(nm:List UInt8)(az:List UInt8)(sb:List Qy)(ks:List Fm)(on:List Xp):(Fm.mk kd nm az sb ks on).ks=ks:=rfl
def aMZ(kd:Int)(nm:List UInt8)(az:List UInt8)(sb:List Qy)(ks:List Fm)(on:List Xp):(Fm.mk kd nm az sb ks on).on=on:=rfl
def zMk:=fV (fZ @aMG @aUj @aME @aMH @aMJ @aMI @aMF @aMM) (fZ @aMU @aMP @aMT @aIL @aMS @aMK @aMR @aMQ) (fZ @aMN @aMO @aML @aMW @aMV @aUk @aMX @aM2) (fW @aM0 @aM3 @aMY @aM1 @aMZ)
end Go.Proofs.YtghkmcffifpkeaaGreat
namespace Go.Tab
open Pe
def dA{l:List Tn}{i:Nat}{w:List UInt8}(h:isT l i w=true):i+1<=l.length:=by
 unfold isT at h
 rcases aD i l.length with g|g
 .exact g
 .rw[aZ g] at h;cases h
def eZ{l:List Tn}{i:Nat}{k:Int}(h:br l i k=true):i+1<=l.length:=by
 unfold br at h
 rcases aD i l.length with g|g
 .exact g
 .rw[aZ g] at h;cases h
theorem afC{l:List Tn}{i:Nat}:∀ {so:List (List UInt8×Int)} {o:Int},opT l i so=some o->i+1<=l.length
 | [],_,h=>by cases h
 | (w,p)::r,o,h=>by
  unfold opT at h
  split at h
  .rename_i c;exact dA c
  .exact afC h
theorem aq6{l:List Tn}{i:Nat}:∀ {ws:List (List UInt8)},co l i ws=true->i+1<=l.length
 | [],h=>by cases h
 | w::r,h=>by
  unfold co at h
  rw[bN] at h
  rcases h with h|h
  .exact dA h
  .exact aq6 h
def aFX{l:List Tn}{i:Nat}{v:V}(h:aei l i=some v):i+1<=l.length:=by
 unfold aei at h
 split at h
 .rename_i c;exact eZ c
 split at h
 .rename_i c;exact eZ c
 split at h
 .rename_i c;exact dA c
 split at h
 .rename_i c;exact dA c
 split at h
 .rename_i c;exact dA c
 .cases h
def Pl{α:Type}(l:List Tn)(i:Nat)(r:Rz α):Prop:=∀ a j b,r=some (a,j,b)->i<=j/\j<=l.length
section
variable {α β:Type} {l:List Tn} {i i' j:Nat} {r:Rz α} {g:α->β}
theorem Pl.at{r:α×Nat×Bool}{R:Rz α}(h:Pl l i R)(e:R=some r):i<=r.2.1/\r.2.1<=l.length:=h r.1 r.2.1 r.2.2 e
theorem Pl.nil:Pl l i (none:Rz α):=λ_ _ _ h=>by cases h
theorem Pl.so{a:α}{b:Bool}(h1:i<=j)(h2:j<=l.length):Pl l i (some (a,j,b)):=λ_ _ _ h=>by cases h;exact⟨h1,h2⟩
theorem Pl.on{f:α->Nat->Rz β}(h:Pl l i' r)(hi:i<=i')(hf:∀ a j,i'<=j->j<=l.length->Pl l i (f a j)):Pl l i (r.on g f):=by
 intro b j q e
 unfold Rz.on at e
 split at e
 .cases e
 .cases e;have:=h _ _ _ rfl;exact⟨by omega,this.2⟩
 .have:=h _ _ _ rfl;exact hf _ _ this.1 this.2 _ _ _ e
theorem Pl.to(h:Pl l i' r)(hi:i<=i'):Pl l i (r.to g):=by
 intro b j q e
 unfold Rz.to at e
 split at e
 .cases e
 .cases e;have:=h _ _ _ rfl;exact⟨by omega,this.2⟩
theorem Pl.wE{w:List UInt8}{x:α}(h1:i<=j)(h2:j<=l.length):Pl l i (wantE (bH l j w) x):=by
 unfold wantE bH
 split
 .rename_i c;have:=dA c;exact .so (by show i<=j+1;omega) this
 .exact .so h1 h2
theorem Pl.wR{w:List UInt8}{x:α}{f:Nat->Rz α}(h1:i<=j)(h2:j<=l.length)(hf:j+1<=l.length->Pl l i (f (j+1))):Pl l i (wantR (bH l j w) x f):=by
 unfold wantR bH
 cases c:isT l j w with
 | true=>exact hf (dA c)
 | false=>exact .so h1 h2
theorem aur:∀ (ws:List (List UInt8)) {j:Nat},j<=l.length->j<=(dI l j ws).1/\(dI l j ws).1<=l.length
 | [],j,h=>⟨ae _,h⟩
 | w::r,j,h=>by
  unfold dI
  split
  .rename_i c;have:=dA c;have:=aur r this;omega
  .exact⟨ae _,h⟩
theorem Pl.wsR{ws:List (List UInt8)}{x:α}{f:Nat->Rz α}(h1:i<=j)(h2:j<=l.length)(hf:∀ m,j<=m->m<=l.length->Pl l i (f m)):Pl l i (wantR (dI l j ws) x f):=by
 have h:=aur ws h2
 unfold wantR
 generalize dI l j ws=p at *
 obtain⟨m,b⟩:=p
 cases b with
 | true=>exact .so (by have:=h.1;dsimp only at this;omega) h.2
 | false=>exact hf m h.1 h.2
theorem Pl.nR{g:List UInt8->α}{f:List UInt8->Nat->Rz α}(h1:i<=j)(h2:j<=l.length)(hf:∀ s,j+1<=l.length->Pl l i (f s (j+1))):Pl l i (nameR (cd l j) g f):=by
 unfold nameR cd
 cases c:br l j 2 with
 | true=>exact hf _ (eZ c)
 | false=>exact .so h1 h2
theorem Pl.fT{w:List UInt8}{A B:Rz α}(h1:j+1<=l.length->Pl l i A)(h2:Pl l i B):Pl l i (if isT l j w=true then A else B):=by
 split
 .rename_i c;exact h1 (dA c)
 .exact h2
theorem Pl.fK{k:Int}{A B:Rz α}(h1:j+1<=l.length->Pl l i A)(h2:Pl l i B):Pl l i (if br l j k=true then A else B):=by
 split
 .rename_i c;exact h1 (eZ c)
 .exact h2
theorem Pl.fI{c:Prop}[Decidable c]{A B:Rz α}(h1:Pl l i A)(h2:Pl l i B):Pl l i (if c then A else B):=by
 split
 .exact h1
 .exact h2
theorem Pl.mono(h:Pl l i' r)(hi:i<=i'):Pl l i r:=λa j b e=>⟨by have:=h a j b e;omega,(h a j b e).2⟩
theorem ahx(h:j<=l.length):j<=(cd l j).2.1/\(cd l j).2.1<=l.length:=by
 unfold cd
 split
 .rename_i c;have:=eZ c;exact⟨by show j<=j+1;omega,this⟩
 .exact⟨ae _,h⟩
theorem alN(h:j<=l.length):j<=(eM l j).2.1/\(eM l j).2.1<=l.length:=by
 unfold eM
 split
 .rename_i c;have:=ahx (dA c);omega
 split
 .rename_i c;have:=eZ c;exact⟨by show j<=j+1;omega,this⟩
 .exact⟨ae _,h⟩
end
structure FP (l:List Tn) (F:Fs):Prop where
 or:∀ {i p},i<=l.length->Pl l i (F.or i p)
 no:∀ {i},i<=l.length->Pl l i (F.no i)
 un:∀ {i},i<=l.length->Pl l i (F.un i)
 qy:∀ {i p},i<=l.length->Pl l i (F.qy i p)
 ins:∀ {i},i<=l.length->Pl l i (F.ins i)
 fr:∀ {i p},i<=l.length->Pl l i (F.fr i p)
 so:∀ {i},i<=l.length->Pl l i (F.so i)
section
variable {l:List Tn} {F:Fs}
theorem amk(H:FP l F){i:Nat}(hi:i+1<=l.length):Pl l i (aid F l i):=by
 unfold aid
 repeat' first
  | exact .so aC aC
  | exact .nil
  | exact .wE aC aC
  | exact .to (H.ins aC) aC
  | refine .on (H.ins aC) aC λ_ _ _ _=>?_
  | exact .mono (H.ins aC) aC
  | refine .fT (λ_=>?_) ?_
  | refine .fK (λ_=>?_) ?_
  | refine .fI ?_ ?_
theorem aqI(H:FP l F):∀ (n:Nat) (ks:List Xp) {i:Nat},i<=l.length->Pl l i (acM F l n ks i):=by
 intro n
 induction n with
 | zero=>intro ks i hi _ _ _ h;cases h
 | succ n ih =>
 intro ks i hi
 unfold acM
 repeat' first
  | exact .so aC aC
  | exact .nil
  | exact .to (ih _ aC) aC
  | refine .on (ih _ aC) aC λ_ _ _ _=>?_
  | exact .mono (ih _ aC) aC
  | exact .to (H.or aC) aC
  | refine .on (H.or aC) aC λ_ _ _ _=>?_
  | exact .mono (H.or aC) aC
  | refine .fT (λ_=>?_) ?_
  | refine .fK (λ_=>?_) ?_
  | refine .fI ?_ ?_
theorem ae7(H:FP l F){i:Nat}(hi:i<=l.length):Pl l i (aa1 F l i):=by
 unfold aa1
 repeat' first
  | exact .so aC aC
  | exact .nil
  | exact .to (aqI H _ _ aC) aC
  | refine .on (aqI H _ _ aC) aC λ_ _ _ _=>?_
  | exact .mono (aqI H _ _ aC) aC
  | exact .to (H.or aC) aC
  | refine .on (H.or aC) aC λ_ _ _ _=>?_
  | exact .mono (H.or aC) aC
  | refine .fT (λ_=>?_) ?_
  | refine .fK (λ_=>?_) ?_
  | refine .fI ?_ ?_
theorem aq4{ks:List Xp}{i:Nat}(hi:i<=l.length):Pl l i (af0 l ks i):=by
 unfold af0
 repeat' first
  | exact .so aC aC
  | exact .nil
  | exact .wE aC aC
  | refine .fT (λ_=>?_) ?_
  | refine .fK (λ_=>?_) ?_
  | refine .fI ?_ ?_
theorem aq3(H:FP l F){ks:List Xp}{i:Nat}(hi:i<=l.length):Pl l i (ahk F l ks i):=by
 unfold ahk
 repeat' first
  | exact .so aC aC
  | exact .nil
  | exact .to (aq4 aC) aC
  | refine .on (aq4 aC) aC λ_ _ _ _=>?_
  | exact .mono (aq4 aC) aC
  | exact .to (H.or aC) aC
  | refine .on (H.or aC) aC λ_ _ _ _=>?_
  | exact .mono (H.or aC) aC
  | refine .fT (λ_=>?_) ?_
  | refine .fK (λ_=>?_) ?_
  | refine .fI ?_ ?_
theorem aq2(H:FP l F):∀ (n:Nat) (ks:List Xp) {i:Nat},i<=l.length->Pl l i (aej F l n ks i):=by
 intro n
 induction n with
 | zero=>intro ks i hi _ _ _ h;cases h
 | succ n ih =>
 intro ks i hi
 unfold aej
 repeat' first
  | exact .so aC aC
  | exact .nil
  | refine .wR aC aC λ_=>?_
  | exact .to (ih _ aC) aC
  | refine .on (ih _ aC) aC λ_ _ _ _=>?_
  | exact .mono (ih _ aC) aC
  | exact .to (aq3 H aC) aC
  | refine .on (aq3 H aC) aC λ_ _ _ _=>?_
  | exact .mono (aq3 H aC) aC
  | exact .to (H.or aC) aC
  | refine .on (H.or aC) aC λ_ _ _ _=>?_
  | exact .mono (H.or aC) aC
  | refine .fT (λ_=>?_) ?_
  | refine .fK (λ_=>?_) ?_
  | refine .fI ?_ ?_
theorem aOv(H:FP l F){i:Nat}(hi:i<=l.length):Pl l i (afZ F l i):=by
 unfold afZ
 repeat' first
  | exact .so aC aC
  | exact .nil
  | exact .to (aq2 H _ _ aC) aC
  | refine .on (aq2 H _ _ aC) aC λ_ _ _ _=>?_
  | exact .mono (aq2 H _ _ aC) aC
  | refine .fT (λ_=>?_) ?_
  | refine .fK (λ_=>?_) ?_
  | refine .fI ?_ ?_
theorem aDm(H:FP l F){f:List UInt8}{di:Bool}{i:Nat}(hi:i<=l.length):Pl l i (ak5 F l i f di):=by
 unfold ak5
 repeat' first
  | exact .so aC aC
  | exact .nil
  | exact .wE aC aC
  | exact .to (H.or aC) aC
  | refine .on (H.or aC) aC λ_ _ _ _=>?_
  | exact .mono (H.or aC) aC
  | refine .fT (λ_=>?_) ?_
  | refine .fK (λ_=>?_) ?_
  | refine .fI ?_ ?_
theorem azy(H:FP l F){f:List UInt8}{i:Nat}(hi:i<=l.length):Pl l i (callS F l i f):=by
 unfold callS
 split
 .split
  .rename_i c
   rw[ap] at c
   have:=dA c.2
   exact .wE aC this
  .exact .fT (λh=>.mono (aDm H h) aC) (aDm H hi)
 .exact .fT (λ_=>.so aC aC) (.on (ae7 H hi) (ae _) λ_ _ _ _=>.wE aC aC)
theorem aJx(H:FP l F){i:Nat}(hi:i+1<=l.length):Pl l i (agp F l i):=by
 unfold agp
 repeat' first
  | exact .so aC aC
  | exact .nil
  | exact .wE aC aC
  | refine .wR aC aC λ_=>?_
  | exact .to (H.qy aC) aC
  | refine .on (H.qy aC) aC λ_ _ _ _=>?_
  | exact .mono (H.qy aC) aC
  | refine .fT (λ_=>?_) ?_
  | refine .fK (λ_=>?_) ?_
  | refine .fI ?_ ?_
theorem axX(H:FP l F){i:Nat}(hi:i<=l.length):Pl l i (ae4 F l i):=by
 unfold ae4
 split
 .rename_i c;have:=aFX c;exact .so aC this
 refine .fT (λ_=>.to (amk H aC) aC) ?_
 refine .fT (λ_=>.mono (aOv H aC) aC) ?_
 refine .fT (λ_=>aJx H aC) ?_
 refine .fK (λ_=>?_) (.so aC aC)
 refine .fT (λ_=>.mono (azy H aC) aC) ?_
 refine .fT (λ_=>?_) (.so aC aC)
 have:=ahx (l:=l) (j:=i+2) aC
 exact .so aC this.2
theorem apa(H:FP l F){i:Nat}{p:List Xp}(hi:i<=l.length):Pl l i (agP F l i p):=by
 unfold agP
 cases p with
 | cons x r=>exact .so (ae _) hi
 | nil=>exact .fT (λ_=>.to (H.un aC) aC) (axX H hi)
theorem aNg{nx:Nat->List Xp->Rz Xp}(N:∀ {i},i<=l.length->Pl l i (nx i []))(so:List (List UInt8×Int)):∀ n a {i:Nat},i<=l.length->Pl l i (aer nx l so n a i):=by
 intro n
 induction n with
 | zero=>intro a i hi _ _ _ h;cases h
 | succ n ih =>
 intro a i hi
 unfold aer
 split
 .exact .so (ae _) hi
 .rename_i c
  exact .on (N (afC c)) aC λ_ _ _ h=>.mono (ih _ h) aC
theorem amv{nx:Nat->List Xp->Rz Xp}(N:∀ {i p},i<=l.length->Pl l i (nx i p))(so:List (List UInt8×Int)){i:Nat}{p:List Xp}(hi:i<=l.length):Pl l i (agi nx l so i p):=by
 unfold agi
 exact .on (N hi) (ae _) λ_ _ h1 h2=>.mono (aNg (λh=>N h) so _ _ h2) aC
theorem aCu(H:FP l F){i:Nat}{p:List Xp}(hi:i<=l.length):Pl l i (akO F l i p):=amv (λh=>apa H h) _ hi
theorem aDn(H:FP l F){i:Nat}{p:List Xp}(hi:i<=l.length):Pl l i (ak6 F l i p):=amv (λh=>aCu H h) _ hi
theorem aeO(H:FP l F){i:Nat}{p:List Xp}(hi:i<=l.length):Pl l i (acr F l i p):=amv (λh=>aDn H h) _ hi
theorem ayJ(H:FP l F)(a:Xp):∀ (n:Nat) (ks:List Xp) {i:Nat},i<=l.length->Pl l i (inL F l a n ks i):=by
 intro n
 induction n with
 | zero=>intro ks i hi _ _ _ h;cases h
 | succ n ih =>
 intro ks i hi
 unfold inL
 repeat' first
  | exact .so aC aC
  | exact .nil
  | exact .wE aC aC
  | exact .to (ih _ aC) aC
  | refine .on (ih _ aC) aC λ_ _ _ _=>?_
  | exact .mono (ih _ aC) aC
  | exact .to (H.or aC) aC
  | refine .on (H.or aC) aC λ_ _ _ _=>?_
  | exact .mono (H.or aC) aC
  | refine .fT (λ_=>?_) ?_
  | refine .fK (λ_=>?_) ?_
  | refine .fI ?_ ?_
theorem asg(H:FP l F){a:Xp}{i:Nat}(hi:i<=l.length):Pl l i (inS F l i a):=by
 unfold inS
 repeat' first
  | exact .so aC aC
  | exact .nil
  | exact .wE aC aC
  | refine .wR aC aC λ_=>?_
  | exact .to (ayJ H _ _ _ aC) aC
  | refine .on (ayJ H _ _ _ aC) aC λ_ _ _ _=>?_
  | exact .mono (ayJ H _ _ _ aC) aC
  | exact .to (H.ins aC) aC
  | refine .on (H.ins aC) aC λ_ _ _ _=>?_
  | exact .mono (H.ins aC) aC
  | refine .fT (λ_=>?_) ?_
  | refine .fK (λ_=>?_) ?_
  | refine .fI ?_ ?_
theorem ayz(H:FP l F){no:Bool}{a:Xp}{i:Nat}(hi:i<=l.length):Pl l i (ace F l no i a):=by
 unfold ace
 repeat' first
  | exact .so aC aC
  | exact .nil
  | refine .wR aC aC λ_=>?_
  | exact .to (asg H aC) aC
  | refine .on (asg H aC) aC λ_ _ _ _=>?_
  | exact .mono (asg H aC) aC
  | exact .to (aeO H aC) aC
  | refine .on (aeO H aC) aC λ_ _ _ _=>?_
  | exact .mono (aeO H aC) aC
  | refine .fT (λ_=>?_) ?_
  | refine .fK (λ_=>?_) ?_
  | refine .fI ?_ ?_
theorem aJb{no:Bool}{a:Xp}{i:Nat}(hi:i<=l.length):Pl l i (isS l no i a):=.wE (ae _) hi
theorem aC3(H:FP l F){i:Nat}{a:Xp}(hi:i<=l.length):Pl l i (adA F l i a):=by
 unfold adA
 split
 .rename_i c;have:=afC c;exact .to (aeO H this) aC
 refine .fT (λ_=>.fT (λ_=>.mono (aJb aC) aC) (.mono (aJb aC) aC)) ?_
 exact .fT (λ_=>.mono (ayz H aC) aC) (ayz H hi)
theorem apu(H:FP l F){i:Nat}{p:List Xp}(hi:i<=l.length):Pl l i (aeF F l i p):=by
 unfold aeF
 split
 .rename_i c
  rw[ap] at c
  have:=dA c.2
  exact .to (H.no this) aC
 .exact .on (aeO H hi) (ae _) λ_ _ _ h=>.mono (aC3 H h) aC
theorem aDl(H:FP l F){i:Nat}{p:List Xp}(hi:i<=l.length):Pl l i (ak4 F l i p):=amv (λh=>apu H h) _ hi
theorem aYk(H:FP l F){i:Nat}{p:List Xp}(hi:i<=l.length):Pl l i (orS F l i p):=amv (λh=>aDl H h) _ hi
theorem aCK(H:FP l F){i:Nat}(hi:i<=l.length):Pl l i (aiZ F l i):=by
 unfold aiZ
 repeat' first
  | exact .so aC aC
  | exact .nil
  | exact .to (amk H aC) aC
  | refine .on (amk H aC) aC λ_ _ _ _=>?_
  | exact .mono (amk H aC) aC
  | exact .to (H.or aC) aC
  | refine .on (H.or aC) aC λ_ _ _ _=>?_
  | exact .mono (H.or aC) aC
  | exact .to (H.qy aC) aC
  | refine .on (H.qy aC) aC λ_ _ _ _=>?_
  | exact .mono (H.qy aC) aC
  | refine .fT (λ_=>?_) ?_
  | refine .fK (λ_=>?_) ?_
  | refine .fI ?_ ?_
theorem akS(H:FP l F){i:Nat}(hi:i<=l.length):Pl l i (aec F l i):=by
 unfold aec
 refine .fT (λ_=>.so aC aC) ?_
 split
 .rename_i c
  rw[ap,ap] at c
  have:=dA c.2.2
  exact .so aC aC
 refine .on (H.or hi) (ae _) λ_ j h1 h2=>?_
 have:=alN h2
 exact .so aC this.2
theorem acS(H:FP l F){w:List UInt8}{i:Nat}(hi:i<=l.length):Pl l i (aaS F l i w):=by
 unfold aaS
 repeat' first
  | exact .so aC aC
  | exact .nil
  | exact .to (H.or aC) aC
  | refine .on (H.or aC) aC λ_ _ _ _=>?_
  | exact .mono (H.or aC) aC
  | refine .fT (λ_=>?_) ?_
  | refine .fK (λ_=>?_) ?_
  | refine .fI ?_ ?_
theorem atw(H:FP l F){di:Bool}{its:List Im}{fr:List Fm}{wh gr:List Xp}{i:Nat}(hi:i<=l.length):Pl l i (ah6 F l di its fr wh gr i):=by
 unfold ah6
 repeat' first
  | exact .so aC aC
  | exact .nil
  | exact .to (acS H aC) aC
  | refine .on (acS H aC) aC λ_ _ _ _=>?_
  | exact .mono (acS H aC) aC
  | refine .fT (λ_=>?_) ?_
  | refine .fK (λ_=>?_) ?_
  | refine .fI ?_ ?_
theorem atx(H:FP l F){di:Bool}{its:List Im}{fr:List Fm}{wh:List Xp}{i:Nat}(hi:i<=l.length):Pl l i (ah7 F l di its fr wh i):=by
 unfold ah7
 repeat' first
  | exact .so aC aC
  | exact .nil
  | refine .wR aC aC λ_=>?_
  | exact .to (atw H aC) aC
  | refine .on (atw H aC) aC λ_ _ _ _=>?_
  | exact .mono (atw H aC) aC
  | exact .to (ae7 H aC) aC
  | refine .on (ae7 H aC) aC λ_ _ _ _=>?_
  | exact .mono (ae7 H aC) aC
  | refine .fT (λ_=>?_) ?_
  | refine .fK (λ_=>?_) ?_
  | refine .fI ?_ ?_
theorem att(H:FP l F){di:Bool}{its:List Im}{fr:List Fm}{i:Nat}(hi:i<=l.length):Pl l i (ah5 F l di its fr i):=by
 unfold ah5
 repeat' first
  | exact .so aC aC
  | exact .nil
  | exact .to (atx H aC) aC
  | refine .on (atx H aC) aC λ_ _ _ _=>?_
  | exact .mono (atx H aC) aC
  | exact .to (acS H aC) aC
  | refine .on (acS H aC) aC λ_ _ _ _=>?_
  | exact .mono (acS H aC) aC
  | refine .fT (λ_=>?_) ?_
  | refine .fK (λ_=>?_) ?_
  | refine .fI ?_ ?_
theorem atz(H:FP l F){di:Bool}{its:List Im}{i:Nat}(hi:i<=l.length):Pl l i (ahu F l di its i):=by
 unfold ahu
 repeat' first
  | exact .so aC aC
  | exact .nil
  | exact .to (att H aC) aC
  | refine .on (att H aC) aC λ_ _ _ _=>?_
  | exact .mono (att H aC) aC
  | exact .to (H.fr aC) aC
  | refine .on (H.fr aC) aC λ_ _ _ _=>?_
  | exact .mono (H.fr aC) aC
  | refine .fT (λ_=>?_) ?_
  | refine .fK (λ_=>?_) ?_
  | refine .fI ?_ ?_
theorem atv(H:FP l F)(di:Bool):∀ (n:Nat) (its:List Im) {i:Nat},i<=l.length->Pl l i (aga F l di n its i):=by
 intro n
 induction n with
 | zero=>intro its i hi _ _ _ h;cases h
 | succ n ih =>
 intro its i hi
 unfold aga
 repeat' first
  | exact .so aC aC
  | exact .nil
  | exact .to (ih _ aC) aC
  | refine .on (ih _ aC) aC λ_ _ _ _=>?_
  | exact .mono (ih _ aC) aC
  | exact .to (atz H aC) aC
  | refine .on (atz H aC) aC λ_ _ _ _=>?_
  | exact .mono (atz H aC) aC
  | exact .to (akS H aC) aC
  | refine .on (akS H aC) aC λ_ _ _ _=>?_
  | exact .mono (akS H aC) aC
  | refine .fT (λ_=>?_) ?_
  | refine .fK (λ_=>?_) ?_
  | refine .fI ?_ ?_
theorem aCl(H:FP l F){i:Nat}(hi:i<=l.length):Pl l i (ajO F l i):=by
 unfold ajO
 repeat' first
  | exact .so aC aC
  | exact .nil
  | exact .to (atv H _ _ _ aC) aC
  | refine .on (atv H _ _ _ aC) aC λ_ _ _ _=>?_
  | exact .mono (atv H _ _ _ aC) aC
  | refine .fT (λ_=>?_) ?_
  | refine .fK (λ_=>?_) ?_
  | refine .fI ?_ ?_
theorem aqx(H:FP l F){i:Nat}{p:List Qy}(hi:i<=l.length):Pl l i (acx F l i p):=by
 unfold acx
 cases p with
 | cons x r=>exact .so (ae _) hi
 | nil=>exact .fT (λ_=>.on (H.qy aC) aC λ_ _ _ _=>.wE aC aC) (.wR aC aC λ_=>.mono (aCl H aC) aC)
theorem aLj{nx:Nat->List Qy->Rz Qy}(N:∀ {i},i<=l.length->Pl l i (nx i []))(so:List (List UInt8×Int)):∀ n a {i:Nat},i<=l.length->Pl l i (adb nx l so n a i):=by
 intro n
 induction n with
 | zero=>intro a i hi _ _ _ h;cases h
 | succ n ih =>
 intro a i hi
 unfold adb
 split
 .exact .so (ae _) hi
 .rename_i c
  have h1:=afC c
  have h2:i<=(if isT l (i+1) [97,108,108]=true then i+2 else i+1)/\(if isT l (i+1) [97,108,108]=true then i+2 else i+1)<=l.length:=by
   split
   .rename_i c2;have:=dA c2;omega
   .omega
  exact .on (N h2.2) h2.1 λ_ _ _ h=>.mono (ih _ h) aC
theorem aCk{nx:Nat->List Qy->Rz Qy}(N:∀ {i p},i<=l.length->Pl l i (nx i p))(so:List (List UInt8×Int)){i:Nat}{p:List Qy}(hi:i<=l.length):Pl l i (ah3 nx l so i p):=by
 unfold ah3
 exact .on (N hi) (ae _) λ_ _ h1 h2=>.mono (aLj (λh=>N h) so _ _ h2) aC
theorem alC(H:FP l F){i:Nat}{p:List Qy}(hi:i<=l.length):Pl l i (aaE F l i p):=aCk (λh=>aqx H h) _ hi
theorem auu(H:FP l F){i:Nat}{p:List Qy}(hi:i<=l.length):Pl l i (ah1 F l i p):=aCk (λh=>alC H h) _ hi
theorem a2C:∀ (n:Nat) (os:List Od) {i:Nat},i<=l.length->Pl l i (byL l n os i):=by
 intro n
 induction n with
 | zero=>intro os i hi _ _ _ h;cases h
 | succ n ih =>
 intro os i hi
 unfold byL
 split
 .rename_i c
  have h1:i+1<=l.length:=by
   rw[bN,ap] at c
   rcases c with c|c
   .exact eZ c
   .exact eZ c.1
  have h2:i<=(if co l (i+1) [[97,115,99],[100,101,115,99]]=true then i+2 else i+1)/\(if co l (i+1) [[97,115,99],[100,101,115,99]]=true then i+2 else i+1)<=l.length:=by
   split
   .rename_i c2;have:=aq6 c2;omega
   .omega
  dsimp only
  exact .fT (λh=>.mono (ih _ h) aC) (.so h2.1 h2.2)
 .exact .so (ae _) hi
theorem aDf{i:Nat}(hi:i<=l.length):Pl l i (ajY l i):=.wR (ae _) hi λh=>.mono (a2C _ _ h) aC
theorem atL{q:Qy}{od:List Od}{li:Int}{i:Nat}(hi:i<=l.length):Pl l i (agc l q od li i):=by
 unfold agc
 repeat' first
  | exact .so aC aC
  | exact .nil
  | refine .fT (λ_=>?_) ?_
  | refine .fK (λ_=>?_) ?_
  | refine .fI ?_ ?_
theorem aCB{q:Qy}{od:List Od}{i:Nat}(hi:i<=l.length):Pl l i (aep l q od i):=by
 unfold aep
 repeat' first
  | exact .so aC aC
  | exact .nil
  | exact .to (atL aC) aC
  | refine .on (atL aC) aC λ_ _ _ _=>?_
  | exact .mono (atL aC) aC
  | refine .fT (λ_=>?_) ?_
  | refine .fK (λ_=>?_) ?_
  | refine .fI ?_ ?_
theorem aor(H:FP l F){i:Nat}{p:List Qy}(hi:i<=l.length):Pl l i (aeD F l i p):=by
 unfold aeD
 refine .on (auu H hi) (ae _) λ_ j h1 h2=>.fI (.so h1 h2) ?_
 exact .fT (λh=>.on (aDf h) aC λ_ _ _ h=>.mono (aCB h) aC) (.mono (aCB h2) h1)
theorem ako{i:Nat}{q:Qy}(hi:i<=l.length):Pl l i (abO l i q):=by
 unfold abO
 have h:=alN hi
 generalize eM l i=p at *
 obtain⟨s,j,b⟩:=p
 dsimp only at h ⊢
 exact .fI (.so h.1 h.2) (.so h.1 h.2)
theorem anR(H:FP l F){i:Nat}(hi:i+1<=l.length):Pl l i (agL F l i):=.on (H.so hi) aC λ_ _ _ _=>.wE aC aC
theorem amb(H:FP l F){i:Nat}(hi:i<=l.length):Pl l i (adY F l i):=by
 unfold adY
 refine .fT (λh=>.on (anR H h) (ae _) λ_ _ _ h=>.fI (.mono (ako h) aC) (.so aC aC)) ?_
 refine .nR (ae _) hi λs h=>?_
 have:=alN h
 exact .so aC this.2
theorem ayD(H:FP l F):∀ (n:Nat) (a:Fm) {i:Nat},i<=l.length->Pl l i (acz F l n a i):=by
 intro n
 induction n with
 | zero=>intro a i hi _ _ _ h;cases h
 | succ n ih =>
 intro a i hi
 unfold acz
 split
 .exact .so (ae _) hi
 .refine .wsR (ae _) hi λm h1 h2=>?_
  refine .on (amb H h2) h1 λ_ p h3 h4=>?_
  refine .fI (.mono (ih _ h4) aC) ?_
  exact .fT (λh=>.on (H.or h) aC λ_ _ _ h=>.mono (ih _ h) aC) (.so aC h4)
theorem aiY(H:FP l F){i:Nat}{p:List Fm}(hi:i<=l.length):Pl l i (adT F l i p):=by
 unfold adT
 cases p with
 | cons x r=>exact ayD H _ _ hi
 | nil=>exact .on (amb H hi) (ae _) λ_ _ _ h=>.mono (ayD H _ _ h) aC
theorem aNM(H:FP l F):∀ (n:Nat) (a:Fm) {i:Nat},i<=l.length->Pl l i (aed F l n a i):=by
 intro n
 induction n with
 | zero=>intro a i hi _ _ _ h;cases h
 | succ n ih =>
 intro a i hi
 unfold aed
 exact .fT (λh=>.on (aiY H h) aC λ_ _ _ h=>.mono (ih _ h) aC) (.so (ae _) hi)
theorem aqU(H:FP l F){i:Nat}{p:List Fm}(hi:i<=l.length):Pl l i (ahi F l i p):=.on (aiY H hi) (ae _) λ_ _ _ h=>.mono (aNM H _ _ h) aC
theorem am3(H:FP l F){i:Nat}(hi:i<=l.length):Pl l i (ac2 F l i):=by
 unfold ac2
 refine .fT (λ_=>.to (H.qy hi) (ae _)) ?_
 refine .fT (λh=>.on (anR H h) (ae _) λ_ _ _ h=>?_) (.to (H.fr hi) (ae _))
 refine .fI (.so aC h) (.fI (.to (H.qy h) aC) (.fI (.on (ako h) aC λ_ _ _ h=>.to (H.fr h) aC) (.to (H.fr h) aC)))
end
def aDp{l:List Tn}{F:Fs}(H:FP l F):FP l (alq l F) where
 or h:=aYk H h
 un h:=apa (p:=[]) H h
 no h:=apu (p:=[]) H h
 qy h:=aor H h
 ins h:=aCK H h
 fr h:=aqU H h
 so h:=am3 H h
def aDq(l:List Tn):FP l apv where
 or _:=.nil
 no _:=.nil
 un _:=.nil
 qy _:=.nil
 ins _:=.nil
 fr _:=.nil
 so _:=.nil
def adK(l:List Tn):Nat->List (List UInt8)->Nat->Rz (List (List UInt8))
 | 0,_,_=>none
 | n+1,o,i=>if br l i 2 then (if isT l (i+1) [44] then adK l n (o++[txT l i]) (i+2) else wantE (bH l (i+1) [41]) (o++[txT l i])) else some ([],i,true)
def abt(l:List Tn)(i:Nat):Rz (List (List UInt8)):=wantR (bH l i [40]) [] λj=>adK l (l.length+1) [] j
def an7(l:List Tn)(i:Nat):Option Int:=opT l i [([105,110,116],2),([116,101,120,116],3),([98,111,111,108],1)]
def agY(l:List Tn)(i:Nat):Rz Cd:=nameR (cd l i) (λs=>⟨s,0,false⟩) λs j=>match an7 l j with
 | none=>some (⟨s,0,false⟩,j,true)
 | some k=>if isT l (j+1) [110,111,116] then wantE (bH l (j+2) [110,117,108,108]) ⟨s,k,true⟩ else some (⟨s,k,false⟩,j+1,false)
def r0:Rd:=⟨[],[],[]⟩
def anc(l:List Tn)(i:Nat):Rz Rd:=wantR (bH l i [107,101,121]) r0 λj=>(abt l j).on (λ_=>r0) λf j=>wantR (bH l j [114,101,102,101,114,101,110,99,101,115]) r0 λj =>
 nameR (cd l j) (λ_=>r0) λt j=>match abt l j with
  | none=>none
  | some (o,m,true)=>some (⟨f,t,o⟩,m,true)
  | some (o,m,false)=>some (⟨f,t,o⟩,m,false)
structure Cr where
 cs:List Cd
 ks:List Kd
 rs:List Rd
 xs:List Xp
def Cr.sm(c:Cr)(t:List UInt8):Sm:=.mk 1 t [] c.cs [] false c.ks c.rs c.xs [] [] [] []
def elS(F:Fs)(l:List Tn)(i:Nat)(s:Cr):Rz Cr :=
 if br l i 2||decide (s.cs=[]) then (agY l i).to λc=>{s with cs:=s.cs++[c]}
 else if isT l i [112,114,105,109,97,114,121] then wantR (bH l (i+1) [107,101,121]) s λj=>(abt l j).to λn=>{s with ks:=s.ks++[⟨true,n⟩]}
 else if isT l i [117,110,105,113,117,101] then (abt l (i+1)).to λn=>{s with ks:=s.ks++[⟨false,n⟩]}
 else if isT l i [102,111,114,101,105,103,110] then (anc l (i+1)).to λr=>{s with rs:=s.rs++[r]}
 else if isT l i [99,104,101,99,107] then wantR (bH l (i+1) [40]) s λj=>(F.or j []).on (λx=>{s with xs:=s.xs++[x]}) λx m=>wantE (bH l m [41]) {s with xs:=s.xs++[x]}
 else some (s,i,true)
def elL(F:Fs)(l:List Tn):Nat->Cr->Nat->Rz Cr
 | 0,_,_=>none
 | n+1,s,i=>(elS F l i s).on id λs j=>if isT l j [44] then elL F l n s (j+1) else wantE (bH l j [41]) s
def smK(k:Int)(t n:List UInt8)(ns:List (List UInt8))(un:Bool):Sm:=.mk k t n [] ns un [] [] [] [] [] [] []
def ag5(l:List Tn)(un:Bool)(i:Nat):Rz Sm:=wantR (bH l i [105,110,100,101,120]) (smK 2 [] [] [] un) λj=>nameR (cd l j) (λ_=>smK 2 [] [] [] un) λn j =>
 wantR (bH l j [111,110]) (smK 2 [] [] [] un) λj=>nameR (cd l j) (λ_=>smK 2 [] [] [] un) λt j=>(abt l j).to λo=>smK 2 t n o un
def c0:Cr:=⟨[],[],[],[]⟩
def ac8(F:Fs)(l:List Tn)(i:Nat):Rz Sm :=
 if isT l i [116,97,98,108,101] then nameR (cd l (i+1)) (λt=>c0.sm t) λt j=>wantR (bH l j [40]) (c0.sm t) λj=>(elL F l (l.length+1) c0 j).to λc=>c.sm t
 else if isT l i [117,110,105,113,117,101] then ag5 l true (i+1) else ag5 l false i
def aiu(l:List Tn)(i:Nat):Rz Sm :=
 if isT l i [116,97,98,108,101] then some (smK 3 (cd l (i+1)).1 [] [] false,(cd l (i+1)).2.1,(cd l (i+1)).2.2)
 else if isT l i [105,110,100,101,120] then some (smK 3 [] (cd l (i+1)).1 [] false,(cd l (i+1)).2.1,(cd l (i+1)).2.2)
 else some (smK 3 [] [] [] false,i,true)
def afO(t:List UInt8)(ns:List (List UInt8))(rw:List (List Xp))(q:List Qy):Sm:=.mk 4 t [] [] ns false [] [] [] rw [] [] q
def agS(F:Fs)(l:List Tn)(t:List UInt8)(ns:List (List UInt8)):Nat->List (List Xp)->Nat->Rz Sm
 | 0,_,_=>none
 | n+1,rw,i=>wantR (bH l (i+1) [40]) (afO t ns rw []) λj=>(aa1 F l j).on (λ_=>afO t ns rw []) λr j=>wantR (bH l j [41]) (afO t ns rw []) λj =>
  if isT l j [44] then agS F l t ns n (rw++[r]) j else some (afO t ns (rw++[r]) [],j,false)
def agl(F:Fs)(l:List Tn)(t:List UInt8)(ns:List (List UInt8))(i:Nat):Rz Sm :=
 if isT l i [118,97,108,117,101,115] then agS F l t ns (l.length+1) [] i else (F.qy i []).to λq=>afO t ns [] [q]
def ab2(F:Fs)(l:List Tn)(i:Nat):Rz Sm:=wantR (bH l i [105,110,116,111]) (afO [] [] [] []) λj=>nameR (cd l j) (λ_=>afO [] [] [] []) λt j =>
 if isT l j [40]&&br l (j+1) 2 then (abt l j).on (λ_=>afO t [] [] []) λn m=>agl F l t n m else agl F l t [] j
def ahs(t:List UInt8)(ss:List As)(w:List Xp):Sm:=.mk 5 t [] [] [] false [] [] [] [] ss w []
def ai6(F:Fs)(l:List Tn)(t:List UInt8):Nat->List As->Nat->Rz Sm
 | 0,_,_=>none
 | n+1,ss,i=>nameR (cd l i) (λ_=>ahs t ss []) λc j=>wantR (bH l j [61]) (ahs t ss []) λj=>(F.or j []).on (λ_=>ahs t ss []) λx j =>
  if isT l j [44] then ai6 F l t n (ss++[⟨c,x⟩]) (j+1) else (aaS F l j [119,104,101,114,101]).to λw=>ahs t (ss++[⟨c,x⟩]) w
def ad0(F:Fs)(l:List Tn)(i:Nat):Rz Sm:=nameR (cd l i) (λ_=>ahs [] [] []) λt j=>wantR (bH l j [115,101,116]) (ahs t [] []) λj=>ai6 F l t (l.length+1) [] j
def s0:Sm:=smK 0 [] [] [] false
def anL(F:Fs)(l:List Tn)(i:Nat):Rz Sm:=wantR (bH l i [102,114,111,109]) s0 λj=>nameR (cd l j) (λ_=>s0) λt j =>
 (aaS F l j [119,104,101,114,101]).to λw=>.mk 6 t [] [] [] false [] [] [] [] [] w []
def quX(k:Int)(q:Qy):Sm:=.mk k [] [] [] [] false [] [] [] [] [] [] [q]
def afd:List (List UInt8×Int):=[([98,101,103,105,110],8),([99,111,109,109,105,116],9),([114,111,108,108,98,97,99,107],10),([97,110,97,108,121,122,101],12),([118,97,99,117,117,109],13),([99,104,101,99,107,112,111,105,110,116],14)]
def abq(F:Fs)(l:List Tn)(i:Nat):Rz Sm:=match opT l i afd with
 | some k=>some (smK k [] [] [] false,i+1,false)
 | none =>
  if isT l i [99,114,101,97,116,101] then ac8 F l (i+1)
  else if isT l i [100,114,111,112] then aiu l (i+1)
  else if isT l i [105,110,115,101,114,116] then ab2 F l (i+1)
  else if isT l i [117,112,100,97,116,101] then ad0 F l (i+1)
  else if isT l i [100,101,108,101,116,101] then anL F l (i+1)
  else if isT l i [101,120,112,108,97,105,110] then (F.qy (i+1) []).to (quX 11)
  else (F.qy i []).to (quX 7)
def abZ(F:Fs)(l:List Tn):Nat->List (Sm×Nat)->Nat->Rz (List (Sm×Nat))
 | 0,_,_=>none
 | n+1,o,i=>if i<l.length then (abq F l i).on (λ_=>[]) λx j=>wantR (bH l j [59]) [] λj=>abZ F l n (o++[(x,i)]) j else some (o,i,false)
end Go.Tab
namespace Go.Proofs.YtghkmcffifpkeaaGreat
open Pe Tab
def ain{l:List Tn}{i:Nat}{w:List UInt8}(c:isT l i w=true)(v:List UInt8)(h:v≠w):isT l i v=false:=by
 rw[amy] at c ⊢
 rw[ap,bf] at c
 rw[c.2,bw (bn h),cW]
def ar8{l:List Tn}{i:Nat}{w:List UInt8}(c:isT l i w=true)(k:Int)(h0:k≠0)(h1:k≠1)(h5:k≠5):br l i k=false:=by
 rw[amy] at c
 rw[agj l i k h0]
 rw[ap,bN,bf,bf] at c
 refine bw λh=>?_
 rw[h] at c
 rcases c.1 with c|c
 .exact h1 c
 .exact h5 c
def aNm{l:List Tn}{i:Nat}{k:Int}(h0:k≠0)(h1:k≠1)(h5:k≠5)(c:br l i k=true)(w:List UInt8):isT l i w=false:=by
 cases e:isT l i w with
 | false=>rfl
 | true=>rw[ar8 e k h0 h1 h5] at c;cases c
def aNn{l:List Tn}{i:Nat}{k:Int}(h0:k≠0)(c:br l i k=true)(k':Int)(h0':k'≠0)(h:k'≠k):br l i k'=false:=by
 rw[agj l i k h0,bf] at c
 rw[agj l i k' h0',c]
 exact bw λe=>h e.symm
def wT(l:List Tn)(i:Nat)(e:Int)(w:List UInt8)(hl:l.length<LB)(c:isT l i w=true) :
  (∀ K,cKp 78 [.ptr 0 0,.of (.lit (.string (ByteArray.mk (List.toArray w))))] [pT l i e] K↔K ⟨false,[aL true],[pT l (i+1) e]⟩) /\
  (∀ K,cKp 76 [.ptr 0 0,.of (.lit (.string (ByteArray.mk (List.toArray w))))] [pT l i e] K↔K ⟨false,[aL true],[pT l i e]⟩) /\
  (∀ K,cKp 79 [.ptr 0 0,.of (.sl [.lit (.string (ByteArray.mk (List.toArray w)))] 1)] [pT l i e] K↔K ⟨false,[],[pT l (i+1) e]⟩):=by
 have hi:=aaT (fF c)
 refine⟨λK=>?_,λK=>?_,λK=>?_⟩
 .have:=aH.k (acV l i e w hl hi) K
  rw[c,am rfl] at this
  exact this
 .have:=aH.k (amx l i e w hl hi) K
  rw[c] at this
  exact this
 .have:=aH.k (alw l i e [w] hl hi (by show 1<=64;decide)) K
  simp only[dI,c,au,arU,ah,av] at this
  exact this
def wF(l:List Tn)(i:Nat)(e:Int)(w:List UInt8)(hl:l.length<LB)(hi:i<=l.length)(c:isT l i w=false) :
  (∀ K,cKp 78 [.ptr 0 0,.of (.lit (.string (ByteArray.mk (List.toArray w))))] [pT l i e] K↔K ⟨false,[aL false],[pT l i e]⟩) /\
  (∀ K,cKp 76 [.ptr 0 0,.of (.lit (.string (ByteArray.mk (List.toArray w))))] [pT l i e] K↔K ⟨false,[aL false],[pT l i e]⟩) /\
  (∀ K,cKp 79 [.ptr 0 0,.of (.sl [.lit (.string (ByteArray.mk (List.toArray w)))] 1)] [pT l i e] K↔K ⟨true,[aaJ l i e],[pT l i e]⟩):=by
 refine⟨λK=>?_,λK=>?_,λK=>?_⟩
 .have:=aH.k (acV l i e w hl hi) K
  rw[c] at this
  simp only[ah,av] at this
  exact this
 .have:=aH.k (amx l i e w hl hi) K
  rw[c] at this
  exact this
 .have:=aH.k (alw l i e [w] hl hi (by show 1<=64;decide)) K
  simp only[dI,c,ah,av,arU,au] at this
  exact this
def sK(l:List Tn)(i:Nat)(e:Int)(w:List UInt8)(hl:l.length<LB)(hi:i<=l.length)(K:An->Prop):cKp 76 [.ptr 0 0,.of (.lit (.string (ByteArray.mk (List.toArray w))))] [pT l i e] K↔K ⟨false,[aL (isT l i w)],[pT l i e]⟩:=aH.k (amx l i e w hl hi) K
def nT(l:List Tn)(i:Nat)(e:Int)(hl:l.length<LB)(c:br l i 2=true) :
  (∀ K,cKp 174 [.ptr 0 0] [pT l i e] K↔K ⟨false,[aL true],[pT l i e]⟩) /\
  (∀ K,cKp 92 [.ptr 0 0] [pT l i e] K↔K ⟨false,[.of (aJ (aK (txT l i)))],[pT l (i+1) e]⟩):=by
 have hi:=aaT (aaU c)
 refine⟨λK=>?_,λK=>?_⟩
 .have:=aH.k (anp l i e hl hi) K
  rw[c] at this
  exact this
 .have:=aH.k (auW l i e hl hi) K
  simp only[cd,c,au,bz,ah,av] at this
  exact this
def nF(l:List Tn)(i:Nat)(e:Int)(hl:l.length<LB)(hi:i<=l.length)(c:br l i 2=false) :
  (∀ K,cKp 174 [.ptr 0 0] [pT l i e] K↔K ⟨false,[aL false],[pT l i e]⟩) /\
  (∀ K,cKp 92 [.ptr 0 0] [pT l i e] K↔K ⟨true,[aaJ l i e],[pT l i e]⟩):=by
 refine⟨λK=>?_,λK=>?_⟩
 .have:=aH.k (anp l i e hl hi) K
  rw[c] at this
  exact this
 .have:=aH.k (auW l i e hl hi) K
  simp only[cd,c,ah,av,bz,au] at this
  exact this
def iT(l:List Tn)(i:Nat)(e:Int)(hl:l.length<LB)(c:br l i 3=true) :
  (∀ K,cKp 81 [.ptr 0 0] [pT l i e] K↔K ⟨false,[aQ (nuT l i)],[pT l (i+1) e]⟩):=by
 have hi:=aaT (aaU c)
 intro K
 have:=aH.k (apY l i e hl hi) K
 simp only[c,au,bz,ah,av] at this
 exact this
def iF(l:List Tn)(i:Nat)(e:Int)(hl:l.length<LB)(hi:i<=l.length)(c:br l i 3=false) :
  (∀ K,cKp 81 [.ptr 0 0] [pT l i e] K↔K ⟨true,[aaJ l i e],[pT l i e]⟩):=by
 intro K
 have:=aH.k (apY l i e hl hi) K
 simp only[c,ah,av,bz,au] at this
 exact this
def aB(l:List Tn)(i:Nat)(e:Int)(ws:List (List UInt8))(hl:l.length<LB)(hi:i<=l.length)(hn:ws.length<=64){b:Bool}(c:co l i ws=b) :
  (∀ K,cKp 75 [.ptr 0 0,.of (slC bI ws)] [pT l i e] K↔K ⟨false,[aL b],[pT l i e]⟩):=by
 intro K
 have:=aH.k (aOQ l i e ws hl hi hn) K
 rw[c] at this
 exact this
def aB2(l:List Tn)(i:Nat)(e:Int)(w1 w2:List UInt8)(hl:l.length<LB)(hi:i<=l.length){b:Bool}(c:co l i [w1,w2]=b)(K:An->Prop):cKp 75 [.ptr 0 0,.of (.sl [.lit (.string (ByteArray.mk (List.toArray w1))),.lit (.string (ByteArray.mk (List.toArray w2)))] 2)] [pT l i e] K↔K ⟨false,[aL b],[pT l i e]⟩:=aB l i e [w1,w2] hl hi (by show 2<=64;decide) c K
def aB3(l:List Tn)(i:Nat)(e:Int)(w1 w2 w3:List UInt8)(hl:l.length<LB)(hi:i<=l.length){b:Bool}(c:co l i [w1,w2,w3]=b)(K:An->Prop):cKp 75 [.ptr 0 0,.of (.sl [.lit (.string (ByteArray.mk (List.toArray w1))),.lit (.string (ByteArray.mk (List.toArray w2))),.lit (.string (ByteArray.mk (List.toArray w3)))] 3)] [pT l i e] K↔K ⟨false,[aL b],[pT l i e]⟩:=aB l i e [w1,w2,w3] hl hi (by show 3<=64;decide) c K
def aB4(l:List Tn)(i:Nat)(e:Int)(w1 w2 w3 w4:List UInt8)(hl:l.length<LB)(hi:i<=l.length){b:Bool}(c:co l i [w1,w2,w3,w4]=b)(K:An->Prop):cKp 75 [.ptr 0 0,.of (.sl [.lit (.string (ByteArray.mk (List.toArray w1))),.lit (.string (ByteArray.mk (List.toArray w2))),.lit (.string (ByteArray.mk (List.toArray w3))),.lit (.string (ByteArray.mk (List.toArray w4)))] 4)] [pT l i e] K↔K ⟨false,[aL b],[pT l i e]⟩:=aB l i e [w1,w2,w3,w4] hl hi (by show 4<=64;decide) c K
def aB6(l:List Tn)(i:Nat)(e:Int)(w1 w2 w3 w4 w5 w6:List UInt8)(hl:l.length<LB)(hi:i<=l.length){b:Bool}(c:co l i [w1,w2,w3,w4,w5,w6]=b)(K:An->Prop):cKp 75 [.ptr 0 0,.of (.sl [.lit (.string (ByteArray.mk (List.toArray w1))),.lit (.string (ByteArray.mk (List.toArray w2))),.lit (.string (ByteArray.mk (List.toArray w3))),.lit (.string (ByteArray.mk (List.toArray w4))),.lit (.string (ByteArray.mk (List.toArray w5))),.lit (.string (ByteArray.mk (List.toArray w6)))] 6)] [pT l i e] K↔K ⟨false,[aL b],[pT l i e]⟩:=aB l i e [w1,w2,w3,w4,w5,w6] hl hi (by show 6<=64;decide) c K
def gK(l:List Tn)(i:Nat)(e:Int)(hl:l.length<LB)(hi:i<=l.length) :
  (∀ K,cKp 65 [.ptr 0 0] [pT l i e] K↔K ⟨true,[aaJ l i e],[pT l i e]⟩):=λK=>aH.k (aeT l i e hl hi) K
def pK(l:List Tn)(i:Nat)(e:Int)(hl:l.length<LB)(hi:i<=l.length) :
  (∀ K,cKp 173 [.ptr 0 0,.of (.lit (.int .i64 0))] [pT l i e] K↔K ⟨false,[.of (.agg (tnC (bS l i)))],[pT l i e]⟩) /\
  (∀ K,cKp 173 [.ptr 0 0,.of (.lit (.int .i64 1))] [pT l i e] K↔K ⟨false,[.of (.agg (tnC (bS l (i+1))))],[pT l i e]⟩) /\
  (∀ K,cKp 173 [.ptr 0 0,.of (.lit (.int .i64 2))] [pT l i e] K↔K ⟨false,[.of (.agg (tnC (bS l (i+2))))],[pT l i e]⟩) :=
 ⟨λK=>aH.k (aj9 l i e hl hi) K,λK=>aH.k (aEw l i e hl hi) K,λK=>aH.k (aEv l i e hl hi) K⟩
def mB(l:List Tn)(i:Nat)(e:Int)(ws:List (List UInt8))(hl:l.length<LB)(hi:i<=l.length)(hn:ws.length<=64){j:Nat}(c:dI l i ws=(j,false))(K:An->Prop):cKp 79 [.ptr 0 0,.of (slC bI ws)] [pT l i e] K↔K ⟨false,[],[pT l j e]⟩:=by
 have:=aH.k (alw l i e ws hl hi hn) K
 rw[c] at this
 exact this
def mBf(l:List Tn)(i:Nat)(e:Int)(ws:List (List UInt8))(hl:l.length<LB)(hi:i<=l.length)(hn:ws.length<=64){j:Nat}(c:dI l i ws=(j,true))(K:An->Prop):cKp 79 [.ptr 0 0,.of (slC bI ws)] [pT l i e] K↔K ⟨true,[aaJ l j e],[pT l j e]⟩:=by
 have:=aH.k (alw l i e ws hl hi hn) K
 rw[c] at this
 exact this
def mB2(l:List Tn)(i:Nat)(e:Int)(w1 w2:List UInt8)(hl:l.length<LB)(hi:i<=l.length){j:Nat}(c:dI l i [w1,w2]=(j,false))(K:An->Prop):cKp 79 [.ptr 0 0,.of (.sl [.lit (.string (ByteArray.mk (List.toArray w1))),.lit (.string (ByteArray.mk (List.toArray w2)))] 2)] [pT l i e] K↔K ⟨false,[],[pT l j e]⟩:=mB l i e [w1,w2] hl hi (by show 2<=64;decide) c K
def aZo(l:List Tn)(i:Nat)(e:Int)(w1 w2:List UInt8)(hl:l.length<LB)(hi:i<=l.length){j:Nat}(c:dI l i [w1,w2]=(j,true))(K:An->Prop):cKp 79 [.ptr 0 0,.of (.sl [.lit (.string (ByteArray.mk (List.toArray w1))),.lit (.string (ByteArray.mk (List.toArray w2)))] 2)] [pT l i e] K↔K ⟨true,[aaJ l j e],[pT l j e]⟩:=mBf l i e [w1,w2] hl hi (by show 2<=64;decide) c K
def aro(l:List Tn)(i:Nat):txT l i=(bS l i).s:=by
 unfold txT bS
 cases l[i]? <;> rfl
def aye(l:List Tn)(i:Nat):nuT l i=(bS l i).n:=by
 unfold nuT bS
 cases l[i]? <;> rfl
def kq{l:List Tn}{i:Nat}{k:Int}{b:Bool}(hk:k≠0)(c:br l i k=b):((bS l i).k=k)=(b=true):=by
 rw[← c,agj l i k hk,bf]
structure TL (l:List Tn):Prop where
 n:∀ t∈l,0<=t.n
 s:∀ t∈l,t.k=2->t.s≠[]
 w:∀ t∈l,t.k=1->t.s≠[46]/\t.s≠[42]
def ajv{l:List Tn}{i:Nat}(h:i<l.length):bS l i∈l:=by
 have:=amW h
 exact bT this
def GP{α:Type}(f:Nat)(xs:List X)(obs:List Ob)(l:List Tn)(e:Int)(D:List Ob)(enc:α->X)(i:Nat)(r:α×Nat×Bool):Prop:=(i<=r.2.1/\r.2.1<=l.length)/\aH Tryz.prog pr f xs obs (bz l e enc r D)
section
variable {α:Type} {f:Nat} {xs:List X} {obs:List Ob} {l:List Tn} {e:Int} {D:List Ob} {enc:α->X} {i j:Nat} {a:α}
theorem GP.ok(h:GP f xs obs l e D enc i (a,j,false))(K:An->Prop):cKp f xs obs K↔K ⟨false,[enc a],pT l j e::D⟩:=aH.k h.2 K
theorem GP.bad(h:GP f xs obs l e D enc i (a,j,true))(K:An->Prop):cKp f xs obs K↔K ⟨true,[aaJ l j e],pT l j e::D⟩:=aH.k h.2 K
theorem GP.okA(h:GP f xs obs l e D enc i (a,j,false)):(i<=j/\j<=l.length)/\∀ K,cKp f xs obs K↔K ⟨false,[enc a],pT l j e::D⟩:=⟨h.1,h.ok⟩
theorem GP.badA(h:GP f xs obs l e D enc i (a,j,true)):(i<=j/\j<=l.length)/\∀ K,cKp f xs obs K↔K ⟨true,[aaJ l j e],pT l j e::D⟩:=⟨h.1,h.bad⟩
theorem eR(E:Rz α)(C:∀ r,E=some r->GP f xs obs l e D enc i r):E=none\/(∃ a j,E=some (a,j,true)/\(i<=j/\j<=l.length)/\∀ K,cKp f xs obs K↔K ⟨true,[aaJ l j e],pT l j e::D⟩)\/(∃ a j,E=some (a,j,false)/\(i<=j/\j<=l.length)/\∀ K,cKp f xs obs K↔K ⟨false,[enc a],pT l j e::D⟩) :=
 match E,C with
 | none,_=>.inl rfl
 | some (_,_,true),C=>.inr (.inl ⟨_,_,rfl,(C _ rfl).badA⟩)
 | some (_,_,false),C=>.inr (.inr ⟨_,_,rfl,(C _ rfl).okA⟩)
theorem GP.any(h:GP f xs obs l e D enc i (a,j,true))(b:α):GP f xs obs l e D enc i (b,j,true):=h
end
abbrev xpE(x:Xp):X:=.of (.agg (xpC x))
abbrev qyE(x:Qy):X:=.of (.agg (qyC x))
abbrev fmE(x:Fm):X:=.of (.agg (fmC x))
abbrev thE(x:Th):X:=.of (.agg (thC x))
abbrev imE(x:Im):X:=.of (.agg (imC x))
abbrev odE(x:Od):X:=.of (.agg (odC x))
abbrev smE(x:Sm):X:=.of (.agg (smC x))
abbrev xsE(x:List Xp):X:=.of (slC xpC x)
abbrev deE:List Ob:=[.row 28 []]
abbrev deQ:List Ob:=[.row 38 []]
abbrev deF:List Ob:=[.row 140 []]
def azE{T:TT}{t e:Nat}{d:TD}(h:Pe.elemOf T t=some (e,d))(hz:0<d.size)(hd:d.size<=1000)(hl:d.zero.length=d.size)(tk:Tk)(xs:List X):cy tk 1 (some (e,d)) (some [(0,xs)])=if xs.length=d.size then bJ ((X.rds xs).map λcs=>.own tk e d.size cs 1) else none:=by
 rw[← h];exact adl h hz hd hl tk xs
def aSK:=@azE _ _ _ _ E26 aI aI rfl
def apL:=@azE _ _ _ _ E25 aI aI rfl
def a91:=@azE _ _ _ _ E35 aI aI rfl
def ec(clk:Nat)(af:List Edge)(r o:Nat):aau clk af (some (.cell r o))=!(o == 1099511627776):=rfl
def aSU:(2<=LIM)=True:=aa aI
def aa4:(1<=LIM)=True:=aa aI
def awo(w:Bool)(y:Qy)(e:Xp)(f:Fm):(⟨true,w,y,e,f⟩ : Th).val=af8 26 [] y:=rfl
def awq(w:Bool)(y:Qy)(e:Xp)(f:Fm):(⟨false,w,y,e,f⟩ : Th).val=e:=rfl
def bh(n:Nat):n+1+1=n+2:=rfl
def zV0:=ai (fZ @ff @ad6 @aee @amB @al9 @akN @aeB @akz) (fZ @akW @aso @ayV @amI @amw @amh @amL @aro)
def zLX:=fW @List.all_cons.{0} @List.all_nil.{0} @List.contains_cons.{0} @List.contains_nil.{0} @List.flatten_cons.{0}
def zVW:=fX (fZ zV0 zMk @smK.eq_1 @afO.eq_1 @ahs.eq_1 @quX.eq_1 @Cr.sm.eq_1 @s0.eq_1) (fZ @smE.eq_1 @xpE.eq_1 @qyE.eq_1 @fmE.eq_1 @thE.eq_1 @imE.eq_1 @odE.eq_1 @xsE.eq_1) (fZ @af8.eq_1 @dR.eq_1 @ai3.eq_1 @ajS.eq_1 @ajW.eq_1 @x0.eq_1 @y0.eq_1 @f0.eq_1) (fZ @v0.eq_1 @im0.eq_1 @baU.eq_1 @ats.eq_1 @aiH.eq_1 @Th.ofE.eq_1 @Th.ofQ.eq_1 @Th.ofF.eq_1) (fZ @Th.val.eq_1 @Qy.endQ.eq_1 @slC.eq_1 @List.cons_append.{0} @List.nil_append.{0} @List.append_nil.{0} @List.length_append.{0} @List.length_cons.{0}) (fX @List.length_nil.{0} @if_true.{1} @if_false.{1} @ah @cV @aaC)
def fz{p:Prop}(h:p:=by first|rfl|(simp only[zVW] <;> rfl)):p:=h
def ar9{l:List Tn}{i:Nat}{w:List UInt8}(c:isT l i w=true)(v:List UInt8)(h:(v=w)=False):isT l i v=false:=ain c v (of_eq_false h)
def asa{l:List Tn}{i:Nat}{w:List UInt8}(c:isT l i w=true):br l i 2=false/\br l i 3=false/\br l i 4=false :=
 ⟨ar8 c 2 aI aI aI,ar8 c 3 aI aI aI,ar8 c 4 aI aI aI⟩
def wX(l:List Tn)(i:Nat)(e:Int)(w:List UInt8)(hl:l.length<LB)(c:isT l i w=true) :
  ((∀ v,(v=w)=False->isT l i v=false)/\br l i 2=false/\br l i 3=false/\br l i 4=false) /\
  ((∀ v,(v=w)=False->∀ K,cKp 78 [.ptr 0 0,.of (.lit (.string (ByteArray.mk (List.toArray v))))] [pT l i e] K↔K ⟨false,[aL false],[pT l i e]⟩) /\
  (∀ v,(v=w)=False->∀ K,cKp 76 [.ptr 0 0,.of (.lit (.string (ByteArray.mk (List.toArray v))))] [pT l i e] K↔K ⟨false,[aL false],[pT l i e]⟩) /\
  (∀ v,(v=w)=False->∀ K,cKp 79 [.ptr 0 0,.of (.sl [.lit (.string (ByteArray.mk (List.toArray v)))] 1)] [pT l i e] K↔K ⟨true,[aaJ l i e],[pT l i e]⟩)) /\
  ((∀ K,cKp 174 [.ptr 0 0] [pT l i e] K↔K ⟨false,[aL false],[pT l i e]⟩) /\
  (∀ K,cKp 92 [.ptr 0 0] [pT l i e] K↔K ⟨true,[aaJ l i e],[pT l i e]⟩) /\
  (∀ K,cKp 81 [.ptr 0 0] [pT l i e] K↔K ⟨true,[aaJ l i e],[pT l i e]⟩)):=by
 have hi:=aaT (fF c)
 have hk:=asa c
 exact⟨⟨ar9 c,hk⟩,⟨λv h=>(wF l i e v hl hi (ar9 c v h)).1,λv h=>(wF l i e v hl hi (ar9 c v h)).2.1,λv h=>(wF l i e v hl hi (ar9 c v h)).2.2⟩,
  (nF l i e hl hi hk.1).1,(nF l i e hl hi hk.1).2,iF l i e hl hi hk.2.1⟩
def wQ{l:List Tn}{i:Nat}{w:List UInt8}(c:isT l i w=true):((bS l i).k=2)=(false=true)/\((bS l i).k=3)=(false=true)/\((bS l i).k=4)=(false=true) :=
 ⟨kq aI (asa c).1,kq aI (asa c).2.1,kq aI (asa c).2.2⟩
section
variable (l:List Tn) (i:Nat) (e:Int) {k:Int}
theorem kW(h0:k≠0)(h1:k≠1)(h5:k≠5)(c:br l i k=true)(hl:l.length<LB) :
  (∀ v,isT l i v=false) /\
  ((∀ v K,cKp 78 [.ptr 0 0,.of (.lit (.string (ByteArray.mk (List.toArray v))))] [pT l i e] K↔K ⟨false,[aL false],[pT l i e]⟩) /\
  (∀ v K,cKp 76 [.ptr 0 0,.of (.lit (.string (ByteArray.mk (List.toArray v))))] [pT l i e] K↔K ⟨false,[aL false],[pT l i e]⟩) /\
  (∀ v K,cKp 79 [.ptr 0 0,.of (.sl [.lit (.string (ByteArray.mk (List.toArray v)))] 1)] [pT l i e] K↔K ⟨true,[aaJ l i e],[pT l i e]⟩)):=by
 have hi:=aaT (aaU c)
 have hn:=aNm h0 h1 h5 c
 exact⟨hn,λv=>(wF l i e v hl hi (hn v)).1,λv=>(wF l i e v hl hi (hn v)).2.1,λv=>(wF l i e v hl hi (hn v)).2.2⟩
theorem kNo{k:Int}(hk:k≠0)(c:br l i k=true)(m:Int)(hm:m≠0)(h:m≠k):br l i m=false:=aNn hk c m hm h
def kX2(hl:l.length<LB)(c:br l i 2=true):=fV (kW l i e aI aI aI c hl) (kNo l i aI c 3 aI aI) (kNo l i aI c 4 aI aI) (iF l i e hl (aaT (aaU c)) (kNo l i aI c 3 aI aI))
def kX3(hl:l.length<LB)(c:br l i 3=true):=fV (kW l i e aI aI aI c hl) (kNo l i aI c 2 aI aI) (kNo l i aI c 4 aI aI) (nF l i e hl (aaT (aaU c)) (kNo l i aI c 2 aI aI))
def kX4(hl:l.length<LB)(c:br l i 4=true):=fW (kW l i e aI aI aI c hl) (kNo l i aI c 2 aI aI) (kNo l i aI c 3 aI aI) (nF l i e hl (aaT (aaU c)) (kNo l i aI c 2 aI aI)) (iF l i e hl (aaT (aaU c)) (kNo l i aI c 3 aI aI))
end
def kQ2{l:List Tn}{i:Nat}(c:br l i 2=true):((bS l i).k=2)=(true=true)/\((bS l i).k=3)=(false=true)/\((bS l i).k=4)=(false=true) :=
 ⟨kq aI c,kq aI (kNo l i aI c 3 aI aI),kq aI (kNo l i aI c 4 aI aI)⟩
def kQ3{l:List Tn}{i:Nat}(c:br l i 3=true):((bS l i).k=2)=(false=true)/\((bS l i).k=3)=(true=true)/\((bS l i).k=4)=(false=true) :=
 ⟨kq aI (kNo l i aI c 2 aI aI),kq aI c,kq aI (kNo l i aI c 4 aI aI)⟩
def kQ4{l:List Tn}{i:Nat}(c:br l i 4=true):((bS l i).k=2)=(false=true)/\((bS l i).k=3)=(false=true)/\((bS l i).k=4)=(true=true) :=
 ⟨kq aI (kNo l i aI c 2 aI aI),kq aI (kNo l i aI c 3 aI aI),kq aI c⟩
def eP(p:Prop):(p/\p=True)\/(¬p/\p=False):=(Classical.em p).imp (λc=>⟨c,aa c⟩) λc=>⟨c,aA c⟩
section
variable (l:List Tn) (i:Nat) (e:Int) (w:List UInt8) (hl:l.length<LB) (hi:i<=l.length:=by omega)
def eW:=(dE (isT l i w)).imp (λc:isT l i w=true=>ai c (ai (fF c) (wT l i e w hl c))) (λc:isT l i w=false=>ai c (wF l i e w hl hi c))
def eWX:=(dE (isT l i w)).imp (λc:isT l i w=true=>ai c (ai (fF c) (ai (wT l i e w hl c) (wX l i e w hl c)))) (λc:isT l i w=false=>ai c (wF l i e w hl hi c))
def eWQ:=(dE (isT l i w)).imp (λc:isT l i w=true=>ai c (ai (fF c) (ai (wT l i e w hl c) (ai (wX l i e w hl c) (wQ c))))) (λc:isT l i w=false=>ai c (wF l i e w hl hi c))
def eK2:=(dE (br l i 2)).imp (λc:br l i 2=true=>ai c (ai (aaU c) (nT l i e hl c))) (λc:br l i 2=false=>ai c (nF l i e hl hi c))
def afl:=(dE (br l i 2)).imp (λc:br l i 2=true=>ai c (ai (aaU c) (ai (nT l i e hl c) (kX2 l i e hl c)))) (λc:br l i 2=false=>ai c (nF l i e hl hi c))
def ajX:=(dE (br l i 3)).imp (λc:br l i 3=true=>ai c (ai (aaU c) (ai (iT l i e hl c) (kX3 l i e hl c)))) (λc:br l i 3=false=>ai c (iF l i e hl hi c))
def aOe:=(dE (br l i 2)).imp (λc:br l i 2=true=>ai c (ai (aaU c) (ai (nT l i e hl c) (ai (kX2 l i e hl c) (ai (kQ2 c) trivial))))) (λc:br l i 2=false=>ai c (ai (nF l i e hl hi c) (kq aI c)))
def a1J:=(dE (br l i 3)).imp (λc:br l i 3=true=>ai c (ai (aaU c) (ai (iT l i e hl c) (ai (kX3 l i e hl c) (ai (kQ3 c) trivial))))) (λc:br l i 3=false=>ai c (ai (iF l i e hl hi c) (kq aI c)))
def bdp(_:i<=l.length:=by omega):=(dE (br l i 4)).imp (λc:br l i 4=true=>ai c (ai (aaU c) (ai trivial (ai (kX4 l i e hl c) (ai (kQ4 c) trivial))))) (λc:br l i 4=false=>ai c (ai trivial (kq aI c)))
end
def uL(a b:UInt8)(x y:List UInt8):(a::x=b::y)=(a=b/\x=y):=fO a x b y
section
variable {α β:Type}
theorem ba4(g:α->β)(f:α->Nat->Rz β):Rz.on none g f=none:=rfl
theorem ba3(a:α)(i:Nat)(g:α->β)(f:α->Nat->Rz β):Rz.on (some (a,i,true)) g f=some (g a,i,true):=rfl
theorem ba5(a:α)(i:Nat)(g:α->β)(f:α->Nat->Rz β):Rz.on (some (a,i,false)) g f=f a i:=rfl
theorem baN(g:α->β):Rz.to none g=none:=rfl
theorem baM(a:α)(i:Nat)(b:Bool)(g:α->β):Rz.to (some (a,i,b)) g=some (g a,i,b):=rfl
theorem wE(r:Nat×Bool)(x:β):wantE r x=some (x,r.1,r.2):=rfl
theorem baD(i:Nat)(x:β)(f:Nat->Rz β):wantR (i,true) x f=some (x,i,true):=rfl
theorem baE(i:Nat)(x:β)(f:Nat->Rz β):wantR (i,false) x f=f i:=rfl
theorem wTe(l:List Tn)(i:Nat)(w:List UInt8):bH l i w=if isT l i w then (i+1,false) else (i,true):=rfl
end
def zRZ:=fU (gh @ba4 @ba3 @ba5 @baN @baM @wE @baD @baE @wTe) (gh @id_eq.{1} @if_true.{1} @if_false.{1} @dz @dL @cW @aaw @bj @eK) (gh @aE @eN @Option.some.injEq.{0} @aaH @aam @ah @uL @cS @fH)
structure PY (l:List Tn) (e:Int) (F:Fs):Prop where
 tl:TL l
 fp:FP l F
 or:∀ i r,i<=l.length->F.or i []=some r->GP 31 [.ptr 0 0] [pT l i e] l e [] xpE i r
 orp:∀ i x cs r,cs=xpC x->i<=l.length->F.or i [x]=some r->GP 31 [.ptr 0 0] [pTe l i e,.row 28 cs] l e deE xpE i r
 no:∀ i r,i<=l.length->F.no i=some r->GP 152 [.ptr 0 0] [pT l i e] l e [] xpE i r
 un:∀ i r,i<=l.length->F.un i=some r->GP 325 [.ptr 0 0] [pT l i e] l e [] xpE i r
 qy:∀ i r,i<=l.length->F.qy i []=some r->GP 39 [.ptr 0 0] [pT l i e] l e [] qyE i r
 qyp:∀ i x cs r,cs=qyC x->i<=l.length->F.qy i [x]=some r->GP 39 [.ptr 0 0] [pTq l i e,.row 38 cs] l e deQ qyE i r
 ins:∀ i r,i<=l.length->F.ins i=some r->GP 305 [.ptr 0 0] [pT l i e] l e [] thE i r
 fr:∀ i r,i<=l.length->F.fr i []=some r->GP 297 [.ptr 0 0] [pT l i e] l e [] fmE i r
 frp:∀ i x cs r,cs=fmC x->i<=l.length->F.fr i [x]=some r->GP 297 [.ptr 0 0] [pTf l i e,.row 140 cs] l e deF fmE i r
 so:∀ i r,i<=l.length->F.so i=some r->GP 326 [.ptr 0 0] [pT l i e] l e [] thE i r
end Go.Proofs.YtghkmcffifpkeaaGreat
namespace Go.Tab
open Pe
def aft(c:UInt8):Bool:=decide (65<=c.toNat)&&decide (c.toNat<=90)
def abe(c:UInt8):UInt8:=if aft c then c+32 else c
def abg(c:UInt8):Bool:=eF c||aft c
def abk(c:UInt8):Bool:=decide (c=32)||(decide (c=9)||(decide (c=10)||decide (c=13)))
def bU:Bool->List UInt8->Nat
 | _,[]=>0
 | true,c::r=>if c=10 then bU false r+1 else bU true r+1
 | false,c::r=>if abk c then bU false r+1 else if c=45/\r.head?=some 45 then bU true r+1 else 0
def aes(i:Nat):Tn:=⟨0,i,0,0,[]⟩
def aot:List UInt8->Bool
 | []=>false
 | c::r=>eF c&&r.all λc=>eF c||bQ c
def lxW(i:Nat)(w:List UInt8):Tn×Int :=
 if aqp (w.map abe) then (⟨1,i,w.length,0,w.map abe⟩,0) else if 20<w.length then (aes i,4) else (⟨2,i,w.length,0,w.map abe⟩,0)
def afL(l:List UInt8):Nat:=l.foldl (λn c=>min (10*n+(c.toNat-48)) 1000000000000001) 0
def aif(i:Nat)(d:List UInt8):Tn×Int:=if 1000000000000000<afL d then (aes i,4) else (⟨3,i,d.length,afL d,[]⟩,0)
def aib(i:Nat)(r:List UInt8):Tn×Int:=if r.contains 34 then
  (if !aot (r.takeWhile (·≠34)) then (aes i,2) else if 20<(r.takeWhile (·≠34)).length then (aes i,4) else (⟨2,i,(r.takeWhile (·≠34)).length+2,0,r.takeWhile (·≠34)⟩,0))
 else (aes i,3)
def aa0:List UInt8->Option (List UInt8×Nat)
 | []=>none
 | [c]=>if c=39 then some ([],1) else none
 | c::d::r=>if c=39 then (if d=39 then (aa0 r).map λq=>(39::q.1,q.2+2) else some ([],1)) else (aa0 (d::r)).map λq=>(c::q.1,q.2+1)
def afV(c:UInt8):Bool:=decide (32<=c.toNat)&&decide (c.toNat<=126)
def aiC(i:Nat)(r:List UInt8):Tn×Int:=match aa0 r with
 | none=>(aes i,3)
 | some (w,n)=>if !w.all afV then (aes i,2) else if 100<w.length then (aes i,4) else (⟨4,i,n+1,0,w⟩,0)
def lxG(i:Nat)(c:UInt8)(d:Option UInt8):Tn×Int :=
 if (c=124/\d=some 124)\/(c=60/\d=some 62)\/(c=60/\d=some 61)\/(c=62/\d=some 61) then (⟨5,i,2,0,[c,d.getD 0]⟩,0)
 else if c∈([40,41,44,46,59,43,45,42,47,37,61,60,62]:List UInt8) then (⟨5,i,1,0,[c]⟩,0)
 else (aes i,2)
def eU(i:Nat):List UInt8->Tn×Int
 | []=>(aes i,0)
 | c::r=>if abg c then lxW i ((c::r).takeWhile λc=>abg c||bQ c) else if bQ c then aif i ((c::r).takeWhile bQ)
  else if c=34 then aib i r else if c=39 then aiC i r else lxG i c r.head?
def dJ(s:List UInt8)(i:Nat):Tn×Int:=eU (i+bU false (s.drop i)) (s.drop (i+bU false (s.drop i)))
def aeA(s:List UInt8):Nat->List Tn->Nat->Option (List Tn×Int×Int)
 | 0,_,_=>none
 | n+1,o,i=>if (dJ s i).2≠0 then some ([],(dJ s i).1.pl,(dJ s i).2) else if (dJ s i).1.k=0 then some (o,0,0)
  else aeA s n (o++[(dJ s i).1]) ((dJ s i).1.pl+(dJ s i).1.sz).toNat
def fL(s:List UInt8):Option (List Tn×Int×Int):=if 2000<s.length then some ([],0,4) else aeA s (s.length+2) [] 0
theorem ahI:∀ (b:Bool) (l:List UInt8),bU b l<=l.length
 | _,[]=>by simp[bU]
 | true,c::r=>by have:=ahI true r;have:=ahI false r;simp only[bU,aN];split <;> omega
 | false,c::r=>by
  have:=ahI true r;have:=ahI false r
  simp only[bU,aN]
  split
  .omega
  .split <;> omega
theorem akt{α:Type}(p:α->Bool):∀ l:List α,(l.takeWhile p).length<=l.length
 | []=>ae _
 | c::r=>by have:=akt p r;rw[bu];split <;> simp <;> omega
theorem apf:∀ (l:List UInt8) (w:List UInt8) (n:Nat),aa0 l=some (w,n)->w.length<n/\n<=l.length
 | [],w,n,h=>by cases h
 | [c],w,n,h=>by
  simp only[aa0] at h
  split at h
  .cases h;simp
  .cases h
 | c::d::r,w,n,h=>by
  simp only[aa0] at h
  split at h
  .split at h
   .simp only[ar,aX] at h
    obtain⟨⟨w',n'⟩,h1,rfl,rfl⟩:=h
    have:=apf r w' n' h1
    simp only[aN];omega
   .cases h;simp
  .simp only[ar,aX] at h
   obtain⟨⟨w',n'⟩,h1,rfl,rfl⟩:=h
   have:=apf (d::r) w' n' h1
   simp only[aN] at this ⊢;omega
theorem aIx:∀ (l:List UInt8) (a:Nat),a<=1000000000000001->l.foldl (λn c=>min (10*n+(c.toNat-48)) 1000000000000001) a<=1000000000000001
 | [],a,h=>h
 | c::r,a,h=>by rw[adS];exact aIx r _ (Nat.min_le_right _ _)
structure TnOk9 (i m:Nat) (t:Tn):Prop where
 pl:t.pl=i
 sz:1<=t.sz/\t.sz<=m
 n:0<=t.n/\t.n<=1000000000000000
 s:t.s.length<=m
 k:t.k=1\/t.k=2\/t.k=3\/t.k=4\/t.k=5
 nm:t.k=2->t.s≠[]
def aLB{l:List UInt8}(h:aot l=true):l≠[]:=by rintro rfl;cases h
def aHm{i:Nat}{l:List UInt8}{t:Tn}(h:eU i l=(t,0)):(t=aes i/\l=[])\/TnOk9 i l.length t:=by
 cases l with
 | nil=>simp only[eU,aX] at h;exact .inl ⟨h.1.symm,rfl⟩
 | cons c r =>
  refine .inr ?_
  simp only[eU] at h
  split at h
  .rename_i e
   have hw:=akt (λc=>abg c||bQ c) (c::r)
   have hp:1<=((c::r).takeWhile λc=>abg c||bQ c).length:=by rw[bu,am (by simp[e])];simp
   generalize ((c::r).takeWhile λc=>abg c||bQ c)=w at *
   simp only[lxW] at h
   split at h
   .cases h;exact⟨rfl,by dsimp only;omega,by simp,by simpa using hw,by simp,by simp⟩
   split at h
   .simp at h
   .cases h
    refine⟨rfl,by dsimp only;omega,by simp,by simpa using hw,by simp,λ_ e=>?_⟩
    simp only[List.map_eq_nil_iff] at e
    rw[e] at hp;simp at hp
  split at h
  .rename_i e
   have hw:=akt bQ (c::r)
   have hp:1<=((c::r).takeWhile bQ).length:=by rw[bu,am e];simp
   generalize ((c::r).takeWhile bQ)=w at *
   simp only[aif] at h
   split at h
   .simp at h
   .cases h;exact⟨rfl,by dsimp only;omega,by dsimp only;omega,by simp,by simp,by simp⟩
  split at h
  .have hw:=akt (λx:UInt8=>decide (x≠34)) r
   simp only[aib] at h
   split at h
   .rename_i hc
    have h2:(r.takeWhile (λx:UInt8=>decide (x≠34))).length<r.length:=by
     clear h hw
     induction r with
     | nil=>simp at hc
     | cons a q ih =>
      rw[bu]
      split
      .rename_i ha
       simp only[aN]
       have:=ih (by
        simp only[aeq,bN,dw] at hc
        rcases hc with hc|hc
        .simp[← hc] at ha
        .exact hc)
       omega
      .simp
    split at h
    .simp at h
    .rename_i hpl
     split at h
     .simp at h
     .cases h
      exact⟨rfl,by dsimp only;simp only[aN];omega,by simp,by simp only[aN];omega,by simp,λ_=>aLB (by simpa using hpl)⟩
   .simp at h
  split at h
  .simp only[aiC] at h
   split at h
   .simp at h
   .rename_i w n e
    have:=apf r w n e
    split at h
    .simp at h
    split at h
    .simp at h
    .cases h;exact⟨rfl,by dsimp only;simp only[aN];omega,by simp,by simp only[aN];omega,by simp,by simp⟩
  .simp only[lxG] at h
   split at h
   .rename_i e
    cases h
    have:1<=r.length:=by
     cases r with
     | nil=>simp at e
     | cons d q=>simp
    exact⟨rfl,by dsimp only;simp only[aN];omega,by simp,by simp;omega,by simp,by simp⟩
   split at h
   .cases h;exact⟨rfl,by dsimp only;simp only[aN];omega,by simp,by simp,by simp,by simp⟩
   .simp at h
def aiR{s:List UInt8}{i:Nat}(hi:i<=s.length){t:Tn}(h:dJ s i=(t,0)):t.k=0\/∃ j,i<=j/\TnOk9 j (s.length-j) t:=by
 have hs:=ahI false (s.drop i)
 rcases aHm h with ⟨rfl,_⟩|h
 .exact .inl rfl
 .exact .inr ⟨_,afa _ _,by rw[← ch];exact h⟩
structure ToksOk (s:List UInt8) (l:List Tn):Prop where
 all:∀ t∈l,∃ j,TnOk9 j (s.length-j) t
 len:l.length<=s.length
theorem aB5{s:List UInt8}:∀ (n:Nat) (o:List Tn) (i:Nat),i<=s.length->s.length<n+i->(∀ t∈o,∃ j,TnOk9 j (s.length-j) t)->o.length<=i ->
  ∃ l p e,aeA s n o i=some (l,p,e)/\ToksOk s l/\(e=0->p=0)
 | 0,_,i,h1,h2,_,_=>by omega
 | n+1,o,i,h1,h2,h3,h4=>by
  unfold aeA
  split
  .rename_i h
   exact⟨_,_,_,rfl,⟨by simp,by simp⟩,λe=>absurd e h⟩
  .rename_i h
   have h:(dJ s i).2=0:=by simpa using h
   split
   .exact⟨_,_,_,rfl,⟨h3,by omega⟩,λ_=>rfl⟩
   .rename_i hk
    rcases aiR h1 (t:=(dJ s i).1) (by rw[← h]) with q|⟨j,hj,q⟩
    .exact absurd q hk
    .have:=q.pl;have:=q.sz
     refine aB5 n _ _ aC aC (λt ht=>?_) (by simp only[bc,dX];omega)
     rcases bt.1 ht with ht|ht
     .exact h3 t ht
     .rw[cn.1 ht];exact⟨j,q⟩
def atc(s:List UInt8):∃ l p e,fL s=some (l,p,e)/\ToksOk s l/\(e=0->p=0)/\s.length<=2000\/fL s=some ([],0,4):=by
 unfold fL
 split
 .exact⟨[],0,0,.inr rfl⟩
 .obtain⟨l,p,e,h1,h2,h3⟩:=aB5 (s:=s) (s.length+2) [] 0 (aO _) aC aT (ae _)
  exact⟨l,p,e,.inl ⟨h1,h2,h3,by omega⟩⟩
def ajG(c:UInt8):aft c=true↔65<=c.toNat/\c.toNat<=90:=by simp[aft]
def atR{c:UInt8}(h:aft c=true):(abe c).toNat=c.toNat+32:=by
 have:=(ajG c).1 h
 unfold abe
 rw[am h,UInt8.toNat_add]
 show (c.toNat+32) % 256=_
 omega
def ayu{c:UInt8}(h:aft c=false):abe c=c:=by unfold abe;rw[h];rfl
def aUr(c:UInt8):abg c=(decide (97<=(abe c).toNat/\(abe c).toNat<=122)||decide (c=95)):=by
 cases h:aft c with
 | true =>
  have h1:=(ajG c).1 h
  rw[atR h]
  unfold abg
  rw[h,bj,ey aC,eK]
 | false =>
  rw[ayu h]
  unfold abg
  rw[h,aE]
  unfold eF
  rw[Bool.decide_and]
def acK(c:UInt8):Bool:=abg c||bQ c
def aZr{c:UInt8}(h:acK c=true):(eF (abe c)||bQ (abe c))=true:=by
 cases hg:aft c with
 | true =>
  have h1:=(ajG c).1 hg
  have h2:=atR hg
  have:eF (abe c)=true:=by unfold eF;rw[ey aC,ey aC];rfl
  rw[this];rfl
 | false =>
  rw[ayu hg]
  unfold acK abg at h
  rwa [hg,aE] at h
def aTo{c:UInt8}(h:(eF c||bQ c)=true):c≠32:=by
 rintro rfl
 revert h
 decide
def aEd{c:UInt8}(r:List UInt8)(h:abk c=true):bU false (c::r)=bU false r+1:=by rw[bU,am h]
def auC{c:UInt8}(r:List UInt8)(h:abk c=false)(h':c=45->r.head?≠some 45):bU false (c::r)=0:=by
 rw[bU,aj (by simp[h]),aj (λq=>h' q.1 q.2)]
theorem auD:∀ l:List UInt8,(Lib.indexByte l 10=-1->bU true l=l.length)/\(∀ k:Nat,Lib.indexByte l 10=k->k<l.length/\bU true l=k+bU false (l.drop k))
 | []=>⟨λ_=>rfl,λk h=>by simp only[Lib.indexByte] at h;omega⟩
 | c::r=>by
  obtain⟨h1,h2⟩:=auD r
  have hge:=Lib.indexByte_ge r 10
  by_cases hc:c=10
  .subst hc
   refine⟨λh=>?_,λk h=>?_⟩
   .simp[Lib.indexByte] at h
   .simp only[Lib.indexByte,beq_self_eq_true,au] at h
    have:k=0:=by omega
    subst this
    refine⟨by simp,?_⟩
    rw[aaO,bU,am rfl,bU,am aI,cf]
  .have hb:(c == 10)=false:=by simpa using hc
   refine⟨λh=>?_,λk h=>?_⟩
   .simp only[Lib.indexByte,hb,ah,av] at h
    split at h
    .rename_i e
     rw[bU,aj hc,h1 (by simpa using e),aN]
    .omega
   .simp only[Lib.indexByte,hb,ah,av] at h
    split at h
    .omega
    .rename_i e
     have e:Lib.indexByte r 10≠-1:=by simpa using e
     obtain⟨q,hq⟩:=abK (show 0<=Lib.indexByte r 10 by omega)
     have hk:k=q+1:=by omega
     subst hk
     obtain⟨g1,g2⟩:=h2 q hq
     refine⟨by simp;omega,?_⟩
     rw[bU,aj hc,g2,agO]
     omega
def aAt(r:List UInt8):bU false (45::45::r)=bU true (45::45::r):=by simp[bU,abk]
def aCq(l:List UInt8):Lib.hasPrefix l [45,45]=true↔∃ r,l=45::45::r:=by
 unfold Lib.hasPrefix
 rw[List.isPrefixOf_iff_prefix]
 constructor
 .rintro⟨r,h⟩;exact⟨r,h.symm⟩
 .rintro⟨r,h⟩;exact⟨r,h.symm⟩
def aKn(c:UInt8):abk c=true↔c=32\/c=9\/c=10\/c=13:=by simp[abk]
def aA2(l:List UInt8)(c:UInt8):Lib.indexByte l c=-1\/∃ k:Nat,Lib.indexByte l c=k:=by
 have:=Lib.indexByte_ge l c
 by_cases h:Lib.indexByte l c<0
 .left;omega
 .right;exact abK aC
def aeh{α:Type}{l:List α}{i:Nat}(h:i<l.length):l.drop i=l[i]::l.drop (i+1):=ce h
end Go.Tab
namespace Go.Proofs.YtghkmcffifpkeaaGreat
open Pe Tab
abbrev u8X(c:UInt8):X:=.of (.lit (.int .u8 (c.toNat:Nat)))
def api(s:List UInt8)(a b:Nat)(h1:a<=b)(h2:b<=s.length):acA tP 9 (.of (.lit (.string (aK s)))) (some (.of (.lit (.int .i64 a)))) (some (.of (.lit (.int .i64 b))))=out (af4 (aK ((s.take b).drop a))):=by
 have hs:(aK s).size=s.length:=ad5 s
 simp only[acA,T9,aG,agk,au,afm,aaM,hs]
 rw[am ⟨by omega,by omega,by omega⟩,fR,fR]
 congr 4
 apply amX.1
 simp only[ByteArray.data_extract,Array.toList_extract,acq,aK,abB]
 rw[acZ]
def aCj(s:List UInt8)(a:Nat)(h1:a<=s.length):acA tP 9 (.of (.lit (.string (aK s)))) (some (.of (.lit (.int .i64 a)))) none=out (af4 (aK (s.drop a))):=by
 have hs:(aK s).size=s.length:=ad5 s
 simp only[acA,T9,aG,agk,au,afm,aaM,hs]
 rw[am ⟨by omega,by omega,by omega⟩,fR,fR]
 congr 4
 apply amX.1
 simp only[ByteArray.data_extract,Array.toList_extract,acq,aK,abB]
 rw[aaW aT]
def aDT(k:Nat)(c:UInt8):((k:Int)<=((c.toNat:Nat):Int))=(k<=c.toNat):=propext aC
def aDS(k:Nat)(c:UInt8):(((c.toNat:Nat):Int)<=(k:Int))=(c.toNat<=k):=propext aC
def eH(c:UInt8)(n:Nat)(d:UInt8)(h:d.toNat=n):(((c.toNat:Nat):Int)=(n:Int))=(c=d):=propext ⟨λq=>UInt8.toNat_inj.1 aC,λq=>by rw[q,h]⟩
def aDC:=fV @Tryz.f240.eq_1 @zq @zT0 (kf aFE)
def ayr(c:UInt8):G1 240 [u8X c] (u8X (abe c)):=by
 have e1:((65:Int)<=((c.toNat:Nat):Int))=(65<=c.toNat):=aDT 65 c
 have e2:(((c.toNat:Nat):Int)<=90)=(c.toNat<=90):=aDS 90 c
 cases h:aft c with
 | true =>
  have hn:=atR h
  have h1:=(ajG c).1 h
  have w1:IntKind.u8.wrap (((c.toNat:Nat):Int)+97)=((c.toNat+97:Nat):Int):=by rw[IntWalk.u8_in _ aC];rfl
  have w2:IntKind.u8.wrap (((c.toNat+97:Nat):Int)-65)=(((abe c).toNat:Nat):Int):=by rw[hn,IntWalk.u8_in _ aC];omega
  have a1:=aa h1.1
  have a2:=aa h1.2
  refine bB aFE ?_
  simp only[↓zA,sevalprocAttr,aDC,e1,e2,a1,a2,w1,w2]
 | false =>
  have hn:=ayu h
  rw[hn]
  refine bB aFE ?_
  by_cases a1:65<=c.toNat
  .have a2:(c.toNat<=90)=False:=aA λq=>by rw[(ajG c).2 ⟨a1,q⟩] at h;cases h
   simp only[↓zA,sevalprocAttr,aDC,e1,e2,a1,a2]
  .simp only[↓zA,sevalprocAttr,aDC,e1,a1]
def agd(c:UInt8)(K:An->Prop):cKp 240 [.of (.lit (.int .u8 (c.toNat:Nat)))] [] K↔K ⟨false,[u8X (abe c)],[]⟩:=aH.k (ayr c) K
def aDI:=fW @Tryz.f145.eq_1 @zq @aSy @zT0 (kf aRH)
def avR(c:UInt8):G1 145 [u8X c] (aL (abg c)):=by
 have e1:((97:Int)<=(((abe c).toNat:Nat):Int))=(97<=(abe c).toNat):=aDT 97 _
 have e2:((((abe c).toNat:Nat):Int)<=122)=((abe c).toNat<=122):=aDS 122 _
 have e3:(((c.toNat:Nat):Int)=95)=(c=95):=eH c 95 95 rfl
 rw[aUr]
 refine bB aRH ?_
 by_cases a1:97<=(abe c).toNat
 .by_cases a2:(abe c).toNat<=122
  .simp only[↓zA,sevalprocAttr,aDI,agd,e1,e2,a1,a2]
   try rfl
  .simp only[↓zA,sevalprocAttr,aDI,agd,e1,e2,e3,a1,a2]
   try rfl
 .simp only[↓zA,sevalprocAttr,aDI,agd,e1,e3,a1]
  try rfl
def abU(c:UInt8)(K:An->Prop):cKp 145 [.of (.lit (.int .u8 (c.toNat:Nat)))] [] K↔K ⟨false,[aL (abg c)],[]⟩:=aH.k (avR c) K
def aPo:=fV @Tryz.f147.eq_1 @zq @zT0 (kf aRE)
def ays(c:UInt8):G1 147 [u8X c] (aL (bQ c)):=by
 have e1:((48:Int)<=((c.toNat:Nat):Int))=(48<=c.toNat):=aDT 48 c
 have e2:(((c.toNat:Nat):Int)<=57)=(c.toNat<=57):=aDS 57 c
 refine bB aRE ?_
 by_cases a1:48<=c.toNat
 .simp only[↓zA,sevalprocAttr,aPo,e1,e2,a1,bQ]
  try rfl
 .simp only[↓zA,sevalprocAttr,aPo,e1,a1,bQ]
  try rfl
def aco(c:UInt8)(K:An->Prop):cKp 147 [.of (.lit (.int .u8 (c.toNat:Nat)))] [] K↔K ⟨false,[aL (bQ c)],[]⟩:=aH.k (ays c) K
def hpE(xs:List X)(obs:List Ob):pr.prim 238 xs obs=hpP xs obs:=rfl
def ibE(xs:List X)(obs:List Ob):pr.prim 239 xs obs=ibP xs obs:=rfl
def aNG(s p:List UInt8)(K:An->Prop):cKp 238 [.of (.lit (.string (aK s))),.of (.lit (.string (ByteArray.mk (List.toArray p))))] [] K↔K ⟨false,[aL (Lib.hasPrefix s p)],[]⟩ :=
 aH.k (aH.of_prim (by rw[hpE];simp[hpP,aK])) K
def aZS(s:List UInt8)(n:Int)(K:An->Prop):cKp 239 [.of (.lit (.string (aK s))),.of (.lit (.int .u8 n))] [] K↔K ⟨false,[aQ (Lib.indexByte s n.toNat.toUInt8)],[]⟩ :=
 aH.k (aH.of_prim (by rw[ibE];simp[ibP,aK])) K
def aJi(s:List UInt8)(K:An->Prop):cKp 239 [.of (.lit (.string (aK s))),.of (.lit (.int .u8 10))] [] K↔K ⟨false,[aQ (Lib.indexByte s 10)],[]⟩:=aZS s 10 K
def asi(s:List UInt8)(K:An->Prop):cKp 239 [.of (.lit (.string (aK s))),.of (.lit (.int .u8 34))] [] K↔K ⟨false,[aQ (Lib.indexByte s 34)],[]⟩:=aZS s 34 K
def alc:=fX @Tryz.f144.eq_1 @zq @a9h @aSz @zT0 (kf aRI)
def aAQ(s:List UInt8)(i:Nat)(hl:s.length<LB)(hi:i<=s.length):G1 144 [.of (aJ (aK s)),aQ i] (aQ (i+bU false (s.drop i):Nat)):=by
 refine bB aRI ?_
 simp only[↓zA,sevalprocAttr,alc]
 refine aaj _ _ (λn t=>∃ j:Nat,t.fr 0=.of (aJ (aK s))/\t.fr 1=aQ j/\t.objs=[]/\j+n=s.length+1/\j<=s.length/\i+bU false (s.drop i)=j+bU false (s.drop j)) ?_ (s.length+1-i) _ ?_
 .rintro n ⟨frn,obn,ckn⟩ ⟨j,f0,f1,fo,hn,hj,E⟩
  dsimp only at f0 f1 fo
  rcases aD j s.length with dk|dk
  .have hw:=er j (by unfold LB at hl;omega)
   have gx:=dN dk
   have hd:=aeh dk
   generalize s[j]=c at *
   have e32:(((c.toNat:Nat):Int)=32)=(c=32):=eH c 32 32 rfl
   have e9:(((c.toNat:Nat):Int)=9)=(c=9):=eH c 9 9 rfl
   have e10:(((c.toNat:Nat):Int)=10)=(c=10):=eH c 10 10 rfl
   have e13:(((c.toNat:Nat):Int)=13)=(c=13):=eH c 13 13 rfl
   have e45:(((c.toNat:Nat):Int)=45)=(c=45):=eH c 45 45 rfl
   cases hb:abk c with
   | true =>
    rw[hd,aEd _ hb] at E
    have g:∃ m,m<n/\∃ q:Nat,aQ (j+1:Nat)=aQ q/\q+m=s.length+1/\q<=s.length/\i+bU false (s.drop i)=q+bU false (s.drop q):=⟨n-1,by omega,j+1,rfl,by omega,by omega,by omega⟩
    obtain⟨m,g1,q,g2,g3,g4,g5⟩:=g
    rcases (aKn c).1 hb with h|h|h|h
    all_goals
     subst h
     simp only[↓zA,sevalprocAttr,alc,f0,f1,fo,aV,dk,gx,hw]
     exact⟨m,g1,q,g2,g3,g4,g5⟩
   | false =>
    have n32:(c=32)=False:=aA λh=>by rw[h] at hb;cases hb
    have n9:(c=9)=False:=aA λh=>by rw[h] at hb;cases hb
    have n10:(c=10)=False:=aA λh=>by rw[h] at hb;cases hb
    have n13:(c=13)=False:=aA λh=>by rw[h] at hb;cases hb
    by_cases h45:c=45
    .subst h45
     have sf:=aCj s j hj
     rw[hd] at sf
     cases hp:Lib.hasPrefix (45::s.drop (j+1)) [45,45] with
     | false =>
      have E0:bU false (s.drop j)=0:=by
       rw[hd]
       refine auC _ hb λ_ h=>?_
       have:Lib.hasPrefix (45::s.drop (j+1)) [45,45]=true:=(aCq _).2 (by
        cases hr:s.drop (j+1) with
        | nil=>rw[hr] at h;cases h
        | cons x r=>rw[hr] at h;simp only[afN,ab] at h;exact⟨r,by rw[h]⟩)
       rw[hp] at this;cases this
      rw[E0] at E
      simp only[↓zA,sevalprocAttr,alc,f0,f1,fo,aV,dk,gx,sf,aNG,hp]
      try rw[E];rfl
     | true =>
      obtain⟨r,hr⟩:=(aCq _).1 hp
      have sk:=auD (45::s.drop (j+1))
      rw[hr,← aAt,← hr,← hd] at sk
      rcases aA2 (s.drop j) 10 with h|⟨k,h⟩
      .have e1:=sk.1 h
       have E1:i+bU false (s.drop i)=s.length:=by rw[E,e1,ch];omega
       rw[hd] at h
       have h0:((-1:Int)<0)=True:=aa aI
       simp only[↓zA,sevalprocAttr,alc,f0,f1,fo,aV,dk,gx,sf,aNG,hp,aJi,h,h0,E1]
      .obtain⟨e1,e2⟩:=sk.2 k h
       rw[ch] at e1
       rw[e2,agf] at E
       have hk0:0<k:=by
        rcases aan k with q|q
        .subst q
         rw[hd] at h
         simp only[Lib.indexByte] at h
         revert h
         rw[aj aI]
         split
         .intro h;omega
         .intro h
          have:=Lib.indexByte_ge (s.drop (j+1)) 10
          rename_i q2
          have q2:Lib.indexByte (s.drop (j+1)) 10≠-1:=by simpa using q2
          omega
        .exact q
       rw[hd] at h
       have h0:((k:Int)<0)=False:=aA aC
       have hw2:IntKind.i64.wrap ((j:Int)+(k:Int))=((j+k:Nat):Int):=by
        unfold LB at hl
        rw[d9 _ aC aC];rfl
       simp only[↓zA,sevalprocAttr,alc,f0,f1,fo,aV,dk,gx,sf,aNG,hp,aJi,h,h0,hw2]
       exact⟨n-k,by omega,j+k,rfl,by omega,by omega,by rw[E,bA]⟩
    .have h45':(c=45)=False:=aA h45
     have E0:bU false (s.drop j)=0:=by rw[hd];exact auC _ hb λh=>absurd h h45
     rw[E0] at E
     simp only[↓zA,sevalprocAttr,alc,f0,f1,fo,aV,dk,gx,e32,e9,e10,e13,e45,n32,n9,n10,n13,h45']
     try rw[E];rfl
  .have e:j=s.length:=by omega
   subst e
   have E0:bU false (s.drop s.length)=0:=by rw[cY];rfl
   rw[E0] at E
   simp only[↓zA,sevalprocAttr,alc,f0,f1,fo,aV,cO]
   try rw[E];rfl
 .simp only[↓zA,sevalprocAttr,alc]
  exact⟨i,rfl,by omega,hi,rfl⟩
def aM7(s:List UInt8)(i:Nat)(hl:s.length<LB)(hi:i<=s.length)(K:An->Prop):cKp 144 [.of (aJ (aK s)),aQ i] [] K↔K ⟨false,[aQ (i+bU false (s.drop i):Nat)],[]⟩:=aH.k (aAQ s i hl hi) K
end Go.Proofs.YtghkmcffifpkeaaGreat
namespace Go.Tab
open Pe
def aBX(s:List UInt8)(i:Nat){c:UInt8}{r:List UInt8}(h:s.drop i=c::r):(s.drop i).takeWhile acK=if acK c=true then c::r.takeWhile acK else []:=by
 rw[h,bu]
def aAN{w:List UInt8}(h:∀ c∈w,acK c=true):∀ c∈w.map abe,(eF c||bQ c)=true:=by
 intro c hc
 obtain⟨x,hx,rfl⟩:=List.mem_map.1 hc
 exact aZr (h x hx)
theorem aHk(p:UInt8->Bool):∀ l:List UInt8,∀ c∈l.takeWhile p,p c=true
 | [],c,h=>by simp at h
 | x::r,c,h=>by
  rw[bu] at h
  split at h
  .rename_i hx
   rcases bp.1 h with rfl|h
   .exact hx
   .exact aHk p r c h
  .simp at h
def azj{s p:List UInt8}(h:Lib.contains s p=true):∀ c∈p,c∈s:=by
 unfold Lib.contains at h
 rw[bf] at h
 rcases Lib.index_spec s p with ⟨h1,_⟩|⟨i,h1,h2,h3,_⟩
 .omega
 .intro c hc
  unfold Lib.occAt at h3
  obtain⟨t,ht⟩:=List.isPrefixOf_iff_prefix.1 h3
  have:c∈s.drop i:=by rw[← ht];exact ach _ hc
  exact dP this
def aMx{s:List UInt8}(h:∀ c∈s,(eF c||bQ c)=true):Lib.contains s [32]=false:=by
 cases hc:Lib.contains s [32] with
 | false=>rfl
 | true=>exact absurd rfl (aTo (h 32 (azj hc 32 aT)))
end Go.Tab
namespace Go.Proofs.YtghkmcffifpkeaaGreat
open Pe Tab
def aJN(w p:ByteArray)(h:w.size<4294967281):G1 283 [.of (.lit (.string w)),.of (.lit (.string p))] (aL (Lib.contains w.data.toList p.data.toList)):=aH.of_prim (by
 show asG [.of (.lit (.string w)),.of (.lit (.string p))] []=_
 unfold asG
 simp only
 rw[am h])
def a1T(w p:ByteArray)(K:An->Prop):cKp 283 [.of (.lit (.string w)),.of (.lit (.string p))] [] K↔ifP (w.size<4294967281) (K ⟨false,[aL (Lib.contains w.data.toList p.data.toList)],[]⟩) (aG5 Tryz.prog pr 283 [.of (.lit (.string w)),.of (.lit (.string p))] [] K):=aPN (λh=>aJN w p h) K
def a3U:=fV @zq @a8W @zT0 (kf aQU)
def arW(s:List UInt8)(h0:s≠[])(hl:s.length<=4000)(h:∀ c∈s,(eF c||bQ c)=true):G1 243 [.of (aJ (aK s))] (aL (aqp s)):=by
 have hne:(s=[])=False:=aA h0
 have l1:(s.length<4294967281)=True:=aa aC
 have hb:=aMx h
 have l2:1+s.length<=aj1:=by unfold aj1;omega
 have l3:1+s.length+1<=aj1:=by unfold aj1;omega
 have l4:s.length+1+1<=aj1:=by unfold aj1;omega
 have e:∀ s:List UInt8,(aK s).data.toList=s:=λs=>by simp[aK]
 have e32:=aNf [32]
 refine bB aQU ?_
 simp only[Tryz.f243,↓zA,sevalprocAttr,a3U,hne,a1T,l1,hb,e,e32,a9Z,l2,l4]
 refine aZQ aI ?_
 rfl
def ayt(s:List UInt8)(h0:s≠[])(hl:s.length<=4000)(h:∀ c∈s,(eF c||bQ c)=true)(K:An->Prop):cKp 243 [.of (aJ (aK s))] [] K↔K ⟨false,[aL (aqp s)],[]⟩:=aH.k (arW s h0 hl h) K
abbrev tkZ:Ob:=.var 63 [.of (ci 0),.of (ci 0),.of (ci 0),.of (ci 0),.of (aJ {data:=#[]})]
abbrev bZ:Ob:=.var 245 [.of (.lit (.pointer none)),.nil]
abbrev bV(l:List UInt8):Ob:=.var 245 [.ptr 0 0,.own (.cell 0 1) 5 1 (byC l) l.length]
abbrev bL(l:List UInt8):Ob:=.var 245 [.ptr 1 0,.own (.cell 1 1) 5 1 (byC l) l.length]
def wbE(xs:List X)(obs:List Ob):pr.prim 241 xs obs=wbP xs obs:=rfl
def bsE(xs:List X)(obs:List Ob):pr.prim 242 xs obs=bsP xs obs:=rfl
def aPw(c:UInt8):UInt8.ofNat (((c.toNat:Nat):Int)).toNat=c:=by simp
def aPu(c:UInt8)(K:An->Prop):cKp 241 [.ptr 0 0,.of (.lit (.int .u8 (c.toNat:Nat)))] [.var 245 [.of (.lit (.pointer none)),.nil]] K↔K ⟨false,[.of (.lit .nilIface)],[bV [c]]⟩ :=
 aH.k (aH.of_prim (by
  rw[wbE]
  have h1:0<=((c.toNat:Nat):Int)/\((c.toNat:Nat):Int)<256:=⟨by omega,by have:=c.toNat_lt;omega⟩
  have h2:([]:List UInt8).length+1<=LIM:=by decide
  simp only[wbP,alI,dh,h1,h2,bM,au,bld,aPw,cj])) K
def aDj(l:List UInt8)(n:Nat):alI [.var 245 [.ptr 0 0,.own (.cell 0 1) 5 1 (byC l) n]]=some l:=axj l
def aPv(l:List UInt8)(n:Nat)(c:UInt8)(K:An->Prop):cKp 241 [.ptr 0 0,.of (.lit (.int .u8 (c.toNat:Nat)))] [.var 245 [.ptr 0 0,.own (.cell 0 1) 5 1 (byC l) n]] K↔ifP (l.length+1<=LIM) (K ⟨false,[.of (.lit .nilIface)],[bV (l++[c])]⟩) (aG5 Tryz.prog pr 241 [.ptr 0 0,.of (.lit (.int .u8 (c.toNat:Nat)))] [.var 245 [.ptr 0 0,.own (.cell 0 1) 5 1 (byC l) n]] K) :=
 aPN (λh=>aH.of_prim (by
  rw[wbE]
  have h1:0<=((c.toNat:Nat):Int)/\((c.toNat:Nat):Int)<256:=⟨by omega,by have:=c.toNat_lt;omega⟩
  simp only[wbP,aDj,dh,h,h1,bM,au,bld,aPw])) K
def apM(l:List UInt8)(n:Nat)(K:An->Prop):cKp 242 [.ptr 0 0] [.var 245 [.ptr 0 0,.own (.cell 0 1) 5 1 (byC l) n]] K↔K ⟨false,[.of (aJ (aK l))],[.var 245 [.of .any,.of .any]]⟩ :=
 aH.k (aH.of_prim (by rw[bsE];simp only[bsP,aDj,aG];rfl)) K
def ahc:=ai (gh @Tryz.f146.eq_1 @zq @bb8 @bb7 @aSE @aGd @aSy @a9g @a9f) (fZ @bb6 @a9e @ab7 @beb @P9 @Q9 @zT0 (kf aRF))
def aAO(s:List UInt8)(i:Nat)(hl:s.length<=4000)(hi:i<s.length)(h0:abg s[i]=true):GN 146 [.of (aJ (aK s)),aQ i] [.of (.agg (tnC (lxW i ((s.drop i).takeWhile acK)).1)),aQ (lxW i ((s.drop i).takeWhile acK)).2]:=by
 have hall:=aHk acK (s.drop i)
 have hlen:=akt acK (s.drop i)
 rw[ch] at hlen
 have hne:(s.drop i).takeWhile acK≠[]:=by
  rw[aBX s i (aeh hi),am (by unfold acK;rw[h0];rfl)]
  exact afc _ _
 generalize hw:(s.drop i).takeWhile acK=w at *
 have kr:=ayt (w.map abe) (by simpa using hne) (by simp;omega) (aAN hall)
 have lw:(w.map abe).length=w.length:=bR _
 have hsub:IntKind.i64.wrap (((i+w.length:Nat):Int)-(i:Int))=(w.length:Int):=by rw[d9 _ aC aC];omega
 have l20:((20:Int)<(w.length:Int))=(20<w.length):=propext aC
 refine bB aRF ?_
 simp only[↓zA,sevalprocAttr,ahc]
 refine aaj _ _ (λn t=>∃ d:List UInt8,t.fr 0=.of (aJ (aK s))/\t.fr 1=aQ i/\t.fr 4=.ptr 0 0/\t.fr 7=.ptr 1 0/\t.fr 6=aQ (i+d.length:Nat)/\((d=[]/\t.objs=[tkZ,bZ])\/(d≠[]/\t.objs=[tkZ,bL (d.map abe)]))/\i+d.length+n=s.length+1/\i+d.length<=s.length/\w=d++(s.drop (i+d.length)).takeWhile acK) ?_ (s.length+1-i) _ ?_
 .rintro n ⟨frn,obn,ckn⟩ ⟨d,f0,f1,f4,f7,f6,fo,hn,hj,E⟩
  dsimp only at f0 f1 f4 f7 f6 fo
  have hwj:=er (i+d.length) aC
  have out:w=d->(d≠[]/\obn=[tkZ,bL (d.map abe)]):=λh=>by
   rcases fo with fo|fo
   .rw[fo.1] at h;exact absurd h hne
   .exact fo
  rcases aD (i+d.length) s.length with dk|dk
  .have gx:=dN dk
   have dk':=aa dk
   rw[aBX s _ (aeh dk)] at E
   generalize s[i+d.length]=c at *
   cases hc:acK c with
   | true =>
    have hd1:(abg c=true\/(abg c=false/\bQ c=true)):=by
     unfold acK at hc
     cases h1:abg c with
     | true=>exact .inl rfl
     | false=>rw[h1] at hc;exact .inr ⟨rfl,by simpa using hc⟩
    rw[hc,am rfl] at E
    have lL:(d.length+1<=LIM)=True:=aa (by unfold LIM;omega)
    have hlen2:(d++[c]).length=d.length+1:=by simp
    have E2:w=(d++[c])++(s.drop (i+(d++[c]).length)).takeWhile acK:=by rw[hlen2,E,fj];rfl
    have hm:(d++[c]).map abe=d.map abe++[abe c]:=by simp
    rcases hd1 with h1|⟨h1,h2⟩
    .rcases fo with ⟨hd,fo⟩|⟨hd,fo⟩
     .subst hd
      simp only[aW,aao] at dk' gx hwj f6
      simp only[↓zA,sevalprocAttr,ahc,f0,f1,f4,f7,f6,fo,aV,dk',gx,hwj,abU,agd,h1,aPu]
      exact⟨n-1,by omega,[c],rfl,.inr ⟨afc _ _,rfl⟩,by simp only[abP] at *;omega,by simp only[abP] at *;omega,E2⟩
     .simp only[↓zA,sevalprocAttr,ahc,f0,f1,f4,f7,f6,fo,aV,dk',gx,hwj,abU,agd,h1,aPv,lL,bV]
      exact⟨n-1,by omega,d++[c],by rw[hlen2,bA],.inr ⟨by simp,by rw[hm];simp only[bL,bc,bR,abP]⟩,by rw[hlen2];omega,by rw[hlen2];omega,E2⟩
    .rcases fo with ⟨hd,fo⟩|⟨hd,fo⟩
     .subst hd
      simp only[aW,aao] at dk' gx hwj f6
      simp only[↓zA,sevalprocAttr,ahc,f0,f1,f4,f7,f6,fo,aV,dk',gx,hwj,abU,aco,agd,h1,h2,aPu]
      exact⟨n-1,by omega,[c],rfl,.inr ⟨afc _ _,rfl⟩,by simp only[abP] at *;omega,by simp only[abP] at *;omega,E2⟩
     .simp only[↓zA,sevalprocAttr,ahc,f0,f1,f4,f7,f6,fo,aV,dk',gx,hwj,abU,aco,agd,h1,h2,aPv,lL,bV]
      exact⟨n-1,by omega,d++[c],by rw[hlen2,bA],.inr ⟨by simp,by rw[hm];simp only[bL,bc,bR,abP]⟩,by rw[hlen2];omega,by rw[hlen2];omega,E2⟩
   | false =>
    have h1:abg c=false:=by unfold acK at hc;cases h:abg c with|true=>rw[h] at hc;cases hc|false=>rfl
    have h2:bQ c=false:=by unfold acK at hc;rw[h1] at hc;simpa using hc
    rw[hc,aj aI,df] at E
    obtain⟨hd,fo⟩:=out E
    subst E
    cases hr:aqp (w.map abe) with
    | true =>
     rw[hr] at kr
     simp only[lxW,hr,au]
     simp only[↓zA,sevalprocAttr,ahc,f0,f1,f4,f7,f6,fo,aV,dk',gx,abU,aco,h1,h2,apM,hsub,kr,bE]
     try rfl
    | false =>
     rw[hr] at kr
     by_cases h20:20<w.length
     .simp only[lxW,hr,ah,av,h20,au]
      simp only[↓zA,sevalprocAttr,ahc,f0,f1,f4,f7,f6,fo,aV,dk',gx,abU,aco,h1,h2,apM,hsub,kr,bE,lw,l20,h20]
      try rfl
     .simp only[lxW,hr,ah,av,h20]
      simp only[↓zA,sevalprocAttr,ahc,f0,f1,f4,f7,f6,fo,aV,dk',gx,abU,aco,h1,h2,apM,hsub,kr,bE,lw,l20,h20]
      try rfl
  .have dk':(i+d.length<s.length)=False:=aA aC
   rw[dB dk,List.takeWhile_nil,df] at E
   obtain⟨hd,fo⟩:=out E
   subst E
   cases hr:aqp (w.map abe) with
   | true =>
    rw[hr] at kr
    simp only[lxW,hr,au]
    simp only[↓zA,sevalprocAttr,ahc,f0,f1,f4,f7,f6,fo,aV,dk',apM,hsub,kr,bE]
    try rfl
   | false =>
    rw[hr] at kr
    by_cases h20:20<w.length
    .simp only[lxW,hr,ah,av,h20,au]
     simp only[↓zA,sevalprocAttr,ahc,f0,f1,f4,f7,f6,fo,aV,dk',apM,hsub,kr,bE,lw,l20,h20]
     try rfl
    .simp only[lxW,hr,ah,av,h20]
     simp only[↓zA,sevalprocAttr,ahc,f0,f1,f4,f7,f6,fo,aV,dk',apM,hsub,kr,bE,lw,l20,h20]
     try rfl
 .simp only[↓zA,sevalprocAttr,ahc]
  first|exact⟨[],rfl,.inl rfl,by simp;omega,by simp;omega,hw.symm⟩|exact⟨[],rfl,rfl,by simp;omega,by simp;omega,hw.symm⟩
end Go.Proofs.YtghkmcffifpkeaaGreat
namespace Go.Tab
open Pe
def aIy(d:List UInt8)(c:UInt8):afL (d++[c])=min (10*afL d+(c.toNat-48)) 1000000000000001:=by simp[afL]
def aUf(d:List UInt8):afL d<=1000000000000001:=aIx d 0 aI
def aJH(c:UInt8):bQ c=true↔48<=c.toNat/\c.toNat<=57:=by simp[bQ]
def baL(p:UInt8->Bool)(s:List UInt8)(i:Nat){c:UInt8}{r:List UInt8}(h:s.drop i=c::r):(s.drop i).takeWhile p=if p c=true then c::r.takeWhile p else []:=by
 rw[h,bu]
def aEs(l:List UInt8):aot l=ar3 l:=by cases l <;> rfl
def aFe(l:List UInt8)(c:UInt8):(Lib.indexByte l c=-1/\l.contains c=false)\/(∃ k:Nat,Lib.indexByte l c=k/\k<l.length/\l.contains c=true/\l.takeWhile (·≠c)=l.take k):=by
 induction l with
 | nil=>exact .inl ⟨rfl,rfl⟩
 | cons x r ih =>
  have hge:=Lib.indexByte_ge r c
  by_cases h:x=c
  .subst h
   refine .inr ⟨0,?_,by simp,by simp,?_⟩
   .simp[Lib.indexByte]
   .rw[bu,aj aT];rfl
  .have hb:(x == c)=false:=by simpa using h
   have hb2:(c == x)=false:=by simpa using bn h
   rcases ih with ⟨h1,h2⟩|⟨k,h1,h2,h3,h4⟩
   .refine .inl ⟨?_,?_⟩
    .simp[Lib.indexByte,hb,h1]
    .rw[aeq,hb2,h2];rfl
   .refine .inr ⟨k+1,?_,by simp;omega,?_,?_⟩
    .have:(Lib.indexByte r c == -1)=false:=by rw[h1];simp <;> omega
     simp only[Lib.indexByte,hb,ah,av,h1]
     rfl
    .rw[aeq,h3,bj]
    .rw[bu,am (by simpa using h),h4,dm]
end Go.Tab
namespace Go.Proofs.YtghkmcffifpkeaaGreat
open Pe Tab
def amR:=gh @Tryz.f148.eq_1 @zq @bb5 @aGd @U3 @T5 @ab7 @zT0 (kf aRD)
def avQ(s:List UInt8)(i:Nat)(hl:s.length<=4000)(hi:i<=s.length):GN 148 [.of (aJ (aK s)),aQ i] [.of (.agg (tnC (aif i ((s.drop i).takeWhile bQ)).1)),aQ (aif i ((s.drop i).takeWhile bQ)).2]:=by
 have hlen:=akt bQ (s.drop i)
 rw[ch] at hlen
 generalize hw:(s.drop i).takeWhile bQ=w at *
 have hsub:IntKind.i64.wrap (((i+w.length:Nat):Int)-(i:Int))=(w.length:Int):=by rw[d9 _ aC aC];omega
 have hmx:((1000000000000000:Int)<(afL w:Int))=(1000000000000000<afL w):=propext aC
 refine bB aRD ?_
 simp only[↓zA,sevalprocAttr,amR]
 refine aaj _ _ (λn t=>∃ d:List UInt8,t.fr 0=.of (aJ (aK s))/\t.fr 1=aQ i/\t.fr 4=.ptr 0 0/\t.fr 6=aQ (i+d.length:Nat)/\t.fr 7=aQ (afL d)/\t.objs=[tkZ]/\i+d.length+n=s.length+1/\i+d.length<=s.length/\w=d++(s.drop (i+d.length)).takeWhile bQ) ?_ (s.length+1-i) _ ?_
 .rintro n ⟨frn,obn,ckn⟩ ⟨d,f0,f1,f4,f6,f7,fo,hn,hj,E⟩
  dsimp only at f0 f1 f4 f6 f7 fo
  have hwj:=er (i+d.length) aC
  rcases aD (i+d.length) s.length with dk|dk
  .have gx:=dN dk
   have dk':=aa dk
   rw[baL bQ s _ (aeh dk)] at E
   generalize s[i+d.length]=c at *
   cases hc:bQ c with
   | true =>
    rw[hc,am rfl] at E
    have h48:=(aJH c).1 hc
    have hv:=aUf d
    have w1:IntKind.u8.wrap (((c.toNat:Nat):Int)-48)=((c.toNat-48:Nat):Int):=by rw[IntWalk.u8_in _ aC];omega
    have w2:IntKind.i64.wrap ((c.toNat-48:Nat):Int)=((c.toNat-48:Nat):Int):=d9 _ aC aC
    have w3:IntKind.i64.wrap (10*(afL d:Int))=((10*afL d:Nat):Int):=by rw[d9 _ aC aC];rfl
    have w4:IntKind.i64.wrap (((10*afL d:Nat):Int)+((c.toNat-48:Nat):Int))=((10*afL d+(c.toNat-48):Nat):Int):=by rw[d9 _ aC aC];rfl
    have w5:(if (1000000000000001:Int)<((10*afL d+(c.toNat-48):Nat):Int) then 1000000000000001 else ((10*afL d+(c.toNat-48):Nat):Int))=((afL (d++[c]):Nat):Int):=by
     rw[aIy]
     split <;> omega
    have hlen2:(d++[c]).length=d.length+1:=by simp
    have E2:w=(d++[c])++(s.drop (i+(d++[c]).length)).takeWhile bQ:=by rw[hlen2,E,fj];rfl
    simp only[↓zA,sevalprocAttr,amR,f0,f1,f4,f6,f7,fo,aV,dk',gx,hwj,aco,hc,aBb T5 U3,w1,w2,w3,w4,w5]
    exact⟨n-1,by omega,d++[c],by rw[hlen2,bA],rfl,by rw[hlen2];omega,by rw[hlen2];omega,E2⟩
   | false =>
    rw[hc,aj aI,df] at E
    subst E
    by_cases hm:1000000000000000<afL w
    .simp only[aif,hm,au]
     simp only[↓zA,sevalprocAttr,amR,f0,f1,f4,f6,f7,fo,aV,dk',gx,aco,hc,hmx,hm,bE]
     try rfl
    .simp only[aif,hm,av]
     simp only[↓zA,sevalprocAttr,amR,f0,f1,f4,f6,f7,fo,aV,dk',gx,aco,hc,hmx,hm,hsub,bE]
     try rfl
  .have dk':(i+d.length<s.length)=False:=aA aC
   rw[dB dk,List.takeWhile_nil,df] at E
   subst E
   by_cases hm:1000000000000000<afL w
   .simp only[aif,hm,au]
    simp only[↓zA,sevalprocAttr,amR,f0,f1,f4,f6,f7,fo,aV,dk',hmx,hm,bE]
    try rfl
   .simp only[aif,hm,av]
    simp only[↓zA,sevalprocAttr,amR,f0,f1,f4,f6,f7,fo,aV,dk',hmx,hm,hsub,bE]
    try rfl
 .simp only[↓zA,sevalprocAttr,amR]
  exact⟨[],rfl,rfl,by simp;omega,by simp;omega,hw.symm⟩
def lxE(xs:List X)(obs:List Ob):pr.prim 244 xs obs=lxP xs obs:=rfl
def aoA(s:List UInt8)(K:An->Prop):cKp 244 [.of (.lit (.string (aK s)))] [] K↔K ⟨false,[aL (aot s)],[]⟩ :=
 aH.k (aH.of_prim (by rw[lxE,aEs];simp[lxP,aK])) K
def awi:=fZ @Tryz.f149.eq_1 @zq @bcd @aSz @a9d @ab7 @zT0 (kf ass)
def avP(s:List UInt8)(i:Nat)(hl:s.length<=4000)(hi:i<s.length):GN 149 [.of (aJ (aK s)),aQ i] [.of (.agg (tnC (aib i (s.drop (i+1))).1)),aQ (aib i (s.drop (i+1))).2]:=by
 have hw:=er i aC
 have sf:=aCj s (i+1) aC
 have lr:(s.drop (i+1)).length=s.length-(i+1):=ch ..
 rcases aFe (s.drop (i+1)) 34 with ⟨h1,h2⟩|⟨k,h1,h2,h3,h4⟩
 .have h0:((-1:Int)<0)=True:=aa aI
  simp only[aib,h2,ah,av]
  refine bB ass ?_
  simp only[↓zA,sevalprocAttr,awi,hw,sf,asi,h1,h0,bE]
  try rfl
 .have h0:((k:Int)<0)=False:=aA aC
  have hw2:IntKind.i64.wrap (((i+1:Nat):Int)+(k:Int))=((i+1+k:Nat):Int):=by rw[d9 _ aC aC];rfl
  have hw3:IntKind.i64.wrap ((k:Int)+2)=((k+2:Nat):Int):=by rw[d9 _ aC aC];rfl
  have sb:=api s (i+1) (i+1+k) aC aC
  have et:(s.take (i+1+k)).drop (i+1)=(s.drop (i+1)).take k:=by rw[acZ];congr 1;omega
  rw[et] at sb
  have hk:((s.drop (i+1)).take k).length=k:=by rw[aag];omega
  simp only[aib,h3,au,h4]
  generalize (s.drop (i+1)).take k=n at *
  subst hk
  have l20:((20:Int)<(n.length:Int))=(20<n.length):=propext aC
  cases hp:aot n with
  | false =>
   simp only[dK,au]
   refine bB ass ?_
   simp only[↓zA,sevalprocAttr,awi,hw,sf,asi,h1,h0,hw2,sb,aoA,hp,bE]
   try rfl
  | true =>
   by_cases h20:20<n.length
   .simp only[db,ah,av,h20,au]
    refine bB ass ?_
    simp only[↓zA,sevalprocAttr,awi,hw,sf,asi,h1,h0,hw2,sb,aoA,hp,l20,h20,bE]
    try rfl
   .simp only[db,ah,av,h20]
    refine bB ass ?_
    simp only[↓zA,sevalprocAttr,awi,hw,sf,asi,h1,h0,hw2,hw3,sb,aoA,hp,l20,h20,bE]
    try rfl

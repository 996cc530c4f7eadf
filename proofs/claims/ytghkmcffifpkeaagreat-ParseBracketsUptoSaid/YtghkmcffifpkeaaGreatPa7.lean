/- A part. Conditions: none. -/
import Derived.Test.YtghkmcffifpkeaaGreatPa6
import Derived.Lib.Bytealg
import Derived.Lib.Strings
set_option linter.all false
set_option maxRecDepth 100000
set_option maxHeartbeats 64000000
namespace Go.Tab
open Pe
structure Nn where
 nd:Int
 dp:Int
 deriving DecidableEq
structure Sz where
 nd:Int
 dp:Int
 deriving DecidableEq
def szC(x:Sz):List C:=[ci x.nd,ci x.dp]
def awF(x:Sz):szC x=[ci x.nd,ci x.dp]:=rfl
def aRC(x:Sz):(szC x).length=2:=rfl
structure Sh where
 le:Int
 mo:Int
 su:Int
 deriving DecidableEq
def shC(x:Sh):List C:=[ci x.le,ci x.mo,ci x.su]
def awQ(x:Sh):shC x=[ci x.le,ci x.mo,ci x.su]:=rfl
def aRW(x:Sh):(shC x).length=3:=rfl
end Go.Tab
namespace Go.Proofs.YtghkmcffifpkeaaGreat
open Pe Tab
def a3h(x:Od):C.ref (odC x)=C.ref [aG (aK x.nm),ci x.pl,cb x.dn]:=by rw[aj9]
def a3t(x:Od)(r:List C):C.ref (odC x++r)=C.ref (aG (aK x.nm)::ci x.pl::cb x.dn::r):=by rw[aj9];rfl
def a8o(x:Od):(odC x).map X.of=[.of (aG (aK x.nm)),.of (ci x.pl),.of (cb x.dn)]:=by rw[aj9];rfl
def a5S(anm:List UInt8)(apl:Int)(adn:Bool):C.agg [aG (aK anm),ci apl,cb adn]=C.agg (odC ⟨anm,apl,adn⟩):=by rw[aj9]
def a54(x:Od):Od.mk x.nm x.pl x.dn=x:=rfl
def a24(x:Xp):C.ref (xpC x)=C.ref [ci x.op,ci x.v.k,ci x.v.n,aG x.v.s,aG (aK x.tb),aG (aK x.nm),cb x.di,slC xpC x.ks,slC qyC x.sb]:=by rw[eU]
def a3o(x:Xp)(r:List C):C.ref (xpC x++r)=C.ref (ci x.op::ci x.v.k::ci x.v.n::aG x.v.s::aG (aK x.tb)::aG (aK x.nm)::cb x.di::slC xpC x.ks::slC qyC x.sb::r):=by rw[eU];rfl
def a8g(x:Xp):(xpC x).map X.of=[.of (ci x.op),.of (ci x.v.k),.of (ci x.v.n),.of (aG x.v.s),.of (aG (aK x.tb)),.of (aG (aK x.nm)),.of (cb x.di),.of (slC xpC x.ks),.of (slC qyC x.sb)]:=by rw[eU];rfl
def a5K(aop:Int)(avk avn:Int)(avs:ByteArray)(atb:List UInt8)(anm:List UInt8)(adi:Bool)(aks:List Xp)(asb:List Qy):C.agg [ci aop,ci avk,ci avn,aG avs,aG (aK atb),aG (aK anm),cb adi,slC xpC aks,slC qyC asb]=C.agg (xpC (.mk aop ⟨avk,avn,avs⟩ atb anm adi aks asb)):=by rw[eU];rfl
def aEy(x:Xp):Xp.mk x.op x.v x.tb x.nm x.di x.ks x.sb=x:=by cases x;rfl
section
variable (op:Int) (v:V) (tb:List UInt8) (nm:List UInt8) (di:Bool) (ks:List Xp) (sb:List Qy)
theorem aKu:(Xp.mk op v tb nm di ks sb).op=op:=rfl
theorem aSq:(Xp.mk op v tb nm di ks sb).v=v:=rfl
theorem aKs:(Xp.mk op v tb nm di ks sb).tb=tb:=rfl
theorem aKv:(Xp.mk op v tb nm di ks sb).nm=nm:=rfl
theorem aKx:(Xp.mk op v tb nm di ks sb).di=di:=rfl
theorem aKw:(Xp.mk op v tb nm di ks sb).ks=ks:=rfl
theorem aKt:(Xp.mk op v tb nm di ks sb).sb=sb:=rfl
end
def a3g(x:Qy):C.ref (qyC x)=C.ref [ci x.op,cb x.al,slC qyC x.ks,cb x.di,slC imC x.its,slC fmC x.fr,slC xpC x.wh,slC xpC x.gr,slC xpC x.hv,slC odC x.od,ci x.li,ci x.sk]:=by rw[adK]
def a3s(x:Qy)(r:List C):C.ref (qyC x++r)=C.ref (ci x.op::cb x.al::slC qyC x.ks::cb x.di::slC imC x.its::slC fmC x.fr::slC xpC x.wh::slC xpC x.gr::slC xpC x.hv::slC odC x.od::ci x.li::ci x.sk::r):=by rw[adK];rfl
def a8n(x:Qy):(qyC x).map X.of=[.of (ci x.op),.of (cb x.al),.of (slC qyC x.ks),.of (cb x.di),.of (slC imC x.its),.of (slC fmC x.fr),.of (slC xpC x.wh),.of (slC xpC x.gr),.of (slC xpC x.hv),.of (slC odC x.od),.of (ci x.li),.of (ci x.sk)]:=by rw[adK];rfl
def a5R(aop:Int)(aal:Bool)(aks:List Qy)(adi:Bool)(aits:List Im)(afr:List Fm)(awh:List Xp)(agr:List Xp)(ahv:List Xp)(aod:List Od)(ali:Int)(ask:Int):C.agg [ci aop,cb aal,slC qyC aks,cb adi,slC imC aits,slC fmC afr,slC xpC awh,slC xpC agr,slC xpC ahv,slC odC aod,ci ali,ci ask]=C.agg (qyC (.mk aop aal aks adi aits afr awh agr ahv aod ali ask)):=by rw[adK];rfl
def a53(x:Qy):Qy.mk x.op x.al x.ks x.di x.its x.fr x.wh x.gr x.hv x.od x.li x.sk=x:=by cases x;rfl
section
variable (op:Int) (al:Bool) (ks:List Qy) (di:Bool) (its:List Im) (fr:List Fm) (wh:List Xp) (gr:List Xp) (hv:List Xp) (od:List Od) (li:Int) (sk:Int)
theorem aKA:(Qy.mk op al ks di its fr wh gr hv od li sk).op=op:=rfl
theorem aKI:(Qy.mk op al ks di its fr wh gr hv od li sk).al=al:=rfl
theorem aKD:(Qy.mk op al ks di its fr wh gr hv od li sk).ks=ks:=rfl
theorem aKH:(Qy.mk op al ks di its fr wh gr hv od li sk).di=di:=rfl
theorem aGV:(Qy.mk op al ks di its fr wh gr hv od li sk).its=its:=rfl
theorem aKG:(Qy.mk op al ks di its fr wh gr hv od li sk).fr=fr:=rfl
theorem aKy:(Qy.mk op al ks di its fr wh gr hv od li sk).wh=wh:=rfl
theorem aKF:(Qy.mk op al ks di its fr wh gr hv od li sk).gr=gr:=rfl
theorem aKE:(Qy.mk op al ks di its fr wh gr hv od li sk).hv=hv:=rfl
theorem aKB:(Qy.mk op al ks di its fr wh gr hv od li sk).od=od:=rfl
theorem aKC:(Qy.mk op al ks di its fr wh gr hv od li sk).li=li:=rfl
theorem aKz:(Qy.mk op al ks di its fr wh gr hv od li sk).sk=sk:=rfl
end
def a3j(x:Im):C.ref (imC x)=C.ref [cb x.st,aG (aK x.tb),ci x.e.op,ci x.e.v.k,ci x.e.v.n,aG x.e.v.s,aG (aK x.e.tb),aG (aK x.e.nm),cb x.e.di,slC xpC x.e.ks,slC qyC x.e.sb,aG (aK x.az)]:=by rw[alT]
def a3w(x:Im)(r:List C):C.ref (imC x++r)=C.ref (cb x.st::aG (aK x.tb)::ci x.e.op::ci x.e.v.k::ci x.e.v.n::aG x.e.v.s::aG (aK x.e.tb)::aG (aK x.e.nm)::cb x.e.di::slC xpC x.e.ks::slC qyC x.e.sb::aG (aK x.az)::r):=by rw[alT];rfl
def a8q(x:Im):(imC x).map X.of=[.of (cb x.st),.of (aG (aK x.tb)),.of (ci x.e.op),.of (ci x.e.v.k),.of (ci x.e.v.n),.of (aG x.e.v.s),.of (aG (aK x.e.tb)),.of (aG (aK x.e.nm)),.of (cb x.e.di),.of (slC xpC x.e.ks),.of (slC qyC x.e.sb),.of (aG (aK x.az))]:=by rw[alT];rfl
def a5U(ast:Bool)(atb:List UInt8)(aeop:Int)(aevk aevn:Int)(aevs:ByteArray)(aetb:List UInt8)(aenm:List UInt8)(aedi:Bool)(aeks:List Xp)(aesb:List Qy)(aaz:List UInt8):C.agg [cb ast,aG (aK atb),ci aeop,ci aevk,ci aevn,aG aevs,aG (aK aetb),aG (aK aenm),cb aedi,slC xpC aeks,slC qyC aesb,aG (aK aaz)]=C.agg (imC (.mk ast atb (.mk aeop ⟨aevk,aevn,aevs⟩ aetb aenm aedi aeks aesb) aaz)):=by rw[alT];rfl
def a56(x:Im):Im.mk x.st x.tb x.e x.az=x:=by cases x;rfl
section
variable (st:Bool) (tb:List UInt8) (e:Xp) (az:List UInt8)
theorem aKK:(Im.mk st tb e az).st=st:=rfl
theorem aKJ:(Im.mk st tb e az).tb=tb:=rfl
theorem aSr:(Im.mk st tb e az).e=e:=rfl
theorem aKL:(Im.mk st tb e az).az=az:=rfl
end
def a3k(x:Fm):C.ref (fmC x)=C.ref [ci x.kd,aG (aK x.nm),aG (aK x.az),slC qyC x.sb,slC fmC x.ks,slC xpC x.on]:=by rw[adS]
def a3x(x:Fm)(r:List C):C.ref (fmC x++r)=C.ref (ci x.kd::aG (aK x.nm)::aG (aK x.az)::slC qyC x.sb::slC fmC x.ks::slC xpC x.on::r):=by rw[adS];rfl
def a8r(x:Fm):(fmC x).map X.of=[.of (ci x.kd),.of (aG (aK x.nm)),.of (aG (aK x.az)),.of (slC qyC x.sb),.of (slC fmC x.ks),.of (slC xpC x.on)]:=by rw[adS];rfl
def a5V(akd:Int)(anm:List UInt8)(aaz:List UInt8)(asb:List Qy)(aks:List Fm)(aon:List Xp):C.agg [ci akd,aG (aK anm),aG (aK aaz),slC qyC asb,slC fmC aks,slC xpC aon]=C.agg (fmC (.mk akd anm aaz asb aks aon)):=by rw[adS];rfl
def a57(x:Fm):Fm.mk x.kd x.nm x.az x.sb x.ks x.on=x:=by cases x;rfl
section
variable (kd:Int) (nm:List UInt8) (az:List UInt8) (sb:List Qy) (ks:List Fm) (on:List Xp)
theorem aKQ:(Fm.mk kd nm az sb ks on).kd=kd:=rfl
theorem aKO:(Fm.mk kd nm az sb ks on).nm=nm:=rfl
theorem aKR:(Fm.mk kd nm az sb ks on).az=az:=rfl
theorem aKM:(Fm.mk kd nm az sb ks on).sb=sb:=rfl
theorem aKP:(Fm.mk kd nm az sb ks on).ks=ks:=rfl
theorem aKN:(Fm.mk kd nm az sb ks on).on=on:=rfl
end
def a3l(x:Cd):C.ref (cdC x)=C.ref [aG (aK x.nm),ci x.ty,cb x.nn]:=by rw[al0]
def a3y(x:Cd)(r:List C):C.ref (cdC x++r)=C.ref (aG (aK x.nm)::ci x.ty::cb x.nn::r):=by rw[al0];rfl
def a5W(anm:List UInt8)(aty:Int)(ann:Bool):C.agg [aG (aK anm),ci aty,cb ann]=C.agg (cdC ⟨anm,aty,ann⟩):=by rw[al0]
def a58(x:Cd):Cd.mk x.nm x.ty x.nn=x:=rfl
def a3i(x:Kd):C.ref (kdC x)=C.ref [cb x.pr,slC bU x.ns]:=by rw[alP]
def a3v(x:Kd)(r:List C):C.ref (kdC x++r)=C.ref (cb x.pr::slC bU x.ns::r):=by rw[alP];rfl
def a8p(x:Kd):(kdC x).map X.of=[.of (cb x.pr),.of (slC bU x.ns)]:=by rw[alP];rfl
def a5T(apr:Bool)(ans:List (List UInt8)):C.agg [cb apr,slC bU ans]=C.agg (kdC ⟨apr,ans⟩):=by rw[alP]
def a55(x:Kd):Kd.mk x.pr x.ns=x:=rfl
def a3f(x:Rd):C.ref (rdC x)=C.ref [slC bU x.ns,aG (aK x.tb),slC bU x.to]:=by rw[alz]
def a3r(x:Rd)(r:List C):C.ref (rdC x++r)=C.ref (slC bU x.ns::aG (aK x.tb)::slC bU x.to::r):=by rw[alz];rfl
def a8m(x:Rd):(rdC x).map X.of=[.of (slC bU x.ns),.of (aG (aK x.tb)),.of (slC bU x.to)]:=by rw[alz];rfl
def a5Q(ans:List (List UInt8))(atb:List UInt8)(ato:List (List UInt8)):C.agg [slC bU ans,aG (aK atb),slC bU ato]=C.agg (rdC ⟨ans,atb,ato⟩):=by rw[alz]
def a52(x:Rd):Rd.mk x.ns x.tb x.to=x:=rfl
def a3m(x:As):C.ref (asC x)=C.ref [aG (aK x.nm),ci x.e.op,ci x.e.v.k,ci x.e.v.n,aG x.e.v.s,aG (aK x.e.tb),aG (aK x.e.nm),cb x.e.di,slC xpC x.e.ks,slC qyC x.e.sb]:=by rw[al3]
def a3z(x:As)(r:List C):C.ref (asC x++r)=C.ref (aG (aK x.nm)::ci x.e.op::ci x.e.v.k::ci x.e.v.n::aG x.e.v.s::aG (aK x.e.tb)::aG (aK x.e.nm)::cb x.e.di::slC xpC x.e.ks::slC qyC x.e.sb::r):=by rw[al3];rfl
def a8s(x:As):(asC x).map X.of=[.of (aG (aK x.nm)),.of (ci x.e.op),.of (ci x.e.v.k),.of (ci x.e.v.n),.of (aG x.e.v.s),.of (aG (aK x.e.tb)),.of (aG (aK x.e.nm)),.of (cb x.e.di),.of (slC xpC x.e.ks),.of (slC qyC x.e.sb)]:=by rw[al3];rfl
def a5X(anm:List UInt8)(aeop:Int)(aevk aevn:Int)(aevs:ByteArray)(aetb:List UInt8)(aenm:List UInt8)(aedi:Bool)(aeks:List Xp)(aesb:List Qy):C.agg [aG (aK anm),ci aeop,ci aevk,ci aevn,aG aevs,aG (aK aetb),aG (aK aenm),cb aedi,slC xpC aeks,slC qyC aesb]=C.agg (asC ⟨anm,(.mk aeop ⟨aevk,aevn,aevs⟩ aetb aenm aedi aeks aesb)⟩):=by rw[al3] <;> rfl
def a59(x:As):As.mk x.nm x.e=x:=rfl
def a3d(x:Sm):C.ref (smC x)=C.ref [ci x.kd,aG (aK x.tb),aG (aK x.nm),slC cdC x.cs,slC bU x.ns,cb x.un,slC kdC x.kys,slC rdC x.rfs,slC xpC x.chs,slC (lsC xpC) x.rws,slC asC x.sts,slC xpC x.wh,slC qyC x.q]:=by rw[aeT]
def a8k(x:Sm):(smC x).map X.of=[.of (ci x.kd),.of (aG (aK x.tb)),.of (aG (aK x.nm)),.of (slC cdC x.cs),.of (slC bU x.ns),.of (cb x.un),.of (slC kdC x.kys),.of (slC rdC x.rfs),.of (slC xpC x.chs),.of (slC (lsC xpC) x.rws),.of (slC asC x.sts),.of (slC xpC x.wh),.of (slC qyC x.q)]:=by rw[aeT];rfl
def a5O(akd:Int)(atb:List UInt8)(anm:List UInt8)(acs:List Cd)(ans:List (List UInt8))(aun:Bool)(akys:List Kd)(arfs:List Rd)(achs:List Xp)(arws:List (List Xp))(asts:List As)(awh:List Xp)(aq:List Qy):C.agg [ci akd,aG (aK atb),aG (aK anm),slC cdC acs,slC bU ans,cb aun,slC kdC akys,slC rdC arfs,slC xpC achs,slC (lsC xpC) arws,slC asC asts,slC xpC awh,slC qyC aq]=C.agg (smC ⟨akd,atb,anm,acs,ans,aun,akys,arfs,achs,arws,asts,awh,aq⟩):=by rw[aeT]
def a50(x:Sm):Sm.mk x.kd x.tb x.nm x.cs x.ns x.un x.kys x.rfs x.chs x.rws x.sts x.wh x.q=x:=rfl
def a3a(x:Tn):C.ref (tnC x)=C.ref [ci x.k,ci x.pl,ci x.sz,ci x.n,aG (aK x.s)]:=by rw[bC]
def a3q(x:Tn)(r:List C):C.ref (tnC x++r)=C.ref (ci x.k::ci x.pl::ci x.sz::ci x.n::aG (aK x.s)::r):=by rw[bC];rfl
def a8h(x:Tn):(tnC x).map X.of=[.of (ci x.k),.of (ci x.pl),.of (ci x.sz),.of (ci x.n),.of (aG (aK x.s))]:=by rw[bC];rfl
def a5L(ak:Int)(apl:Int)(asz:Int)(an:Int)(a_s:List UInt8):C.agg [ci ak,ci apl,ci asz,ci an,aG (aK a_s)]=C.agg (tnC ⟨ak,apl,asz,an,a_s⟩):=by rw[bC]
def a5Y(x:Tn):Tn.mk x.k x.pl x.sz x.n x.s=x:=rfl
def a3b(x:Th):C.ref (thC x)=C.ref [cb x.q,cb x.w,ci x.y.op,cb x.y.al,slC qyC x.y.ks,cb x.y.di,slC imC x.y.its,slC fmC x.y.fr,slC xpC x.y.wh,slC xpC x.y.gr,slC xpC x.y.hv,slC odC x.y.od,ci x.y.li,ci x.y.sk,ci x.e.op,ci x.e.v.k,ci x.e.v.n,aG x.e.v.s,aG (aK x.e.tb),aG (aK x.e.nm),cb x.e.di,slC xpC x.e.ks,slC qyC x.e.sb,ci x.f.kd,aG (aK x.f.nm),aG (aK x.f.az),slC qyC x.f.sb,slC fmC x.f.ks,slC xpC x.f.on]:=by rw[alu]
def a8i(x:Th):(thC x).map X.of=[.of (cb x.q),.of (cb x.w),.of (ci x.y.op),.of (cb x.y.al),.of (slC qyC x.y.ks),.of (cb x.y.di),.of (slC imC x.y.its),.of (slC fmC x.y.fr),.of (slC xpC x.y.wh),.of (slC xpC x.y.gr),.of (slC xpC x.y.hv),.of (slC odC x.y.od),.of (ci x.y.li),.of (ci x.y.sk),.of (ci x.e.op),.of (ci x.e.v.k),.of (ci x.e.v.n),.of (aG x.e.v.s),.of (aG (aK x.e.tb)),.of (aG (aK x.e.nm)),.of (cb x.e.di),.of (slC xpC x.e.ks),.of (slC qyC x.e.sb),.of (ci x.f.kd),.of (aG (aK x.f.nm)),.of (aG (aK x.f.az)),.of (slC qyC x.f.sb),.of (slC fmC x.f.ks),.of (slC xpC x.f.on)]:=by rw[alu];rfl
def a5M(aq:Bool)(aw:Bool)(ayop:Int)(ayal:Bool)(ayks:List Qy)(aydi:Bool)(ayits:List Im)(ayfr:List Fm)(aywh:List Xp)(aygr:List Xp)(ayhv:List Xp)(ayod:List Od)(ayli:Int)(aysk:Int)(aeop:Int)(aevk aevn:Int)(aevs:ByteArray)(aetb:List UInt8)(aenm:List UInt8)(aedi:Bool)(aeks:List Xp)(aesb:List Qy)(afkd:Int)(afnm:List UInt8)(afaz:List UInt8)(afsb:List Qy)(afks:List Fm)(afon:List Xp):C.agg [cb aq,cb aw,ci ayop,cb ayal,slC qyC ayks,cb aydi,slC imC ayits,slC fmC ayfr,slC xpC aywh,slC xpC aygr,slC xpC ayhv,slC odC ayod,ci ayli,ci aysk,ci aeop,ci aevk,ci aevn,aG aevs,aG (aK aetb),aG (aK aenm),cb aedi,slC xpC aeks,slC qyC aesb,ci afkd,aG (aK afnm),aG (aK afaz),slC qyC afsb,slC fmC afks,slC xpC afon]=C.agg (thC ⟨aq,aw,(.mk ayop ayal ayks aydi ayits ayfr aywh aygr ayhv ayod ayli aysk),(.mk aeop ⟨aevk,aevn,aevs⟩ aetb aenm aedi aeks aesb),(.mk afkd afnm afaz afsb afks afon)⟩):=by rw[alu] <;> rfl
def a3c(x:Sz):C.ref (szC x)=C.ref [ci x.nd,ci x.dp]:=by rw[awF]
def a8j(x:Sz):(szC x).map X.of=[.of (ci x.nd),.of (ci x.dp)]:=by rw[awF];rfl
def a5N(and:Int)(adp:Int):C.agg [ci and,ci adp]=C.agg (szC ⟨and,adp⟩):=by rw[awF]
def a5Z(x:Sz):Sz.mk x.nd x.dp=x:=rfl
def a3e(x:Sh):C.ref (shC x)=C.ref [ci x.le,ci x.mo,ci x.su]:=by rw[awQ]
def a8l(x:Sh):(shC x).map X.of=[.of (ci x.le),.of (ci x.mo),.of (ci x.su)]:=by rw[awQ];rfl
def a5P(ale:Int)(amo:Int)(asu:Int):C.agg [ci ale,ci amo,ci asu]=C.agg (shC ⟨ale,amo,asu⟩):=by rw[awQ]
def aWz(x:V):C.ref (ahV x)=C.ref [ci x.k,ci x.n,aG x.s]:=rfl
def a0M(x:V):(ahV x).map X.of=[.of (ci x.k),.of (ci x.n),.of (aG x.s)]:=rfl
def arx(k n:Int)(s:ByteArray):C.agg [ci k,ci n,aG s]=C.agg (ahV ⟨k,n,s⟩):=rfl
def ary(x:V):V.mk x.k x.n x.s=x:=rfl
def aWE(x:Int)(r:List C):C.ref (aa6 x++r)=C.ref (ci x::r):=rfl
def aWD(x:List UInt8)(r:List C):C.ref (bU x++r)=C.ref (aG (aK x)::r):=rfl
def a3u{α:Type}(f:α->List C)(x:List α)(r:List C):C.ref (lsC f x++r)=C.ref (slC f x::r):=rfl
def aH3(l)(i:Int):bz tP 36 (.of (slC odC l)) (.of (.lit (.int .i64 i)))=ad0 (aaA l i) λx=>.of (.ref (odC x++fl odC (l.drop (i.toNat+1)))):=ac1 E36 aBg aI l i
def aHB(l):fV (some (.slice 126)) (.of (slC odC l))=out (aQ l.length):=acQ odC l rfl
def aJa(tk tk' tk2:Tk)(cs0 cs:List C)(n m e2 z2:Nat):dP tP tk 36 36 (.own tk' 126 3 cs0 n) (.own tk2 e2 z2 cs m)=if cs.length=m*3/\n+m<=LIM then some (.own tk 126 3 (cs0++cs) (n+m),some tk') else none:=adX E36 aI aI tk tk' cs0 n _ cs m rfl
def aFi(tk:Tk)(xs:List X):bW tk 1 (Pe.elemOf tP 36) (some [(0,xs)])=if xs.length=3 then bE ((X.rds xs).map λcs=>.own tk 126 3 cs 1) else none:=ac2 E36 aI aI rfl tk xs
def aMn(l)(i:Int):bz tP 25 (.of (slC xpC l)) (.of (.lit (.int .i64 i)))=ad0 (aaA l i) λx=>.of (.ref (xpC x++fl xpC (l.drop (i.toNat+1)))):=ac1 E25 ar0 aI l i
def aLX(l):fV (some (.slice 28)) (.of (slC xpC l))=out (aQ l.length):=acQ xpC l rfl
def aMz(l):(fl xpC l).length=l.length*9:=axT (f:=xpC) (z:=9) ar0 l
def aNx(tk tk' tk2:Tk)(cs0 cs:List C)(n m e2 z2:Nat):dP tP tk 25 25 (.own tk' 28 9 cs0 n) (.own tk2 e2 z2 cs m)=if cs.length=m*9/\n+m<=LIM then some (.own tk 28 9 (cs0++cs) (n+m),some tk') else none:=adX E25 aI aI tk tk' cs0 n _ cs m rfl
def aJe(tk tk2:Tk)(cs:List C)(m e2 z2:Nat):dP tP tk 25 25 .nil (.own tk2 e2 z2 cs m)=if cs.length=m*9/\m<=LIM then some (.own tk 28 9 cs m,none) else none:=ae5 E25 aI aI tk _ cs m rfl
def aNs(tk tk':Tk)(cs0:List C)(n:Nat)(l):dP tP tk 25 25 (.own tk' 28 9 cs0 n) (.of (slC xpC l))=if (fl xpC l).length=l.length*9/\n+l.length<=LIM then some (.own tk 28 9 (cs0++fl xpC l) (n+l.length),some tk') else none:=adX E25 aI aI tk tk' cs0 n _ _ _ rfl
def aI3(tk:Tk)(xs:List X):bW tk 1 (Pe.elemOf tP 25) (some [(0,xs)])=if xs.length=9 then bE ((X.rds xs).map λcs=>.own tk 28 9 cs 1) else none:=ac2 E25 aI aI rfl tk xs
def aD7(l)(i:Int):bz tP 26 (.of (slC qyC l)) (.of (.lit (.int .i64 i)))=ad0 (aaA l i) λx=>.of (.ref (qyC x++fl qyC (l.drop (i.toNat+1)))):=ac1 E26 aBb aI l i
def aDI(l):fV (some (.slice 38)) (.of (slC qyC l))=out (aQ l.length):=acQ qyC l rfl
def aAm(tk:Tk)(xs:List X):bW tk 1 (Pe.elemOf tP 26) (some [(0,xs)])=if xs.length=12 then bE ((X.rds xs).map λcs=>.own tk 38 12 cs 1) else none:=ac2 E26 aI aI rfl tk xs
def aMl(l)(i:Int):bz tP 34 (.of (slC imC l)) (.of (.lit (.int .i64 i)))=ad0 (aaA l i) λx=>.of (.ref (imC x++fl imC (l.drop (i.toNat+1)))):=ac1 E34 aBA aI l i
def aLV(l):fV (some (.slice 138)) (.of (slC imC l))=out (aQ l.length):=acQ imC l rfl
def aNw(tk tk' tk2:Tk)(cs0 cs:List C)(n m e2 z2:Nat):dP tP tk 34 34 (.own tk' 138 12 cs0 n) (.own tk2 e2 z2 cs m)=if cs.length=m*12/\n+m<=LIM then some (.own tk 138 12 (cs0++cs) (n+m),some tk') else none:=adX E34 aI aI tk tk' cs0 n _ cs m rfl
def aI1(tk:Tk)(xs:List X):bW tk 1 (Pe.elemOf tP 34) (some [(0,xs)])=if xs.length=12 then bE ((X.rds xs).map λcs=>.own tk 138 12 cs 1) else none:=ac2 E34 aI aI rfl tk xs
def aMm(l)(i:Int):bz tP 35 (.of (slC fmC l)) (.of (.lit (.int .i64 i)))=ad0 (aaA l i) λx=>.of (.ref (fmC x++fl fmC (l.drop (i.toNat+1)))):=ac1 E35 aBJ aI l i
def aLW(l):fV (some (.slice 140)) (.of (slC fmC l))=out (aQ l.length):=acQ fmC l rfl
def aI2(tk:Tk)(xs:List X):bW tk 1 (Pe.elemOf tP 35) (some [(0,xs)])=if xs.length=6 then bE ((X.rds xs).map λcs=>.own tk 140 6 cs 1) else none:=ac2 E35 aI aI rfl tk xs
def aD9(l)(i:Int):bz tP 42 (.of (slC cdC l)) (.of (.lit (.int .i64 i)))=ad0 (aaA l i) λx=>.of (.ref (cdC x++fl cdC (l.drop (i.toNat+1)))):=ac1 E42 aBR aI l i
def aDK(l):fV (some (.slice 149)) (.of (slC cdC l))=out (aQ l.length):=acQ cdC l rfl
def aFw(tk tk' tk2:Tk)(cs0 cs:List C)(n m e2 z2:Nat):dP tP tk 42 42 (.own tk' 149 3 cs0 n) (.own tk2 e2 z2 cs m)=if cs.length=m*3/\n+m<=LIM then some (.own tk 149 3 (cs0++cs) (n+m),some tk') else none:=adX E42 aI aI tk tk' cs0 n _ cs m rfl
def aAA(tk tk2:Tk)(cs:List C)(m e2 z2:Nat):dP tP tk 42 42 .nil (.own tk2 e2 z2 cs m)=if cs.length=m*3/\m<=LIM then some (.own tk 149 3 cs m,none) else none:=ae5 E42 aI aI tk _ cs m rfl
def aAo(tk:Tk)(xs:List X):bW tk 1 (Pe.elemOf tP 42) (some [(0,xs)])=if xs.length=3 then bE ((X.rds xs).map λcs=>.own tk 149 3 cs 1) else none:=ac2 E42 aI aI rfl tk xs
def aD8(l)(i:Int):bz tP 44 (.of (slC kdC l)) (.of (.lit (.int .i64 i)))=ad0 (aaA l i) λx=>.of (.ref (kdC x++fl kdC (l.drop (i.toNat+1)))):=ac1 E44 aBs aI l i
def aDJ(l):fV (some (.slice 151)) (.of (slC kdC l))=out (aQ l.length):=acQ kdC l rfl
def aFv(tk tk' tk2:Tk)(cs0 cs:List C)(n m e2 z2:Nat):dP tP tk 44 44 (.own tk' 151 2 cs0 n) (.own tk2 e2 z2 cs m)=if cs.length=m*2/\n+m<=LIM then some (.own tk 151 2 (cs0++cs) (n+m),some tk') else none:=adX E44 aI aI tk tk' cs0 n _ cs m rfl
def aAz(tk tk2:Tk)(cs:List C)(m e2 z2:Nat):dP tP tk 44 44 .nil (.own tk2 e2 z2 cs m)=if cs.length=m*2/\m<=LIM then some (.own tk 151 2 cs m,none) else none:=ae5 E44 aI aI tk _ cs m rfl
def aAn(tk:Tk)(xs:List X):bW tk 1 (Pe.elemOf tP 44) (some [(0,xs)])=if xs.length=2 then bE ((X.rds xs).map λcs=>.own tk 151 2 cs 1) else none:=ac2 E44 aI aI rfl tk xs
def aD6(l)(i:Int):bz tP 45 (.of (slC rdC l)) (.of (.lit (.int .i64 i)))=ad0 (aaA l i) λx=>.of (.ref (rdC x++fl rdC (l.drop (i.toNat+1)))):=ac1 E45 aBa aI l i
def aDH(l):fV (some (.slice 153)) (.of (slC rdC l))=out (aQ l.length):=acQ rdC l rfl
def aFu(tk tk' tk2:Tk)(cs0 cs:List C)(n m e2 z2:Nat):dP tP tk 45 45 (.own tk' 153 3 cs0 n) (.own tk2 e2 z2 cs m)=if cs.length=m*3/\n+m<=LIM then some (.own tk 153 3 (cs0++cs) (n+m),some tk') else none:=adX E45 aI aI tk tk' cs0 n _ cs m rfl
def aAy(tk tk2:Tk)(cs:List C)(m e2 z2:Nat):dP tP tk 45 45 .nil (.own tk2 e2 z2 cs m)=if cs.length=m*3/\m<=LIM then some (.own tk 153 3 cs m,none) else none:=ae5 E45 aI aI tk _ cs m rfl
def aAl(tk:Tk)(xs:List X):bW tk 1 (Pe.elemOf tP 45) (some [(0,xs)])=if xs.length=3 then bE ((X.rds xs).map λcs=>.own tk 153 3 cs 1) else none:=ac2 E45 aI aI rfl tk xs
def aEa(l)(i:Int):bz tP 47 (.of (slC asC l)) (.of (.lit (.int .i64 i)))=ad0 (aaA l i) λx=>.of (.ref (asC x++fl asC (l.drop (i.toNat+1)))):=ac1 E47 aB9 aI l i
def aDL(l):fV (some (.slice 93)) (.of (slC asC l))=out (aQ l.length):=acQ asC l rfl
def aFx(tk tk' tk2:Tk)(cs0 cs:List C)(n m e2 z2:Nat):dP tP tk 47 47 (.own tk' 93 10 cs0 n) (.own tk2 e2 z2 cs m)=if cs.length=m*10/\n+m<=LIM then some (.own tk 93 10 (cs0++cs) (n+m),some tk') else none:=adX E47 aI aI tk tk' cs0 n _ cs m rfl
def aAB(tk tk2:Tk)(cs:List C)(m e2 z2:Nat):dP tP tk 47 47 .nil (.own tk2 e2 z2 cs m)=if cs.length=m*10/\m<=LIM then some (.own tk 93 10 cs m,none) else none:=ae5 E47 aI aI tk _ cs m rfl
def aAp(tk:Tk)(xs:List X):bW tk 1 (Pe.elemOf tP 47) (some [(0,xs)])=if xs.length=10 then bE ((X.rds xs).map λcs=>.own tk 93 10 cs 1) else none:=ac2 E47 aI aI rfl tk xs
def aMk(l)(i:Int):bz tP 53 (.of (slC smC l)) (.of (.lit (.int .i64 i)))=ad0 (aaA l i) λx=>.of (.ref (smC x++fl smC (l.drop (i.toNat+1)))):=ac1 E53 aA4 aI l i
def aLU(l):fV (some (.slice 49)) (.of (slC smC l))=out (aQ l.length):=acQ smC l rfl
def aNv(tk tk' tk2:Tk)(cs0 cs:List C)(n m e2 z2:Nat):dP tP tk 53 53 (.own tk' 49 13 cs0 n) (.own tk2 e2 z2 cs m)=if cs.length=m*13/\n+m<=LIM then some (.own tk 49 13 (cs0++cs) (n+m),some tk') else none:=adX E53 aI aI tk tk' cs0 n _ cs m rfl
def aJd(tk tk2:Tk)(cs:List C)(m e2 z2:Nat):dP tP tk 53 53 .nil (.own tk2 e2 z2 cs m)=if cs.length=m*13/\m<=LIM then some (.own tk 49 13 cs m,none) else none:=ae5 E53 aI aI tk _ cs m rfl
def aI0(tk:Tk)(xs:List X):bW tk 1 (Pe.elemOf tP 53) (some [(0,xs)])=if xs.length=13 then bE ((X.rds xs).map λcs=>.own tk 49 13 cs 1) else none:=ac2 E53 aI aI rfl tk xs
def aH2(l)(i:Int):bz tP 59 (.of (slC tnC l)) (.of (.lit (.int .i64 i)))=ad0 (aaA l i) λx=>.of (.ref (tnC x++fl tnC (l.drop (i.toNat+1)))):=ac1 E59 aAV aI l i
def aHA(l):fV (some (.slice 63)) (.of (slC tnC l))=out (aQ l.length):=acQ tnC l rfl
def aI9(tk tk' tk2:Tk)(cs0 cs:List C)(n m e2 z2:Nat):dP tP tk 59 59 (.own tk' 63 5 cs0 n) (.own tk2 e2 z2 cs m)=if cs.length=m*5/\n+m<=LIM then some (.own tk 63 5 (cs0++cs) (n+m),some tk') else none:=adX E59 aI aI tk tk' cs0 n _ cs m rfl
def aFD(tk tk2:Tk)(cs:List C)(m e2 z2:Nat):dP tP tk 59 59 .nil (.own tk2 e2 z2 cs m)=if cs.length=m*5/\m<=LIM then some (.own tk 63 5 cs m,none) else none:=ae5 E59 aI aI tk _ cs m rfl
def aFh(tk:Tk)(xs:List X):bW tk 1 (Pe.elemOf tP 59) (some [(0,xs)])=if xs.length=5 then bE ((X.rds xs).map λcs=>.own tk 63 5 cs 1) else none:=ac2 E59 aI aI rfl tk xs
def aD5(l)(i:Int):bz tP 43 (.of (slC bU l)) (.of (.lit (.int .i64 i)))=ad0 (aaA l i) λx=>.of (.ref (bU x++fl bU (l.drop (i.toNat+1)))):=ac1 E43 (λ_=>rfl) aI l i
def aDG(l):fV (some (.slice 9)) (.of (slC bU l))=out (aQ l.length):=acQ bU l rfl
def aFt(tk tk' tk2:Tk)(cs0 cs:List C)(n m e2 z2:Nat):dP tP tk 43 43 (.own tk' 9 1 cs0 n) (.own tk2 e2 z2 cs m)=if cs.length=m*1/\n+m<=LIM then some (.own tk 9 1 (cs0++cs) (n+m),some tk') else none:=adX E43 aI aI tk tk' cs0 n _ cs m rfl
def aAk(tk:Tk)(xs:List X):bW tk 1 (Pe.elemOf tP 43) (some [(0,xs)])=if xs.length=1 then bE ((X.rds xs).map λcs=>.own tk 9 1 cs 1) else none:=ac2 E43 aI aI rfl tk xs
def aTf(l)(i:Int):bz tP 66 (.of (slC aa6 l)) (.of (.lit (.int .i64 i)))=ad0 (aaA l i) λx=>.of (.ref (aa6 x++fl aa6 (l.drop (i.toNat+1)))):=ac1 E66 (λ_=>rfl) aI l i
def aNq(tk:Tk)(xs:List X):bW tk 1 (Pe.elemOf tP 66) (some [(0,xs)])=if xs.length=1 then bE ((X.rds xs).map λcs=>.own tk 3 1 cs 1) else none:=ac2 E66 aI aI rfl tk xs
def azZ(l)(i:Int):bz tP 46 (.of (slC (lsC xpC) l)) (.of (.lit (.int .i64 i)))=ad0 (aaA l i) λx=>.of (.ref ((lsC xpC) x++fl (lsC xpC) (l.drop (i.toNat+1)))):=ac1 E46 (λ_=>rfl) aI l i
def azQ(l):fV (some (.slice 25)) (.of (slC (lsC xpC) l))=out (aQ l.length):=acQ (lsC xpC) l rfl
def aAx(tk tk' tk2:Tk)(cs0 cs:List C)(n m e2 z2:Nat):dP tP tk 46 46 (.own tk' 25 1 cs0 n) (.own tk2 e2 z2 cs m)=if cs.length=m*1/\n+m<=LIM then some (.own tk 25 1 (cs0++cs) (n+m),some tk') else none:=adX E46 aI aI tk tk' cs0 n _ cs m rfl
def ayP(tk tk2:Tk)(cs:List C)(m e2 z2:Nat):dP tP tk 46 46 .nil (.own tk2 e2 z2 cs m)=if cs.length=m*1/\m<=LIM then some (.own tk 25 1 cs m,none) else none:=ae5 E46 aI aI tk _ cs m rfl
def ayD(tk:Tk)(xs:List X):bW tk 1 (Pe.elemOf tP 46) (some [(0,xs)])=if xs.length=1 then bE ((X.rds xs).map λcs=>.own tk 25 1 cs 1) else none:=ac2 E46 aI aI rfl tk xs
def aX5(s:List UInt8)(i:Int):afL tP 9 (.of (.lit (.string (aK s)))) (.of (.lit (.int .i64 i)))=ad0 (aaA s i) λc=>.of (.lit (.int .u8 (c.toNat:Nat))):=aX6 (T:=TT.of Tryz.prog) (t:=9) U9 s i
def agB:=ai (gz @a3h @a3t @a8o @a5S @a54 @aBg @alo @bcr @bck) (gv @aUg @aTT @aUf @aTS @aUe @T36 @P36 @Q36)
def bF:=gm (gz @a24 @a3o @a8g @a5K @aEy @aKu @aSq @aKs @aKv) (gz @aKx @aKw @aKt @ar0 @T28 @P28 @Q28 @aZ0 @aYY) (gz @aZZ @aYX @aZY @aYW @aZX @aYV @aZW @aYU @aZV) (gv @aYT @aZU @aYS @T25 @P25 @Q25 @ary @arx)
def eo:=gp (gz @a3g @a3s @a8n @a5R @a53 @aKA @aKI @aKD @aKH) (gz @aGV @aKG @aKy @aKF @aKE @aKB @aKC @aKz @aBb) (gz @T38 @P38 @Q38 @aYR @aYQ @aYP @aYO @aZT @aYN) (gz @aZS @aYM @aZR @aYL @aZQ @aYK @aZP @aYJ @aZO) (gv @aYI @aT2 @aTs @aT1 @aTr @T26 @P26 @Q26)
def acb:=gj (gv @a3j @a3w @a8q @a5U @a56 @aKK @aKJ @aSr) (gv @aKL @aBA @am4 @bcq @bcj @aTR @aTQ @aTP) (gv @aUd @aTO @T34 @P34 @Q34 @aEy @ary @arx)
def er:=gj (gz @a3k @a3x @a8r @a5V @a57 @aKQ @aKO @aKR @aKM) (gz @aKP @aKN @aBJ @aio @bcp @a1h @aTN @aTM @aUc) (gv @aTL @aTK @aTJ @aUb @aTI @T35 @P35 @Q35)
def aiq:=ai (gv @a3l @a3y @a5W @a58 @aBR @am3 @bco @bci) (gu @aTH @aUa @aTG @aT9 @T42 @P42 @Q42)
def ad8:=ai (gu @a3i @a3v @a8p @a5T @a55 @aBs @ayU) (gq @bch @aTF @aTE @T44 @P44 @Q44)
def afX:=ai (gz @a3f @a3r @a8m @a5Q @a52 @aBa @am2 @bcn @bcg) (gv @aTD @aT8 @aTC @aT7 @aTB @T45 @P45 @Q45)
def afY:=ai (gz @a3m @a3z @a8s @a5X @a59 @aB9 @T93 @P93 @Q93) (gz @aYr @aZB @aYq @T47 @P47 @Q47 @aEy @ary @arx)
def aca:=gm (gz @a3d @a8k @a5O @a50 @aA4 @T49 @P49 @Q49 @aZN) (gz @aYH @aZM @aYG @aZL @aYF @aZK @aYE @aZJ @aYD) (gz @aZI @aYC @aZH @aYB @aZG @aYA @aZF @aYz @aZE) (gv @aYy @aT0 @aTq @aTZ @aTp @aTY @aTo @T53)
def ab9:=gj (gu @a3a @a3q @a8h @a5L @a5Y @aAV @T63) (gu @P63 @Q63 @aZD @aYw @aZA @aYv @aYu) (gq @aYt @aZz @aZC @aYs @T59 @P59)
def aoj:=ai (gv @a3b @a8i @a5M @aRA @aji @bcm @bcf @aT6) (gv @aTx @aT5 @aTw @aT4 @aTv @aTu @aT3 @aTt)
def ad7:=ai (gp @a3c @a8j @a5N @a5Z @aRC) (gp @ayV @bcs @bcl @aTV @aTU)
def aOe:=gv @a3e @a8l @a5P @aRW @aFI @aTA @aTz @aTy
def aiG:=ai (gp @aWz @a0M @arx @ary @T24) (gp @P24 @Q24 @aY1 @aY0 @aYZ)
def aiH:=gm @aH3 @aHB @aJa @aFi
def eZ:=gu @aMn @aLX @aMz @aNx @aJe @aNs @aI3
def fC:=gj @aD7 @aDI @aAm
def agP:=gm @aMl @aLV @aNw @aI1
def aci:=gj @aMm @aLW @aI2
def ajn:=gp @aD9 @aDK @aFw @aAA @aAo
def ajm:=gp @aD8 @aDJ @aFv @aAz @aAn
def ajl:=gp @aD6 @aDH @aFu @aAy @aAl
def aho:=gp @aEa @aDL @aFx @aAB @aAp
def awb:=gp @aMk @aLU @aNv @aJd @aI0
def acG:=gp @aH2 @aHA @aI9 @aFD @aFh
def bQ:=gq @aD5 @aDG @aFt @aAk @T43 @Q43
def afZ:=gj @aTf @aNq @T66
def adk:=gv @azZ @azQ @aAx @ayP @ayD @T46 @P46 @Q46
def zT0:=gj (gu @aWE @aWD @a3u @aX5 @T3 @P3 @Q3) (gu @U3 @T4 @P4 @Q4 @T9 @P9 @Q9) (gq @U9 @T5 @Q5 @T29 @P29 @Q29)
end Go.Proofs.YtghkmcffifpkeaaGreat
namespace Go.Tab
open Pe
def agc{α:Type}{l:List α}{k:Nat}(h:k<l.length):l.drop k=l[k]::l.drop (k+1):=co h
def ajc{α:Type}(p:α->Bool):Nat->List α->Int
 | _,[]=>-1
 | k,x::r=>if p x then k else ajc p (k+1) r
def amM{α:Type}(p:α->Bool)(l:List α):Int:=ajc p 0 l
end Go.Tab
namespace Go.Pe
def aWK(mt:String->Option Nat->Bool)(d:Option Nat)(op:Op)(ty:Nat)(po:String)(af:Array Edge)(g:Option (Nat×Bool))(l:List Oper):plB mt (⟨d,op,ty,po,af,g⟩::l)=mt po none:=rfl
def aWJ(Q:Pn->Prop)(p:Pn):plQ Q (some p)↔Q p:=bf
def aKi(P:Program)(pr:Pr)(ops:Array Oper)(s:S)(Q:Option X->S->Prop)(c:Option Nat)(pre mid:List (Nat×Bool))(m:Nat)(b:Bool) :
  avB P pr ops s Q ⟨c,pre,mid,m,b⟩↔WA P pr ops pre [] s λD s1=>WCl P pr ops D s1 c (aoJ (λs2=>WA P pr ops mid [] s2 λ_ s3=>WT P pr b ops m (ops.toList.drop m) s3 Q) Q):=bf
def aWR(Q:Oper->Prop)(o:Oper):opQ Q (some o)↔Q o:=bf
def aXZ(Q:List Nat->Prop)(D:List Nat):ldQ Q (some D)↔Q D:=bf
def a5u(s:S)(o:Op):ldD s true o=some []:=rfl
def a5v(s:S)(o:Op):ldD s false o=ael s o:=rfl
def aHP(s:S)(t:Nat)(a:Operand):ael s (.load t a)=afj (s.ev a):=rfl
def aHO(s:S)(x:Operand):ael s (.move x)=some []:=rfl
def aS6(s:S)(t:Nat)(x:Operand)(f:Nat):ael s (.fieldAddr t x f)=some []:=rfl
def aL2(s:S)(x:Operand):ael s (.nilCheck x)=some []:=rfl
def aL4(s:S)(op:BinOp)(t:Nat)(x y:Operand)(u:Nat):ael s (.binOp op t x y u)=some []:=rfl
def aS7(s:S)(t n:Nat)(ps:Array (Nat×Operand)):ael s (.buildSlice t n ps)=akX (acm s (ps.toList.map (·.2))):=rfl
def aS5(s:S)(t:Nat)(x i:Operand):ael s (.indexAddr t x i)=akX (acm s [x]):=rfl
def aL3(s:S)(args:Array Operand)(tys:Array Nat):ael s (.call {callee:=.builtin .len,args:=args,argTypes:=tys})=akX (acm s args.toList):=rfl
def aS4:akX true=some []:=rfl
def azE(s:S):acm s []=true:=rfl
def axl(s:S)(x:Operand)(l:List Operand):acm s (x::l)=(abb (s.ev x)&&acm s l):=rfl
def aHj(c:C):abb (.of c)=true:=rfl
def aDt:abb .nil=true:=rfl
def aDs(t:Tk)(e z:Nat)(cs:List C)(n:Nat):abb (.own t e z cs n)=true:=rfl
def aDu(xs:List X):abb (.agg xs)=true:=rfl
def aHM(cs:List C):afj (.of (.ref cs))=some []:=rfl
def aHN(r o:Nat):afj (.ptr r o)=some [r]:=rfl
def aSv(Q:Option X->S->Prop)(s:S):aKV Q none s↔Q none s:=bf
def aJN(us:List X):X->Option (Nat×List X)
 | .of (.fn g caps)=>some (g,us++caps.map .of)
 | .clo g caps=>some (ahQ g,ako g caps us)
 | _=>none
def aUm(obj tk:Nat->Bool)(s:S)(D:List Nat)(f:Operand)(args:Array Operand)(tys:Array Nat):an1 obj tk s D (.call {callee:=.value f,args:=args,argTypes:=tys})=ayn obj tk s D (aJN (args.toList.map s.ev) (s.ev f)):=by
 show ayn obj tk s D (adJ s (.value f) args.toList)=_
 congr 1
def aRB(us:List X)(g:Nat)(caps:List C):aJN us (.of (.fn g caps))=some (g,us++caps.map .of):=rfl
def aJM(us:List X)(g:Nat)(caps:List X):aJN us (.clo g caps)=some (ahQ g,ako g caps us):=rfl
def aUn(obj tk:Nat->Bool)(s:S)(D:List Nat)(g:Nat)(us:List X):ayn obj tk s D (some (g,us))=(obj g&&!tk g&&(dQ s.objs 999 (X.refsL us) []).all λr=>!D.contains r):=rfl
def aAt(K:Option X->S->Prop)(s:S):ayF K none s↔K none s:=bf
def aAs(K:Option X->S->Prop)(x:X)(s:S):ayF K (some x) s↔K (some x) (blank s):=bf
def aFl(s:S):(blank s).objs=s.objs:=rfl
def aKd(Q:S->Prop)(s:S):aqQ Q (some s)↔Q s:=bf
def aqP(s:S)(ix:Nat)(af:Array Edge)(d1 d2:Option Nat)(ty:Nat)(x:X):Option (Nat×TD)->Option (List C×Nat)->Option Int->Option (List C)->Option S
 | some (e,d),some (cs,1),some j,some ys=>if cs.length=d.size/\ys.length=d.size/\0<d.size/\ty=e then match aoA s (.nm s.clk ix 0) e d ys j x with
  | some (z,t,obs)=>if aae s.clk af.toList t=true then some (({s.drop t with objs:=(s.drop t).objs++obs}:S).put d1 z |>.put d2 (.of .any)) else none
  | none=>none
  else none
 | _,_,_,_=>none
def aKb(T:TT)(s:S)(ix:Nat)(d1 d2 d3:Option Nat)(x y w1 w2 i v:Operand)(ts:Array Nat)(t ty t1 t2 t3:Nat)(p1 p2 p3:String)(a1 a2 a3:Array Edge)(g1 g2 g3:Option (Nat×Bool)) :
  amw T s ix ⟨d1,.call {callee:=.builtin .append,args:=#[x,y],argTypes:=ts},t1,p1,a1,g1⟩ ⟨d2,.indexAddr t w1 i,t2,p2,a2,g2⟩ ⟨d3,.store ty w2 v,t3,p3,a3,g3⟩=aqP s ix a1 d1 d2 ty (s.ev x) (elemOf T t) (aaT (s.ev y)) (aas (s.ev i)) (ec (s.ev v)):=by
 show aqO T s ix ⟨d1,.call {callee:=.builtin .append,args:=#[x,y],argTypes:=ts},t1,p1,a1,g1⟩ ⟨d2,.indexAddr t w1 i,t2,p2,a2,g2⟩ ⟨d3,.store ty w2 v,t3,p3,a3,g3⟩ t x y i v ty=_
 unfold aqO aqP
 cases elemOf T t with
 | none=>rfl
 | some p=>cases aaT (s.ev y) with
  | none=>rfl
  | some q=>cases aas (s.ev i) with
   | none=>cases q.2 <;> rfl
   | some j=>cases ec (s.ev v) with
    | none=>rfl
    | some ys=>rfl
def awZ(s:S)(ix:Nat)(af:Array Edge)(d1 d2:Option Nat)(ty:Nat)(x:X)(e:Nat)(d:TD)(cs:List C)(j:Int)(ys:List C) :
  aqP s ix af d1 d2 ty x (some (e,d)) (some (cs,1)) (some j) (some ys)=if cs.length=d.size/\ys.length=d.size/\0<d.size/\ty=e then match aoA s (.nm s.clk ix 0) e d ys j x with
   | some (z,t,obs)=>if aae s.clk af.toList t=true then some (({s.drop t with objs:=(s.drop t).objs++obs}:S).put d1 z |>.put d2 (.of .any)) else none
   | none=>none
   else none:=rfl
def aGM(s:S)(ix:Nat)(af:Array Edge)(d1 d2:Option Nat)(ty:Nat)(t:Tk)(e' z':Nat)(cs':List C)(n:Nat)(e:Nat)(d:TD)(cs:List C)(j:Int)(ys:List C) :
  aqP s ix af d1 d2 ty (.own t e' z' cs' n) (some (e,d)) (some (cs,1)) (some j) (some ys)=if cs.length=d.size/\ys.length=d.size/\0<d.size/\ty=e/\e'=e/\z'=d.size/\j=(n:Int)/\n+1<=LIM/\d.bytes<=32768/\aae s.clk af.toList (some t)=true then
   (if n=0 then some ((({s.drop (some t) with objs:=(s.drop (some t)).objs++[.row e ys]}:S).put d1 (.top s.objs.length e z')).put d2 (.of .any)) else some (((s.drop (some t)).put d1 (.own (.nm s.clk ix 0) e z' (cs'++ys) (n+1))).put d2 (.of .any))) else none:=by
 rw[awZ]
 unfold aoA
 dsimp only
 by_cases h1:cs.length=d.size/\ys.length=d.size/\0<d.size/\ty=e
 .rw[au h1]
  by_cases h2:e'=e/\z'=d.size/\j=(n:Int)/\n+1<=LIM/\d.bytes<=32768
  .rw[au h2]
   by_cases hn:n=0
   .rw[au hn]
    simp only
    by_cases h3:aae s.clk af.toList (some t)=true
    .rw[au h3,au ⟨h1.1,h1.2.1,h1.2.2.1,h1.2.2.2,h2.1,h2.2.1,h2.2.2.1,h2.2.2.2.1,h2.2.2.2.2,h3⟩,au hn]
    .rw[ar h3,ar λh=>h3 h.2.2.2.2.2.2.2.2.2]
   .rw[ar hn]
    simp only
    by_cases h3:aae s.clk af.toList (some t)=true
    .rw[au h3,au ⟨h1.1,h1.2.1,h1.2.2.1,h1.2.2.2,h2.1,h2.2.1,h2.2.2.1,h2.2.2.2.1,h2.2.2.2.2,h3⟩,ar hn,cZ]
    .rw[ar h3,ar λh=>h3 h.2.2.2.2.2.2.2.2.2]
  .rw[ar h2,ar λh=>h2 ⟨h.2.2.2.2.1,h.2.2.2.2.2.1,h.2.2.2.2.2.2.1,h.2.2.2.2.2.2.2.1,h.2.2.2.2.2.2.2.2.1⟩]
 .rw[ar h1,ar λh=>h1 ⟨h.1,h.2.1,h.2.2.1,h.2.2.2.1⟩]
def aGN(s:S)(ix:Nat)(af:Array Edge)(d1 d2:Option Nat)(ty:Nat)(e:Nat)(d:TD)(cs:List C)(j:Int)(ys:List C) :
  aqP s ix af d1 d2 ty .nil (some (e,d)) (some (cs,1)) (some j) (some ys)=if cs.length=d.size/\ys.length=d.size/\0<d.size/\ty=e/\j=0/\d.bytes<=32768 then
   some ((s.put d1 (.own (.nm s.clk ix 0) e d.size ys 1)).put d2 (.of .any)) else none:=by
 rw[awZ]
 unfold aoA
 dsimp only
 by_cases h1:cs.length=d.size/\ys.length=d.size/\0<d.size/\ty=e
 .rw[au h1]
  by_cases h2:j=0/\d.bytes<=32768
  .rw[au h2,au ⟨h1.1,h1.2.1,h1.2.2.1,h1.2.2.2,h2.1,h2.2⟩]
   simp only[aae,am,S.drop,cZ]
  .rw[ar h2,ar λh=>h2 ⟨h.2.2.2.2.1,h.2.2.2.2.2⟩]
 .rw[ar h1,ar λh=>h1 ⟨h.1,h.2.1,h.2.2.1,h.2.2.2.1⟩]
def aWh(A B:Prop):asj false A B↔B:=bf
def aJ0(A:Prop)(B:Nat->Nat->Nat->Option S)(Q:S->Prop)(r e z:Nat):apF A B Q (.top r e z)↔abT Q (B r e z):=bf
def aki:Option Ob->Bool
 | some (.row _ (_::_))=>true
 | _=>false
def aSb(T:TT)(s:S)(ix:Nat)(d:Option Nat)(t r e z e':Nat)(td:TD):apL T s ix d t r e z (some (e',td)) (some 0)=if e'=e/\td.size=z then match s.objs[r]? with
  | some (.row _ (_::_))=>some (({s.tr (afk r) with objs:=((s.tr (afk r)).objs).set r (.row e [])}:S).put d (.own (.nm s.clk ix 0) e z [] 0))
  | _=>none
  else none:=rfl
def aSc(T:TT)(s:S)(ix:Nat)(d:Option Nat)(t r e z e':Nat)(td:TD):apL T s ix d t r e z (some (e',td)) (some 0)=if e'=e/\td.size=z/\aki (s.objs[r]?)=true then some (({s.tr (afk r) with objs:=((s.tr (afk r)).objs).set r (.row e [])}:S).put d (.own (.nm s.clk ix 0) e z [] 0)) else none:=by
 rw[aSb]
 by_cases h:e'=e/\td.size=z
 .rw[au h]
  cases hr:s.objs[r]? with
  | none=>rw[ar λh'=>by simp[aki] at h']
  | some ob=>cases ob with
   | row ty cs=>cases cs with
    | nil=>rw[ar λh'=>by simp[aki] at h']
    | cons c cs=>rw[au ⟨h.1,h.2,rfl⟩]
   | _=>rw[ar λh'=>by simp[aki] at h']
 .rw[ar h,ar λh'=>h ⟨h'.1,h'.2.1⟩]
def aMq(x:X):hiX (some x)=aas x:=rfl
def aww(e z:Nat):Option Nat->Option Tk->X
 | some r',some t'=>if t'=abq r' then .top r' e z else .of .any
 | _,_=>.of .any
def aVK(σ:Nat->Option Nat)(ρ:Tk->Option Tk)(r e z:Nat):(X.top r e z).tr σ ρ=aww e z (σ r) (ρ (.cell r 1099511627776)):=by
 simp only[X.tr,aww]
 cases σ r with
 | none=>rfl
 | some r' =>
  cases ρ (abq r) with
  | none=>rfl
  | some t'=>simp only[ab]
def aRv(e z r r' o:Nat):aww e z (some r) (some (.cell r' o))=if r'=r/\o=1099511627776 then .top r e z else .of .any:=by simp only[aww,Tk.cell.injEq]
def aRu(e z:Nat)(x:Option Nat):aww e z x none=.of .any:=by cases x <;> rfl
def aDV(r r' o:Nat):afk r (.cell r' o)=if r'=r/\o=1099511627776 then none else some (.cell r' o):=by simp only[afk,Tk.cell.injEq]
def aIo(t:Tk)(r e z:Nat):(X.top r e z).drop t=.top r e z:=rfl
def aJ5(r e z:Nat):(X.top r e z).refs=[r]:=rfl
def aDq(ty:Nat)(cs:List C):(Ob.row ty cs).refs=[]:=rfl
def aK6(σ:Nat->Option Nat)(ρ:Tk->Option Tk)(ty:Nat)(cs:List C):(Ob.row ty cs).tr σ ρ=.row ty cs:=rfl
def aIq(t:Tk)(ty:Nat)(cs:List C):(Ob.row ty cs).drop t=.row ty cs:=rfl
def aIE(r e z:Nat):cn (.top r e z)=some [.top r e z]:=rfl
def aHm(a b c:Nat)(xs:List X):ace (.top a b c::xs)=ace xs:=rfl
def aS3(u:Option TypeDesc)(r e z:Nat):fV u (.top r e z)=if ahK u=true then out (aQ 1) else none:=rfl
def axN{T:TT}{t e n b:Nat}{a:Bool}{zr:List Value}{fl:List (Nat×Nat)}{d:TD}(hT:T t=some ⟨.slice e,n,b,a,zr,fl⟩)(hd:T e=some d)(r e' z:Nat)(i:Int):bz T t (.top r e' z) (.of (.lit (.int .i64 i)))=if e'=e/\z=d.size/\i=0/\0<d.size then out (.ptr r 0) else none:=by
 simp only[bz,aas,hT,hd,aaT,ahX]
def akW(T:TT)(t off ty:Nat)(c:C)(cs:List C):amF T t off (some (.row ty (c::cs)))=(bi T t ((c::cs).drop off)).map .of:=rfl
def aHE(objs:List Ob):af7 objs []=true:=rfl
def aDM(objs:List Ob)(r:Nat)(l:List Nat):af7 objs (r::l)=(ac5 objs[r]?&&af7 objs l):=rfl
def aHC(ty:Nat)(xs:List X):ac5 (some (.var ty xs))=true:=rfl
def aHD(ty:Nat)(c:C)(cs:List C):ac5 (some (.row ty (c::cs)))=true:=rfl
def aKT(x:Option (List Ob)):aj5 true x=x:=rfl
def aMa(e:Nat):ahK (some (.slice e))=true:=rfl
def aWI(Q:Pn->Prop){p p':Option Pn}(h:Unit->p=p'):plQ Q p=plQ Q p':=by rw[h ()]
def aWQ(Q:Oper->Prop){p p':Option Oper}(h:Unit->p=p'):opQ Q p=opQ Q p':=by rw[h ()]
def aXY(Q:List Nat->Prop){p p':Option (List Nat)}(h:Unit->p=p'):ldQ Q p=ldQ Q p':=by rw[h ()]
def aKc(Q:S->Prop){p p':Option S}(h:Unit->p=p'):aqQ Q p=aqQ Q p':=by rw[h ()]
def aRT(A:Prop)(B:Nat->Nat->Nat->Option S)(Q:S->Prop){x x':X}(h:Unit->x=x'):apF A B Q x=apF A B Q x':=by rw[h ()]
def aRU{b b':Bool}(A B:Prop)(h:Unit->b=b'):asj b A B=asj b' A B:=by rw[h ()]
attribute [congr] aWI aWQ aXY aKc aRT aRU
def zD3:=gj (gu @aWJ @aKi @aWR @aXZ @aSv @a0V @aVa) (gu @aNH @aNG @aNF @aU8 @aNI @aNJ @aJl) (gp @aAt @aAs @aKd @aWh @aJ0)
def zU3:=gq (gz @aWK @a5u @a5v @aHP @aHO @aS6 @aL2 @aL4 @aS7) (gz @aS5 @aL3 @aS4 @azE @axl @aHj @aDt @aDs @aDu) (gz @aHM @aHN @aUm @aRB @aJM @aUn @aFl @aKb @aGM) (gz @aGN @aSc @aMq @aVK @aRv @aRu @aDV @aIo @aJ5) (gz @aDq @aK6 @aIq @aIE @aHm @aS3 @akW @aHE @aDM) (gm @aHC @aHD @aKT @aMa)
def abJ{P:Program}{pr:Pr}{c:Code}{s:S}{Q:Ex->S->Prop}(n:Nat)(I:Nat->S->Prop)(h0:I 0 s)
  (h:∀ k s,k<=n->I k s->WC P pr c s (λe s'=>match e with
   | .normal=>k<n/\I (k+1) s'
   | e=>Q e s')):WC P pr (.loop c) s Q:=by
 refine fX c Q (λm s=>∃ k,k<=n/\m=n-k/\I k s) ?_ n s ⟨0,aU _,rfl,h0⟩
 rintro m s ⟨k,hk,rfl,hI⟩
 refine WC.mono (h k s hk hI) λe s' hq=>?_
 cases e with
 | normal=>exact⟨n-(k+1),by omega,k+1,by omega,rfl,hq.2⟩
 | _=>exact hq
end Go.Pe
namespace Go.Proofs.YtghkmcffifpkeaaGreat
open Pe Tab
def fq(n:Nat)(h:n<4611686018427387904):IntKind.i64.wrap ((n:Int)+1)=((n+1:Nat):Int):=by rw[eu _ aC aC];rfl
def aJW(a b:List UInt8):aK a++aK b=aK (a++b):=by
 apply ame.1
 simp[aK]
def a8b{P:Program}{T:TT}{t:Nat}{u:Option TypeDesc}(a b:List UInt8):eT P T t u .add (.of (.lit (.string (aK a)))) (.of (.lit (.string (aK b))))=if a.length+b.length<=akw then out (agi (aK (a++b))) else none:=by
 rw[Z1u,afw,afw,aJW]
def aJt(u:TypeDesc)(n b:Nat)(a:Bool)(z:List Value)(f:List (Nat×Nat)):fj ⟨u,n,b,a,z,f⟩=z.map aa5:=rfl
def ct(a b:List UInt8):(aK a=aK b)=(a=b):=propext ⟨aJU,λh=>h▸rfl⟩
def aV4(a:List UInt8):(aK a=({data:=#[]}:ByteArray))=(a=[]):=ct a []
def ba(a b:Nat):((a:Int)<(b:Int))=(a<b):=propext Int.ofNat_lt
def aNl(P:Program)(t n b:Nat)(a:Bool)(fs:Array Field)(z:List Value)(fl:List (Nat×Nat))(qs:List (Nat×List X)):ayA P t (some ⟨.struct fs,n,b,a,z,fl⟩) (some qs)=bE ((aah (λi=>fl[i]?) (fj ⟨.struct fs,n,b,a,z,fl⟩) qs).map .agg):=rfl
def a9b(x:X):Option.map (λp:X×Option Tk=>p.1) (out x)=some x:=rfl
def aMw(f:Nat)(xs:List X)(cs:List C):fnX f xs (some cs)=out (.of (.fn f cs)):=rfl
def zG:=ai (gz @atU @aG0 @aR1 @aIF @aJt @aNl @a9b @aV4 @aMw) (gz @Z2x @a2Y @ars @axL @afw @aWH @a3B @aBd @a3C)
def zH:=ai (gq @aaX @aaY @fS @fw @cX @dH) (gp @cO @cY @aag @cj @agn)
def zq:=gq @zU @zU2 @zU3 @zB @zG @zH
def zA:=gm @zD @zD2 @zD3 @zE
end Go.Proofs.YtghkmcffifpkeaaGreat
namespace Go.Tab
open Pe
def isT(l:List Tn)(i:Nat)(w:List UInt8):Bool:=match l[i]? with
 | some t=>(decide (t.k=1)||decide (t.k=5))&&decide (t.s=w)
 | none=>false
def ca(l:List Tn)(i:Nat):List (List UInt8)->Bool
 | []=>false
 | w::r=>isT l i w||ca l i r
def bq(l:List Tn)(i:Nat)(k:Int):Bool:=match l[i]? with
 | some t=>decide (t.k=k)
 | none=>false
def txT(l:List Tn)(i:Nat):List UInt8:=match l[i]? with
 | some t=>t.s
 | none=>[]
def nuT(l:List Tn)(i:Nat):Int:=match l[i]? with
 | some t=>t.n
 | none=>0
def bG(l:List Tn)(i:Nat)(w:List UInt8):Nat×Bool:=if isT l i w then (i+1,false) else (i,true)
def dG(l:List Tn):Nat->List (List UInt8)->Nat×Bool
 | i,[]=>(i,false)
 | i,w::r=>if isT l i w then dG l (i+1) r else (i,true)
def bT(l:List Tn)(i:Nat):List UInt8×Nat×Bool:=if bq l i 2 then (txT l i,i+1,false) else ([],i,true)
def v0:V:=⟨0,0,ByteArray.empty⟩
def x0:Xp:=.mk 0 v0 [] [] false [] []
def y0:Qy:=.mk 0 false [] false [] [] [] [] [] [] 0 0
def f0:Fm:=.mk 0 [] [] [] [] []
def cR(o:Int)(ks:List Xp):Xp:=.mk o v0 [] [] false ks []
def aij(t s:List UInt8):Xp:=.mk 2 v0 t s false [] []
def afu(o:Int)(ks:List Xp)(q:Qy):Xp:=.mk o v0 [] [] false ks [q]
def ai8(no:Bool)(a:Xp):Xp:=if no then cR 4 [a] else a
def Th.ofE(a:Xp):Th:=⟨false,false,y0,a,f0⟩
def Th.ofQ(a:Qy):Th:=⟨true,false,a,x0,f0⟩
def Th.ofF(a:Fm):Th:=⟨false,false,y0,x0,a⟩
def Th.val(t:Th):Xp:=if t.q then afu 26 [] t.y else t.e
abbrev Rz(α:Type):=Option (α×Nat×Bool)
def Rz.on{α β:Type}(r:Rz α)(g:α->β)(f:α->Nat->Rz β):Rz β:=match r with
 | none=>none
 | some (a,i,true)=>some (g a,i,true)
 | some (a,i,false)=>f a i
def Rz.to{α β:Type}(r:Rz α)(g:α->β):Rz β:=match r with
 | none=>none
 | some (a,i,b)=>some (g a,i,b)
def wantR{β:Type}(r:Nat×Bool)(x:β)(f:Nat->Rz β):Rz β:=match r with
 | (i,true)=>some (x,i,true)
 | (i,false)=>f i
def wantE{β:Type}(r:Nat×Bool)(x:β):Rz β:=some (x,r.1,r.2)
def nameR{β:Type}(r:List UInt8×Nat×Bool)(g:List UInt8->β)(f:List UInt8->Nat->Rz β):Rz β:=match r with
 | (s,i,true)=>some (g s,i,true)
 | (s,i,false)=>f s i
structure Fs where
 or:Nat->List Xp->Rz Xp
 no:Nat->Rz Xp
 un:Nat->Rz Xp
 qy:Nat->List Qy->Rz Qy
 ins:Nat->Rz Th
 fr:Nat->List Fm->Rz Fm
 so:Nat->Rz Th
def opT(l:List Tn)(i:Nat):List (List UInt8×Int)->Option Int
 | []=>none
 | (w,o)::r=>if isT l i w then some o else opT l i r
def act(nx:Nat->List Xp->Rz Xp)(l:List Tn)(so:List (List UInt8×Int)):Nat->Xp->Nat->Rz Xp
 | 0,_,_=>none
 | n+1,a,i=>match opT l i so with
  | none=>some (a,i,false)
  | some o=>(nx (i+1) []).on (λy=>cR o [a,y]) λy j=>act nx l so n (cR o [a,y]) j
def acr(nx:Nat->List Xp->Rz Xp)(l:List Tn)(so:List (List UInt8×Int))(i:Nat)(pre:List Xp):Rz Xp :=
 (nx i pre).on id λa j=>act nx l so (l.length+1) a j
def abe(l:List Tn)(i:Nat):Option V :=
 if bq l i 3 then some ⟨2,nuT l i,ByteArray.empty⟩
 else if bq l i 4 then some ⟨3,0,aK (txT l i)⟩
 else if isT l i [116,114,117,101] then some ⟨1,1,ByteArray.empty⟩
 else if isT l i [102,97,108,115,101] then some ⟨1,0,ByteArray.empty⟩
 else if isT l i [110,117,108,108] then some v0
 else none
def aeh(F:Fs)(l:List Tn)(i:Nat):Rz Th:=(F.ins (i+1)).on id λt j=>wantE (bG l j [41]) t
def acy(F:Fs)(l:List Tn):Nat->List Xp->Nat->Rz (List Xp)
 | 0,_,_=>none
 | n+1,ks,i=>if isT l i [44] then (F.or (i+1) []).on (λy=>ks++[y]) λy j=>acy F l n (ks++[y]) j else some (ks,i,false)
def aaE(F:Fs)(l:List Tn)(i:Nat):Rz (List Xp):=(F.or i []).on (λy=>[y]) λy j=>acy F l (l.length+1) [y] j
def afn(l:List Tn)(ks:List Xp)(i:Nat):Rz Xp:=wantE (bG l i [101,110,100]) (cR 23 ks)
def agH(F:Fs)(l:List Tn)(ks:List Xp)(i:Nat):Rz Xp :=
 if isT l i [101,108,115,101] then (F.or (i+1) []).on (λ_=>cR 23 ks) λy j=>afn l (ks++[y]) j else afn l ks i
def adW(F:Fs)(l:List Tn):Nat->List Xp->Nat->Rz Xp
 | 0,_,_=>none
 | n+1,ks,i=>if isT l i [119,104,101,110] then
   (F.or (i+1) []).on (λ_=>cR 23 ks) λa j=>wantR (bG l j [116,104,101,110]) (cR 23 ks) λj' =>
    (F.or j' []).on (λ_=>cR 23 ks) λb m=>adW F l n (ks++[a,b]) m
  else agH F l ks i
def afm(F:Fs)(l:List Tn)(i:Nat):Rz Xp:=if isT l i [119,104,101,110] then adW F l (l.length+1) [] i else some (cR 23 [],i,true)
def a0L(f:List UInt8):Bool:=decide (f=[99,111,117,110,116])||decide (f=[115,117,109])||decide (f=[109,105,110])||decide (f=[109,97,120])
def ajd(o:Int)(f:List UInt8)(di:Bool)(ks:List Xp):Xp:=.mk o v0 [] f di ks []
def akv(F:Fs)(l:List Tn)(i:Nat)(f:List UInt8)(di:Bool):Rz Xp :=
 (F.or i []).on (λa=>ajd 25 f di [a]) λa j=>wantE (bG l j [41]) (ajd 25 f di [a])
def callS(F:Fs)(l:List Tn)(i:Nat)(f:List UInt8):Rz Xp :=
 if a0L f then
  if decide (f=[99,111,117,110,116])&&isT l i [42] then wantE (bG l (i+1) [41]) (ajd 25 f false [])
  else if isT l i [100,105,115,116,105,110,99,116] then akv F l (i+1) f true else akv F l i f false
 else if isT l i [41] then some (ajd 24 f false [],i+1,false)
 else (aaE F l i).on (ajd 24 f false) λks j=>wantE (bG l j [41]) (ajd 24 f false ks)
def afP(F:Fs)(l:List Tn)(i:Nat):Rz Xp:=wantR (bG l (i+1) [40]) x0 λj =>
 (F.qy j []).on (afu 27 []) λq m=>wantE (bG l m [41]) (afu 27 [] q)
def ac4(F:Fs)(l:List Tn)(i:Nat):Rz Xp:=match abe l i with
 | some v=>some (.mk 1 v [] [] false [] [],i+1,false)
 | none =>
  if isT l i [40] then (aeh F l i).to Th.val
  else if isT l i [99,97,115,101] then afm F l (i+1)
  else if isT l i [101,120,105,115,116,115] then afP F l i
  else if bq l i 2 then
   if isT l (i+1) [40] then callS F l (i+2) (txT l i)
   else if isT l (i+1) [46] then some (aij (txT l i) (bT l (i+2)).1,(bT l (i+2)).2.1,(bT l (i+2)).2.2)
   else some (aij [] (txT l i),i+1,false)
  else some (x0,i,true)
def abz(F:Fs)(l:List Tn)(i:Nat):List Xp->Rz Xp
 | x::_=>some (x,i,false)
 | []=>if isT l i [45] then (F.un (i+1)).to λa=>cR 3 [a] else ac4 F l i
def agX(F:Fs)(l:List Tn):Nat->List Xp->Rz Xp:=acr (abz F l) l [([42],7),([47],8),([37],9)]
def ag6(F:Fs)(l:List Tn):Nat->List Xp->Rz Xp:=acr (agX F l) l [([43],5),([45],6)]
def aan(F:Fs)(l:List Tn):Nat->List Xp->Rz Xp:=acr (ag6 F l) l [([124,124],10)]
def inL(F:Fs)(l:List Tn)(a:Xp):Nat->List Xp->Nat->Rz Xp
 | 0,_,_=>none
 | n+1,ks,i=>if isT l i [44] then (F.or (i+1) []).on (λ_=>a) λy j=>inL F l a n (ks++[y]) j else wantE (bG l i [41]) (cR 21 ks)
def inS(F:Fs)(l:List Tn)(i:Nat)(a:Xp):Rz Xp:=wantR (bG l i [40]) a λi'=>(F.ins i').on (λ_=>a) λt j =>
 if t.q&&!t.w then wantE (bG l j [41]) (afu 28 [a] t.y) else inL F l a (l.length+1) [a,t.val] j
def agp:List (List UInt8×Int):=[([61],11),([60,62],12),([60],13),([60,61],14),([62],15),([62,61],16)]
def abx(F:Fs)(l:List Tn)(no:Bool)(i:Nat)(a:Xp):Rz Xp :=
 if isT l i [108,105,107,101] then (aan F l (i+1) []).to λb=>ai8 no (cR 20 [a,b])
 else if isT l i [98,101,116,119,101,101,110] then (aan F l (i+1) []).on (λ_=>a) λb j=>wantR (bG l j [97,110,100]) a λj'=>(aan F l j' []).to λc=>ai8 no (cR 22 [a,b,c])
 else if isT l i [105,110] then (inS F l (i+1) a).to (ai8 no)
 else some (a,i,no)
def isS(l:List Tn)(no:Bool)(i:Nat)(a:Xp):Rz Xp:=wantE (bG l i [110,117,108,108]) (ai8 no (cR 19 [a]))
def abN(F:Fs)(l:List Tn)(i:Nat)(a:Xp):Rz Xp:=match opT l i agp with
 | some o=>(aan F l (i+1) []).to λb=>cR o [a,b]
 | none =>
  if isT l i [105,115] then (if isT l (i+1) [110,111,116] then isS l true (i+2) a else isS l false (i+1) a)
  else if isT l i [110,111,116] then abx F l true (i+1) a else abx F l false i a
def ab6(F:Fs)(l:List Tn)(i:Nat)(pre:List Xp):Rz Xp :=
 if decide (pre=[])&&isT l i [110,111,116] then (F.no (i+1)).to λa=>cR 4 [a]
 else (aan F l i pre).on id λa j=>abN F l j a
def ain(F:Fs)(l:List Tn):Nat->List Xp->Rz Xp:=acr (ab6 F l) l [([97,110,100],17)]
def orS(F:Fs)(l:List Tn):Nat->List Xp->Rz Xp:=acr (ain F l) l [([111,114],18)]
def adf(l:List Tn)(i:Nat):Bool:=ca l i [[117,110,105,111,110],[101,120,99,101,112,116],[105,110,116,101,114,115,101,99,116],[111,114,100,101,114],[108,105,109,105,116],[111,102,102,115,101,116]]
def ag2(F:Fs)(l:List Tn)(i:Nat):Rz Th :=
 if isT l i [115,101,108,101,99,116] then (F.qy i []).to Th.ofQ
 else if isT l i [40] then (aeh F l i).on id λt j =>
  if t.q&&adf l j then (F.qy j [t.y]).to Th.ofQ
  else if t.q&&isT l j [41] then some ({t with w:=true},j,false)
  else (F.or j [t.val]).to Th.ofE
 else (F.or i []).to Th.ofE
def a85:Qy:=.mk 1 false [] false [] [] [] [] [] [] (-1) 0
def asn(o:Int)(al:Bool)(a b:Qy):Qy:=.mk o al [a,b] false [] [] [] [] [] [] (-1) 0
def eF(l:List Tn)(i:Nat):List UInt8×Nat×Bool:=if isT l i [97,115] then bT l (i+1) else if bq l i 2 then (txT l i,i+1,false) else ([],i,false)
def im0:Im:=.mk false [] x0 []
def adP(F:Fs)(l:List Tn)(i:Nat):Rz Im :=
 if isT l i [42] then some (.mk true [] x0 [],i+1,false)
 else if bq l i 2&&(isT l (i+1) [46]&&isT l (i+2) [42]) then some (.mk true (txT l i) x0 [],i+3,false)
 else (F.or i []).on (λ_=>im0) λa j=>some (.mk false [] a (eF l j).1,(eF l j).2.1,(eF l j).2.2)
def aav(F:Fs)(l:List Tn)(i:Nat)(w:List UInt8):Rz (List Xp):=if isT l i w then (F.or (i+1) []).to λa=>[a] else some ([],i,false)
def Qy.set(q:Qy)(di:Bool)(its:List Im)(fr:List Fm)(wh gr hv:List Xp):Qy:=.mk q.op q.al q.ks di its fr wh gr hv q.od q.li q.sk
def ah4(di:Bool)(its:List Im)(fr:List Fm)(wh gr hv:List Xp):Qy:=.mk 1 false [] di its fr wh gr hv [] (-1) 0
def ahw(F:Fs)(l:List Tn)(di:Bool)(its:List Im)(fr:List Fm)(wh gr:List Xp)(i:Nat):Rz Qy:=(aav F l i [104,97,118,105,110,103]).to (ah4 di its fr wh gr)
def ahx(F:Fs)(l:List Tn)(di:Bool)(its:List Im)(fr:List Fm)(wh:List Xp)(i:Nat):Rz Qy :=
 if isT l i [103,114,111,117,112] then wantR (bG l (i+1) [98,121]) (ah4 di its fr wh [] []) λj=>(aaE F l j).on (λ_=>ah4 di its fr wh [] []) λg m=>ahw F l di its fr wh g m
 else ahw F l di its fr wh [] i
def ahu(F:Fs)(l:List Tn)(di:Bool)(its:List Im)(fr:List Fm)(i:Nat):Rz Qy :=
 (aav F l i [119,104,101,114,101]).on (λ_=>ah4 di its fr [] [] []) λw j=>ahx F l di its fr w j
def agT(F:Fs)(l:List Tn)(di:Bool)(its:List Im)(i:Nat):Rz Qy :=
 if isT l i [102,114,111,109] then (F.fr (i+1) []).on (λ_=>ah4 di its [] [] [] []) λf j=>ahu F l di its [f] j else ahu F l di its [] i
def afx(F:Fs)(l:List Tn)(di:Bool):Nat->List Im->Nat->Rz Qy
 | 0,_,_=>none
 | n+1,its,i=>(adP F l i).on (λ_=>ah4 di its [] [] [] []) λx j=>if isT l j [44] then afx F l di n (its++[x]) (j+1) else agT F l di (its++[x]) j
def ai3(F:Fs)(l:List Tn)(i:Nat):Rz Qy:=if isT l i [100,105,115,116,105,110,99,116] then afx F l true (l.length+1) [] (i+1) else afx F l false (l.length+1) [] i
def acd(F:Fs)(l:List Tn)(i:Nat):List Qy->Rz Qy
 | q::_=>some (q,i,false)
 | []=>if isT l i [40] then (F.qy (i+1) []).on id λq j=>wantE (bG l j [41]) q
  else wantR (bG l i [115,101,108,101,99,116]) y0 λj=>ai3 F l j
def acU(nx:Nat->List Qy->Rz Qy)(l:List Tn)(so:List (List UInt8×Int)):Nat->Qy->Nat->Rz Qy
 | 0,_,_=>none
 | n+1,a,i=>match opT l i so with
  | none=>some (a,i,false)
  | some o=>(nx (if isT l (i+1) [97,108,108] then i+2 else i+1) []).on (λy=>asn o (isT l (i+1) [97,108,108]) a y) λy j=>acU nx l so n (asn o (isT l (i+1) [97,108,108]) a y) j
def ahs(nx:Nat->List Qy->Rz Qy)(l:List Tn)(so:List (List UInt8×Int))(i:Nat)(pre:List Qy):Rz Qy :=
 (nx i pre).on id λa j=>acU nx l so (l.length+1) a j
def aam(F:Fs)(l:List Tn):Nat->List Qy->Rz Qy:=ahs (acd F l) l [([105,110,116,101,114,115,101,99,116],3)]
def ahq(F:Fs)(l:List Tn):Nat->List Qy->Rz Qy:=ahs (aam F l) l [([117,110,105,111,110],2),([101,120,99,101,112,116],4)]
def Qy.endQ(q:Qy)(od:List Od)(li sk:Int):Qy:=.mk q.op q.al q.ks q.di q.its q.fr q.wh q.gr q.hv od li sk
def byL(l:List Tn):Nat->List Od->Nat->Rz (List Od)
 | 0,_,_=>none
 | n+1,os,i =>
  if bq l i 2||(bq l i 3&&decide (0<nuT l i)) then
   let o:Od:=⟨if bq l i 2 then txT l i else [],if bq l i 2 then 0 else nuT l i,isT l (i+1) [100,101,115,99]⟩
   let j:=if ca l (i+1) [[97,115,99],[100,101,115,99]] then i+2 else i+1
   if isT l j [44] then byL l n (os++[o]) (j+1) else some (os++[o],j,false)
  else some ([],i,true)
def ajg(l:List Tn)(i:Nat):Rz (List Od):=wantR (bG l i [98,121]) [] λj=>byL l (l.length+1) [] j
def afB(l:List Tn)(q:Qy)(od:List Od)(li:Int)(i:Nat):Rz Qy :=
 if isT l i [111,102,102,115,101,116] then (if bq l (i+1) 3 then some (q.endQ od li (nuT l (i+1)),i+2,false) else some (q.endQ od li q.sk,i+1,true))
 else some (q.endQ od li q.sk,i,false)
def ad2(l:List Tn)(q:Qy)(od:List Od)(i:Nat):Rz Qy :=
 if isT l i [108,105,109,105,116] then (if bq l (i+1) 3 then afB l q od (nuT l (i+1)) (i+2) else some (q.endQ od q.li q.sk,i+1,true))
 else afB l q od q.li i
def asG(q:Qy):Bool:=decide (0<q.od.length)||(decide (q.li≠-1)||decide (0<q.sk))
def aeg(F:Fs)(l:List Tn)(i:Nat)(pre:List Qy):Rz Qy:=(ahq F l i pre).on id λq j =>
 if asG q&&ca l j [[111,114,100,101,114],[108,105,109,105,116],[111,102,102,115,101,116]] then some (q,j,true)
 else if isT l j [111,114,100,101,114] then (ajg l (j+1)).on (λ_=>q) λo m=>ad2 l q o m
 else ad2 l q q.od j
def abp(l:List Tn)(i:Nat)(q:Qy):Rz Fm:=match eF l i with
 | (s,j,b)=>if !b&&decide (s=[]) then some (f0,j,true) else some (.mk 2 [] s [q] [] [],j,b)
def agf(F:Fs)(l:List Tn)(i:Nat):Rz Th:=(F.so (i+1)).on id λt j=>wantE (bG l j [41]) t
def adB(F:Fs)(l:List Tn)(i:Nat):Rz Fm :=
 if isT l i [40] then (agf F l i).on Th.f λt j=>if t.q then abp l j t.y else some (t.f,j,false)
 else nameR (bT l i) (λ_=>f0) λs j=>some (.mk 1 s (eF l j).1 [] [] [],(eF l j).2.1,(eF l j).2.2)
def acR(l:List Tn)(i:Nat):Option (Int×List (List UInt8)) :=
 if isT l i [99,114,111,115,115] then some (3,[[99,114,111,115,115],[106,111,105,110]])
 else if isT l i [105,110,110,101,114] then some (4,[[105,110,110,101,114],[106,111,105,110]])
 else if isT l i [108,101,102,116] then some (5,[[108,101,102,116],[106,111,105,110]])
 else if isT l i [106,111,105,110] then some (4,[[106,111,105,110]])
 else none
def acf(F:Fs)(l:List Tn):Nat->Fm->Nat->Rz Fm
 | 0,_,_=>none
 | n+1,a,i=>match acR l i with
  | none=>some (a,i,false)
  | some (k,ws)=>wantR (dG l i ws) a λj=>(adB F l j).on (λ_=>a) λb m =>
   if k=3 then acf F l n (.mk k [] [] [] [a,b] []) m
   else if isT l m [111,110] then (F.or (m+1) []).on (λy=>.mk k [] [] [] [a,b] [y]) λy p=>acf F l n (.mk k [] [] [] [a,b] [y]) p
   else some (a,m,true)
def adx(F:Fs)(l:List Tn)(i:Nat):List Fm->Rz Fm
 | a::_=>acf F l (l.length+1) a i
 | []=>(adB F l i).on id λa j=>acf F l (l.length+1) a j
def adR(F:Fs)(l:List Tn):Nat->Fm->Nat->Rz Fm
 | 0,_,_=>none
 | n+1,a,i=>if isT l i [44] then (adx F l (i+1) []).on (λy=>.mk 3 [] [] [] [a,y] []) λy j=>adR F l n (.mk 3 [] [] [] [a,y] []) j else some (a,i,false)
def agF(F:Fs)(l:List Tn)(i:Nat)(pre:List Fm):Rz Fm:=(adx F l i pre).on id λa j=>adR F l (l.length+1) a j
def acO(F:Fs)(l:List Tn)(i:Nat):Rz Th :=
 if isT l i [115,101,108,101,99,116] then (F.qy i []).to Th.ofQ
 else if isT l i [40] then (agf F l i).on id λt j =>
  if t.q&&isT l j [41] then some (t,j,false)
  else if t.q&&adf l j then (F.qy j [t.y]).to Th.ofQ
  else if t.q then (abp l j t.y).on (λ_=>t) λf m=>(F.fr m [f]).to Th.ofF
  else (F.fr j [t.f]).to Th.ofF
 else (F.fr i []).to Th.ofF
def akO(l:List Tn)(F:Fs):Fs where
 or:=orS F l
 no i:=ab6 F l i []
 un i:=abz F l i []
 qy:=aeg F l
 ins:=ag2 F l
 fr:=agF F l
 so:=acO F l
def aoI:Fs:=⟨λ_ _=>none,λ_=>none,λ_=>none,λ_ _=>none,λ_=>none,λ_ _=>none,λ_=>none⟩
def aac(l:List Tn):Nat->Fs
 | 0=>aoI
 | n+1=>akO l (aac l n)
end Go.Tab
namespace Go.Proofs.YtghkmcffifpkeaaGreat
open Pe Tab
abbrev pT(l:List Tn)(i:Nat)(e:Int):Ob:=.var 112 [.of (slC tnC l),.of (ci i),.of (ci e),.own (.cell 0 3) 28 9 [] 0,.own (.cell 0 4) 38 12 [] 0,.own (.cell 0 5) 140 6 [] 0]
def tn0:Tn:=⟨0,0,0,0,[]⟩
def bN(l:List Tn)(i:Nat):Tn:=(l[i]?).getD tn0
def amd{l:List Tn}{i:Nat}(h:i<l.length):l[i]?=some (bN l i):=by
 unfold bN
 rw[aL h]
 rfl
def ag8{l:List Tn}{i:Nat}(h:l.length<=i):bN l i=tn0:=by
 unfold bN
 rw[aX h]
 rfl
def isT_at(l:List Tn)(i:Nat)(w:List UInt8):isT l i w=((decide ((bN l i).k=1)||decide ((bN l i).k=5))&&decide ((bN l i).s=w)):=by
 unfold isT bN
 cases l[i]? with
 | none=>rfl
 | some t=>rfl
def fO(l:List Tn)(i:Nat)(k:Int)(hk:k≠0):bq l i k=decide ((bN l i).k=k):=by
 unfold bq bN
 cases l[i]? with
 | none=>exact (bd (λh=>hk h.symm)).symm
 | some t=>rfl
def LB:Nat:=4294967296
def ae3{l:List Tn}{i:Nat}(h:i<l.length):aaA l (i:Int)=some (bN l i):=by
 unfold aaA
 rw[au aC]
 simpa using amd h
def aFV(P:Program)(pr:Pr)(f:Nat)(xs:List X)(obs:List Ob)(K:An->Prop):Prop:=aba P pr f xs obs K
def aOw{P:Program}{pr:Pr}{f:Nat}{xs:List X}{obs:List Ob}{p:Prop}{an:An}(h:p->aH P pr f xs obs an)(K:An->Prop):aba P pr f xs obs K↔ifP p (K an) (aFV P pr f xs obs K):=by
 by_cases hp:p
 .rw[as0 hp];exact aH.k (h hp) K
 .simp only[ifP,hp,fv,aaY,cM,ahG];exact bf
def aYi{p A B:Prop}(h:p)(a:A):ifP p A B:=(as0 h).2 a
def aN7:=ai (gz @Tryz.f173.eq_1 @zq @a9E @ba2 @ba0 @ab9 @acu @aaO @aaN) (gz @aaM @aaL @aaK @aaJ @acG @P3 @Q3 @zT0 (kf aQi))
def anC(l:List Tn)(i j:Nat)(e:Int)(hl:l.length<LB)(hi:i<=l.length)(hj:j<=2):aH Tryz.prog pr 173 [.ptr 0 0,.of (ci j)] [pT l i e] ⟨false,[.of (.agg (tnC (bN l (i+j))))],[pT l i e]⟩:=by
 have hw:IntKind.i64.wrap ((i:Int)+(j:Int))=((i+j:Nat):Int):=by
  unfold LB at hl
  rw[eu _ aC aC];rfl
 refine bB aQi ?_
 by_cases h:l.length<=i+j
 .have h1:(((l.length:Nat):Int)<=((i+j:Nat):Int))=True:=aa aC
  have h2:=ag8 h
  simp only[↓zA,sevalprocAttr,aN7,pT,hw,h1,h2]
  try rfl
 .have h1:(((l.length:Nat):Int)<=((i+j:Nat):Int))=False:=aF aC
  have h2:=ae3 (l:=l) (i:=i+j) aC
  simp only[↓zA,sevalprocAttr,aN7,pT,hw,h1,h2]
  try rfl
def ajt(l:List Tn)(i:Nat)(e:Int)(hl:l.length<LB)(hi:i<=l.length):aH Tryz.prog pr 173 [.ptr 0 0,.of (.lit (.int .i64 0))] [pT l i e] ⟨false,[.of (.agg (tnC (bN l i)))],[pT l i e]⟩:=anC l i 0 e hl hi aC
def aDh(l:List Tn)(i:Nat)(e:Int)(hl:l.length<LB)(hi:i<=l.length):aH Tryz.prog pr 173 [.ptr 0 0,.of (.lit (.int .i64 1))] [pT l i e] ⟨false,[.of (.agg (tnC (bN l (i+1))))],[pT l i e]⟩:=anC l i 1 e hl hi aC
def aDg(l:List Tn)(i:Nat)(e:Int)(hl:l.length<LB)(hi:i<=l.length):aH Tryz.prog pr 173 [.ptr 0 0,.of (.lit (.int .i64 2))] [pT l i e] ⟨false,[.of (.agg (tnC (bN l (i+2))))],[pT l i e]⟩:=anC l i 2 e hl hi aC
def av9:=ai (gq @Tryz.f76.eq_1 @zq @amX @a9q @ab9 @P3) (gp @Q3 @P9 @Q9 @zT0 (kf aY7))
def alQ(l:List Tn)(i:Nat)(e:Int)(w:List UInt8)(hl:l.length<LB)(hi:i<=l.length):aH Tryz.prog pr 76 [.ptr 0 0,.of (aG (aK w))] [pT l i e] ⟨false,[aM (isT l i w)],[pT l i e]⟩:=by
 have kp:=λK=>aH.k (ajt l i e hl hi) K
 unfold pT at kp
 rw[isT_at]
 generalize bN l i=t at kp
 refine bB aY7 ?_
 by_cases h1:t.k=1
 .have h1':=aa h1
  by_cases h3:t.s=w
  .have h3':=aa h3
   simp only[↓zA,sevalprocAttr,av9,kp,pT,h1',h3',ct]
   try rfl
  .have h3':=aF h3
   simp only[↓zA,sevalprocAttr,av9,kp,pT,h1',h3',ct]
   try rfl
 .have h1':=aF h1
  by_cases h2:t.k=5
  .have h2':=aa h2
   by_cases h3:t.s=w
   .have h3':=aa h3
    simp only[↓zA,sevalprocAttr,av9,kp,pT,h1',h2',h3',ct]
    try rfl
   .have h3':=aF h3
    simp only[↓zA,sevalprocAttr,av9,kp,pT,h1',h2',h3',ct]
    try rfl
  .have h2':=aF h2
   simp only[↓zA,sevalprocAttr,av9,kp,pT,h1',h2']
   try rfl
def aVu:=ai (gu @Tryz.f78.eq_1 @zq @alm @acu @aaO @aaN @aaM) (gu @aaL @aaK @aaJ @P3 @Q3 @zT0 (kf aMF))
def acI(l:List Tn)(i:Nat)(e:Int)(w:List UInt8)(hl:l.length<LB)(hi:i<=l.length):aH Tryz.prog pr 78 [.ptr 0 0,.of (aG (aK w))] [pT l i e] ⟨false,[aM (isT l i w)],[pT l (if isT l i w=true then i+1 else i) e]⟩:=by
 have kp:=λK=>aH.k (alQ l i e w hl hi) K
 unfold pT at kp
 have hw:IntKind.i64.wrap ((i:Int)+1)=((i+1:Nat):Int):=fq i (by unfold LB at hl;omega)
 cases hc:isT l i w with
 | false =>
  rw[hc] at kp
  refine bB aMF ?_
  simp only[↓zA,sevalprocAttr,aVu,kp,pT]
  try rfl
 | true =>
  rw[hc] at kp
  refine bB aMF ?_
  simp only[↓zA,sevalprocAttr,aVu,kp,pT,hw]
  try rfl
def aR7:List.range 1=[0]:=rfl
def aR6:List.range 2=[0,1]:=rfl
def aaq(l:List Tn)(i:Nat)(e:Int):X:=if l.length<=i then .of (.ifc 114 (.agg [ci e,ci 3])) else .of (.ifc 114 (.agg [ci (bN l i).pl,ci 2]))
def aY2(σ:Nat->Option Nat)(ρ:Tk->Option Tk)(l:List Tn)(i:Nat)(e:Int):(aaq l i e).tr σ ρ=aaq l i e:=by
 unfold aaq;split <;> rfl
def aMy(l:List Tn)(i:Nat)(e:Int):(aaq l i e).refs=[]:=by
 unfold aaq;split <;> rfl
def aMx(l:List Tn)(i:Nat)(e:Int):(aaq l i e).toks=[]:=by
 unfold aaq;split <;> rfl
def zP:=gp @aY2 @aMy @aMx @aR7 @aR6
def aVw:=gj (gv @Tryz.f65.eq_1 @zq @ba8 @ba7 @aWN @acj @ab9 @acu) (gv @aaO @aaN @aaM @aaL @aaK @aaJ @an7 @alV) (gq @alU @acG @P3 @Q3 @zT0 (kf aMI))
def aeu(l:List Tn)(i:Nat)(e:Int)(hl:l.length<LB)(hi:i<=l.length):aH Tryz.prog pr 65 [.ptr 0 0] [pT l i e] ⟨true,[aaq l i e],[pT l i e]⟩:=by
 unfold aaq
 by_cases h:l.length<=i
 .have h1:((l.length:Int)<=(i:Int))=True:=aa aC
  rw[au h]
  refine bB aMI ?_
  simp only[↓zA,sevalprocAttr,aVw,pT,h1]
  try rfl
 .have h1:((l.length:Int)<=(i:Int))=False:=aF aC
  have h2:=ae3 (l:=l) (i:=i) aC
  rw[ar h]
  refine bB aMI ?_
  simp only[↓zA,sevalprocAttr,aVw,pT,h1,h2]
  try rfl
def aqZ(l:List Tn)(e:Int)(r:Nat×Bool):An:=if r.2=true then ⟨true,[aaq l r.1 e],[pT l r.1 e]⟩ else ⟨false,[],[pT l r.1 e]⟩
def ft{l:List Tn}{i:Nat}{w:List UInt8}(h:isT l i w=true):i<l.length:=by
 unfold isT at h
 rcases aA i l.length with g|g
 .exact g
 .rw[aX g] at h;cases h
def av8:=gz @Tryz.f79.eq_1 @zq @abO @akq @bQ @P9 @Q9 @zT0 (kf aY6)
def akU(l:List Tn)(i:Nat)(e:Int)(ws:List (List UInt8))(hl:l.length<LB)(hi:i<=l.length)(hn:ws.length<=64):aH Tryz.prog pr 79 [.ptr 0 0,.of (slC bU ws)] [pT l i e] (aqZ l e (dG l i ws)):=by
 refine bB aY6 ?_
 simp only[↓zA,sevalprocAttr,av8]
 refine abJ ws.length (λk s=>s.fr 0=.ptr 0 0/\s.fr 6=.of (slC bU ws)/\s.fr 7=aQ ws.length/\s.fr 8=aQ k/\∃ j,s.objs=[pT l j e]/\j<=l.length/\dG l i ws=dG l j (ws.drop k)) ?_ ?_
 .simp only[↓zA,sevalprocAttr,av8]
  exact⟨i,rfl,hi,by first|rfl|rw[abG]⟩
 rintro k ⟨frk,obk,ckk⟩ hk ⟨f0,f6,f7,f8,j,fo,hj,E⟩
 dsimp only at f0 f6 f7 f8 fo
 rcases aA k ws.length with dk|dk
 .have hw:=fq k aC
  have gx:=eX dk
  rw[co dk] at E
  simp only[dG] at E
  generalize ws[k]=x at *
  have kt:=λK=>aH.k (acI l j e x hl hj) K
  unfold pT at kt
  have kg:=λK=>aH.k (aeu l j e hl hj) K
  unfold pT at kg
  cases hc:isT l j x with
  | true =>
   have hj':=ft hc
   rw[hc] at kt E
   simp only[↓zA,sevalprocAttr,av8,f0,f6,f7,f8,fo,ba,dk,gx,hw,kt,pT]
   exact⟨j+1,rfl,hj',E⟩
  | false =>
   rw[hc] at kt E
   simp only[↓zA,sevalprocAttr,av8,f0,f6,f7,f8,fo,ba,dk,gx,kt,kg,pT,zP,aqZ,E]
   try rfl
 have e:k=ws.length:=by omega
 subst e
 rw[df] at E
 simp only[dG] at E
 simp only[↓zA,sevalprocAttr,av8,f7,f8,fo,ba,dE,aqZ,E]
 try rfl
abbrev pTq(l:List Tn)(i:Nat)(e:Int):Ob:=.var 112 [.of (slC tnC l),.of (ci i),.of (ci e),.own (.cell 0 3) 28 9 [] 0,.top 1 38 12,.own (.cell 0 5) 140 6 [] 0]
abbrev pTe(l:List Tn)(i:Nat)(e:Int):Ob:=.var 112 [.of (slC tnC l),.of (ci i),.of (ci e),.top 1 28 9,.own (.cell 0 4) 38 12 [] 0,.own (.cell 0 5) 140 6 [] 0]
abbrev pTf(l:List Tn)(i:Nat)(e:Int):Ob:=.var 112 [.of (slC tnC l),.of (ci i),.of (ci e),.own (.cell 0 3) 28 9 [] 0,.own (.cell 0 4) 38 12 [] 0,.top 1 140 6]
def awd:IntKind.i64.wrap 0=0:=by rw[eu _ aC aC]
def a5E:=@axN _ _ _ _ _ _ _ _ _ T25 T28
def a5C:=@axN _ _ _ _ _ _ _ _ _ T26 T38
def a5D:=@axN _ _ _ _ _ _ _ _ _ T35 aio
def a5r(ty:Nat)(q:Qy):amF tP 38 0 (some (.row ty (qyC q)))=some (.of (.agg (qyC q))):=by
 rw[adK,akW,abG,Q38];rfl
def a5t(ty:Nat)(q:Xp):amF tP 28 0 (some (.row ty (xpC q)))=some (.of (.agg (xpC q))):=by
 rw[eU,akW,abG,Q28];rfl
def a5s(ty:Nat)(q:Fm):amF tP 140 0 (some (.row ty (fmC q)))=some (.of (.agg (fmC q))):=by
 rw[adS,akW,abG,a1h];rfl
def a5w(ty:Nat)(q:Qy):aki (some (.row ty (qyC q)))=true:=by rw[adK];rfl
def a5y(ty:Nat)(q:Xp):aki (some (.row ty (xpC q)))=true:=by rw[eU];rfl
def a5x(ty:Nat)(q:Fm):aki (some (.row ty (fmC q)))=true:=by rw[adS];rfl
def a5p(ty:Nat)(q:Xp):ac5 (some (.row ty (xpC q)))=true:=by rw[eU];rfl
def aZ9:cn (aa5 (Value.agg #[Value.int IntKind.i64 0,Value.bool false,Value.slice none 0 0,Value.bool false,Value.slice none 0 0,Value.slice none 0 0,Value.slice none 0 0,Value.slice none 0 0,Value.slice none 0 0,Value.slice none 0 0,Value.int IntKind.i64 0,Value.int IntKind.i64 0]))=some [X.of (C.lit (Value.int IntKind.i64 0)),X.of (C.lit (Value.bool false)),X.of (C.sl [] 0),X.of (C.lit (Value.bool false)),X.of (C.sl [] 0),X.of (C.sl [] 0),X.of (C.sl [] 0),X.of (C.sl [] 0),X.of (C.sl [] 0),X.of (C.sl [] 0),X.of (C.lit (Value.int IntKind.i64 0)),X.of (C.lit (Value.int IntKind.i64 0))]:=rfl
def atd:cn (aa5 (Value.agg #[Value.int IntKind.i64 0,Value.int IntKind.i64 0,Value.int IntKind.i64 0,Value.string {data:=#[]},Value.string {data:=#[]},Value.string {data:=#[]},Value.bool false,Value.slice none 0 0,Value.slice none 0 0]))=some [X.of (C.lit (Value.int IntKind.i64 0)),X.of (C.lit (Value.int IntKind.i64 0)),X.of (C.lit (Value.int IntKind.i64 0)),X.of (C.lit (Value.string {data:=#[]})),X.of (C.lit (Value.string {data:=#[]})),X.of (C.lit (Value.string {data:=#[]})),X.of (C.lit (Value.bool false)),X.of (C.sl [] 0),X.of (C.sl [] 0)]:=rfl
def bbL:cn (aa5 (Value.agg #[Value.int IntKind.i64 0,Value.string {data:=#[]},Value.string {data:=#[]},Value.slice none 0 0,Value.slice none 0 0,Value.slice none 0 0]))=some [X.of (C.lit (Value.int IntKind.i64 0)),X.of (C.lit (Value.string {data:=#[]})),X.of (C.lit (Value.string {data:=#[]})),X.of (C.sl [] 0),X.of (C.sl [] 0),X.of (C.sl [] 0)]:=rfl
def aN8:=gj (gu @zq @a9v @a9u @abO @aqc @a9t @aeo) (gu @a7d @eo @acu @aaO @aaN @aaM @aaL) (gq @aaK @aaJ @fC @bQ @zT0 (kf aEu))
def aKU(l:List Tn)(i:Nat)(e:Int)(q:Qy):aH Tryz.prog pr 172 [.ptr 0 0] [pTq l i e,.row 38 (qyC q)] ⟨false,[.of (.agg (qyC q))],[pT l i e,.row 38 []]⟩:=by
 refine bB aEu ?_
 simp only[Tryz.f172,↓zA,sevalprocAttr,aN8,pT,pTq,awd,a5C,a5r,a5w,E26]
 try rfl
def aay{l:List Tn}{i:Nat}{k:Int}(h:bq l i k=true):i<l.length:=by
 unfold bq at h
 rcases aA i l.length with g|g
 .exact g
 .rw[aX g] at h;cases h
def bw{α:Type}(l:List Tn)(e:Int)(enc:α->X)(r:α×Nat×Bool)(d:List Ob):An:=⟨r.2.2,[if r.2.2=true then aaq l r.2.1 e else enc r.1],pT l r.2.1 e::d⟩
def a2u:=gp @zq @amX @ab9 @zT0 (kf aQh)
def amC(l:List Tn)(i:Nat)(e:Int)(hl:l.length<LB)(hi:i<=l.length):aH Tryz.prog pr 174 [.ptr 0 0] [pT l i e] ⟨false,[aM (bq l i 2)],[pT l i e]⟩:=by
 have kp:=λK=>aH.k (ajt l i e hl hi) K
 unfold pT at kp
 rw[fO l i 2 aI]
 generalize bN l i=t at kp
 refine bB aQh ?_
 simp only[Tryz.f174,↓zA,sevalprocAttr,a2u,kp,pT]
 try rfl
def aVs:=gj (gu @Tryz.f92.eq_1 @zq @aoY @akq @baI @ab9 @acu) (gu @aaO @aaN @aaM @aaL @aaK @aaJ @acG) (gq @P3 @Q3 @P9 @Q9 @zT0 (kf aMD))
def at0(l:List Tn)(i:Nat)(e:Int)(hl:l.length<LB)(hi:i<=l.length):aH Tryz.prog pr 92 [.ptr 0 0] [pT l i e] (bw l e (λs=>.of (aG (aK s))) (bT l i) []):=by
 have kp:=λK=>aH.k (amC l i e hl hi) K
 unfold pT at kp
 have kg:=λK=>aH.k (aeu l i e hl hi) K
 unfold pT at kg
 have hw:IntKind.i64.wrap ((i:Int)+1)=((i+1:Nat):Int):=fq i (by unfold LB at hl;omega)
 have hw2:IntKind.i64.wrap (((i+1:Nat):Int)-1)=(i:Int):=by
  unfold LB at hl
  rw[eu _ aC aC];omega
 unfold bT bw
 cases hc:bq l i 2 with
 | false =>
  rw[hc] at kp
  refine bB aMD ?_
  simp only[↓zA,sevalprocAttr,aVs,kp,kg,pT,zP]
  try rfl
 | true =>
  have gx:=ae3 (aay hc)
  have ht:txT l i=(bN l i).s:=by unfold txT;rw[amd (aay hc)]
  rw[hc] at kp
  refine bB aMD ?_
  simp only[↓zA,sevalprocAttr,aVs,kp,pT,hw,hw2,gx,ht]
  try rfl
def awa:=gv @Tryz.f75.eq_1 @zq @alm @bQ @P9 @Q9 @zT0 (kf aY8)
def aNz(l:List Tn)(i:Nat)(e:Int)(ws:List (List UInt8))(hl:l.length<LB)(hi:i<=l.length)(hn:ws.length<=64):aH Tryz.prog pr 75 [.ptr 0 0,.of (slC bU ws)] [pT l i e] ⟨false,[aM (ca l i ws)],[pT l i e]⟩:=by
 refine bB aY8 ?_
 simp only[↓zA,sevalprocAttr,awa]
 refine abJ ws.length (λk s=>s.fr 0=.ptr 0 0/\s.fr 7=.of (slC bU ws)/\s.fr 8=aQ ws.length/\s.fr 9=aQ k/\s.objs=[pT l i e]/\ca l i ws=ca l i (ws.drop k)) ?_ ?_
 .simp only[↓zA,sevalprocAttr,awa]
  try rfl
 rintro k ⟨frk,obk,ckk⟩ hk ⟨f0,f7,f8,f9,fo,E⟩
 dsimp only at f0 f7 f8 f9 fo
 rcases aA k ws.length with dk|dk
 .have hw:=fq k aC
  have gx:=eX dk
  rw[co dk] at E
  simp only[ca] at E
  generalize ws[k]=x at *
  have kt:=λK=>aH.k (alQ l i e x hl hi) K
  unfold pT at kt
  cases hc:isT l i x with
  | true =>
   rw[hc,eA] at E
   rw[hc] at kt
   simp only[↓zA,sevalprocAttr,awa,f0,f7,f8,f9,fo,ba,dk,gx,kt,pT,E]
   try rfl
  | false =>
   rw[hc,eG] at E
   rw[hc] at kt
   simp only[↓zA,sevalprocAttr,awa,f0,f7,f8,f9,fo,ba,dk,gx,hw,kt,pT]
   exact E
 have ek:k=ws.length:=by omega
 subst ek
 rw[df] at E
 simp only[ca] at E
 simp only[↓zA,sevalprocAttr,awa,f8,f9,fo,ba,dE,pT,E]
 try rfl
def avC(x:Tn):bi tP 3 (tnC x)=some (ci x.k)/\bi tP 3 (List.drop 3 (tnC x))=some (ci x.n):=by
 rw[bC]
 exact⟨Q3 _ _,Q3 _ _⟩
def aVt:=ai (gz @Tryz.f81.eq_1 @zq @amX @akq @baH @ab9 @acu @aaO @aaN) (gz @aaM @aaL @aaK @aaJ @acG @P3 @Q3 @zT0 (kf aME))
def ape(l:List Tn)(i:Nat)(e:Int)(hl:l.length<LB)(hi:i<=l.length):aH Tryz.prog pr 81 [.ptr 0 0] [pT l i e] (bw l e (λn=>aQ n) (if bq l i 3=true then (nuT l i,i+1,false) else (0,i,true)) []):=by
 have kp:=λK=>aH.k (ajt l i e hl hi) K
 have kg:=λK=>aH.k (aeu l i e hl hi) K
 unfold pT at kp kg
 have hw:IntKind.i64.wrap ((i:Int)+1)=((i+1:Nat):Int):=fq i (by unfold LB at hl;omega)
 have hw2:IntKind.i64.wrap (((i+1:Nat):Int)-1)=(i:Int):=by
  unfold LB at hl
  rw[eu _ aC aC];omega
 unfold bw
 rw[fO l i 3 aI]
 by_cases hc:(bN l i).k=3
 .have hlt:i<l.length:=by
   rcases aA i l.length with g|g
   .exact g
   .rw[ag8 g] at hc;cases hc
  have gx:=ae3 hlt
  have hc':=aa hc
  have ht:nuT l i=(bN l i).n:=by unfold nuT;rw[amd hlt]
  refine bB aME ?_
  simp only[↓zA,sevalprocAttr,aVt,kp,pT,hw,hw2,gx,ht,hc',avC]
  try rfl
 .have hc':=aF hc
  refine bB aME ?_
  simp only[↓zA,sevalprocAttr,aVt,kp,kg,pT,zP,hc',avC]
  try rfl
def rdo(tk:Tk)(e z n:Nat)(o:Option (List C)):(match o with|some cs=>out (X.own tk e z cs n)|none=>none)=bE (o.map λcs=>.own tk e z cs n):=by cases o <;> rfl
def aAi(tk:Tk)(a0 b0:X):bW tk 2 (Pe.elemOf tP 43) (some [(0,[a0]),(1,[b0])])=bE ((X.rds [a0,b0]).map λcs=>.own tk 9 1 cs 2):=by rw[E43];exact rdo tk _ _ _ _
def aAh(tk:Tk)(a0 b0 c0:X):bW tk 3 (Pe.elemOf tP 43) (some [(0,[a0]),(1,[b0]),(2,[c0])])=bE ((X.rds [a0,b0,c0]).map λcs=>.own tk 9 1 cs 3):=by rw[E43];exact rdo tk _ _ _ _
def aAg(tk:Tk)(a0 b0 c0 d0:X):bW tk 4 (Pe.elemOf tP 43) (some [(0,[a0]),(1,[b0]),(2,[c0]),(3,[d0])])=bE ((X.rds [a0,b0,c0,d0]).map λcs=>.own tk 9 1 cs 4):=by rw[E43];exact rdo tk _ _ _ _
def aAf(tk:Tk)(a0 b0 c0 d0 e0 f0:X):bW tk 6 (Pe.elemOf tP 43) (some [(0,[a0]),(1,[b0]),(2,[c0]),(3,[d0]),(4,[e0]),(5,[f0])])=bE ((X.rds [a0,b0,c0,d0,e0,f0]).map λcs=>.own tk 9 1 cs 6):=by rw[E43];exact rdo tk _ _ _ _
def aNp(tk:Tk)(a0 b0:X):bW tk 2 (Pe.elemOf tP 66) (some [(0,[a0]),(1,[b0])])=bE ((X.rds [a0,b0]).map λcs=>.own tk 3 1 cs 2):=by rw[E66];exact rdo tk _ _ _ _
def aNo(tk:Tk)(a0 b0 c0:X):bW tk 3 (Pe.elemOf tP 66) (some [(0,[a0]),(1,[b0]),(2,[c0])])=bE ((X.rds [a0,b0,c0]).map λcs=>.own tk 3 1 cs 3):=by rw[E66];exact rdo tk _ _ _ _
def aNn(tk:Tk)(a0 b0 c0 d0 e0 f0:X):bW tk 6 (Pe.elemOf tP 66) (some [(0,[a0]),(1,[b0]),(2,[c0]),(3,[d0]),(4,[e0]),(5,[f0])])=bE ((X.rds [a0,b0,c0,d0,e0,f0]).map λcs=>.own tk 3 1 cs 6):=by rw[E66];exact rdo tk _ _ _ _
def aur(tk:Tk)(a0 a1 a2 a3 a4 a5 a6 a7 a8 b0 b1 b2 b3 b4 b5 b6 b7 b8:X):bW tk 2 (Pe.elemOf tP 25) (some [(0,[a0,a1,a2,a3,a4,a5,a6,a7,a8]),(1,[b0,b1,b2,b3,b4,b5,b6,b7,b8])])=bE ((X.rds [a0,a1,a2,a3,a4,a5,a6,a7,a8,b0,b1,b2,b3,b4,b5,b6,b7,b8]).map λcs=>.own tk 28 9 cs 2):=by rw[E25];exact rdo tk _ _ _ _
def aIY(tk:Tk)(a0 a1 a2 a3 a4 a5 a6 a7 a8 b0 b1 b2 b3 b4 b5 b6 b7 b8 c0 c1 c2 c3 c4 c5 c6 c7 c8:X):bW tk 3 (Pe.elemOf tP 25) (some [(0,[a0,a1,a2,a3,a4,a5,a6,a7,a8]),(1,[b0,b1,b2,b3,b4,b5,b6,b7,b8]),(2,[c0,c1,c2,c3,c4,c5,c6,c7,c8])])=bE ((X.rds [a0,a1,a2,a3,a4,a5,a6,a7,a8,b0,b1,b2,b3,b4,b5,b6,b7,b8,c0,c1,c2,c3,c4,c5,c6,c7,c8]).map λcs=>.own tk 28 9 cs 3):=by rw[E25];exact rdo tk _ _ _ _
def aAj(tk:Tk)(a0 a1 a2 a3 a4 a5 a6 a7 a8 a9 a10 a11 b0 b1 b2 b3 b4 b5 b6 b7 b8 b9 b10 b11:X):bW tk 2 (Pe.elemOf tP 26) (some [(0,[a0,a1,a2,a3,a4,a5,a6,a7,a8,a9,a10,a11]),(1,[b0,b1,b2,b3,b4,b5,b6,b7,b8,b9,b10,b11])])=bE ((X.rds [a0,a1,a2,a3,a4,a5,a6,a7,a8,a9,a10,a11,b0,b1,b2,b3,b4,b5,b6,b7,b8,b9,b10,b11]).map λcs=>.own tk 38 12 cs 2):=by rw[E26];exact rdo tk _ _ _ _
def aIZ(tk:Tk)(a0 a1 a2 a3 a4 a5 b0 b1 b2 b3 b4 b5:X):bW tk 2 (Pe.elemOf tP 35) (some [(0,[a0,a1,a2,a3,a4,a5]),(1,[b0,b1,b2,b3,b4,b5])])=bE ((X.rds [a0,a1,a2,a3,a4,a5,b0,b1,b2,b3,b4,b5]).map λcs=>.own tk 140 6 cs 2):=by rw[E35];exact rdo tk _ _ _ _
def zBS:=ai (gq @aAi @aAh @aAg @aAf @aNp @aNo) (gp @aNn @aur @aIY @aAj @aIZ)
def aLq(op:Int)(v:V)(tb:List UInt8)(nm:List UInt8)(di:Bool)(ks:List Xp)(sb:List Qy):(Xp.mk op v tb nm di ks sb).op=op:=rfl
def aSU(op:Int)(v:V)(tb:List UInt8)(nm:List UInt8)(di:Bool)(ks:List Xp)(sb:List Qy):(Xp.mk op v tb nm di ks sb).v=v:=rfl
def aLo(op:Int)(v:V)(tb:List UInt8)(nm:List UInt8)(di:Bool)(ks:List Xp)(sb:List Qy):(Xp.mk op v tb nm di ks sb).tb=tb:=rfl
def aLr(op:Int)(v:V)(tb:List UInt8)(nm:List UInt8)(di:Bool)(ks:List Xp)(sb:List Qy):(Xp.mk op v tb nm di ks sb).nm=nm:=rfl
def aLt(op:Int)(v:V)(tb:List UInt8)(nm:List UInt8)(di:Bool)(ks:List Xp)(sb:List Qy):(Xp.mk op v tb nm di ks sb).di=di:=rfl
def aLs(op:Int)(v:V)(tb:List UInt8)(nm:List UInt8)(di:Bool)(ks:List Xp)(sb:List Qy):(Xp.mk op v tb nm di ks sb).ks=ks:=rfl
def aLp(op:Int)(v:V)(tb:List UInt8)(nm:List UInt8)(di:Bool)(ks:List Xp)(sb:List Qy):(Xp.mk op v tb nm di ks sb).sb=sb:=rfl
def aLw(op:Int)(al:Bool)(ks:List Qy)(di:Bool)(its:List Im)(fr:List Fm)(wh:List Xp)(gr:List Xp)(hv:List Xp)(od:List Od)(li:Int)(sk:Int):(Qy.mk op al ks di its fr wh gr hv od li sk).op=op:=rfl
def aLE(op:Int)(al:Bool)(ks:List Qy)(di:Bool)(its:List Im)(fr:List Fm)(wh:List Xp)(gr:List Xp)(hv:List Xp)(od:List Od)(li:Int)(sk:Int):(Qy.mk op al ks di its fr wh gr hv od li sk).al=al:=rfl
def aLz(op:Int)(al:Bool)(ks:List Qy)(di:Bool)(its:List Im)(fr:List Fm)(wh:List Xp)(gr:List Xp)(hv:List Xp)(od:List Od)(li:Int)(sk:Int):(Qy.mk op al ks di its fr wh gr hv od li sk).ks=ks:=rfl
def aLD(op:Int)(al:Bool)(ks:List Qy)(di:Bool)(its:List Im)(fr:List Fm)(wh:List Xp)(gr:List Xp)(hv:List Xp)(od:List Od)(li:Int)(sk:Int):(Qy.mk op al ks di its fr wh gr hv od li sk).di=di:=rfl
def aHt(op:Int)(al:Bool)(ks:List Qy)(di:Bool)(its:List Im)(fr:List Fm)(wh:List Xp)(gr:List Xp)(hv:List Xp)(od:List Od)(li:Int)(sk:Int):(Qy.mk op al ks di its fr wh gr hv od li sk).its=its:=rfl
def aLC(op:Int)(al:Bool)(ks:List Qy)(di:Bool)(its:List Im)(fr:List Fm)(wh:List Xp)(gr:List Xp)(hv:List Xp)(od:List Od)(li:Int)(sk:Int):(Qy.mk op al ks di its fr wh gr hv od li sk).fr=fr:=rfl
def aLu(op:Int)(al:Bool)(ks:List Qy)(di:Bool)(its:List Im)(fr:List Fm)(wh:List Xp)(gr:List Xp)(hv:List Xp)(od:List Od)(li:Int)(sk:Int):(Qy.mk op al ks di its fr wh gr hv od li sk).wh=wh:=rfl
def aLB(op:Int)(al:Bool)(ks:List Qy)(di:Bool)(its:List Im)(fr:List Fm)(wh:List Xp)(gr:List Xp)(hv:List Xp)(od:List Od)(li:Int)(sk:Int):(Qy.mk op al ks di its fr wh gr hv od li sk).gr=gr:=rfl
def aLA(op:Int)(al:Bool)(ks:List Qy)(di:Bool)(its:List Im)(fr:List Fm)(wh:List Xp)(gr:List Xp)(hv:List Xp)(od:List Od)(li:Int)(sk:Int):(Qy.mk op al ks di its fr wh gr hv od li sk).hv=hv:=rfl
def aLx(op:Int)(al:Bool)(ks:List Qy)(di:Bool)(its:List Im)(fr:List Fm)(wh:List Xp)(gr:List Xp)(hv:List Xp)(od:List Od)(li:Int)(sk:Int):(Qy.mk op al ks di its fr wh gr hv od li sk).od=od:=rfl
def aLy(op:Int)(al:Bool)(ks:List Qy)(di:Bool)(its:List Im)(fr:List Fm)(wh:List Xp)(gr:List Xp)(hv:List Xp)(od:List Od)(li:Int)(sk:Int):(Qy.mk op al ks di its fr wh gr hv od li sk).li=li:=rfl
def aLv(op:Int)(al:Bool)(ks:List Qy)(di:Bool)(its:List Im)(fr:List Fm)(wh:List Xp)(gr:List Xp)(hv:List Xp)(od:List Od)(li:Int)(sk:Int):(Qy.mk op al ks di its fr wh gr hv od li sk).sk=sk:=rfl
def aLG(st:Bool)(tb:List UInt8)(e:Xp)(az:List UInt8):(Im.mk st tb e az).st=st:=rfl
def aLF(st:Bool)(tb:List UInt8)(e:Xp)(az:List UInt8):(Im.mk st tb e az).tb=tb:=rfl
def aSV(st:Bool)(tb:List UInt8)(e:Xp)(az:List UInt8):(Im.mk st tb e az).e=e:=rfl
def aLH(st:Bool)(tb:List UInt8)(e:Xp)(az:List UInt8):(Im.mk st tb e az).az=az:=rfl
def aLN(kd:Int)(nm:List UInt8)(az:List UInt8)(sb:List Qy)(ks:List Fm)(on:List Xp):(Fm.mk kd nm az sb ks on).kd=kd:=rfl
def aLK(kd:Int)(nm:List UInt8)(az:List UInt8)(sb:List Qy)(ks:List Fm)(on:List Xp):(Fm.mk kd nm az sb ks on).nm=nm:=rfl
def aLO(kd:Int)(nm:List UInt8)(az:List UInt8)(sb:List Qy)(ks:List Fm)(on:List Xp):(Fm.mk kd nm az sb ks on).az=az:=rfl
def aLI(kd:Int)(nm:List UInt8)(az:List UInt8)(sb:List Qy)(ks:List Fm)(on:List Xp):(Fm.mk kd nm az sb ks on).sb=sb:=rfl
def aLM(kd:Int)(nm:List UInt8)(az:List UInt8)(sb:List Qy)(ks:List Fm)(on:List Xp):(Fm.mk kd nm az sb ks on).ks=ks:=rfl
def aLJ(kd:Int)(nm:List UInt8)(az:List UInt8)(sb:List Qy)(ks:List Fm)(on:List Xp):(Fm.mk kd nm az sb ks on).on=on:=rfl
def zMk:=gm (gv @aLq @aSU @aLo @aLr @aLt @aLs @aLp @aLw) (gv @aLE @aLz @aLD @aHt @aLC @aLu @aLB @aLA) (gv @aLx @aLy @aLv @aLG @aLF @aSV @aLH @aLN) (gp @aLK @aLO @aLI @aLM @aLJ)
end Go.Proofs.YtghkmcffifpkeaaGreat
namespace Go.Tab
open Pe
def dA{l:List Tn}{i:Nat}{w:List UInt8}(h:isT l i w=true):i+1<=l.length:=by
 unfold isT at h
 rcases aA i l.length with g|g
 .exact g
 .rw[aX g] at h;cases h
def fh{l:List Tn}{i:Nat}{k:Int}(h:bq l i k=true):i+1<=l.length:=by
 unfold bq at h
 rcases aA i l.length with g|g
 .exact g
 .rw[aX g] at h;cases h
theorem af5{l:List Tn}{i:Nat}:∀ {so:List (List UInt8×Int)} {o:Int},opT l i so=some o->i+1<=l.length
 | [],_,h=>by cases h
 | (w,p)::r,o,h=>by
  unfold opT at h
  split at h
  .rename_i c;exact dA c
  .exact af5 h
theorem aqg{l:List Tn}{i:Nat}:∀ {ws:List (List UInt8)},ca l i ws=true->i+1<=l.length
 | [],h=>by cases h
 | w::r,h=>by
  unfold ca at h
  rw[bk] at h
  rcases h with h|h
  .exact dA h
  .exact aqg h
def aEM{l:List Tn}{i:Nat}{v:V}(h:abe l i=some v):i+1<=l.length:=by
 unfold abe at h
 split at h
 .rename_i c;exact fh c
 split at h
 .rename_i c;exact fh c
 split at h
 .rename_i c;exact dA c
 split at h
 .rename_i c;exact dA c
 split at h
 .rename_i c;exact dA c
 .cases h
def Pl{α:Type}(l:List Tn)(i:Nat)(r:Rz α):Prop:=∀ a j b,r=some (a,j,b)->i<=j/\j<=l.length
section
variable {α β:Type} {l:List Tn} {i i' j:Nat} {r:Rz α} {g:α->β}
theorem Pl.at{r:α×Nat×Bool}{R:Rz α}(h:Pl l i R)(e:R=some r):i<=r.2.1/\r.2.1<=l.length:=h r.1 r.2.1 r.2.2 e
theorem Pl.nil:Pl l i (none:Rz α):=λ_ _ _ h=>by cases h
theorem Pl.so{a:α}{b:Bool}(h1:i<=j)(h2:j<=l.length):Pl l i (some (a,j,b)):=λ_ _ _ h=>by cases h;exact⟨h1,h2⟩
theorem Pl.on{f:α->Nat->Rz β}(h:Pl l i' r)(hi:i<=i')(hf:∀ a j,i'<=j->j<=l.length->Pl l i (f a j)):Pl l i (r.on g f):=by
 intro b j q e
 unfold Rz.on at e
 split at e
 .cases e
 .cases e;have:=h _ _ _ rfl;exact⟨by omega,this.2⟩
 .have:=h _ _ _ rfl;exact hf _ _ this.1 this.2 _ _ _ e
theorem Pl.to(h:Pl l i' r)(hi:i<=i'):Pl l i (r.to g):=by
 intro b j q e
 unfold Rz.to at e
 split at e
 .cases e
 .cases e;have:=h _ _ _ rfl;exact⟨by omega,this.2⟩
theorem Pl.wE{w:List UInt8}{x:α}(h1:i<=j)(h2:j<=l.length):Pl l i (wantE (bG l j w) x):=by
 unfold wantE bG
 split
 .rename_i c;have:=dA c;exact .so (by show i<=j+1;omega) this
 .exact .so h1 h2
theorem Pl.wR{w:List UInt8}{x:α}{f:Nat->Rz α}(h1:i<=j)(h2:j<=l.length)(hf:j+1<=l.length->Pl l i (f (j+1))):Pl l i (wantR (bG l j w) x f):=by
 unfold wantR bG
 cases c:isT l j w with
 | true=>exact hf (dA c)
 | false=>exact .so h1 h2
theorem atu:∀ (ws:List (List UInt8)) {j:Nat},j<=l.length->j<=(dG l j ws).1/\(dG l j ws).1<=l.length
 | [],j,h=>⟨ae _,h⟩
 | w::r,j,h=>by
  unfold dG
  split
  .rename_i c;have:=dA c;have:=atu r this;omega
  .exact⟨ae _,h⟩
theorem Pl.wsR{ws:List (List UInt8)}{x:α}{f:Nat->Rz α}(h1:i<=j)(h2:j<=l.length)(hf:∀ m,j<=m->m<=l.length->Pl l i (f m)):Pl l i (wantR (dG l j ws) x f):=by
 have h:=atu ws h2
 unfold wantR
 generalize dG l j ws=p at *
 obtain⟨m,b⟩:=p
 cases b with
 | true=>exact .so (by have:=h.1;dsimp only at this;omega) h.2
 | false=>exact hf m h.1 h.2
theorem Pl.nR{g:List UInt8->α}{f:List UInt8->Nat->Rz α}(h1:i<=j)(h2:j<=l.length)(hf:∀ s,j+1<=l.length->Pl l i (f s (j+1))):Pl l i (nameR (bT l j) g f):=by
 unfold nameR bT
 cases c:bq l j 2 with
 | true=>exact hf _ (fh c)
 | false=>exact .so h1 h2
theorem Pl.fT{w:List UInt8}{A B:Rz α}(h1:j+1<=l.length->Pl l i A)(h2:Pl l i B):Pl l i (if isT l j w=true then A else B):=by
 split
 .rename_i c;exact h1 (dA c)
 .exact h2
theorem Pl.fK{k:Int}{A B:Rz α}(h1:j+1<=l.length->Pl l i A)(h2:Pl l i B):Pl l i (if bq l j k=true then A else B):=by
 split
 .rename_i c;exact h1 (fh c)
 .exact h2
theorem Pl.fI{c:Prop}[Decidable c]{A B:Rz α}(h1:Pl l i A)(h2:Pl l i B):Pl l i (if c then A else B):=by
 split
 .exact h1
 .exact h2
theorem Pl.mono(h:Pl l i' r)(hi:i<=i'):Pl l i r:=λa j b e=>⟨by have:=h a j b e;omega,(h a j b e).2⟩
theorem agW(h:j<=l.length):j<=(bT l j).2.1/\(bT l j).2.1<=l.length:=by
 unfold bT
 split
 .rename_i c;have:=fh c;exact⟨by show j<=j+1;omega,this⟩
 .exact⟨ae _,h⟩
theorem ak7(h:j<=l.length):j<=(eF l j).2.1/\(eF l j).2.1<=l.length:=by
 unfold eF
 split
 .rename_i c;have:=agW (dA c);omega
 split
 .rename_i c;have:=fh c;exact⟨by show j<=j+1;omega,this⟩
 .exact⟨ae _,h⟩
end
structure FP (l:List Tn) (F:Fs):Prop where
 or:∀ {i p},i<=l.length->Pl l i (F.or i p)
 no:∀ {i},i<=l.length->Pl l i (F.no i)
 un:∀ {i},i<=l.length->Pl l i (F.un i)
 qy:∀ {i p},i<=l.length->Pl l i (F.qy i p)
 ins:∀ {i},i<=l.length->Pl l i (F.ins i)
 fr:∀ {i p},i<=l.length->Pl l i (F.fr i p)
 so:∀ {i},i<=l.length->Pl l i (F.so i)
section
variable {l:List Tn} {F:Fs}
theorem alD(H:FP l F){i:Nat}(hi:i+1<=l.length):Pl l i (aeh F l i):=by
 unfold aeh
 repeat' first
  | exact .so aC aC
  | exact .nil
  | exact .wE aC aC
  | exact .to (H.ins aC) aC
  | refine .on (H.ins aC) aC λ_ _ _ _=>?_
  | exact .mono (H.ins aC) aC
  | refine .fT (λ_=>?_) ?_
  | refine .fK (λ_=>?_) ?_
  | refine .fI ?_ ?_
theorem aic(H:FP l F):∀ (n:Nat) (ks:List Xp) {i:Nat},i<=l.length->Pl l i (acy F l n ks i):=by
 intro n
 induction n with
 | zero=>intro ks i hi _ _ _ h;cases h
 | succ n ih =>
 intro ks i hi
 unfold acy
 repeat' first
  | exact .so aC aC
  | exact .nil
  | exact .to (ih _ aC) aC
  | refine .on (ih _ aC) aC λ_ _ _ _=>?_
  | exact .mono (ih _ aC) aC
  | exact .to (H.or aC) aC
  | refine .on (H.or aC) aC λ_ _ _ _=>?_
  | exact .mono (H.or aC) aC
  | refine .fT (λ_=>?_) ?_
  | refine .fK (λ_=>?_) ?_
  | refine .fI ?_ ?_
theorem afE(H:FP l F){i:Nat}(hi:i<=l.length):Pl l i (aaE F l i):=by
 unfold aaE
 repeat' first
  | exact .so aC aC
  | exact .nil
  | exact .to (aic H _ _ aC) aC
  | refine .on (aic H _ _ aC) aC λ_ _ _ _=>?_
  | exact .mono (aic H _ _ aC) aC
  | exact .to (H.or aC) aC
  | refine .on (H.or aC) aC λ_ _ _ _=>?_
  | exact .mono (H.or aC) aC
  | refine .fT (λ_=>?_) ?_
  | refine .fK (λ_=>?_) ?_
  | refine .fI ?_ ?_
theorem aqe{ks:List Xp}{i:Nat}(hi:i<=l.length):Pl l i (afn l ks i):=by
 unfold afn
 repeat' first
  | exact .so aC aC
  | exact .nil
  | exact .wE aC aC
  | refine .fT (λ_=>?_) ?_
  | refine .fK (λ_=>?_) ?_
  | refine .fI ?_ ?_
theorem aqd(H:FP l F){ks:List Xp}{i:Nat}(hi:i<=l.length):Pl l i (agH F l ks i):=by
 unfold agH
 repeat' first
  | exact .so aC aC
  | exact .nil
  | exact .to (aqe aC) aC
  | refine .on (aqe aC) aC λ_ _ _ _=>?_
  | exact .mono (aqe aC) aC
  | exact .to (H.or aC) aC
  | refine .on (H.or aC) aC λ_ _ _ _=>?_
  | exact .mono (H.or aC) aC
  | refine .fT (λ_=>?_) ?_
  | refine .fK (λ_=>?_) ?_
  | refine .fI ?_ ?_
theorem ail(H:FP l F):∀ (n:Nat) (ks:List Xp) {i:Nat},i<=l.length->Pl l i (adW F l n ks i):=by
 intro n
 induction n with
 | zero=>intro ks i hi _ _ _ h;cases h
 | succ n ih =>
 intro ks i hi
 unfold adW
 repeat' first
  | exact .so aC aC
  | exact .nil
  | refine .wR aC aC λ_=>?_
  | exact .to (ih _ aC) aC
  | refine .on (ih _ aC) aC λ_ _ _ _=>?_
  | exact .mono (ih _ aC) aC
  | exact .to (aqd H aC) aC
  | refine .on (aqd H aC) aC λ_ _ _ _=>?_
  | exact .mono (aqd H aC) aC
  | exact .to (H.or aC) aC
  | refine .on (H.or aC) aC λ_ _ _ _=>?_
  | exact .mono (H.or aC) aC
  | refine .fT (λ_=>?_) ?_
  | refine .fK (λ_=>?_) ?_
  | refine .fI ?_ ?_
theorem aNc(H:FP l F){i:Nat}(hi:i<=l.length):Pl l i (afm F l i):=by
 unfold afm
 repeat' first
  | exact .so aC aC
  | exact .nil
  | exact .to (ail H _ _ aC) aC
  | refine .on (ail H _ _ aC) aC λ_ _ _ _=>?_
  | exact .mono (ail H _ _ aC) aC
  | refine .fT (λ_=>?_) ?_
  | refine .fK (λ_=>?_) ?_
  | refine .fI ?_ ?_
theorem aCb(H:FP l F){f:List UInt8}{di:Bool}{i:Nat}(hi:i<=l.length):Pl l i (akv F l i f di):=by
 unfold akv
 repeat' first
  | exact .so aC aC
  | exact .nil
  | exact .wE aC aC
  | exact .to (H.or aC) aC
  | refine .on (H.or aC) aC λ_ _ _ _=>?_
  | exact .mono (H.or aC) aC
  | refine .fT (λ_=>?_) ?_
  | refine .fK (λ_=>?_) ?_
  | refine .fI ?_ ?_
theorem ayv(H:FP l F){f:List UInt8}{i:Nat}(hi:i<=l.length):Pl l i (callS F l i f):=by
 unfold callS
 split
 .split
  .rename_i c
   rw[aj] at c
   have:=dA c.2
   exact .wE aC this
  .exact .fT (λh=>.mono (aCb H h) aC) (aCb H hi)
 .exact .fT (λ_=>.so aC aC) (.on (afE H hi) (ae _) λ_ _ _ _=>.wE aC aC)
theorem aIg(H:FP l F){i:Nat}(hi:i+1<=l.length):Pl l i (afP F l i):=by
 unfold afP
 repeat' first
  | exact .so aC aC
  | exact .nil
  | exact .wE aC aC
  | refine .wR aC aC λ_=>?_
  | exact .to (H.qy aC) aC
  | refine .on (H.qy aC) aC λ_ _ _ _=>?_
  | exact .mono (H.qy aC) aC
  | refine .fT (λ_=>?_) ?_
  | refine .fK (λ_=>?_) ?_
  | refine .fI ?_ ?_
theorem aw2(H:FP l F){i:Nat}(hi:i<=l.length):Pl l i (ac4 F l i):=by
 unfold ac4
 split
 .rename_i c;have:=aEM c;exact .so aC this
 refine .fT (λ_=>.to (alD H aC) aC) ?_
 refine .fT (λ_=>.mono (aNc H aC) aC) ?_
 refine .fT (λ_=>aIg H aC) ?_
 refine .fK (λ_=>?_) (.so aC aC)
 refine .fT (λ_=>.mono (ayv H aC) aC) ?_
 refine .fT (λ_=>?_) (.so aC aC)
 have:=agW (l:=l) (j:=i+2) aC
 exact .so aC this.2
theorem aoq(H:FP l F){i:Nat}{p:List Xp}(hi:i<=l.length):Pl l i (abz F l i p):=by
 unfold abz
 cases p with
 | cons x r=>exact .so (ae _) hi
 | nil=>exact .fT (λ_=>.to (H.un aC) aC) (aw2 H hi)
theorem aLZ{nx:Nat->List Xp->Rz Xp}(N:∀ {i},i<=l.length->Pl l i (nx i []))(so:List (List UInt8×Int)):∀ n a {i:Nat},i<=l.length->Pl l i (act nx l so n a i):=by
 intro n
 induction n with
 | zero=>intro a i hi _ _ _ h;cases h
 | succ n ih =>
 intro a i hi
 unfold act
 split
 .exact .so (ae _) hi
 .rename_i c
  exact .on (N (af5 c)) aC λ_ _ _ h=>.mono (ih _ h) aC
theorem alO{nx:Nat->List Xp->Rz Xp}(N:∀ {i p},i<=l.length->Pl l i (nx i p))(so:List (List UInt8×Int)){i:Nat}{p:List Xp}(hi:i<=l.length):Pl l i (acr nx l so i p):=by
 unfold acr
 exact .on (N hi) (ae _) λ_ _ h1 h2=>.mono (aLZ (λh=>N h) so _ _ h2) aC
theorem aBi(H:FP l F){i:Nat}{p:List Xp}(hi:i<=l.length):Pl l i (agX F l i p):=alO (λh=>aoq H h) _ hi
theorem aCc(H:FP l F){i:Nat}{p:List Xp}(hi:i<=l.length):Pl l i (ag6 F l i p):=alO (λh=>aBi H h) _ hi
theorem aep(H:FP l F){i:Nat}{p:List Xp}(hi:i<=l.length):Pl l i (aan F l i p):=alO (λh=>aCc H h) _ hi
theorem axH(H:FP l F)(a:Xp):∀ (n:Nat) (ks:List Xp) {i:Nat},i<=l.length->Pl l i (inL F l a n ks i):=by
 intro n
 induction n with
 | zero=>intro ks i hi _ _ _ h;cases h
 | succ n ih =>
 intro ks i hi
 unfold inL
 repeat' first
  | exact .so aC aC
  | exact .nil
  | exact .wE aC aC
  | exact .to (ih _ aC) aC
  | refine .on (ih _ aC) aC λ_ _ _ _=>?_
  | exact .mono (ih _ aC) aC
  | exact .to (H.or aC) aC
  | refine .on (H.or aC) aC λ_ _ _ _=>?_
  | exact .mono (H.or aC) aC
  | refine .fT (λ_=>?_) ?_
  | refine .fK (λ_=>?_) ?_
  | refine .fI ?_ ?_
theorem arl(H:FP l F){a:Xp}{i:Nat}(hi:i<=l.length):Pl l i (inS F l i a):=by
 unfold inS
 repeat' first
  | exact .so aC aC
  | exact .nil
  | exact .wE aC aC
  | refine .wR aC aC λ_=>?_
  | exact .to (axH H _ _ _ aC) aC
  | refine .on (axH H _ _ _ aC) aC λ_ _ _ _=>?_
  | exact .mono (axH H _ _ _ aC) aC
  | exact .to (H.ins aC) aC
  | refine .on (H.ins aC) aC λ_ _ _ _=>?_
  | exact .mono (H.ins aC) aC
  | refine .fT (λ_=>?_) ?_
  | refine .fK (λ_=>?_) ?_
  | refine .fI ?_ ?_
theorem axz(H:FP l F){no:Bool}{a:Xp}{i:Nat}(hi:i<=l.length):Pl l i (abx F l no i a):=by
 unfold abx
 repeat' first
  | exact .so aC aC
  | exact .nil
  | refine .wR aC aC λ_=>?_
  | exact .to (arl H aC) aC
  | refine .on (arl H aC) aC λ_ _ _ _=>?_
  | exact .mono (arl H aC) aC
  | exact .to (aep H aC) aC
  | refine .on (aep H aC) aC λ_ _ _ _=>?_
  | exact .mono (aep H aC) aC
  | refine .fT (λ_=>?_) ?_
  | refine .fK (λ_=>?_) ?_
  | refine .fI ?_ ?_
theorem aHU{no:Bool}{a:Xp}{i:Nat}(hi:i<=l.length):Pl l i (isS l no i a):=.wE (ae _) hi
theorem aBP(H:FP l F){i:Nat}{a:Xp}(hi:i<=l.length):Pl l i (abN F l i a):=by
 unfold abN
 split
 .rename_i c;have:=af5 c;exact .to (aep H this) aC
 refine .fT (λ_=>.fT (λ_=>.mono (aHU aC) aC) (.mono (aHU aC) aC)) ?_
 exact .fT (λ_=>.mono (axz H aC) aC) (axz H hi)
theorem aoH(H:FP l F){i:Nat}{p:List Xp}(hi:i<=l.length):Pl l i (ab6 F l i p):=by
 unfold ab6
 split
 .rename_i c
  rw[aj] at c
  have:=dA c.2
  exact .to (H.no this) aC
 .exact .on (aep H hi) (ae _) λ_ _ _ h=>.mono (aBP H h) aC
theorem aCa(H:FP l F){i:Nat}{p:List Xp}(hi:i<=l.length):Pl l i (ain F l i p):=alO (λh=>aoH H h) _ hi
theorem aWP(H:FP l F){i:Nat}{p:List Xp}(hi:i<=l.length):Pl l i (orS F l i p):=alO (λh=>aCa H h) _ hi
theorem aBy(H:FP l F){i:Nat}(hi:i<=l.length):Pl l i (ag2 F l i):=by
 unfold ag2
 repeat' first
  | exact .so aC aC
  | exact .nil
  | exact .to (alD H aC) aC
  | refine .on (alD H aC) aC λ_ _ _ _=>?_
  | exact .mono (alD H aC) aC
  | exact .to (H.or aC) aC
  | refine .on (H.or aC) aC λ_ _ _ _=>?_
  | exact .mono (H.or aC) aC
  | exact .to (H.qy aC) aC
  | refine .on (H.qy aC) aC λ_ _ _ _=>?_
  | exact .mono (H.qy aC) aC
  | refine .fT (λ_=>?_) ?_
  | refine .fK (λ_=>?_) ?_
  | refine .fI ?_ ?_
theorem akh(H:FP l F){i:Nat}(hi:i<=l.length):Pl l i (adP F l i):=by
 unfold adP
 refine .fT (λ_=>.so aC aC) ?_
 split
 .rename_i c
  rw[aj,aj] at c
  have:=dA c.2.2
  exact .so aC aC
 refine .on (H.or hi) (ae _) λ_ j h1 h2=>?_
 have:=ak7 h2
 exact .so aC this.2
theorem acD(H:FP l F){w:List UInt8}{i:Nat}(hi:i<=l.length):Pl l i (aav F l i w):=by
 unfold aav
 repeat' first
  | exact .so aC aC
  | exact .nil
  | exact .to (H.or aC) aC
  | refine .on (H.or aC) aC λ_ _ _ _=>?_
  | exact .mono (H.or aC) aC
  | refine .fT (λ_=>?_) ?_
  | refine .fK (λ_=>?_) ?_
  | refine .fI ?_ ?_
theorem asr(H:FP l F){di:Bool}{its:List Im}{fr:List Fm}{wh gr:List Xp}{i:Nat}(hi:i<=l.length):Pl l i (ahw F l di its fr wh gr i):=by
 unfold ahw
 repeat' first
  | exact .so aC aC
  | exact .nil
  | exact .to (acD H aC) aC
  | refine .on (acD H aC) aC λ_ _ _ _=>?_
  | exact .mono (acD H aC) aC
  | refine .fT (λ_=>?_) ?_
  | refine .fK (λ_=>?_) ?_
  | refine .fI ?_ ?_
theorem ass(H:FP l F){di:Bool}{its:List Im}{fr:List Fm}{wh:List Xp}{i:Nat}(hi:i<=l.length):Pl l i (ahx F l di its fr wh i):=by
 unfold ahx
 repeat' first
  | exact .so aC aC
  | exact .nil
  | refine .wR aC aC λ_=>?_
  | exact .to (asr H aC) aC
  | refine .on (asr H aC) aC λ_ _ _ _=>?_
  | exact .mono (asr H aC) aC
  | exact .to (afE H aC) aC
  | refine .on (afE H aC) aC λ_ _ _ _=>?_
  | exact .mono (afE H aC) aC
  | refine .fT (λ_=>?_) ?_
  | refine .fK (λ_=>?_) ?_
  | refine .fI ?_ ?_
theorem aso(H:FP l F){di:Bool}{its:List Im}{fr:List Fm}{i:Nat}(hi:i<=l.length):Pl l i (ahu F l di its fr i):=by
 unfold ahu
 repeat' first
  | exact .so aC aC
  | exact .nil
  | exact .to (ass H aC) aC
  | refine .on (ass H aC) aC λ_ _ _ _=>?_
  | exact .mono (ass H aC) aC
  | exact .to (acD H aC) aC
  | refine .on (acD H aC) aC λ_ _ _ _=>?_
  | exact .mono (acD H aC) aC
  | refine .fT (λ_=>?_) ?_
  | refine .fK (λ_=>?_) ?_
  | refine .fI ?_ ?_
theorem asv(H:FP l F){di:Bool}{its:List Im}{i:Nat}(hi:i<=l.length):Pl l i (agT F l di its i):=by
 unfold agT
 repeat' first
  | exact .so aC aC
  | exact .nil
  | exact .to (aso H aC) aC
  | refine .on (aso H aC) aC λ_ _ _ _=>?_
  | exact .mono (aso H aC) aC
  | exact .to (H.fr aC) aC
  | refine .on (H.fr aC) aC λ_ _ _ _=>?_
  | exact .mono (H.fr aC) aC
  | refine .fT (λ_=>?_) ?_
  | refine .fK (λ_=>?_) ?_
  | refine .fI ?_ ?_
theorem asq(H:FP l F)(di:Bool):∀ (n:Nat) (its:List Im) {i:Nat},i<=l.length->Pl l i (afx F l di n its i):=by
 intro n
 induction n with
 | zero=>intro its i hi _ _ _ h;cases h
 | succ n ih =>
 intro its i hi
 unfold afx
 repeat' first
  | exact .so aC aC
  | exact .nil
  | exact .to (ih _ aC) aC
  | refine .on (ih _ aC) aC λ_ _ _ _=>?_
  | exact .mono (ih _ aC) aC
  | exact .to (asv H aC) aC
  | refine .on (asv H aC) aC λ_ _ _ _=>?_
  | exact .mono (asv H aC) aC
  | exact .to (akh H aC) aC
  | refine .on (akh H aC) aC λ_ _ _ _=>?_
  | exact .mono (akh H aC) aC
  | refine .fT (λ_=>?_) ?_
  | refine .fK (λ_=>?_) ?_
  | refine .fI ?_ ?_
theorem aA7(H:FP l F){i:Nat}(hi:i<=l.length):Pl l i (ai3 F l i):=by
 unfold ai3
 repeat' first
  | exact .so aC aC
  | exact .nil
  | exact .to (asq H _ _ _ aC) aC
  | refine .on (asq H _ _ _ aC) aC λ_ _ _ _=>?_
  | exact .mono (asq H _ _ _ aC) aC
  | refine .fT (λ_=>?_) ?_
  | refine .fK (λ_=>?_) ?_
  | refine .fI ?_ ?_
theorem apO(H:FP l F){i:Nat}{p:List Qy}(hi:i<=l.length):Pl l i (acd F l i p):=by
 unfold acd
 cases p with
 | cons x r=>exact .so (ae _) hi
 | nil=>exact .fT (λ_=>.on (H.qy aC) aC λ_ _ _ _=>.wE aC aC) (.wR aC aC λ_=>.mono (aA7 H aC) aC)
theorem aJ1{nx:Nat->List Qy->Rz Qy}(N:∀ {i},i<=l.length->Pl l i (nx i []))(so:List (List UInt8×Int)):∀ n a {i:Nat},i<=l.length->Pl l i (acU nx l so n a i):=by
 intro n
 induction n with
 | zero=>intro a i hi _ _ _ h;cases h
 | succ n ih =>
 intro a i hi
 unfold acU
 split
 .exact .so (ae _) hi
 .rename_i c
  have h1:=af5 c
  have h2:i<=(if isT l (i+1) [97,108,108]=true then i+2 else i+1)/\(if isT l (i+1) [97,108,108]=true then i+2 else i+1)<=l.length:=by
   split
   .rename_i c2;have:=dA c2;omega
   .omega
  exact .on (N h2.2) h2.1 λ_ _ _ h=>.mono (ih _ h) aC
theorem aA6{nx:Nat->List Qy->Rz Qy}(N:∀ {i p},i<=l.length->Pl l i (nx i p))(so:List (List UInt8×Int)){i:Nat}{p:List Qy}(hi:i<=l.length):Pl l i (ahs nx l so i p):=by
 unfold ahs
 exact .on (N hi) (ae _) λ_ _ h1 h2=>.mono (aJ1 (λh=>N h) so _ _ h2) aC
theorem akZ(H:FP l F){i:Nat}{p:List Qy}(hi:i<=l.length):Pl l i (aam F l i p):=aA6 (λh=>apO H h) _ hi
theorem atx(H:FP l F){i:Nat}{p:List Qy}(hi:i<=l.length):Pl l i (ahq F l i p):=aA6 (λh=>akZ H h) _ hi
theorem a0F:∀ (n:Nat) (os:List Od) {i:Nat},i<=l.length->Pl l i (byL l n os i):=by
 intro n
 induction n with
 | zero=>intro os i hi _ _ _ h;cases h
 | succ n ih =>
 intro os i hi
 unfold byL
 split
 .rename_i c
  have h1:i+1<=l.length:=by
   rw[bk,aj] at c
   rcases c with c|c
   .exact fh c
   .exact fh c.1
  have h2:i<=(if ca l (i+1) [[97,115,99],[100,101,115,99]]=true then i+2 else i+1)/\(if ca l (i+1) [[97,115,99],[100,101,115,99]]=true then i+2 else i+1)<=l.length:=by
   split
   .rename_i c2;have:=aqg c2;omega
   .omega
  dsimp only
  exact .fT (λh=>.mono (ih _ h) aC) (.so h2.1 h2.2)
 .exact .so (ae _) hi
theorem aB0{i:Nat}(hi:i<=l.length):Pl l i (ajg l i):=.wR (ae _) hi λh=>.mono (a0F _ _ h) aC
theorem asK{q:Qy}{od:List Od}{li:Int}{i:Nat}(hi:i<=l.length):Pl l i (afB l q od li i):=by
 unfold afB
 repeat' first
  | exact .so aC aC
  | exact .nil
  | refine .fT (λ_=>?_) ?_
  | refine .fK (λ_=>?_) ?_
  | refine .fI ?_ ?_
theorem aBp{q:Qy}{od:List Od}{i:Nat}(hi:i<=l.length):Pl l i (ad2 l q od i):=by
 unfold ad2
 repeat' first
  | exact .so aC aC
  | exact .nil
  | exact .to (asK aC) aC
  | refine .on (asK aC) aC λ_ _ _ _=>?_
  | exact .mono (asK aC) aC
  | refine .fT (λ_=>?_) ?_
  | refine .fK (λ_=>?_) ?_
  | refine .fI ?_ ?_
theorem anz(H:FP l F){i:Nat}{p:List Qy}(hi:i<=l.length):Pl l i (aeg F l i p):=by
 unfold aeg
 refine .on (atx H hi) (ae _) λ_ j h1 h2=>.fI (.so h1 h2) ?_
 exact .fT (λh=>.on (aB0 h) aC λ_ _ _ h=>.mono (aBp h) aC) (.mono (aBp h2) h1)
theorem ajG{i:Nat}{q:Qy}(hi:i<=l.length):Pl l i (abp l i q):=by
 unfold abp
 have h:=ak7 hi
 generalize eF l i=p at *
 obtain⟨s,j,b⟩:=p
 dsimp only at h ⊢
 exact .fI (.so h.1 h.2) (.so h.1 h.2)
theorem amZ(H:FP l F){i:Nat}(hi:i+1<=l.length):Pl l i (agf F l i):=.on (H.so hi) aC λ_ _ _ _=>.wE aC aC
theorem alv(H:FP l F){i:Nat}(hi:i<=l.length):Pl l i (adB F l i):=by
 unfold adB
 refine .fT (λh=>.on (amZ H h) (ae _) λ_ _ _ h=>.fI (.mono (ajG h) aC) (.so aC aC)) ?_
 refine .nR (ae _) hi λs h=>?_
 have:=ak7 h
 exact .so aC this.2
theorem axD(H:FP l F):∀ (n:Nat) (a:Fm) {i:Nat},i<=l.length->Pl l i (acf F l n a i):=by
 intro n
 induction n with
 | zero=>intro a i hi _ _ _ h;cases h
 | succ n ih =>
 intro a i hi
 unfold acf
 split
 .exact .so (ae _) hi
 .refine .wsR (ae _) hi λm h1 h2=>?_
  refine .on (alv H h2) h1 λ_ p h3 h4=>?_
  refine .fI (.mono (ih _ h4) aC) ?_
  exact .fT (λh=>.on (H.or h) aC λ_ _ _ h=>.mono (ih _ h) aC) (.so aC h4)
theorem aie(H:FP l F){i:Nat}{p:List Fm}(hi:i<=l.length):Pl l i (adx F l i p):=by
 unfold adx
 cases p with
 | cons x r=>exact axD H _ _ hi
 | nil=>exact .on (alv H hi) (ae _) λ_ _ _ h=>.mono (axD H _ _ h) aC
theorem aMu(H:FP l F):∀ (n:Nat) (a:Fm) {i:Nat},i<=l.length->Pl l i (adR F l n a i):=by
 intro n
 induction n with
 | zero=>intro a i hi _ _ _ h;cases h
 | succ n ih =>
 intro a i hi
 unfold adR
 exact .fT (λh=>.on (aie H h) aC λ_ _ _ h=>.mono (ih _ h) aC) (.so (ae _) hi)
theorem ap5(H:FP l F){i:Nat}{p:List Fm}(hi:i<=l.length):Pl l i (agF F l i p):=.on (aie H hi) (ae _) λ_ _ _ h=>.mono (aMu H _ _ h) aC
theorem amj(H:FP l F){i:Nat}(hi:i<=l.length):Pl l i (acO F l i):=by
 unfold acO
 refine .fT (λ_=>.to (H.qy hi) (ae _)) ?_
 refine .fT (λh=>.on (amZ H h) (ae _) λ_ _ _ h=>?_) (.to (H.fr hi) (ae _))
 refine .fI (.so aC h) (.fI (.to (H.qy h) aC) (.fI (.on (ajG h) aC λ_ _ _ h=>.to (H.fr h) aC) (.to (H.fr h) aC)))
end
def aCe{l:List Tn}{F:Fs}(H:FP l F):FP l (akO l F) where
 or h:=aWP H h
 un h:=aoq (p:=[]) H h
 no h:=aoH (p:=[]) H h
 qy h:=anz H h
 ins h:=aBy H h
 fr h:=ap5 H h
 so h:=amj H h
def aCf(l:List Tn):FP l aoI where
 or _:=.nil
 no _:=.nil
 un _:=.nil
 qy _:=.nil
 ins _:=.nil
 fr _:=.nil
 so _:=.nil
def ahC(l:List Tn):Nat->List (List UInt8)->Nat->Rz (List (List UInt8))
 | 0,_,_=>none
 | n+1,o,i=>if bq l i 2 then (if isT l (i+1) [44] then ahC l n (o++[txT l i]) (i+2) else wantE (bG l (i+1) [41]) (o++[txT l i])) else some ([],i,true)
def acg(l:List Tn)(i:Nat):Rz (List (List UInt8)):=wantR (bG l i [40]) [] λj=>ahC l (l.length+1) [] j
def awt(l:List Tn)(i:Nat):Option Int:=opT l i [([105,110,116],2),([116,101,120,116],3),([98,111,111,108],1)]
def ajf(l:List Tn)(i:Nat):Rz Cd:=nameR (bT l i) (λs=>⟨s,0,false⟩) λs j=>match awt l j with
 | none=>some (⟨s,0,false⟩,j,true)
 | some k=>if isT l (j+1) [110,111,116] then wantE (bG l (j+2) [110,117,108,108]) ⟨s,k,true⟩ else some (⟨s,k,false⟩,j+1,false)
def r0:Rd:=⟨[],[],[]⟩
def awW(l:List Tn)(i:Nat):Rz Rd:=wantR (bG l i [107,101,121]) r0 λj=>(acg l j).on (λ_=>r0) λf j=>wantR (bG l j [114,101,102,101,114,101,110,99,101,115]) r0 λj =>
 nameR (bT l j) (λ_=>r0) λt j=>match acg l j with
  | none=>none
  | some (o,m,true)=>some (⟨f,t,o⟩,m,true)
  | some (o,m,false)=>some (⟨f,t,o⟩,m,false)
structure Cr where
 cs:List Cd
 ks:List Kd
 rs:List Rd
 xs:List Xp
def Cr.sm(c:Cr)(t:List UInt8):Sm:=.mk 1 t [] c.cs [] false c.ks c.rs c.xs [] [] [] []
def elS(F:Fs)(l:List Tn)(i:Nat)(s:Cr):Rz Cr :=
 if bq l i 2||decide (s.cs=[]) then (ajf l i).to λc=>{s with cs:=s.cs++[c]}
 else if isT l i [112,114,105,109,97,114,121] then wantR (bG l (i+1) [107,101,121]) s λj=>(acg l j).to λn=>{s with ks:=s.ks++[⟨true,n⟩]}
 else if isT l i [117,110,105,113,117,101] then (acg l (i+1)).to λn=>{s with ks:=s.ks++[⟨false,n⟩]}
 else if isT l i [102,111,114,101,105,103,110] then (awW l (i+1)).to λr=>{s with rs:=s.rs++[r]}
 else if isT l i [99,104,101,99,107] then wantR (bG l (i+1) [40]) s λj=>(F.or j []).on (λx=>{s with xs:=s.xs++[x]}) λx m=>wantE (bG l m [41]) {s with xs:=s.xs++[x]}
 else some (s,i,true)
def elL(F:Fs)(l:List Tn):Nat->Cr->Nat->Rz Cr
 | 0,_,_=>none
 | n+1,s,i=>(elS F l i s).on id λs j=>if isT l j [44] then elL F l n s (j+1) else wantE (bG l j [41]) s
def smK(k:Int)(t n:List UInt8)(ns:List (List UInt8))(un:Bool):Sm:=.mk k t n [] ns un [] [] [] [] [] [] []
def anQ(l:List Tn)(un:Bool)(i:Nat):Rz Sm:=wantR (bG l i [105,110,100,101,120]) (smK 2 [] [] [] un) λj=>nameR (bT l j) (λ_=>smK 2 [] [] [] un) λn j =>
 wantR (bG l j [111,110]) (smK 2 [] [] [] un) λj=>nameR (bT l j) (λ_=>smK 2 [] [] [] un) λt j=>(acg l j).to λo=>smK 2 t n o un
def c0:Cr:=⟨[],[],[],[]⟩
def age(F:Fs)(l:List Tn)(i:Nat):Rz Sm :=
 if isT l i [116,97,98,108,101] then nameR (bT l (i+1)) (λt=>c0.sm t) λt j=>wantR (bG l j [40]) (c0.sm t) λj=>(elL F l (l.length+1) c0 j).to λc=>c.sm t
 else if isT l i [117,110,105,113,117,101] then anQ l true (i+1) else anQ l false i
def aoW(l:List Tn)(i:Nat):Rz Sm :=
 if isT l i [116,97,98,108,101] then some (smK 3 (bT l (i+1)).1 [] [] false,(bT l (i+1)).2.1,(bT l (i+1)).2.2)
 else if isT l i [105,110,100,101,120] then some (smK 3 [] (bT l (i+1)).1 [] false,(bT l (i+1)).2.1,(bT l (i+1)).2.2)
 else some (smK 3 [] [] [] false,i,true)
def afc(t:List UInt8)(ns:List (List UInt8))(rw:List (List Xp))(q:List Qy):Sm:=.mk 4 t [] [] ns false [] [] [] rw [] [] q
def aj1(F:Fs)(l:List Tn)(t:List UInt8)(ns:List (List UInt8)):Nat->List (List Xp)->Nat->Rz Sm
 | 0,_,_=>none
 | n+1,rw,i=>wantR (bG l (i+1) [40]) (afc t ns rw []) λj=>(aaE F l j).on (λ_=>afc t ns rw []) λr j=>wantR (bG l j [41]) (afc t ns rw []) λj =>
  if isT l j [44] then aj1 F l t ns n (rw++[r]) j else some (afc t ns (rw++[r]) [],j,false)
def ajb(F:Fs)(l:List Tn)(t:List UInt8)(ns:List (List UInt8))(i:Nat):Rz Sm :=
 if isT l i [118,97,108,117,101,115] then aj1 F l t ns (l.length+1) [] i else (F.qy i []).to λq=>afc t ns [] [q]
def adH(F:Fs)(l:List Tn)(i:Nat):Rz Sm:=wantR (bG l i [105,110,116,111]) (afc [] [] [] []) λj=>nameR (bT l j) (λ_=>afc [] [] [] []) λt j =>
 if isT l j [40]&&bq l (j+1) 2 then (acg l j).on (λ_=>afc t [] [] []) λn m=>ajb F l t n m else ajb F l t [] j
def agQ(t:List UInt8)(ss:List As)(w:List Xp):Sm:=.mk 5 t [] [] [] false [] [] [] [] ss w []
def an6(F:Fs)(l:List Tn)(t:List UInt8):Nat->List As->Nat->Rz Sm
 | 0,_,_=>none
 | n+1,ss,i=>nameR (bT l i) (λ_=>agQ t ss []) λc j=>wantR (bG l j [61]) (agQ t ss []) λj=>(F.or j []).on (λ_=>agQ t ss []) λx j =>
  if isT l j [44] then an6 F l t n (ss++[⟨c,x⟩]) (j+1) else (aav F l j [119,104,101,114,101]).to λw=>agQ t (ss++[⟨c,x⟩]) w
def ahW(F:Fs)(l:List Tn)(i:Nat):Rz Sm:=nameR (bT l i) (λ_=>agQ [] [] []) λt j=>wantR (bG l j [115,101,116]) (agQ t [] []) λj=>an6 F l t (l.length+1) [] j
def s0:Sm:=smK 0 [] [] [] false
def aEH(F:Fs)(l:List Tn)(i:Nat):Rz Sm:=wantR (bG l i [102,114,111,109]) s0 λj=>nameR (bT l j) (λ_=>s0) λt j =>
 (aav F l j [119,104,101,114,101]).to λw=>.mk 6 t [] [] [] false [] [] [] [] [] w []
def quX(k:Int)(q:Qy):Sm:=.mk k [] [] [] [] false [] [] [] [] [] [] [q]
def ag1:List (List UInt8×Int):=[([98,101,103,105,110],8),([99,111,109,109,105,116],9),([114,111,108,108,98,97,99,107],10),([97,110,97,108,121,122,101],12),([118,97,99,117,117,109],13),([99,104,101,99,107,112,111,105,110,116],14)]
def aea(F:Fs)(l:List Tn)(i:Nat):Rz Sm:=match opT l i ag1 with
 | some k=>some (smK k [] [] [] false,i+1,false)
 | none =>
  if isT l i [99,114,101,97,116,101] then age F l (i+1)
  else if isT l i [100,114,111,112] then aoW l (i+1)
  else if isT l i [105,110,115,101,114,116] then adH F l (i+1)
  else if isT l i [117,112,100,97,116,101] then ahW F l (i+1)
  else if isT l i [100,101,108,101,116,101] then aEH F l (i+1)
  else if isT l i [101,120,112,108,97,105,110] then (F.qy (i+1) []).to (quX 11)
  else (F.qy i []).to (quX 7)
def adF(F:Fs)(l:List Tn):Nat->List (Sm×Nat)->Nat->Rz (List (Sm×Nat))
 | 0,_,_=>none
 | n+1,o,i=>if i<l.length then (aea F l i).on (λ_=>[]) λx j=>wantR (bG l j [59]) [] λj=>adF F l n (o++[(x,i)]) j else some (o,i,false)
end Go.Tab
namespace Go.Proofs.YtghkmcffifpkeaaGreat
open Pe Tab
def aiT{l:List Tn}{i:Nat}{w:List UInt8}(c:isT l i w=true)(v:List UInt8)(h:v≠w):isT l i v=false:=by
 rw[isT_at] at c ⊢
 rw[aj,aV] at c
 rw[c.2,bd (bo h),cj]
def ard{l:List Tn}{i:Nat}{w:List UInt8}(c:isT l i w=true)(k:Int)(h0:k≠0)(h1:k≠1)(h5:k≠5):bq l i k=false:=by
 rw[isT_at] at c
 rw[fO l i k h0]
 rw[aj,bk,aV,aV] at c
 refine bd λh=>?_
 rw[h] at c
 rcases c.1 with c|c
 .exact h1 c
 .exact h5 c
def aL6{l:List Tn}{i:Nat}{k:Int}(h0:k≠0)(h1:k≠1)(h5:k≠5)(c:bq l i k=true)(w:List UInt8):isT l i w=false:=by
 cases e:isT l i w with
 | false=>rfl
 | true=>rw[ard e k h0 h1 h5] at c;cases c
def aL7{l:List Tn}{i:Nat}{k:Int}(h0:k≠0)(c:bq l i k=true)(k':Int)(h0':k'≠0)(h:k'≠k):bq l i k'=false:=by
 rw[fO l i k h0,aV] at c
 rw[fO l i k' h0',c]
 exact bd λe=>h e.symm
def wT(l:List Tn)(i:Nat)(e:Int)(w:List UInt8)(hl:l.length<LB)(c:isT l i w=true) :
  (∀ K,cKp 78 [.ptr 0 0,.of (.lit (.string (ByteArray.mk (List.toArray w))))] [pT l i e] K↔K ⟨false,[aM true],[pT l (i+1) e]⟩) /\
  (∀ K,cKp 76 [.ptr 0 0,.of (.lit (.string (ByteArray.mk (List.toArray w))))] [pT l i e] K↔K ⟨false,[aM true],[pT l i e]⟩) /\
  (∀ K,cKp 79 [.ptr 0 0,.of (.sl [.lit (.string (ByteArray.mk (List.toArray w)))] 1)] [pT l i e] K↔K ⟨false,[],[pT l (i+1) e]⟩):=by
 have hi:=aax (ft c)
 refine⟨λK=>?_,λK=>?_,λK=>?_⟩
 .have:=aH.k (acI l i e w hl hi) K
  rw[c,au rfl] at this
  exact this
 .have:=aH.k (alQ l i e w hl hi) K
  rw[c] at this
  exact this
 .have:=aH.k (akU l i e [w] hl hi (by show 1<=64;decide)) K
  simp only[dG,c,am,aqZ,ah,av] at this
  exact this
def wF(l:List Tn)(i:Nat)(e:Int)(w:List UInt8)(hl:l.length<LB)(hi:i<=l.length)(c:isT l i w=false) :
  (∀ K,cKp 78 [.ptr 0 0,.of (.lit (.string (ByteArray.mk (List.toArray w))))] [pT l i e] K↔K ⟨false,[aM false],[pT l i e]⟩) /\
  (∀ K,cKp 76 [.ptr 0 0,.of (.lit (.string (ByteArray.mk (List.toArray w))))] [pT l i e] K↔K ⟨false,[aM false],[pT l i e]⟩) /\
  (∀ K,cKp 79 [.ptr 0 0,.of (.sl [.lit (.string (ByteArray.mk (List.toArray w)))] 1)] [pT l i e] K↔K ⟨true,[aaq l i e],[pT l i e]⟩):=by
 refine⟨λK=>?_,λK=>?_,λK=>?_⟩
 .have:=aH.k (acI l i e w hl hi) K
  rw[c] at this
  simp only[ah,av] at this
  exact this
 .have:=aH.k (alQ l i e w hl hi) K
  rw[c] at this
  exact this
 .have:=aH.k (akU l i e [w] hl hi (by show 1<=64;decide)) K
  simp only[dG,c,ah,av,aqZ,am] at this
  exact this
def sK(l:List Tn)(i:Nat)(e:Int)(w:List UInt8)(hl:l.length<LB)(hi:i<=l.length)(K:An->Prop):cKp 76 [.ptr 0 0,.of (.lit (.string (ByteArray.mk (List.toArray w))))] [pT l i e] K↔K ⟨false,[aM (isT l i w)],[pT l i e]⟩:=aH.k (alQ l i e w hl hi) K
def nT(l:List Tn)(i:Nat)(e:Int)(hl:l.length<LB)(c:bq l i 2=true) :
  (∀ K,cKp 174 [.ptr 0 0] [pT l i e] K↔K ⟨false,[aM true],[pT l i e]⟩) /\
  (∀ K,cKp 92 [.ptr 0 0] [pT l i e] K↔K ⟨false,[.of (aG (aK (txT l i)))],[pT l (i+1) e]⟩):=by
 have hi:=aax (aay c)
 refine⟨λK=>?_,λK=>?_⟩
 .have:=aH.k (amC l i e hl hi) K
  rw[c] at this
  exact this
 .have:=aH.k (at0 l i e hl hi) K
  simp only[bT,c,am,bw,ah,av] at this
  exact this
def nF(l:List Tn)(i:Nat)(e:Int)(hl:l.length<LB)(hi:i<=l.length)(c:bq l i 2=false) :
  (∀ K,cKp 174 [.ptr 0 0] [pT l i e] K↔K ⟨false,[aM false],[pT l i e]⟩) /\
  (∀ K,cKp 92 [.ptr 0 0] [pT l i e] K↔K ⟨true,[aaq l i e],[pT l i e]⟩):=by
 refine⟨λK=>?_,λK=>?_⟩
 .have:=aH.k (amC l i e hl hi) K
  rw[c] at this
  exact this
 .have:=aH.k (at0 l i e hl hi) K
  simp only[bT,c,ah,av,bw,am] at this
  exact this
def iT(l:List Tn)(i:Nat)(e:Int)(hl:l.length<LB)(c:bq l i 3=true) :
  (∀ K,cKp 81 [.ptr 0 0] [pT l i e] K↔K ⟨false,[aQ (nuT l i)],[pT l (i+1) e]⟩):=by
 have hi:=aax (aay c)
 intro K
 have:=aH.k (ape l i e hl hi) K
 simp only[c,am,bw,ah,av] at this
 exact this
def iF(l:List Tn)(i:Nat)(e:Int)(hl:l.length<LB)(hi:i<=l.length)(c:bq l i 3=false) :
  (∀ K,cKp 81 [.ptr 0 0] [pT l i e] K↔K ⟨true,[aaq l i e],[pT l i e]⟩):=by
 intro K
 have:=aH.k (ape l i e hl hi) K
 simp only[c,ah,av,bw,am] at this
 exact this
def aB(l:List Tn)(i:Nat)(e:Int)(ws:List (List UInt8))(hl:l.length<LB)(hi:i<=l.length)(hn:ws.length<=64){b:Bool}(c:ca l i ws=b) :
  (∀ K,cKp 75 [.ptr 0 0,.of (slC bU ws)] [pT l i e] K↔K ⟨false,[aM b],[pT l i e]⟩):=by
 intro K
 have:=aH.k (aNz l i e ws hl hi hn) K
 rw[c] at this
 exact this
def aB2(l:List Tn)(i:Nat)(e:Int)(w1 w2:List UInt8)(hl:l.length<LB)(hi:i<=l.length){b:Bool}(c:ca l i [w1,w2]=b)(K:An->Prop):cKp 75 [.ptr 0 0,.of (.sl [.lit (.string (ByteArray.mk (List.toArray w1))),.lit (.string (ByteArray.mk (List.toArray w2)))] 2)] [pT l i e] K↔K ⟨false,[aM b],[pT l i e]⟩:=aB l i e [w1,w2] hl hi (by show 2<=64;decide) c K
def aB3(l:List Tn)(i:Nat)(e:Int)(w1 w2 w3:List UInt8)(hl:l.length<LB)(hi:i<=l.length){b:Bool}(c:ca l i [w1,w2,w3]=b)(K:An->Prop):cKp 75 [.ptr 0 0,.of (.sl [.lit (.string (ByteArray.mk (List.toArray w1))),.lit (.string (ByteArray.mk (List.toArray w2))),.lit (.string (ByteArray.mk (List.toArray w3)))] 3)] [pT l i e] K↔K ⟨false,[aM b],[pT l i e]⟩:=aB l i e [w1,w2,w3] hl hi (by show 3<=64;decide) c K
def aB4(l:List Tn)(i:Nat)(e:Int)(w1 w2 w3 w4:List UInt8)(hl:l.length<LB)(hi:i<=l.length){b:Bool}(c:ca l i [w1,w2,w3,w4]=b)(K:An->Prop):cKp 75 [.ptr 0 0,.of (.sl [.lit (.string (ByteArray.mk (List.toArray w1))),.lit (.string (ByteArray.mk (List.toArray w2))),.lit (.string (ByteArray.mk (List.toArray w3))),.lit (.string (ByteArray.mk (List.toArray w4)))] 4)] [pT l i e] K↔K ⟨false,[aM b],[pT l i e]⟩:=aB l i e [w1,w2,w3,w4] hl hi (by show 4<=64;decide) c K
def aB6(l:List Tn)(i:Nat)(e:Int)(w1 w2 w3 w4 w5 w6:List UInt8)(hl:l.length<LB)(hi:i<=l.length){b:Bool}(c:ca l i [w1,w2,w3,w4,w5,w6]=b)(K:An->Prop):cKp 75 [.ptr 0 0,.of (.sl [.lit (.string (ByteArray.mk (List.toArray w1))),.lit (.string (ByteArray.mk (List.toArray w2))),.lit (.string (ByteArray.mk (List.toArray w3))),.lit (.string (ByteArray.mk (List.toArray w4))),.lit (.string (ByteArray.mk (List.toArray w5))),.lit (.string (ByteArray.mk (List.toArray w6)))] 6)] [pT l i e] K↔K ⟨false,[aM b],[pT l i e]⟩:=aB l i e [w1,w2,w3,w4,w5,w6] hl hi (by show 6<=64;decide) c K
def gK(l:List Tn)(i:Nat)(e:Int)(hl:l.length<LB)(hi:i<=l.length) :
  (∀ K,cKp 65 [.ptr 0 0] [pT l i e] K↔K ⟨true,[aaq l i e],[pT l i e]⟩):=λK=>aH.k (aeu l i e hl hi) K
def pK(l:List Tn)(i:Nat)(e:Int)(hl:l.length<LB)(hi:i<=l.length) :
  (∀ K,cKp 173 [.ptr 0 0,.of (.lit (.int .i64 0))] [pT l i e] K↔K ⟨false,[.of (.agg (tnC (bN l i)))],[pT l i e]⟩) /\
  (∀ K,cKp 173 [.ptr 0 0,.of (.lit (.int .i64 1))] [pT l i e] K↔K ⟨false,[.of (.agg (tnC (bN l (i+1))))],[pT l i e]⟩) /\
  (∀ K,cKp 173 [.ptr 0 0,.of (.lit (.int .i64 2))] [pT l i e] K↔K ⟨false,[.of (.agg (tnC (bN l (i+2))))],[pT l i e]⟩) :=
 ⟨λK=>aH.k (ajt l i e hl hi) K,λK=>aH.k (aDh l i e hl hi) K,λK=>aH.k (aDg l i e hl hi) K⟩
def mB(l:List Tn)(i:Nat)(e:Int)(ws:List (List UInt8))(hl:l.length<LB)(hi:i<=l.length)(hn:ws.length<=64){j:Nat}(c:dG l i ws=(j,false))(K:An->Prop):cKp 79 [.ptr 0 0,.of (slC bU ws)] [pT l i e] K↔K ⟨false,[],[pT l j e]⟩:=by
 have:=aH.k (akU l i e ws hl hi hn) K
 rw[c] at this
 exact this
def mBf(l:List Tn)(i:Nat)(e:Int)(ws:List (List UInt8))(hl:l.length<LB)(hi:i<=l.length)(hn:ws.length<=64){j:Nat}(c:dG l i ws=(j,true))(K:An->Prop):cKp 79 [.ptr 0 0,.of (slC bU ws)] [pT l i e] K↔K ⟨true,[aaq l j e],[pT l j e]⟩:=by
 have:=aH.k (akU l i e ws hl hi hn) K
 rw[c] at this
 exact this
def mB2(l:List Tn)(i:Nat)(e:Int)(w1 w2:List UInt8)(hl:l.length<LB)(hi:i<=l.length){j:Nat}(c:dG l i [w1,w2]=(j,false))(K:An->Prop):cKp 79 [.ptr 0 0,.of (.sl [.lit (.string (ByteArray.mk (List.toArray w1))),.lit (.string (ByteArray.mk (List.toArray w2)))] 2)] [pT l i e] K↔K ⟨false,[],[pT l j e]⟩:=mB l i e [w1,w2] hl hi (by show 2<=64;decide) c K
def aXR(l:List Tn)(i:Nat)(e:Int)(w1 w2:List UInt8)(hl:l.length<LB)(hi:i<=l.length){j:Nat}(c:dG l i [w1,w2]=(j,true))(K:An->Prop):cKp 79 [.ptr 0 0,.of (.sl [.lit (.string (ByteArray.mk (List.toArray w1))),.lit (.string (ByteArray.mk (List.toArray w2)))] 2)] [pT l i e] K↔K ⟨true,[aaq l j e],[pT l j e]⟩:=mBf l i e [w1,w2] hl hi (by show 2<=64;decide) c K
def aqw(l:List Tn)(i:Nat):txT l i=(bN l i).s:=by
 unfold txT bN
 cases l[i]? <;> rfl
def axh(l:List Tn)(i:Nat):nuT l i=(bN l i).n:=by
 unfold nuT bN
 cases l[i]? <;> rfl
def kq{l:List Tn}{i:Nat}{k:Int}{b:Bool}(hk:k≠0)(c:bq l i k=b):((bN l i).k=k)=(b=true):=by
 rw[← c,fO l i k hk,aV]
structure TL (l:List Tn):Prop where
 n:∀ t∈l,0<=t.n
 s:∀ t∈l,t.k=2->t.s≠[]
 w:∀ t∈l,t.k=1->t.s≠[46]/\t.s≠[42]
def akI{l:List Tn}{i:Nat}(h:i<l.length):bN l i∈l:=by
 have:=amd h
 exact bO this
def GP{α:Type}(f:Nat)(xs:List X)(obs:List Ob)(l:List Tn)(e:Int)(D:List Ob)(enc:α->X)(i:Nat)(r:α×Nat×Bool):Prop:=(i<=r.2.1/\r.2.1<=l.length)/\aH Tryz.prog pr f xs obs (bw l e enc r D)
section
variable {α:Type} {f:Nat} {xs:List X} {obs:List Ob} {l:List Tn} {e:Int} {D:List Ob} {enc:α->X} {i j:Nat} {a:α}
theorem GP.ok(h:GP f xs obs l e D enc i (a,j,false))(K:An->Prop):cKp f xs obs K↔K ⟨false,[enc a],pT l j e::D⟩:=aH.k h.2 K
theorem GP.bad(h:GP f xs obs l e D enc i (a,j,true))(K:An->Prop):cKp f xs obs K↔K ⟨true,[aaq l j e],pT l j e::D⟩:=aH.k h.2 K
theorem GP.okA(h:GP f xs obs l e D enc i (a,j,false)):(i<=j/\j<=l.length)/\∀ K,cKp f xs obs K↔K ⟨false,[enc a],pT l j e::D⟩:=⟨h.1,h.ok⟩
theorem GP.badA(h:GP f xs obs l e D enc i (a,j,true)):(i<=j/\j<=l.length)/\∀ K,cKp f xs obs K↔K ⟨true,[aaq l j e],pT l j e::D⟩:=⟨h.1,h.bad⟩
theorem eR(E:Rz α)(C:∀ r,E=some r->GP f xs obs l e D enc i r):E=none\/(∃ a j,E=some (a,j,true)/\(i<=j/\j<=l.length)/\∀ K,cKp f xs obs K↔K ⟨true,[aaq l j e],pT l j e::D⟩)\/(∃ a j,E=some (a,j,false)/\(i<=j/\j<=l.length)/\∀ K,cKp f xs obs K↔K ⟨false,[enc a],pT l j e::D⟩) :=
 match E,C with
 | none,_=>.inl rfl
 | some (_,_,true),C=>.inr (.inl ⟨_,_,rfl,(C _ rfl).badA⟩)
 | some (_,_,false),C=>.inr (.inr ⟨_,_,rfl,(C _ rfl).okA⟩)
theorem GP.any(h:GP f xs obs l e D enc i (a,j,true))(b:α):GP f xs obs l e D enc i (b,j,true):=h
end
abbrev xpE(x:Xp):X:=.of (.agg (xpC x))
abbrev qyE(x:Qy):X:=.of (.agg (qyC x))
abbrev fmE(x:Fm):X:=.of (.agg (fmC x))
abbrev thE(x:Th):X:=.of (.agg (thC x))
abbrev imE(x:Im):X:=.of (.agg (imC x))
abbrev odE(x:Od):X:=.of (.agg (odC x))
abbrev smE(x:Sm):X:=.of (.agg (smC x))
abbrev xsE(x:List Xp):X:=.of (slC xpC x)
abbrev deE:List Ob:=[.row 28 []]
abbrev deQ:List Ob:=[.row 38 []]
abbrev deF:List Ob:=[.row 140 []]
def ayB{T:TT}{t e:Nat}{d:TD}(h:Pe.elemOf T t=some (e,d))(hz:0<d.size)(hd:d.size<=1000)(hl:d.zero.length=d.size)(tk:Tk)(xs:List X):bW tk 1 (some (e,d)) (some [(0,xs)])=if xs.length=d.size then bE ((X.rds xs).map λcs=>.own tk e d.size cs 1) else none:=by
 rw[← h];exact ac2 h hz hd hl tk xs
def aRo:=@ayB _ _ _ _ E26 aI aI rfl
def ao1:=@ayB _ _ _ _ E25 aI aI rfl
def a8d:=@ayB _ _ _ _ E35 aI aI rfl
def dV(clk:Nat)(af:List Edge)(r o:Nat):aae clk af (some (.cell r o))=!(o == 1099511627776):=rfl
def aRt:(2<=LIM)=True:=aa aI
def aaG:(1<=LIM)=True:=aa aI
def avr(w:Bool)(y:Qy)(e:Xp)(f:Fm):(⟨true,w,y,e,f⟩ : Th).val=afu 26 [] y:=rfl
def avu(w:Bool)(y:Qy)(e:Xp)(f:Fm):(⟨false,w,y,e,f⟩ : Th).val=e:=rfl
def be(n:Nat):n+1+1=n+2:=rfl
def zV0:=ai (gv @eU @adK @adS @alT @alu @aj9 @aeT @ajT) (gv @akl @ars @axU @al0 @alP @alz @al3 @aqw)
def zLX:=gp @List.all_cons.{0} @List.all_nil.{0} @List.contains_cons.{0} @List.contains_nil.{0} @List.flatten_cons.{0}
def zVW:=gq (gv zV0 zMk @smK.eq_1 @afc.eq_1 @agQ.eq_1 @quX.eq_1 @Cr.sm.eq_1 @s0.eq_1) (gv @smE.eq_1 @xpE.eq_1 @qyE.eq_1 @fmE.eq_1 @thE.eq_1 @imE.eq_1 @odE.eq_1 @xsE.eq_1) (gv @afu.eq_1 @cR.eq_1 @aij.eq_1 @ai8.eq_1 @ajd.eq_1 @x0.eq_1 @y0.eq_1 @f0.eq_1) (gv @v0.eq_1 @im0.eq_1 @a85.eq_1 @asn.eq_1 @ah4.eq_1 @Th.ofE.eq_1 @Th.ofQ.eq_1 @Th.ofF.eq_1) (gv @Th.val.eq_1 @Qy.endQ.eq_1 @slC.eq_1 @List.cons_append.{0} @List.nil_append.{0} @List.append_nil.{0} @List.length_append.{0} @List.length_cons.{0}) (gq @List.length_nil.{0} @if_true.{1} @if_false.{1} @ah @cM @aak)
def fz{p:Prop}(h:p:=by first|rfl|(simp only[zVW] <;> rfl)):p:=h
def are{l:List Tn}{i:Nat}{w:List UInt8}(c:isT l i w=true)(v:List UInt8)(h:(v=w)=False):isT l i v=false:=aiT c v (of_eq_false h)
def arf{l:List Tn}{i:Nat}{w:List UInt8}(c:isT l i w=true):bq l i 2=false/\bq l i 3=false/\bq l i 4=false :=
 ⟨ard c 2 aI aI aI,ard c 3 aI aI aI,ard c 4 aI aI aI⟩
def wX(l:List Tn)(i:Nat)(e:Int)(w:List UInt8)(hl:l.length<LB)(c:isT l i w=true) :
  ((∀ v,(v=w)=False->isT l i v=false)/\bq l i 2=false/\bq l i 3=false/\bq l i 4=false) /\
  ((∀ v,(v=w)=False->∀ K,cKp 78 [.ptr 0 0,.of (.lit (.string (ByteArray.mk (List.toArray v))))] [pT l i e] K↔K ⟨false,[aM false],[pT l i e]⟩) /\
  (∀ v,(v=w)=False->∀ K,cKp 76 [.ptr 0 0,.of (.lit (.string (ByteArray.mk (List.toArray v))))] [pT l i e] K↔K ⟨false,[aM false],[pT l i e]⟩) /\
  (∀ v,(v=w)=False->∀ K,cKp 79 [.ptr 0 0,.of (.sl [.lit (.string (ByteArray.mk (List.toArray v)))] 1)] [pT l i e] K↔K ⟨true,[aaq l i e],[pT l i e]⟩)) /\
  ((∀ K,cKp 174 [.ptr 0 0] [pT l i e] K↔K ⟨false,[aM false],[pT l i e]⟩) /\
  (∀ K,cKp 92 [.ptr 0 0] [pT l i e] K↔K ⟨true,[aaq l i e],[pT l i e]⟩) /\
  (∀ K,cKp 81 [.ptr 0 0] [pT l i e] K↔K ⟨true,[aaq l i e],[pT l i e]⟩)):=by
 have hi:=aax (ft c)
 have hk:=arf c
 exact⟨⟨are c,hk⟩,⟨λv h=>(wF l i e v hl hi (are c v h)).1,λv h=>(wF l i e v hl hi (are c v h)).2.1,λv h=>(wF l i e v hl hi (are c v h)).2.2⟩,
  (nF l i e hl hi hk.1).1,(nF l i e hl hi hk.1).2,iF l i e hl hi hk.2.1⟩
def wQ{l:List Tn}{i:Nat}{w:List UInt8}(c:isT l i w=true):((bN l i).k=2)=(false=true)/\((bN l i).k=3)=(false=true)/\((bN l i).k=4)=(false=true) :=
 ⟨kq aI (arf c).1,kq aI (arf c).2.1,kq aI (arf c).2.2⟩
section
variable (l:List Tn) (i:Nat) (e:Int) {k:Int}
theorem kW(h0:k≠0)(h1:k≠1)(h5:k≠5)(c:bq l i k=true)(hl:l.length<LB) :
  (∀ v,isT l i v=false) /\
  ((∀ v K,cKp 78 [.ptr 0 0,.of (.lit (.string (ByteArray.mk (List.toArray v))))] [pT l i e] K↔K ⟨false,[aM false],[pT l i e]⟩) /\
  (∀ v K,cKp 76 [.ptr 0 0,.of (.lit (.string (ByteArray.mk (List.toArray v))))] [pT l i e] K↔K ⟨false,[aM false],[pT l i e]⟩) /\
  (∀ v K,cKp 79 [.ptr 0 0,.of (.sl [.lit (.string (ByteArray.mk (List.toArray v)))] 1)] [pT l i e] K↔K ⟨true,[aaq l i e],[pT l i e]⟩)):=by
 have hi:=aax (aay c)
 have hn:=aL6 h0 h1 h5 c
 exact⟨hn,λv=>(wF l i e v hl hi (hn v)).1,λv=>(wF l i e v hl hi (hn v)).2.1,λv=>(wF l i e v hl hi (hn v)).2.2⟩
theorem kNo{k:Int}(hk:k≠0)(c:bq l i k=true)(m:Int)(hm:m≠0)(h:m≠k):bq l i m=false:=aL7 hk c m hm h
def kX2(hl:l.length<LB)(c:bq l i 2=true):=gm (kW l i e aI aI aI c hl) (kNo l i aI c 3 aI aI) (kNo l i aI c 4 aI aI) (iF l i e hl (aax (aay c)) (kNo l i aI c 3 aI aI))
def kX3(hl:l.length<LB)(c:bq l i 3=true):=gm (kW l i e aI aI aI c hl) (kNo l i aI c 2 aI aI) (kNo l i aI c 4 aI aI) (nF l i e hl (aax (aay c)) (kNo l i aI c 2 aI aI))
def kX4(hl:l.length<LB)(c:bq l i 4=true):=gp (kW l i e aI aI aI c hl) (kNo l i aI c 2 aI aI) (kNo l i aI c 3 aI aI) (nF l i e hl (aax (aay c)) (kNo l i aI c 2 aI aI)) (iF l i e hl (aax (aay c)) (kNo l i aI c 3 aI aI))
end
def kQ2{l:List Tn}{i:Nat}(c:bq l i 2=true):((bN l i).k=2)=(true=true)/\((bN l i).k=3)=(false=true)/\((bN l i).k=4)=(false=true) :=
 ⟨kq aI c,kq aI (kNo l i aI c 3 aI aI),kq aI (kNo l i aI c 4 aI aI)⟩
def kQ3{l:List Tn}{i:Nat}(c:bq l i 3=true):((bN l i).k=2)=(false=true)/\((bN l i).k=3)=(true=true)/\((bN l i).k=4)=(false=true) :=
 ⟨kq aI (kNo l i aI c 2 aI aI),kq aI c,kq aI (kNo l i aI c 4 aI aI)⟩
def kQ4{l:List Tn}{i:Nat}(c:bq l i 4=true):((bN l i).k=2)=(false=true)/\((bN l i).k=3)=(false=true)/\((bN l i).k=4)=(true=true) :=
 ⟨kq aI (kNo l i aI c 2 aI aI),kq aI (kNo l i aI c 3 aI aI),kq aI c⟩
def eP(p:Prop):(p/\p=True)\/(¬p/\p=False):=(Classical.em p).imp (λc=>⟨c,aa c⟩) λc=>⟨c,aF c⟩
section
variable (l:List Tn) (i:Nat) (e:Int) (w:List UInt8) (hl:l.length<LB) (hi:i<=l.length:=by omega)
def eW:=(dz (isT l i w)).imp (λc:isT l i w=true=>ai c (ai (ft c) (wT l i e w hl c))) (λc:isT l i w=false=>ai c (wF l i e w hl hi c))
def eWX:=(dz (isT l i w)).imp (λc:isT l i w=true=>ai c (ai (ft c) (ai (wT l i e w hl c) (wX l i e w hl c)))) (λc:isT l i w=false=>ai c (wF l i e w hl hi c))
def eWQ:=(dz (isT l i w)).imp (λc:isT l i w=true=>ai c (ai (ft c) (ai (wT l i e w hl c) (ai (wX l i e w hl c) (wQ c))))) (λc:isT l i w=false=>ai c (wF l i e w hl hi c))
def eK2:=(dz (bq l i 2)).imp (λc:bq l i 2=true=>ai c (ai (aay c) (nT l i e hl c))) (λc:bq l i 2=false=>ai c (nF l i e hl hi c))
def aeP:=(dz (bq l i 2)).imp (λc:bq l i 2=true=>ai c (ai (aay c) (ai (nT l i e hl c) (kX2 l i e hl c)))) (λc:bq l i 2=false=>ai c (nF l i e hl hi c))
def aje:=(dz (bq l i 3)).imp (λc:bq l i 3=true=>ai c (ai (aay c) (ai (iT l i e hl c) (kX3 l i e hl c)))) (λc:bq l i 3=false=>ai c (iF l i e hl hi c))
def aMV:=(dz (bq l i 2)).imp (λc:bq l i 2=true=>ai c (ai (aay c) (ai (nT l i e hl c) (ai (kX2 l i e hl c) (ai (kQ2 c) trivial))))) (λc:bq l i 2=false=>ai c (ai (nF l i e hl hi c) (kq aI c)))
def aZ3:=(dz (bq l i 3)).imp (λc:bq l i 3=true=>ai c (ai (aay c) (ai (iT l i e hl c) (ai (kX3 l i e hl c) (ai (kQ3 c) trivial))))) (λc:bq l i 3=false=>ai c (ai (iF l i e hl hi c) (kq aI c)))
def bbq(_:i<=l.length:=by omega):=(dz (bq l i 4)).imp (λc:bq l i 4=true=>ai c (ai (aay c) (ai trivial (ai (kX4 l i e hl c) (ai (kQ4 c) trivial))))) (λc:bq l i 4=false=>ai c (ai trivial (kq aI c)))
end
def uL(a b:UInt8)(x y:List UInt8):(a::x=b::y)=(a=b/\x=y):=fE a x b y
section
variable {α β:Type}
theorem a9d(g:α->β)(f:α->Nat->Rz β):Rz.on none g f=none:=rfl
theorem a9c(a:α)(i:Nat)(g:α->β)(f:α->Nat->Rz β):Rz.on (some (a,i,true)) g f=some (g a,i,true):=rfl
theorem a9e(a:α)(i:Nat)(g:α->β)(f:α->Nat->Rz β):Rz.on (some (a,i,false)) g f=f a i:=rfl
theorem a8Y(g:α->β):Rz.to none g=none:=rfl
theorem a8X(a:α)(i:Nat)(b:Bool)(g:α->β):Rz.to (some (a,i,b)) g=some (g a,i,b):=rfl
theorem wE(r:Nat×Bool)(x:β):wantE r x=some (x,r.1,r.2):=rfl
theorem a8O(i:Nat)(x:β)(f:Nat->Rz β):wantR (i,true) x f=some (x,i,true):=rfl
theorem a8P(i:Nat)(x:β)(f:Nat->Rz β):wantR (i,false) x f=f i:=rfl
theorem wTe(l:List Tn)(i:Nat)(w:List UInt8):bG l i w=if isT l i w then (i+1,false) else (i,true):=rfl
end
def zRZ:=gj (gz @a9d @a9c @a9e @a8Y @a8X @wE @a8O @a8P @wTe) (gz @id_eq.{1} @if_true.{1} @if_false.{1} @cO @cY @cj @aag @bh @eA) (gz @aD @eG @Option.some.injEq.{0} @fS @fw @ah @uL @cI @fv)
structure PY (l:List Tn) (e:Int) (F:Fs):Prop where
 tl:TL l
 fp:FP l F
 or:∀ i r,i<=l.length->F.or i []=some r->GP 31 [.ptr 0 0] [pT l i e] l e [] xpE i r
 orp:∀ i x cs r,cs=xpC x->i<=l.length->F.or i [x]=some r->GP 31 [.ptr 0 0] [pTe l i e,.row 28 cs] l e deE xpE i r
 no:∀ i r,i<=l.length->F.no i=some r->GP 152 [.ptr 0 0] [pT l i e] l e [] xpE i r
 un:∀ i r,i<=l.length->F.un i=some r->GP 325 [.ptr 0 0] [pT l i e] l e [] xpE i r
 qy:∀ i r,i<=l.length->F.qy i []=some r->GP 39 [.ptr 0 0] [pT l i e] l e [] qyE i r
 qyp:∀ i x cs r,cs=qyC x->i<=l.length->F.qy i [x]=some r->GP 39 [.ptr 0 0] [pTq l i e,.row 38 cs] l e deQ qyE i r
 ins:∀ i r,i<=l.length->F.ins i=some r->GP 305 [.ptr 0 0] [pT l i e] l e [] thE i r
 fr:∀ i r,i<=l.length->F.fr i []=some r->GP 297 [.ptr 0 0] [pT l i e] l e [] fmE i r
 frp:∀ i x cs r,cs=fmC x->i<=l.length->F.fr i [x]=some r->GP 297 [.ptr 0 0] [pTf l i e,.row 140 cs] l e deF fmE i r
 so:∀ i r,i<=l.length->F.so i=some r->GP 326 [.ptr 0 0] [pT l i e] l e [] thE i r
end Go.Proofs.YtghkmcffifpkeaaGreat
namespace Go.Tab
open Pe
def afM(c:UInt8):Bool:=decide (65<=c.toNat)&&decide (c.toNat<=90)
def abr(c:UInt8):UInt8:=if afM c then c+32 else c
def acX(c:UInt8):Bool:=eE c||afM c
def aeq(c:UInt8):Bool:=decide (c=32)||(decide (c=9)||(decide (c=10)||decide (c=13)))
def cU:Bool->List UInt8->Nat
 | _,[]=>0
 | true,c::r=>if c=10 then cU false r+1 else cU true r+1
 | false,c::r=>if aeq c then cU false r+1 else if c=45/\r.head?=some 45 then cU true r+1 else 0
def ad4(i:Nat):Tn:=⟨0,i,0,0,[]⟩
def anB:List UInt8->Bool
 | []=>false
 | c::r=>eE c&&r.all λc=>eE c||cJ c
def lxW(i:Nat)(w:List UInt8):Tn×Int :=
 if amt (w.map abr) then (⟨1,i,w.length,0,w.map abr⟩,0) else if 20<w.length then (ad4 i,4) else (⟨2,i,w.length,0,w.map abr⟩,0)
def afa(l:List UInt8):Nat:=l.foldl (λn c=>min (10*n+(c.toNat-48)) 1000000000000001) 0
def ai7(i:Nat)(d:List UInt8):Tn×Int:=if 1000000000000000<afa d then (ad4 i,4) else (⟨3,i,d.length,afa d,[]⟩,0)
def aj4(i:Nat)(r:List UInt8):Tn×Int:=if r.contains 34 then
  (if !anB (r.takeWhile (·≠34)) then (ad4 i,2) else if 20<(r.takeWhile (·≠34)).length then (ad4 i,4) else (⟨2,i,(r.takeWhile (·≠34)).length+2,0,r.takeWhile (·≠34)⟩,0))
 else (ad4 i,3)
def acc:List UInt8->Option (List UInt8×Nat)
 | []=>none
 | [c]=>if c=39 then some ([],1) else none
 | c::d::r=>if c=39 then (if d=39 then (acc r).map λq=>(39::q.1,q.2+2) else some ([],1)) else (acc (d::r)).map λq=>(c::q.1,q.2+1)
def aff(c:UInt8):Bool:=decide (32<=c.toNat)&&decide (c.toNat<=126)
def ak8(i:Nat)(r:List UInt8):Tn×Int:=match acc r with
 | none=>(ad4 i,3)
 | some (w,n)=>if !w.all aff then (ad4 i,2) else if 100<w.length then (ad4 i,4) else (⟨4,i,n+1,0,w⟩,0)
def lxG(i:Nat)(c:UInt8)(d:Option UInt8):Tn×Int :=
 if (c=124/\d=some 124)\/(c=60/\d=some 62)\/(c=60/\d=some 61)\/(c=62/\d=some 61) then (⟨5,i,2,0,[c,d.getD 0]⟩,0)
 else if c∈([40,41,44,46,59,43,45,42,47,37,61,60,62]:List UInt8) then (⟨5,i,1,0,[c]⟩,0)
 else (ad4 i,2)
def acH(i:Nat):List UInt8->Tn×Int
 | []=>(ad4 i,0)
 | c::r=>if acX c then lxW i ((c::r).takeWhile λc=>acX c||cJ c) else if cJ c then ai7 i ((c::r).takeWhile cJ)
  else if c=34 then aj4 i r else if c=39 then ak8 i r else lxG i c r.head?
def fm(s:List UInt8)(i:Nat):Tn×Int:=acH (i+cU false (s.drop i)) (s.drop (i+cU false (s.drop i)))
def agR(s:List UInt8):Nat->List Tn->Nat->Option (List Tn×Int×Int)
 | 0,_,_=>none
 | n+1,o,i=>if (fm s i).2≠0 then some ([],(fm s i).1.pl,(fm s i).2) else if (fm s i).1.k=0 then some (o,0,0)
  else agR s n (o++[(fm s i).1]) ((fm s i).1.pl+(fm s i).1.sz).toNat
def abv(s:List UInt8):Option (List Tn×Int×Int):=if 2000<s.length then some ([],0,4) else agR s (s.length+2) [] 0
theorem ahZ:∀ (b:Bool) (l:List UInt8),cU b l<=l.length
 | _,[]=>by simp[cU]
 | true,c::r=>by have:=ahZ true r;have:=ahZ false r;simp only[cU,aN];split <;> omega
 | false,c::r=>by
  have:=ahZ true r;have:=ahZ false r
  simp only[cU,aN]
  split
  .omega
  .split <;> omega
theorem ajK{α:Type}(p:α->Bool):∀ l:List α,(l.takeWhile p).length<=l.length
 | []=>ae _
 | c::r=>by have:=ajK p r;rw[cE];split <;> simp <;> omega
theorem ar6:∀ (l:List UInt8) (w:List UInt8) (n:Nat),acc l=some (w,n)->w.length<n/\n<=l.length
 | [],w,n,h=>by cases h
 | [c],w,n,h=>by
  simp only[acc] at h
  split at h
  .cases h;simp
  .cases h
 | c::d::r,w,n,h=>by
  simp only[acc] at h
  split at h
  .split at h
   .simp only[ap,aY] at h
    obtain⟨⟨w',n'⟩,h1,rfl,rfl⟩:=h
    have:=ar6 r w' n' h1
    simp only[aN];omega
   .cases h;simp
  .simp only[ap,aY] at h
   obtain⟨⟨w',n'⟩,h1,rfl,rfl⟩:=h
   have:=ar6 (d::r) w' n' h1
   simp only[aN] at this ⊢;omega
theorem aHf:∀ (l:List UInt8) (a:Nat),a<=1000000000000001->l.foldl (λn c=>min (10*n+(c.toNat-48)) 1000000000000001) a<=1000000000000001
 | [],a,h=>h
 | c::r,a,h=>by rw[adw];exact aHf r _ (Nat.min_le_right _ _)
structure TnOk9 (i m:Nat) (t:Tn):Prop where
 pl:t.pl=i
 sz:1<=t.sz/\t.sz<=m
 n:0<=t.n/\t.n<=1000000000000000
 s:t.s.length<=m
 k:t.k=1\/t.k=2\/t.k=3\/t.k=4\/t.k=5
 nm:t.k=2->t.s≠[]
def aKj{l:List UInt8}(h:anB l=true):l≠[]:=by rintro rfl;cases h
def aF8{i:Nat}{l:List UInt8}{t:Tn}(h:acH i l=(t,0)):(t=ad4 i/\l=[])\/TnOk9 i l.length t:=by
 cases l with
 | nil=>simp only[acH,aY] at h;exact .inl ⟨h.1.symm,rfl⟩
 | cons c r =>
  refine .inr ?_
  simp only[acH] at h
  split at h
  .rename_i e
   have hw:=ajK (λc=>acX c||cJ c) (c::r)
   have hp:1<=((c::r).takeWhile λc=>acX c||cJ c).length:=by rw[cE,au (by simp[e])];simp
   generalize ((c::r).takeWhile λc=>acX c||cJ c)=w at *
   simp only[lxW] at h
   split at h
   .cases h;exact⟨rfl,by dsimp only;omega,by simp,by simpa using hw,by simp,by simp⟩
   split at h
   .simp at h
   .cases h
    refine⟨rfl,by dsimp only;omega,by simp,by simpa using hw,by simp,λ_ e=>?_⟩
    simp only[List.map_eq_nil_iff] at e
    rw[e] at hp;simp at hp
  split at h
  .rename_i e
   have hw:=ajK cJ (c::r)
   have hp:1<=((c::r).takeWhile cJ).length:=by rw[cE,au e];simp
   generalize ((c::r).takeWhile cJ)=w at *
   simp only[ai7] at h
   split at h
   .simp at h
   .cases h;exact⟨rfl,by dsimp only;omega,by dsimp only;omega,by simp,by simp,by simp⟩
  split at h
  .have hw:=ajK (λx:UInt8=>decide (x≠34)) r
   simp only[aj4] at h
   split at h
   .rename_i hc
    have h2:(r.takeWhile (λx:UInt8=>decide (x≠34))).length<r.length:=by
     clear h hw
     induction r with
     | nil=>simp at hc
     | cons a q ih =>
      rw[cE]
      split
      .rename_i ha
       simp only[aN]
       have:=ih (by
        simp only[ad3,bk,dm] at hc
        rcases hc with hc|hc
        .simp[← hc] at ha
        .exact hc)
       omega
      .simp
    split at h
    .simp at h
    .rename_i hpl
     split at h
     .simp at h
     .cases h
      exact⟨rfl,by dsimp only;simp only[aN];omega,by simp,by simp only[aN];omega,by simp,λ_=>aKj (by simpa using hpl)⟩
   .simp at h
  split at h
  .simp only[ak8] at h
   split at h
   .simp at h
   .rename_i w n e
    have:=ar6 r w n e
    split at h
    .simp at h
    split at h
    .simp at h
    .cases h;exact⟨rfl,by dsimp only;simp only[aN];omega,by simp,by simp only[aN];omega,by simp,by simp⟩
  .simp only[lxG] at h
   split at h
   .rename_i e
    cases h
    have:1<=r.length:=by
     cases r with
     | nil=>simp at e
     | cons d q=>simp
    exact⟨rfl,by dsimp only;simp only[aN];omega,by simp,by simp;omega,by simp,by simp⟩
   split at h
   .cases h;exact⟨rfl,by dsimp only;simp only[aN];omega,by simp,by simp,by simp,by simp⟩
   .simp at h
def alH{s:List UInt8}{i:Nat}(hi:i<=s.length){t:Tn}(h:fm s i=(t,0)):t.k=0\/∃ j,i<=j/\TnOk9 j (s.length-j) t:=by
 have hs:=ahZ false (s.drop i)
 rcases aF8 h with ⟨rfl,_⟩|h
 .exact .inl rfl
 .exact .inr ⟨_,aeH _ _,by rw[← cP];exact h⟩
structure ToksOk (s:List UInt8) (l:List Tn):Prop where
 all:∀ t∈l,∃ j,TnOk9 j (s.length-j) t
 len:l.length<=s.length
theorem aAU{s:List UInt8}:∀ (n:Nat) (o:List Tn) (i:Nat),i<=s.length->s.length<n+i->(∀ t∈o,∃ j,TnOk9 j (s.length-j) t)->o.length<=i ->
  ∃ l p e,agR s n o i=some (l,p,e)/\ToksOk s l/\(e=0->p=0)
 | 0,_,i,h1,h2,_,_=>by omega
 | n+1,o,i,h1,h2,h3,h4=>by
  unfold agR
  split
  .rename_i h
   exact⟨_,_,_,rfl,⟨by simp,by simp⟩,λe=>absurd e h⟩
  .rename_i h
   have h:(fm s i).2=0:=by simpa using h
   split
   .exact⟨_,_,_,rfl,⟨h3,by omega⟩,λ_=>rfl⟩
   .rename_i hk
    rcases alH h1 (t:=(fm s i).1) (by rw[← h]) with q|⟨j,hj,q⟩
    .exact absurd q hk
    .have:=q.pl;have:=q.sz
     refine aAU n _ _ aC aC (λt ht=>?_) (by simp only[bg,dR];omega)
     rcases br.1 ht with ht|ht
     .exact h3 t ht
     .rw[cC.1 ht];exact⟨j,q⟩
def ar4(s:List UInt8):∃ l p e,abv s=some (l,p,e)/\ToksOk s l/\(e=0->p=0)/\s.length<=2000\/abv s=some ([],0,4):=by
 unfold abv
 split
 .exact⟨[],0,0,.inr rfl⟩
 .obtain⟨l,p,e,h1,h2,h3⟩:=aAU (s:=s) (s.length+2) [] 0 (aU _) aC aT (ae _)
  exact⟨l,p,e,.inl ⟨h1,h2,h3,by omega⟩⟩
def aiW(c:UInt8):afM c=true↔65<=c.toNat/\c.toNat<=90:=by simp[afM]
def asR{c:UInt8}(h:afM c=true):(abr c).toNat=c.toNat+32:=by
 have:=(aiW c).1 h
 unfold abr
 rw[au h,UInt8.toNat_add]
 show (c.toNat+32) % 256=_
 omega
def axt{c:UInt8}(h:afM c=false):abr c=c:=by unfold abr;rw[h];rfl
def aS1(c:UInt8):acX c=(decide (97<=(abr c).toNat/\(abr c).toNat<=122)||decide (c=95)):=by
 cases h:afM c with
 | true =>
  have h1:=(aiW c).1 h
  rw[asR h]
  unfold acX
  rw[h,bh,dM aC,eA]
 | false =>
  rw[axt h]
  unfold acX
  rw[h,aD]
  unfold eE
  rw[Bool.decide_and]
def acv(c:UInt8):Bool:=acX c||cJ c
def aXU{c:UInt8}(h:acv c=true):(eE (abr c)||cJ (abr c))=true:=by
 cases hg:afM c with
 | true =>
  have h1:=(aiW c).1 hg
  have h2:=asR hg
  have:eE (abr c)=true:=by unfold eE;rw[dM aC,dM aC];rfl
  rw[this];rfl
 | false =>
  rw[axt hg]
  unfold acv acX at h
  rwa [hg,aD] at h
def aRX{c:UInt8}(h:(eE c||cJ c)=true):c≠32:=by
 rintro rfl
 revert h
 decide
def aCZ{c:UInt8}(r:List UInt8)(h:aeq c=true):cU false (c::r)=cU false r+1:=by rw[cU,au h]
def atG{c:UInt8}(r:List UInt8)(h:aeq c=false)(h':c=45->r.head?≠some 45):cU false (c::r)=0:=by
 rw[cU,ar (by simp[h]),ar (λq=>h' q.1 q.2)]
theorem atH:∀ l:List UInt8,(Lib.indexByte l 10=-1->cU true l=l.length)/\(∀ k:Nat,Lib.indexByte l 10=k->k<l.length/\cU true l=k+cU false (l.drop k))
 | []=>⟨λ_=>rfl,λk h=>by simp only[Lib.indexByte] at h;omega⟩
 | c::r=>by
  obtain⟨h1,h2⟩:=atH r
  have hge:=Lib.indexByte_ge r 10
  by_cases hc:c=10
  .subst hc
   refine⟨λh=>?_,λk h=>?_⟩
   .simp[Lib.indexByte] at h
   .simp only[Lib.indexByte,beq_self_eq_true,am] at h
    have:k=0:=by omega
    subst this
    refine⟨by simp,?_⟩
    rw[abG,cU,au rfl,cU,au aI,bK]
  .have hb:(c == 10)=false:=by simpa using hc
   refine⟨λh=>?_,λk h=>?_⟩
   .simp only[Lib.indexByte,hb,ah,av] at h
    split at h
    .rename_i e
     rw[cU,ar hc,h1 (by simpa using e),aN]
    .omega
   .simp only[Lib.indexByte,hb,ah,av] at h
    split at h
    .omega
    .rename_i e
     have e:Lib.indexByte r 10≠-1:=by simpa using e
     obtain⟨q,hq⟩:=abn (show 0<=Lib.indexByte r 10 by omega)
     have hk:k=q+1:=by omega
     subst hk
     obtain⟨g1,g2⟩:=h2 q hq
     refine⟨by simp;omega,?_⟩
     rw[cU,ar hc,g2,agh]
     omega
def azp(r:List UInt8):cU false (45::45::r)=cU true (45::45::r):=by simp[cU,aeq]
def aBc(l:List UInt8):Lib.hasPrefix l [45,45]=true↔∃ r,l=45::45::r:=by
 unfold Lib.hasPrefix
 rw[List.isPrefixOf_iff_prefix]
 constructor
 .rintro⟨r,h⟩;exact⟨r,h.symm⟩
 .rintro⟨r,h⟩;exact⟨r,h.symm⟩
def aI7(c:UInt8):aeq c=true↔c=32\/c=9\/c=10\/c=13:=by simp[aeq]
def azX(l:List UInt8)(c:UInt8):Lib.indexByte l c=-1\/∃ k:Nat,Lib.indexByte l c=k:=by
 have:=Lib.indexByte_ge l c
 by_cases h:Lib.indexByte l c<0
 .left;omega
 .right;exact abn aC
def adV{α:Type}{l:List α}{i:Nat}(h:i<l.length):l.drop i=l[i]::l.drop (i+1):=co h
end Go.Tab
namespace Go.Proofs.YtghkmcffifpkeaaGreat
open Pe Tab
abbrev u8X(c:UInt8):X:=.of (.lit (.int .u8 (c.toNat:Nat)))
def asl(s:List UInt8)(a b:Nat)(h1:a<=b)(h2:b<=s.length):acJ tP 9 (.of (.lit (.string (aK s)))) (some (.of (.lit (.int .i64 a)))) (some (.of (.lit (.int .i64 b))))=out (agi (aK ((s.take b).drop a))):=by
 have hs:(aK s).size=s.length:=afw s
 simp only[acJ,T9,aJ,afK,am,aeQ,aas,hs]
 rw[au ⟨by omega,by omega,by omega⟩,aaZ,aaZ]
 congr 4
 apply ame.1
 simp only[ByteArray.data_extract,Array.toList_extract,ab7,aK,abd]
 rw[adO]
def aA5(s:List UInt8)(a:Nat)(h1:a<=s.length):acJ tP 9 (.of (.lit (.string (aK s)))) (some (.of (.lit (.int .i64 a)))) none=out (agi (aK (s.drop a))):=by
 have hs:(aK s).size=s.length:=afw s
 simp only[acJ,T9,aJ,afK,am,aeQ,aas,hs]
 rw[au ⟨by omega,by omega,by omega⟩,aaZ,aaZ]
 congr 4
 apply ame.1
 simp only[ByteArray.data_extract,Array.toList_extract,ab7,aK,abd]
 rw[aaB aT]
def aCG(k:Nat)(c:UInt8):((k:Int)<=((c.toNat:Nat):Int))=(k<=c.toNat):=propext aC
def aCF(k:Nat)(c:UInt8):(((c.toNat:Nat):Int)<=(k:Int))=(c.toNat<=k):=propext aC
def eO(c:UInt8)(n:Nat)(d:UInt8)(h:d.toNat=n):(((c.toNat:Nat):Int)=(n:Int))=(c=d):=propext ⟨λq=>UInt8.toNat_inj.1 aC,λq=>by rw[q,h]⟩
def aCq:=gm @Tryz.f240.eq_1 @zq @zT0 (kf aEs)
def axq(c:UInt8):G1 240 [u8X c] (u8X (abr c)):=by
 have e1:((65:Int)<=((c.toNat:Nat):Int))=(65<=c.toNat):=aCG 65 c
 have e2:(((c.toNat:Nat):Int)<=90)=(c.toNat<=90):=aCF 90 c
 cases h:afM c with
 | true =>
  have hn:=asR h
  have h1:=(aiW c).1 h
  have w1:IntKind.u8.wrap (((c.toNat:Nat):Int)+97)=((c.toNat+97:Nat):Int):=by rw[IntWalk.u8_in _ aC];rfl
  have w2:IntKind.u8.wrap (((c.toNat+97:Nat):Int)-65)=(((abr c).toNat:Nat):Int):=by rw[hn,IntWalk.u8_in _ aC];omega
  have a1:=aa h1.1
  have a2:=aa h1.2
  refine bB aEs ?_
  simp only[↓zA,sevalprocAttr,aCq,e1,e2,a1,a2,w1,w2]
 | false =>
  have hn:=axt h
  rw[hn]
  refine bB aEs ?_
  by_cases a1:65<=c.toNat
  .have a2:(c.toNat<=90)=False:=aF λq=>by rw[(aiW c).2 ⟨a1,q⟩] at h;cases h
   simp only[↓zA,sevalprocAttr,aCq,e1,e2,a1,a2]
  .simp only[↓zA,sevalprocAttr,aCq,e1,a1]
def afD(c:UInt8)(K:An->Prop):cKp 240 [.of (.lit (.int .u8 (c.toNat:Nat)))] [] K↔K ⟨false,[u8X (abr c)],[]⟩:=aH.k (axq c) K
def aCv:=gp @Tryz.f145.eq_1 @zq @aRc @zT0 (kf aQn)
def auV(c:UInt8):G1 145 [u8X c] (aM (acX c)):=by
 have e1:((97:Int)<=(((abr c).toNat:Nat):Int))=(97<=(abr c).toNat):=aCG 97 _
 have e2:((((abr c).toNat:Nat):Int)<=122)=((abr c).toNat<=122):=aCF 122 _
 have e3:(((c.toNat:Nat):Int)=95)=(c=95):=eO c 95 95 rfl
 rw[aS1]
 refine bB aQn ?_
 by_cases a1:97<=(abr c).toNat
 .by_cases a2:(abr c).toNat<=122
  .simp only[↓zA,sevalprocAttr,aCv,afD,e1,e2,a1,a2]
   try rfl
  .simp only[↓zA,sevalprocAttr,aCv,afD,e1,e2,e3,a1,a2]
   try rfl
 .simp only[↓zA,sevalprocAttr,aCv,afD,e1,e3,a1]
  try rfl
def abw(c:UInt8)(K:An->Prop):cKp 145 [.of (.lit (.int .u8 (c.toNat:Nat)))] [] K↔K ⟨false,[aM (acX c)],[]⟩:=aH.k (auV c) K
def aN9:=gm @Tryz.f147.eq_1 @zq @zT0 (kf aQl)
def axr(c:UInt8):G1 147 [u8X c] (aM (cJ c)):=by
 have e1:((48:Int)<=((c.toNat:Nat):Int))=(48<=c.toNat):=aCG 48 c
 have e2:(((c.toNat:Nat):Int)<=57)=(c.toNat<=57):=aCF 57 c
 refine bB aQl ?_
 by_cases a1:48<=c.toNat
 .simp only[↓zA,sevalprocAttr,aN9,e1,e2,a1,cJ]
  try rfl
 .simp only[↓zA,sevalprocAttr,aN9,e1,a1,cJ]
  try rfl
def ab3(c:UInt8)(K:An->Prop):cKp 147 [.of (.lit (.int .u8 (c.toNat:Nat)))] [] K↔K ⟨false,[aM (cJ c)],[]⟩:=aH.k (axr c) K
def hpE(xs:List X)(obs:List Ob):pr.prim 238 xs obs=hpP xs obs:=rfl
def ibE(xs:List X)(obs:List Ob):pr.prim 239 xs obs=ibP xs obs:=rfl
def aMp(s p:List UInt8)(K:An->Prop):cKp 238 [.of (.lit (.string (aK s))),.of (.lit (.string (ByteArray.mk (List.toArray p))))] [] K↔K ⟨false,[aM (Lib.hasPrefix s p)],[]⟩ :=
 aH.k (aH.of_prim (by rw[hpE];simp[hpP,aK])) K
def aYk(s:List UInt8)(n:Int)(K:An->Prop):cKp 239 [.of (.lit (.string (aK s))),.of (.lit (.int .u8 n))] [] K↔K ⟨false,[aQ (Lib.indexByte s n.toNat.toUInt8)],[]⟩ :=
 aH.k (aH.of_prim (by rw[ibE];simp[ibP,aK])) K
def aHZ(s:List UInt8)(K:An->Prop):cKp 239 [.of (.lit (.string (aK s))),.of (.lit (.int .u8 10))] [] K↔K ⟨false,[aQ (Lib.indexByte s 10)],[]⟩:=aYk s 10 K
def arn(s:List UInt8)(K:An->Prop):cKp 239 [.of (.lit (.string (aK s))),.of (.lit (.int .u8 34))] [] K↔K ⟨false,[aQ (Lib.indexByte s 34)],[]⟩:=aYk s 34 K
def akC:=gq @Tryz.f144.eq_1 @zq @a7j @aRd @zT0 (kf aQo)
def azL(s:List UInt8)(i:Nat)(hl:s.length<LB)(hi:i<=s.length):G1 144 [.of (aG (aK s)),aQ i] (aQ (i+cU false (s.drop i):Nat)):=by
 refine bB aQo ?_
 simp only[↓zA,sevalprocAttr,akC]
 refine fX _ _ (λn t=>∃ j:Nat,t.fr 0=.of (aG (aK s))/\t.fr 1=aQ j/\t.objs=[]/\j+n=s.length+1/\j<=s.length/\i+cU false (s.drop i)=j+cU false (s.drop j)) ?_ (s.length+1-i) _ ?_
 .rintro n ⟨frn,obn,ckn⟩ ⟨j,f0,f1,fo,hn,hj,E⟩
  dsimp only at f0 f1 fo
  rcases aA j s.length with dk|dk
  .have hw:=fq j (by unfold LB at hl;omega)
   have gx:=eX dk
   have hd:=adV dk
   generalize s[j]=c at *
   have e32:(((c.toNat:Nat):Int)=32)=(c=32):=eO c 32 32 rfl
   have e9:(((c.toNat:Nat):Int)=9)=(c=9):=eO c 9 9 rfl
   have e10:(((c.toNat:Nat):Int)=10)=(c=10):=eO c 10 10 rfl
   have e13:(((c.toNat:Nat):Int)=13)=(c=13):=eO c 13 13 rfl
   have e45:(((c.toNat:Nat):Int)=45)=(c=45):=eO c 45 45 rfl
   cases hb:aeq c with
   | true =>
    rw[hd,aCZ _ hb] at E
    have g:∃ m,m<n/\∃ q:Nat,aQ (j+1:Nat)=aQ q/\q+m=s.length+1/\q<=s.length/\i+cU false (s.drop i)=q+cU false (s.drop q):=⟨n-1,by omega,j+1,rfl,by omega,by omega,by omega⟩
    obtain⟨m,g1,q,g2,g3,g4,g5⟩:=g
    rcases (aI7 c).1 hb with h|h|h|h
    all_goals
     subst h
     simp only[↓zA,sevalprocAttr,akC,f0,f1,fo,ba,dk,gx,hw]
     exact⟨m,g1,q,g2,g3,g4,g5⟩
   | false =>
    have n32:(c=32)=False:=aF λh=>by rw[h] at hb;cases hb
    have n9:(c=9)=False:=aF λh=>by rw[h] at hb;cases hb
    have n10:(c=10)=False:=aF λh=>by rw[h] at hb;cases hb
    have n13:(c=13)=False:=aF λh=>by rw[h] at hb;cases hb
    by_cases h45:c=45
    .subst h45
     have sf:=aA5 s j hj
     rw[hd] at sf
     cases hp:Lib.hasPrefix (45::s.drop (j+1)) [45,45] with
     | false =>
      have E0:cU false (s.drop j)=0:=by
       rw[hd]
       refine atG _ hb λ_ h=>?_
       have:Lib.hasPrefix (45::s.drop (j+1)) [45,45]=true:=(aBc _).2 (by
        cases hr:s.drop (j+1) with
        | nil=>rw[hr] at h;cases h
        | cons x r=>rw[hr] at h;simp only[List.head?_cons,ab] at h;exact⟨r,by rw[h]⟩)
       rw[hp] at this;cases this
      rw[E0] at E
      simp only[↓zA,sevalprocAttr,akC,f0,f1,fo,ba,dk,gx,sf,aMp,hp]
      try rw[E];rfl
     | true =>
      obtain⟨r,hr⟩:=(aBc _).1 hp
      have sk:=atH (45::s.drop (j+1))
      rw[hr,← azp,← hr,← hd] at sk
      rcases azX (s.drop j) 10 with h|⟨k,h⟩
      .have e1:=sk.1 h
       have E1:i+cU false (s.drop i)=s.length:=by rw[E,e1,cP];omega
       rw[hd] at h
       have h0:((-1:Int)<0)=True:=aa aI
       simp only[↓zA,sevalprocAttr,akC,f0,f1,fo,ba,dk,gx,sf,aMp,hp,aHZ,h,h0,E1]
      .obtain⟨e1,e2⟩:=sk.2 k h
       rw[cP] at e1
       rw[e2,afG] at E
       have hk0:0<k:=by
        rcases aaH k with q|q
        .subst q
         rw[hd] at h
         simp only[Lib.indexByte] at h
         revert h
         rw[ar aI]
         split
         .intro h;omega
         .intro h
          have:=Lib.indexByte_ge (s.drop (j+1)) 10
          rename_i q2
          have q2:Lib.indexByte (s.drop (j+1)) 10≠-1:=by simpa using q2
          omega
        .exact q
       rw[hd] at h
       have h0:((k:Int)<0)=False:=aF aC
       have hw2:IntKind.i64.wrap ((j:Int)+(k:Int))=((j+k:Nat):Int):=by
        unfold LB at hl
        rw[eu _ aC aC];rfl
       simp only[↓zA,sevalprocAttr,akC,f0,f1,fo,ba,dk,gx,sf,aMp,hp,aHZ,h,h0,hw2]
       exact⟨n-k,by omega,j+k,rfl,by omega,by omega,by rw[E,bA]⟩
    .have h45':(c=45)=False:=aF h45
     have E0:cU false (s.drop j)=0:=by rw[hd];exact atG _ hb λh=>absurd h h45
     rw[E0] at E
     simp only[↓zA,sevalprocAttr,akC,f0,f1,fo,ba,dk,gx,e32,e9,e10,e13,e45,n32,n9,n10,n13,h45']
     try rw[E];rfl
  .have e:j=s.length:=by omega
   subst e
   have E0:cU false (s.drop s.length)=0:=by rw[df];rfl
   rw[E0] at E
   simp only[↓zA,sevalprocAttr,akC,f0,f1,fo,ba,dE]
   try rw[E];rfl
 .simp only[↓zA,sevalprocAttr,akC]
  exact⟨i,rfl,by omega,hi,rfl⟩
def aLS(s:List UInt8)(i:Nat)(hl:s.length<LB)(hi:i<=s.length)(K:An->Prop):cKp 144 [.of (aG (aK s)),aQ i] [] K↔K ⟨false,[aQ (i+cU false (s.drop i):Nat)],[]⟩:=aH.k (azL s i hl hi) K
end Go.Proofs.YtghkmcffifpkeaaGreat
namespace Go.Tab
open Pe
def aAS(s:List UInt8)(i:Nat){c:UInt8}{r:List UInt8}(h:s.drop i=c::r):(s.drop i).takeWhile acv=if acv c=true then c::r.takeWhile acv else []:=by
 rw[h,cE]
def azI{w:List UInt8}(h:∀ c∈w,acv c=true):∀ c∈w.map abr,(eE c||cJ c)=true:=by
 intro c hc
 obtain⟨x,hx,rfl⟩:=List.mem_map.1 hc
 exact aXU (h x hx)
theorem aF6(p:UInt8->Bool):∀ l:List UInt8,∀ c∈l.takeWhile p,p c=true
 | [],c,h=>by simp at h
 | x::r,c,h=>by
  rw[cE] at h
  split at h
  .rename_i hx
   rcases bj.1 h with rfl|h
   .exact hx
   .exact aF6 p r c h
  .simp at h
def ayi{s p:List UInt8}(h:Lib.contains s p=true):∀ c∈p,c∈s:=by
 unfold Lib.contains at h
 rw[aV] at h
 rcases Lib.index_spec s p with ⟨h1,_⟩|⟨i,h1,h2,h3,_⟩
 .omega
 .intro c hc
  unfold Lib.occAt at h3
  obtain⟨t,ht⟩:=List.isPrefixOf_iff_prefix.1 h3
  have:c∈s.drop i:=by rw[← ht];exact adt _ hc
  exact dX this
def aLg{s:List UInt8}(h:∀ c∈s,(eE c||cJ c)=true):Lib.contains s [32]=false:=by
 cases hc:Lib.contains s [32] with
 | false=>rfl
 | true=>exact absurd rfl (aRX (h 32 (ayi hc 32 aT)))
end Go.Tab
namespace Go.Proofs.YtghkmcffifpkeaaGreat
open Pe Tab
def aIv(w p:ByteArray)(h:w.size<4294967281):G1 283 [.of (.lit (.string w)),.of (.lit (.string p))] (aM (Lib.contains w.data.toList p.data.toList)):=aH.of_prim (by
 show arE [.of (.lit (.string w)),.of (.lit (.string p))] []=_
 unfold arE
 simp only
 rw[au h])
def a0b(w p:ByteArray)(K:An->Prop):cKp 283 [.of (.lit (.string w)),.of (.lit (.string p))] [] K↔ifP (w.size<4294967281) (K ⟨false,[aM (Lib.contains w.data.toList p.data.toList)],[]⟩) (aFV Tryz.prog pr 283 [.of (.lit (.string w)),.of (.lit (.string p))] [] K):=aOw (λh=>aIv w p h) K
def a1O:=gm @zq @a6X @zT0 (kf aPC)
def aq1(s:List UInt8)(h0:s≠[])(hl:s.length<=4000)(h:∀ c∈s,(eE c||cJ c)=true):G1 243 [.of (aG (aK s))] (aM (amt s)):=by
 have hne:(s=[])=False:=aF h0
 have l1:(s.length<4294967281)=True:=aa aC
 have hb:=aLg h
 have l2:1+s.length<=akw:=by unfold akw;omega
 have l3:1+s.length+1<=akw:=by unfold akw;omega
 have l4:s.length+1+1<=akw:=by unfold akw;omega
 have e:∀ s:List UInt8,(aK s).data.toList=s:=λs=>by simp[aK]
 have e32:=aLY [32]
 refine bB aPC ?_
 simp only[Tryz.f243,↓zA,sevalprocAttr,a1O,hne,a0b,l1,hb,e,e32,a8b,l2,l4]
 refine aYi aI ?_
 rfl
def axs(s:List UInt8)(h0:s≠[])(hl:s.length<=4000)(h:∀ c∈s,(eE c||cJ c)=true)(K:An->Prop):cKp 243 [.of (aG (aK s))] [] K↔K ⟨false,[aM (amt s)],[]⟩:=aH.k (aq1 s h0 hl h) K
abbrev tkZ:Ob:=.var 63 [.of (ci 0),.of (ci 0),.of (ci 0),.of (ci 0),.of (aG {data:=#[]})]
abbrev bZ:Ob:=.var 245 [.of (.lit (.pointer none)),.nil]
abbrev bV(l:List UInt8):Ob:=.var 245 [.ptr 0 0,.own (.cell 0 1) 5 1 (byC l) l.length]
abbrev bL(l:List UInt8):Ob:=.var 245 [.ptr 1 0,.own (.cell 1 1) 5 1 (byC l) l.length]
def wbE(xs:List X)(obs:List Ob):pr.prim 241 xs obs=wbP xs obs:=rfl
def bsE(xs:List X)(obs:List Ob):pr.prim 242 xs obs=bsP xs obs:=rfl
def aOh(c:UInt8):UInt8.ofNat (((c.toNat:Nat):Int)).toNat=c:=by simp
def aOf(c:UInt8)(K:An->Prop):cKp 241 [.ptr 0 0,.of (.lit (.int .u8 (c.toNat:Nat)))] [.var 245 [.of (.lit (.pointer none)),.nil]] K↔K ⟨false,[.of (.lit .nilIface)],[bV [c]]⟩ :=
 aH.k (aH.of_prim (by
  rw[wbE]
  have h1:0<=((c.toNat:Nat):Int)/\((c.toNat:Nat):Int)<256:=⟨by omega,by have:=c.toNat_lt;omega⟩
  have h2:([]:List UInt8).length+1<=LIM:=by decide
  simp only[wbP,ak3,db,h1,h2,bM,am,bld,aOh,ch])) K
def aB8(l:List UInt8)(n:Nat):ak3 [.var 245 [.ptr 0 0,.own (.cell 0 1) 5 1 (byC l) n]]=some l:=awr l
def aOg(l:List UInt8)(n:Nat)(c:UInt8)(K:An->Prop):cKp 241 [.ptr 0 0,.of (.lit (.int .u8 (c.toNat:Nat)))] [.var 245 [.ptr 0 0,.own (.cell 0 1) 5 1 (byC l) n]] K↔ifP (l.length+1<=LIM) (K ⟨false,[.of (.lit .nilIface)],[bV (l++[c])]⟩) (aFV Tryz.prog pr 241 [.ptr 0 0,.of (.lit (.int .u8 (c.toNat:Nat)))] [.var 245 [.ptr 0 0,.own (.cell 0 1) 5 1 (byC l) n]] K) :=
 aOw (λh=>aH.of_prim (by
  rw[wbE]
  have h1:0<=((c.toNat:Nat):Int)/\((c.toNat:Nat):Int)<256:=⟨by omega,by have:=c.toNat_lt;omega⟩
  simp only[wbP,aB8,db,h,h1,bM,am,bld,aOh])) K
def ao2(l:List UInt8)(n:Nat)(K:An->Prop):cKp 242 [.ptr 0 0] [.var 245 [.ptr 0 0,.own (.cell 0 1) 5 1 (byC l) n]] K↔K ⟨false,[.of (aG (aK l))],[.var 245 [.of .any,.of .any]]⟩ :=
 aH.k (aH.of_prim (by rw[bsE];simp only[bsP,aB8,aJ];rfl)) K
def agA:=ai (gz @Tryz.f146.eq_1 @zq @bai @bah @aRj @aE1 @aRc @a7i @a7h) (gv @bag @a7g @ab9 @bcd @P9 @Q9 @zT0 (kf aQm))
def azJ(s:List UInt8)(i:Nat)(hl:s.length<=4000)(hi:i<s.length)(h0:acX s[i]=true):GN 146 [.of (aG (aK s)),aQ i] [.of (.agg (tnC (lxW i ((s.drop i).takeWhile acv)).1)),aQ (lxW i ((s.drop i).takeWhile acv)).2]:=by
 have hall:=aF6 acv (s.drop i)
 have hlen:=ajK acv (s.drop i)
 rw[cP] at hlen
 have hne:(s.drop i).takeWhile acv≠[]:=by
  rw[aAS s i (adV hi),au (by unfold acv;rw[h0];rfl)]
  exact aeI _ _
 generalize hw:(s.drop i).takeWhile acv=w at *
 have kr:=axs (w.map abr) (by simpa using hne) (by simp;omega) (azI hall)
 have lw:(w.map abr).length=w.length:=cN _
 have hsub:IntKind.i64.wrap (((i+w.length:Nat):Int)-(i:Int))=(w.length:Int):=by rw[eu _ aC aC];omega
 have l20:((20:Int)<(w.length:Int))=(20<w.length):=propext aC
 refine bB aQm ?_
 simp only[↓zA,sevalprocAttr,agA]
 refine fX _ _ (λn t=>∃ d:List UInt8,t.fr 0=.of (aG (aK s))/\t.fr 1=aQ i/\t.fr 4=.ptr 0 0/\t.fr 7=.ptr 1 0/\t.fr 6=aQ (i+d.length:Nat)/\((d=[]/\t.objs=[tkZ,bZ])\/(d≠[]/\t.objs=[tkZ,bL (d.map abr)]))/\i+d.length+n=s.length+1/\i+d.length<=s.length/\w=d++(s.drop (i+d.length)).takeWhile acv) ?_ (s.length+1-i) _ ?_
 .rintro n ⟨frn,obn,ckn⟩ ⟨d,f0,f1,f4,f7,f6,fo,hn,hj,E⟩
  dsimp only at f0 f1 f4 f7 f6 fo
  have hwj:=fq (i+d.length) aC
  have out:w=d->(d≠[]/\obn=[tkZ,bL (d.map abr)]):=λh=>by
   rcases fo with fo|fo
   .rw[fo.1] at h;exact absurd h hne
   .exact fo
  rcases aA (i+d.length) s.length with dk|dk
  .have gx:=eX dk
   have dk':=aa dk
   rw[aAS s _ (adV dk)] at E
   generalize s[i+d.length]=c at *
   cases hc:acv c with
   | true =>
    have hd1:(acX c=true\/(acX c=false/\cJ c=true)):=by
     unfold acv at hc
     cases h1:acX c with
     | true=>exact .inl rfl
     | false=>rw[h1] at hc;exact .inr ⟨rfl,by simpa using hc⟩
    rw[hc,au rfl] at E
    have lL:(d.length+1<=LIM)=True:=aa (by unfold LIM;omega)
    have hlen2:(d++[c]).length=d.length+1:=by simp
    have E2:w=(d++[c])++(s.drop (i+(d++[c]).length)).takeWhile acv:=by rw[hlen2,E,fH];rfl
    have hm:(d++[c]).map abr=d.map abr++[abr c]:=by simp
    rcases hd1 with h1|⟨h1,h2⟩
    .rcases fo with ⟨hd,fo⟩|⟨hd,fo⟩
     .subst hd
      simp only[aR,abC] at dk' gx hwj f6
      simp only[↓zA,sevalprocAttr,agA,f0,f1,f4,f7,f6,fo,ba,dk',gx,hwj,abw,afD,h1,aOf]
      exact⟨n-1,by omega,[c],rfl,.inr ⟨aeI _ _,rfl⟩,by simp only[abf] at *;omega,by simp only[abf] at *;omega,E2⟩
     .simp only[↓zA,sevalprocAttr,agA,f0,f1,f4,f7,f6,fo,ba,dk',gx,hwj,abw,afD,h1,aOg,lL,bV]
      exact⟨n-1,by omega,d++[c],by rw[hlen2,bA],.inr ⟨by simp,by rw[hm];simp only[bL,bg,cN,abf]⟩,by rw[hlen2];omega,by rw[hlen2];omega,E2⟩
    .rcases fo with ⟨hd,fo⟩|⟨hd,fo⟩
     .subst hd
      simp only[aR,abC] at dk' gx hwj f6
      simp only[↓zA,sevalprocAttr,agA,f0,f1,f4,f7,f6,fo,ba,dk',gx,hwj,abw,ab3,afD,h1,h2,aOf]
      exact⟨n-1,by omega,[c],rfl,.inr ⟨aeI _ _,rfl⟩,by simp only[abf] at *;omega,by simp only[abf] at *;omega,E2⟩
     .simp only[↓zA,sevalprocAttr,agA,f0,f1,f4,f7,f6,fo,ba,dk',gx,hwj,abw,ab3,afD,h1,h2,aOg,lL,bV]
      exact⟨n-1,by omega,d++[c],by rw[hlen2,bA],.inr ⟨by simp,by rw[hm];simp only[bL,bg,cN,abf]⟩,by rw[hlen2];omega,by rw[hlen2];omega,E2⟩
   | false =>
    have h1:acX c=false:=by unfold acv at hc;cases h:acX c with|true=>rw[h] at hc;cases hc|false=>rfl
    have h2:cJ c=false:=by unfold acv at hc;rw[h1] at hc;simpa using hc
    rw[hc,ar aI,cZ] at E
    obtain⟨hd,fo⟩:=out E
    subst E
    cases hr:amt (w.map abr) with
    | true =>
     rw[hr] at kr
     simp only[lxW,hr,am]
     simp only[↓zA,sevalprocAttr,agA,f0,f1,f4,f7,f6,fo,ba,dk',gx,abw,ab3,h1,h2,ao2,hsub,kr,bC]
     try rfl
    | false =>
     rw[hr] at kr
     by_cases h20:20<w.length
     .simp only[lxW,hr,ah,av,h20,am]
      simp only[↓zA,sevalprocAttr,agA,f0,f1,f4,f7,f6,fo,ba,dk',gx,abw,ab3,h1,h2,ao2,hsub,kr,bC,lw,l20,h20]
      try rfl
     .simp only[lxW,hr,ah,av,h20]
      simp only[↓zA,sevalprocAttr,agA,f0,f1,f4,f7,f6,fo,ba,dk',gx,abw,ab3,h1,h2,ao2,hsub,kr,bC,lw,l20,h20]
      try rfl
  .have dk':(i+d.length<s.length)=False:=aF aC
   rw[dv dk,List.takeWhile_nil,cZ] at E
   obtain⟨hd,fo⟩:=out E
   subst E
   cases hr:amt (w.map abr) with
   | true =>
    rw[hr] at kr
    simp only[lxW,hr,am]
    simp only[↓zA,sevalprocAttr,agA,f0,f1,f4,f7,f6,fo,ba,dk',ao2,hsub,kr,bC]
    try rfl
   | false =>
    rw[hr] at kr
    by_cases h20:20<w.length
    .simp only[lxW,hr,ah,av,h20,am]
     simp only[↓zA,sevalprocAttr,agA,f0,f1,f4,f7,f6,fo,ba,dk',ao2,hsub,kr,bC,lw,l20,h20]
     try rfl
    .simp only[lxW,hr,ah,av,h20]
     simp only[↓zA,sevalprocAttr,agA,f0,f1,f4,f7,f6,fo,ba,dk',ao2,hsub,kr,bC,lw,l20,h20]
     try rfl
 .simp only[↓zA,sevalprocAttr,agA]
  first|exact⟨[],rfl,.inl rfl,by simp;omega,by simp;omega,hw.symm⟩|exact⟨[],rfl,rfl,by simp;omega,by simp;omega,hw.symm⟩
end Go.Proofs.YtghkmcffifpkeaaGreat
namespace Go.Tab
open Pe
def aHg(d:List UInt8)(c:UInt8):afa (d++[c])=min (10*afa d+(c.toNat-48)) 1000000000000001:=by simp[afa]
def aSP(d:List UInt8):afa d<=1000000000000001:=aHf d 0 aI
def aIr(c:UInt8):cJ c=true↔48<=c.toNat/\c.toNat<=57:=by simp[cJ]
def a8W(p:UInt8->Bool)(s:List UInt8)(i:Nat){c:UInt8}{r:List UInt8}(h:s.drop i=c::r):(s.drop i).takeWhile p=if p c=true then c::r.takeWhile p else []:=by
 rw[h,cE]
def aDc(l:List UInt8):anB l=aq8 l:=by cases l <;> rfl
def aD2(l:List UInt8)(c:UInt8):(Lib.indexByte l c=-1/\l.contains c=false)\/(∃ k:Nat,Lib.indexByte l c=k/\k<l.length/\l.contains c=true/\l.takeWhile (·≠c)=l.take k):=by
 induction l with
 | nil=>exact .inl ⟨rfl,rfl⟩
 | cons x r ih =>
  have hge:=Lib.indexByte_ge r c
  by_cases h:x=c
  .subst h
   refine .inr ⟨0,?_,by simp,by simp,?_⟩
   .simp[Lib.indexByte]
   .rw[cE,ar aT];rfl
  .have hb:(x == c)=false:=by simpa using h
   have hb2:(c == x)=false:=by simpa using bo h
   rcases ih with ⟨h1,h2⟩|⟨k,h1,h2,h3,h4⟩
   .refine .inl ⟨?_,?_⟩
    .simp[Lib.indexByte,hb,h1]
    .rw[ad3,hb2,h2];rfl
   .refine .inr ⟨k+1,?_,by simp;omega,?_,?_⟩
    .have:(Lib.indexByte r c == -1)=false:=by rw[h1];simp <;> omega
     simp only[Lib.indexByte,hb,ah,av,h1]
     rfl
    .rw[ad3,h3,bh]
    .rw[cE,au (by simpa using h),h4,adC]
end Go.Tab
namespace Go.Proofs.YtghkmcffifpkeaaGreat
open Pe Tab
def al9:=gz @Tryz.f148.eq_1 @zq @baf @aE1 @U3 @T5 @ab9 @zT0 (kf aQk)
def auU(s:List UInt8)(i:Nat)(hl:s.length<=4000)(hi:i<=s.length):GN 148 [.of (aG (aK s)),aQ i] [.of (.agg (tnC (ai7 i ((s.drop i).takeWhile cJ)).1)),aQ (ai7 i ((s.drop i).takeWhile cJ)).2]:=by
 have hlen:=ajK cJ (s.drop i)
 rw[cP] at hlen
 generalize hw:(s.drop i).takeWhile cJ=w at *
 have hsub:IntKind.i64.wrap (((i+w.length:Nat):Int)-(i:Int))=(w.length:Int):=by rw[eu _ aC aC];omega
 have hmx:((1000000000000000:Int)<(afa w:Int))=(1000000000000000<afa w):=propext aC
 refine bB aQk ?_
 simp only[↓zA,sevalprocAttr,al9]
 refine fX _ _ (λn t=>∃ d:List UInt8,t.fr 0=.of (aG (aK s))/\t.fr 1=aQ i/\t.fr 4=.ptr 0 0/\t.fr 6=aQ (i+d.length:Nat)/\t.fr 7=aQ (afa d)/\t.objs=[tkZ]/\i+d.length+n=s.length+1/\i+d.length<=s.length/\w=d++(s.drop (i+d.length)).takeWhile cJ) ?_ (s.length+1-i) _ ?_
 .rintro n ⟨frn,obn,ckn⟩ ⟨d,f0,f1,f4,f6,f7,fo,hn,hj,E⟩
  dsimp only at f0 f1 f4 f6 f7 fo
  have hwj:=fq (i+d.length) aC
  rcases aA (i+d.length) s.length with dk|dk
  .have gx:=eX dk
   have dk':=aa dk
   rw[a8W cJ s _ (adV dk)] at E
   generalize s[i+d.length]=c at *
   cases hc:cJ c with
   | true =>
    rw[hc,au rfl] at E
    have h48:=(aIr c).1 hc
    have hv:=aSP d
    have w1:IntKind.u8.wrap (((c.toNat:Nat):Int)-48)=((c.toNat-48:Nat):Int):=by rw[IntWalk.u8_in _ aC];omega
    have w2:IntKind.i64.wrap ((c.toNat-48:Nat):Int)=((c.toNat-48:Nat):Int):=eu _ aC aC
    have w3:IntKind.i64.wrap (10*(afa d:Int))=((10*afa d:Nat):Int):=by rw[eu _ aC aC];rfl
    have w4:IntKind.i64.wrap (((10*afa d:Nat):Int)+((c.toNat-48:Nat):Int))=((10*afa d+(c.toNat-48):Nat):Int):=by rw[eu _ aC aC];rfl
    have w5:(if (1000000000000001:Int)<((10*afa d+(c.toNat-48):Nat):Int) then 1000000000000001 else ((10*afa d+(c.toNat-48):Nat):Int))=((afa (d++[c]):Nat):Int):=by
     rw[aHg]
     split <;> omega
    have hlen2:(d++[c]).length=d.length+1:=by simp
    have E2:w=(d++[c])++(s.drop (i+(d++[c]).length)).takeWhile cJ:=by rw[hlen2,E,fH];rfl
    simp only[↓zA,sevalprocAttr,al9,f0,f1,f4,f6,f7,fo,ba,dk',gx,hwj,ab3,hc,alh T5 U3,w1,w2,w3,w4,w5]
    exact⟨n-1,by omega,d++[c],by rw[hlen2,bA],rfl,by rw[hlen2];omega,by rw[hlen2];omega,E2⟩
   | false =>
    rw[hc,ar aI,cZ] at E
    subst E
    by_cases hm:1000000000000000<afa w
    .simp only[ai7,hm,am]
     simp only[↓zA,sevalprocAttr,al9,f0,f1,f4,f6,f7,fo,ba,dk',gx,ab3,hc,hmx,hm,bC]
     try rfl
    .simp only[ai7,hm,av]
     simp only[↓zA,sevalprocAttr,al9,f0,f1,f4,f6,f7,fo,ba,dk',gx,ab3,hc,hmx,hm,hsub,bC]
     try rfl
  .have dk':(i+d.length<s.length)=False:=aF aC
   rw[dv dk,List.takeWhile_nil,cZ] at E
   subst E
   by_cases hm:1000000000000000<afa w
   .simp only[ai7,hm,am]
    simp only[↓zA,sevalprocAttr,al9,f0,f1,f4,f6,f7,fo,ba,dk',hmx,hm,bC]
    try rfl
   .simp only[ai7,hm,av]
    simp only[↓zA,sevalprocAttr,al9,f0,f1,f4,f6,f7,fo,ba,dk',hmx,hm,hsub,bC]
    try rfl
 .simp only[↓zA,sevalprocAttr,al9]
  exact⟨[],rfl,rfl,by simp;omega,by simp;omega,hw.symm⟩
def lxE(xs:List X)(obs:List Ob):pr.prim 244 xs obs=lxP xs obs:=rfl
def anJ(s:List UInt8)(K:An->Prop):cKp 244 [.of (.lit (.string (aK s)))] [] K↔K ⟨false,[aM (anB s)],[]⟩ :=
 aH.k (aH.of_prim (by rw[lxE,aDc];simp[lxP,aK])) K
def avl:=gv @Tryz.f149.eq_1 @zq @ban @aRd @a7f @ab9 @zT0 (kf arw)
def auT(s:List UInt8)(i:Nat)(hl:s.length<=4000)(hi:i<s.length):GN 149 [.of (aG (aK s)),aQ i] [.of (.agg (tnC (aj4 i (s.drop (i+1))).1)),aQ (aj4 i (s.drop (i+1))).2]:=by
 have hw:=fq i aC
 have sf:=aA5 s (i+1) aC
 have lr:(s.drop (i+1)).length=s.length-(i+1):=cP ..
 rcases aD2 (s.drop (i+1)) 34 with ⟨h1,h2⟩|⟨k,h1,h2,h3,h4⟩
 .have h0:((-1:Int)<0)=True:=aa aI
  simp only[aj4,h2,ah,av]
  refine bB arw ?_
  simp only[↓zA,sevalprocAttr,avl,hw,sf,arn,h1,h0,bC]
  try rfl
 .have h0:((k:Int)<0)=False:=aF aC
  have hw2:IntKind.i64.wrap (((i+1:Nat):Int)+(k:Int))=((i+1+k:Nat):Int):=by rw[eu _ aC aC];rfl
  have hw3:IntKind.i64.wrap ((k:Int)+2)=((k+2:Nat):Int):=by rw[eu _ aC aC];rfl
  have sb:=asl s (i+1) (i+1+k) aC aC
  have et:(s.take (i+1+k)).drop (i+1)=(s.drop (i+1)).take k:=by rw[adO];congr 1;omega
  rw[et] at sb
  have hk:((s.drop (i+1)).take k).length=k:=by rw[ac7];omega
  simp only[aj4,h3,am,h4]
  generalize (s.drop (i+1)).take k=n at *
  subst hk
  have l20:((20:Int)<(n.length:Int))=(20<n.length):=propext aC
  cases hp:anB n with
  | false =>
   simp only[dH,am]
   refine bB arw ?_
   simp only[↓zA,sevalprocAttr,avl,hw,sf,arn,h1,h0,hw2,sb,anJ,hp,bC]
   try rfl
  | true =>
   by_cases h20:20<n.length
   .simp only[cX,ah,av,h20,am]
    refine bB arw ?_
    simp only[↓zA,sevalprocAttr,avl,hw,sf,arn,h1,h0,hw2,sb,anJ,hp,l20,h20,bC]
    try rfl
   .simp only[cX,ah,av,h20]
    refine bB arw ?_
    simp only[↓zA,sevalprocAttr,avl,hw,sf,arn,h1,h0,hw2,hw3,sb,anJ,hp,l20,h20,bC]
    try rfl

/- A part. Conditions: none. -/
import Derived.Test.YtghkmcffifpkeaaGreatPa8
set_option linter.all false
set_option maxRecDepth 100000
set_option maxHeartbeats 64000000
namespace Go.Proofs.YtghkmcffifpkeaaGreat
open Pe Tab
def a2D(l:List Tn)(n:Nat)(os:List Od)(i:Nat):byL l (n+1) os i=match byR l i with
 | some (o,j,false)=>if isT l j [44] then byL l n (os++[o]) (j+1) else some (os++[o],j,false)
 | _=>some ([],i,true):=by
 show (if _ then _ else _)=_
 unfold byR
 by_cases c:(br l i 2||(br l i 3&&decide (0<nuT l i)))=true
 .rw[am c,am c]
  simp only[co,aE]
 .rw[aj c,aj c]
def byM(l:List Tn)(n:Nat)(os:List Od)(j:Nat):Rz (List Od):=if isT l j [44] then byL l n os (j+1) else some (os,j,false)
def awX(l:List Tn)(n:Nat)(os:List Od)(i:Nat)(h:∀ q,byR l i=some q->q.2.2=true->q.2.1=i:=by intro q h;unfold byR at h;split at h <;> (cases h;intro h;first|rfl|cases h)):byL l (n+1) os i=(byR l i).on (λ_=>[]) λo j=>byM l n (os++[o]) j:=by
 rw[a2D]
 cases e:byR l i with
 | none=>unfold byR at e;split at e <;> cases e
 | some q =>
  obtain⟨o,j,b⟩:=q
  cases b with
  | true=>have:=h _ e rfl;dsimp only at this;rw[this];rfl
  | false=>rfl
def aoL(l:List Tn)(q:Qy)(j:Nat):Rz Qy :=
 if atH q&&co l j [[111,114,100,101,114],[108,105,109,105,116],[111,102,102,115,101,116]] then some (q,j,true)
 else if isT l j [111,114,100,101,114] then (ajY l (j+1)).on (λ_=>q) λo m=>aep l q o m
 else aep l q q.od j
def aos(F:Fs)(l:List Tn)(i:Nat)(pre:List Qy):aeD F l i pre=(aaE F l i pre).on id λa j=>(adb (aaE F l) l [([117,110,105,111,110],2),([101,120,99,101,112,116],4)] (l.length+1) a j).on id λq j=>aoL l q j:=by
 show (ah1 F l i pre).on id (λq j=>aoL l q j)=_
 unfold ah1 ah3
 cases e:aaE F l i pre with
 | none=>rfl
 | some q =>
  obtain⟨a,j,b⟩:=q
  cases b <;> rfl
abbrev atK(q:Qy)(os:List Od)(r:Nat):List X:=[.of (ci q.op),.of (cb q.al),.of (slC qyC q.ks),.of (cb q.di),.of (slC imC q.its),.of (slC fmC q.fr),.of (slC xpC q.wh),.of (slC xpC q.gr),.of (slC xpC q.hv),.own (.cell r 9) 126 3 (fl odC os) os.length,.of (ci q.li),.of (ci q.sk)]
def acp:=fV (fZ @Tryz.f39.eq_1 @zq @bbs @bdP @bbr @azr @al0 @a2f) (fZ @ak1 @ab5 @aeN @bdO @bc0 @aTF @acD @a2e) (fZ @ep @acI @abb @aba @aa9 @aa8 @aa7 @aa6) (fY @ahd @ajs @bO @P3 @Q3 @zT0 (kf ay1))
def aEo{l:List Tn}{e:Int}{F:Fs}(hl:l.length<LB)(H:PY l e F)(i:Nat)(r:Qy×Nat×Bool)(hi:i<=l.length)(hr:aeD F l i []=some r):GP 39 [.ptr 0 0] [pT l i e] l e [] qyE i r:=by
 refine⟨Pl.at (aor H.fp hi) hr,?_⟩
 rw[aos] at hr
 cases e1:aaE F l i [] with
 | none=>rw[e1] at hr;cases hr
 | some q =>
 obtain⟨a,j,q⟩:=q
 have g:=aip hl H i _ hi e1
 obtain⟨u,v⟩:=g.1
 dsimp only at u v
 rw[e1] at hr
 cases q with
 | true =>
  have k:=g.bad
  cases hr
  refine bB ay1 ?_
  simp only[↓zA,sevalprocAttr,acp,bz,pT,zP,k]
  all_goals exact fz
 | false =>
 have k:=g.ok
 simp only[Rz.on] at hr
 refine bB ay1 ?_
 simp only[↓zA,sevalprocAttr,acp,bz,pT,k]
 refine aaj _ _ (λn s=>∃ q j,s.fr 0=.ptr 0 0/\s.fr 2=.ptr 1 0/\s.fr 3=.ptr 2 0/\s.objs=[pT l j e,.var 38 qyZ,.var 38 (qyV q)]/\(adb (aaE F l) l [([117,110,105,111,110],2),([101,120,99,101,112,116],4)] n q j).on id (λq j=>aoL l q j)=some r/\j<=l.length) ?_ (l.length+1) _ ?_
 .rintro n ⟨frn,obn,ckn⟩ ⟨q,j,f0,f2,f3,fo,E,hj⟩
  dsimp only at f0 f2 f3 fo
  cases n with
  | zero=>simp only[adb,Rz.on] at E;cases E
  | succ n =>
  simp only[adb,opT] at E
  cases cu:isT l j [117,110,105,111,110] with
  | true =>
   have hj1:=fF cu
   have hw:=er j (by unfold LB at hl;omega)
   have tU:=aB2 l j e [117,110,105,111,110] [101,120,99,101,112,116] hl hj (b:=true) (by simp only[co,cu,aE,eK])
   have tI:=sK l j e [117,110,105,111,110] hl hj
   rw[cu] at tI
   simp only[cu,au] at E
   cases e2:aaE F l (if isT l (j+1) [97,108,108]=true then j+2 else j+1) [] with
   | none=>rw[e2] at E;cases E
   | some r2 =>
   have g2:=aiG (e:=e) hl 149 74 aI (aA aI) awA aDU asK (aaE F l) (λi r h1 h2=>aip hl H i r h1 h2) 2 (ci q.op) (cb q.al) (slC qyC q.ks) (cb q.di) (slC imC q.its) (slC fmC q.fr) (slC xpC q.wh) (slC xpC q.gr) (slC xpC q.hv) (slC odC q.od) (ci q.li) (ci q.sk) (j+1) r2 aC e2
   obtain⟨y,j2,q2⟩:=r2
   obtain⟨u2,v2⟩:=g2.1
   dsimp only at u2 v2
   rw[e2] at E
   cases q2 with
   | true =>
    have k2:=g2.bad
    cases E
    simp only[↓zA,sevalprocAttr,acp,pT,zP,zBS,f0,f3,fo,hw,tU,tI,k2]
    all_goals exact fz
   | false =>
    have k2:=g2.ok
    simp only[Rz.on] at E
    simp only[↓zA,sevalprocAttr,acp,pT,zBS,f0,f2,f3,fo,hw,tU,tI,k2]
    refine⟨n,aP n,_,j2,?_,E,v2⟩
    simp only[qyV,qyL]
    simp only[zVW]
    all_goals rfl
  | false =>
  cases cx:isT l j [101,120,99,101,112,116] with
  | true =>
   have hj1:=fF cx
   have hw:=er j (by unfold LB at hl;omega)
   have tU:=aB2 l j e [117,110,105,111,110] [101,120,99,101,112,116] hl hj (b:=true) (by simp only[co,cu,cx,aE,bj])
   have tI:=sK l j e [117,110,105,111,110] hl hj
   rw[cu] at tI
   simp only[cu,cx,au,av,ah] at E
   cases e2:aaE F l (if isT l (j+1) [97,108,108]=true then j+2 else j+1) [] with
   | none=>rw[e2] at E;cases E
   | some r2 =>
   have g2:=aiG (e:=e) hl 149 74 aI (aA aI) awA aDU asK (aaE F l) (λi r h1 h2=>aip hl H i r h1 h2) 4 (ci q.op) (cb q.al) (slC qyC q.ks) (cb q.di) (slC imC q.its) (slC fmC q.fr) (slC xpC q.wh) (slC xpC q.gr) (slC xpC q.hv) (slC odC q.od) (ci q.li) (ci q.sk) (j+1) r2 aC e2
   obtain⟨y,j2,q2⟩:=r2
   obtain⟨u2,v2⟩:=g2.1
   dsimp only at u2 v2
   rw[e2] at E
   cases q2 with
   | true =>
    have k2:=g2.bad
    cases E
    simp only[↓zA,sevalprocAttr,acp,pT,zP,zBS,f0,f3,fo,hw,tU,tI,k2]
    all_goals exact fz
   | false =>
    have k2:=g2.ok
    simp only[Rz.on] at E
    simp only[↓zA,sevalprocAttr,acp,pT,zBS,f0,f2,f3,fo,hw,tU,tI,k2]
    refine⟨n,aP n,_,j2,?_,E,v2⟩
    simp only[qyV,qyL]
    simp only[zVW]
    all_goals rfl
  | false =>
   have tU:=aB2 l j e [117,110,105,111,110] [101,120,99,101,112,116] hl hj (b:=false) (by simp only[co,cu,cx,aE])
   simp only[cu,cx,ah,av,Rz.on] at E
   rcases eWX l j e [111,114,100,101,114] hl with ⟨c1,b1,t1,x1⟩|⟨c1,t1⟩
   have z2:=aB3 l j e [111,114,100,101,114] [108,105,109,105,116] [111,102,102,115,101,116] hl hj (b:=true) (by simp only[co,c1,x1,uL,sevalprocAttr,cS,fH,aE])
   have w2:co l j [[111,114,100,101,114],[108,105,109,105,116],[111,102,102,115,101,116]]=true:=by simp only[co,c1,x1,uL,sevalprocAttr,cS,fH,aE]
   have hq1:((0:Int)<(q.od.length:Int))=(0<q.od.length):=aV 0 _
   have gk:=gK l j e hl hj
   rcases eP (0<q.od.length) with ⟨c3,d3⟩|⟨c3,d3⟩
   rotate_left
   rcases cr (q.li=-1) with d4|d4
   rcases eP (0<q.sk) with ⟨c5,d5⟩|⟨c5,d5⟩
   rotate_left
   rcases eWX l (j+1) e [98,121] hl with ⟨c6,b6,t6,x6⟩|⟨c6,t6⟩
   simp only[aoL,atH,ajY,aE,aae,abo,zRZ,sevalprocAttr,↓reduceIte,c1,w2,d3,d4,d5,c6] at E
   rw[show l.length+1=l.length+1 from rfl,awX] at E
   rcases eR (byR l (j+2)) λ_=>apK e hl H.tl _ _ aC with e8|⟨a8,j8,e8,⟨u8,v8⟩,k8⟩|⟨a8,j8,e8,⟨u8,v8⟩,k8⟩
   rotate_left
   .simp only[e8,Rz.on] at E
    cases E
    simp only[↓zA,sevalprocAttr,acp,pT,zP,zBS,bh,zLX, *]
    all_goals exact fz
   .simp only[e8,Rz.on,cj] at E
    simp only[↓zA,sevalprocAttr,acp,pT,zBS,bh, *]
    refine aaj _ _ (λn s=>∃ os j,s.fr 0=.ptr 0 0/\s.fr 2=.ptr 1 0/\s.fr 3=.ptr 2 0/\s.objs=[pT l j e,.var 38 qyZ,.var 38 (atK q os 2)]/\(byM l n os j).on (λ_=>q) (λo m=>aep l q o m)=some r/\j<=l.length/\os.length<=j) ?_ l.length _ ?_
    .rintro n ⟨frn,obn,ckn⟩ ⟨os,j,f0,f2,f3,fo,E,hj,hk⟩
     dsimp only at f0 f2 f3 fo
     have hos:(os.length+1<=LIM)=True:=aa (by unfold LIM;unfold LB at hl;omega)
     rcases eWX l j e [44] hl with ⟨c9,b9,t9,x9⟩|⟨c9,t9⟩
     .cases n with
      | zero=>simp only[byM,c9,au,byL,Rz.on] at E;cases E
      | succ m =>
      simp only[byM,c9,au] at E
      rw[awX] at E
      rcases eR (byR l (j+1)) λ_=>apK e hl H.tl _ _ aC with e10|⟨a10,j10,e10,⟨u10,v10⟩,k10⟩|⟨a10,j10,e10,⟨u10,v10⟩,k10⟩
      rotate_left
      .simp only[e10,Rz.on] at E
       cases E
       simp only[↓zA,sevalprocAttr,acp,pT,zP,bh,zLX, *]
       all_goals exact fz
      .simp only[e10,Rz.on] at E
       simp only[↓zA,sevalprocAttr,acp,pT,zP,bh,zLX,ec, *]
       refine⟨m,aP m,os++[a10],j10,?_,E,v10,by simp only[aeX];omega⟩
       simp only[atK]
       simp only[zVW]
       all_goals rfl
      all_goals (simp only[byM,aep,agc,zRZ,sevalprocAttr, *] at E <;> cases E)
     rcases eWX l j e [108,105,109,105,116] hl with _|_
     rcases ajX l (j+1) e hl with _|_
     rcases eWX l (j+2) e [111,102,102,115,101,116] hl with _|_
     rcases ajX l (j+3) e hl with _|_
     rotate_left 4
     rcases eWX l j e [111,102,102,115,101,116] hl with _|_
     rcases ajX l (j+1) e hl with _|_
     rotate_left 3
     all_goals (simp only[byM,aep,agc,zRZ,sevalprocAttr,↓reduceIte, *] at E <;> cases E <;> (simp only[↓zA,sevalprocAttr,acp,pT,zP,bh,zLX, *];all_goals exact fz))
    .simp only[↓zA,sevalprocAttr,acp,pT,f0,f2,f3]
     refine⟨[a8],j8,?_,E,v8,by simp only[abP];omega⟩
     simp only[atK]
     simp only[zVW]
     all_goals rfl
   rotate_left 2
   rcases eWX l j e [108,105,109,105,116] hl with ⟨c17,b17,t17,x17⟩|⟨c17,t17⟩
   have z18:=aB3 l j e [111,114,100,101,114] [108,105,109,105,116] [111,102,102,115,101,116] hl hj (b:=true) (by simp only[co,c1,c17,x17,uL,sevalprocAttr,cS,aE,bj])
   have w18:co l j [[111,114,100,101,114],[108,105,109,105,116],[111,102,102,115,101,116]]=true:=by simp only[co,c1,c17,x17,uL,sevalprocAttr,cS,aE,bj]
   have hq1:((0:Int)<(q.od.length:Int))=(0<q.od.length):=aV 0 _
   have gk:=gK l j e hl hj
   rcases eP (0<q.od.length) with ⟨c19,d19⟩|⟨c19,d19⟩
   rotate_left
   rcases cr (q.li=-1) with d20|d20
   rcases eP (0<q.sk) with ⟨c21,d21⟩|⟨c21,d21⟩
   rotate_left
   rcases ajX l (j+1) e hl with _|_
   rcases eWX l (j+2) e [111,102,102,115,101,116] hl with _|_
   rcases ajX l (j+3) e hl with _|_
   rotate_left 5
   rcases eWX l j e [111,102,102,115,101,116] hl with ⟨c25,b25,t25,x25⟩|⟨c25,t25⟩
   have z26:=aB3 l j e [111,114,100,101,114] [108,105,109,105,116] [111,102,102,115,101,116] hl hj (b:=true) (by simp only[co,c1,c17,c25,sevalprocAttr,aE,bj])
   have w26:co l j [[111,114,100,101,114],[108,105,109,105,116],[111,102,102,115,101,116]]=true:=by simp only[co,c1,c17,c25,sevalprocAttr,aE,bj]
   have hq1:((0:Int)<(q.od.length:Int))=(0<q.od.length):=aV 0 _
   have gk:=gK l j e hl hj
   rcases eP (0<q.od.length) with ⟨c27,d27⟩|⟨c27,d27⟩
   rotate_left
   rcases cr (q.li=-1) with d28|d28
   rcases eP (0<q.sk) with ⟨c29,d29⟩|⟨c29,d29⟩
   rotate_left
   rcases ajX l (j+1) e hl with _|_
   rotate_left 3
   have z31:=aB3 l j e [111,114,100,101,114] [108,105,109,105,116] [111,102,102,115,101,116] hl hj (b:=false) (by simp only[co,c1,c17,c25,sevalprocAttr,aE])
   have w31:co l j [[111,114,100,101,114],[108,105,109,105,116],[111,102,102,115,101,116]]=false:=by simp only[co,c1,c17,c25,sevalprocAttr,aE]
   rotate_left
   all_goals (simp only[aoL,atH,ajY,aep,agc,aE,eK,bj,aae,abo,abp,decide_not,zRZ,sevalprocAttr,↓reduceIte, *] at E <;> cases E <;> (simp only[↓zA,sevalprocAttr,acp,pT,zP,zBS,bh,zLX, *];all_goals exact fz))
 .simp only[↓zA,sevalprocAttr,acp,pT]
  exact⟨a,j,rfl,hr,v⟩
def aAE{l:List Tn}{e:Int}{F:Fs}(hl:l.length<LB)(H:PY l e F)(i:Nat)(x:Qy)(cs:List C)(hx:cs=qyC x)(r:Qy×Nat×Bool)(hi:i<=l.length)(hr:aeD F l i [x]=some r):GP 39 [.ptr 0 0] [pTq l i e,.row 38 cs] l e deQ qyE i r:=by
 refine⟨Pl.at (aor H.fp hi) hr,?_⟩
 rw[aos] at hr
 have lv:adq (some (.row 38 cs))=true:=by rw[hx,ad6];rfl
 cases e1:aaE F l i [x] with
 | none=>rw[e1] at hr;cases hr
 | some q =>
 obtain⟨a,j,q⟩:=q
 have g:=aAX hl H i x cs hx _ hi e1
 obtain⟨u,v⟩:=g.1
 dsimp only at u v
 rw[e1] at hr
 cases q with
 | true =>
  have k:=g.bad
  cases hr
  refine bB ay1 ?_
  simp only[↓zA,sevalprocAttr,acp,bz,pT,pTq,zP,k,lv]
  all_goals exact fz
 | false =>
 have k:=g.ok
 simp only[Rz.on] at hr
 refine bB ay1 ?_
 simp only[↓zA,sevalprocAttr,acp,bz,pT,pTq,k,lv]
 refine aaj _ _ (λn s=>∃ q j,s.fr 0=.ptr 0 0/\s.fr 2=.ptr 2 0/\s.fr 3=.ptr 3 0/\s.objs=[pT l j e,.row 38 [],.var 38 qyZ,.var 38 (qyV q)]/\(adb (aaE F l) l [([117,110,105,111,110],2),([101,120,99,101,112,116],4)] n q j).on id (λq j=>aoL l q j)=some r/\j<=l.length) ?_ (l.length+1) _ ?_
 .rintro n ⟨frn,obn,ckn⟩ ⟨q,j,f0,f2,f3,fo,E,hj⟩
  dsimp only at f0 f2 f3 fo
  cases n with
  | zero=>simp only[adb,Rz.on] at E;cases E
  | succ n =>
  simp only[adb,opT] at E
  cases cu:isT l j [117,110,105,111,110] with
  | true =>
   have hj1:=fF cu
   have hw:=er j (by unfold LB at hl;omega)
   have tU:=aB2 l j e [117,110,105,111,110] [101,120,99,101,112,116] hl hj (b:=true) (by simp only[co,cu,aE,eK])
   have tI:=sK l j e [117,110,105,111,110] hl hj
   rw[cu] at tI
   simp only[cu,au] at E
   cases e2:aaE F l (if isT l (j+1) [97,108,108]=true then j+2 else j+1) [] with
   | none=>rw[e2] at E;cases E
   | some r2 =>
   have g2:=aiG (e:=e) hl 149 74 aI (aA aI) awA aDU asK (aaE F l) (λi r h1 h2=>aip hl H i r h1 h2) 2 (ci q.op) (cb q.al) (slC qyC q.ks) (cb q.di) (slC imC q.its) (slC fmC q.fr) (slC xpC q.wh) (slC xpC q.gr) (slC xpC q.hv) (slC odC q.od) (ci q.li) (ci q.sk) (j+1) r2 aC e2
   obtain⟨y,j2,q2⟩:=r2
   obtain⟨u2,v2⟩:=g2.1
   dsimp only at u2 v2
   rw[e2] at E
   cases q2 with
   | true =>
    have k2:=g2.bad
    cases E
    simp only[↓zA,sevalprocAttr,acp,pT,zP,zBS,f0,f3,fo,hw,tU,tI,k2]
    all_goals exact fz
   | false =>
    have k2:=g2.ok
    simp only[Rz.on] at E
    simp only[↓zA,sevalprocAttr,acp,pT,zBS,f0,f2,f3,fo,hw,tU,tI,k2]
    refine⟨n,aP n,_,j2,?_,E,v2⟩
    simp only[qyV,qyL]
    simp only[zVW]
    all_goals rfl
  | false =>
  cases cx:isT l j [101,120,99,101,112,116] with
  | true =>
   have hj1:=fF cx
   have hw:=er j (by unfold LB at hl;omega)
   have tU:=aB2 l j e [117,110,105,111,110] [101,120,99,101,112,116] hl hj (b:=true) (by simp only[co,cu,cx,aE,bj])
   have tI:=sK l j e [117,110,105,111,110] hl hj
   rw[cu] at tI
   simp only[cu,cx,au,av,ah] at E
   cases e2:aaE F l (if isT l (j+1) [97,108,108]=true then j+2 else j+1) [] with
   | none=>rw[e2] at E;cases E
   | some r2 =>
   have g2:=aiG (e:=e) hl 149 74 aI (aA aI) awA aDU asK (aaE F l) (λi r h1 h2=>aip hl H i r h1 h2) 4 (ci q.op) (cb q.al) (slC qyC q.ks) (cb q.di) (slC imC q.its) (slC fmC q.fr) (slC xpC q.wh) (slC xpC q.gr) (slC xpC q.hv) (slC odC q.od) (ci q.li) (ci q.sk) (j+1) r2 aC e2
   obtain⟨y,j2,q2⟩:=r2
   obtain⟨u2,v2⟩:=g2.1
   dsimp only at u2 v2
   rw[e2] at E
   cases q2 with
   | true =>
    have k2:=g2.bad
    cases E
    simp only[↓zA,sevalprocAttr,acp,pT,zP,zBS,f0,f3,fo,hw,tU,tI,k2]
    all_goals exact fz
   | false =>
    have k2:=g2.ok
    simp only[Rz.on] at E
    simp only[↓zA,sevalprocAttr,acp,pT,zBS,f0,f2,f3,fo,hw,tU,tI,k2]
    refine⟨n,aP n,_,j2,?_,E,v2⟩
    simp only[qyV,qyL]
    simp only[zVW]
    all_goals rfl
  | false =>
   have tU:=aB2 l j e [117,110,105,111,110] [101,120,99,101,112,116] hl hj (b:=false) (by simp only[co,cu,cx,aE])
   simp only[cu,cx,ah,av,Rz.on] at E
   rcases eWX l j e [111,114,100,101,114] hl with ⟨c1,b1,t1,x1⟩|⟨c1,t1⟩
   have z2:=aB3 l j e [111,114,100,101,114] [108,105,109,105,116] [111,102,102,115,101,116] hl hj (b:=true) (by simp only[co,c1,x1,uL,sevalprocAttr,cS,fH,aE])
   have w2:co l j [[111,114,100,101,114],[108,105,109,105,116],[111,102,102,115,101,116]]=true:=by simp only[co,c1,x1,uL,sevalprocAttr,cS,fH,aE]
   have hq1:((0:Int)<(q.od.length:Int))=(0<q.od.length):=aV 0 _
   have gk:=gK l j e hl hj
   rcases eP (0<q.od.length) with ⟨c3,d3⟩|⟨c3,d3⟩
   rotate_left
   rcases cr (q.li=-1) with d4|d4
   rcases eP (0<q.sk) with ⟨c5,d5⟩|⟨c5,d5⟩
   rotate_left
   rcases eWX l (j+1) e [98,121] hl with ⟨c6,b6,t6,x6⟩|⟨c6,t6⟩
   simp only[aoL,atH,ajY,aE,aae,abo,zRZ,sevalprocAttr,↓reduceIte,c1,w2,d3,d4,d5,c6] at E
   rw[show l.length+1=l.length+1 from rfl,awX] at E
   rcases eR (byR l (j+2)) λ_=>apK e hl H.tl _ _ aC with e8|⟨a8,j8,e8,⟨u8,v8⟩,k8⟩|⟨a8,j8,e8,⟨u8,v8⟩,k8⟩
   rotate_left
   .simp only[e8,Rz.on] at E
    cases E
    simp only[↓zA,sevalprocAttr,acp,pT,zP,zBS,bh,zLX, *]
    all_goals exact fz
   .simp only[e8,Rz.on,cj] at E
    simp only[↓zA,sevalprocAttr,acp,pT,zBS,bh, *]
    refine aaj _ _ (λn s=>∃ os j,s.fr 0=.ptr 0 0/\s.fr 2=.ptr 2 0/\s.fr 3=.ptr 3 0/\s.objs=[pT l j e,.row 38 [],.var 38 qyZ,.var 38 (atK q os 3)]/\(byM l n os j).on (λ_=>q) (λo m=>aep l q o m)=some r/\j<=l.length/\os.length<=j) ?_ l.length _ ?_
    .rintro n ⟨frn,obn,ckn⟩ ⟨os,j,f0,f2,f3,fo,E,hj,hk⟩
     dsimp only at f0 f2 f3 fo
     have hos:(os.length+1<=LIM)=True:=aa (by unfold LIM;unfold LB at hl;omega)
     rcases eWX l j e [44] hl with ⟨c9,b9,t9,x9⟩|⟨c9,t9⟩
     .cases n with
      | zero=>simp only[byM,c9,au,byL,Rz.on] at E;cases E
      | succ m =>
      simp only[byM,c9,au] at E
      rw[awX] at E
      rcases eR (byR l (j+1)) λ_=>apK e hl H.tl _ _ aC with e10|⟨a10,j10,e10,⟨u10,v10⟩,k10⟩|⟨a10,j10,e10,⟨u10,v10⟩,k10⟩
      rotate_left
      .simp only[e10,Rz.on] at E
       cases E
       simp only[↓zA,sevalprocAttr,acp,pT,zP,bh,zLX, *]
       all_goals exact fz
      .simp only[e10,Rz.on] at E
       simp only[↓zA,sevalprocAttr,acp,pT,zP,bh,zLX,ec, *]
       refine⟨m,aP m,os++[a10],j10,?_,E,v10,by simp only[aeX];omega⟩
       simp only[atK]
       simp only[zVW]
       all_goals rfl
      all_goals (simp only[byM,aep,agc,zRZ,sevalprocAttr, *] at E <;> cases E)
     rcases eWX l j e [108,105,109,105,116] hl with _|_
     rcases ajX l (j+1) e hl with _|_
     rcases eWX l (j+2) e [111,102,102,115,101,116] hl with _|_
     rcases ajX l (j+3) e hl with _|_
     rotate_left 4
     rcases eWX l j e [111,102,102,115,101,116] hl with _|_
     rcases ajX l (j+1) e hl with _|_
     rotate_left 3
     all_goals (simp only[byM,aep,agc,zRZ,sevalprocAttr,↓reduceIte, *] at E <;> cases E <;> (simp only[↓zA,sevalprocAttr,acp,pT,zP,bh,zLX, *];all_goals exact fz))
    .simp only[↓zA,sevalprocAttr,acp,pT,f0,f2,f3]
     refine⟨[a8],j8,?_,E,v8,by simp only[abP];omega⟩
     simp only[atK]
     simp only[zVW]
     all_goals rfl
   rotate_left 2
   rcases eWX l j e [108,105,109,105,116] hl with ⟨c17,b17,t17,x17⟩|⟨c17,t17⟩
   have z18:=aB3 l j e [111,114,100,101,114] [108,105,109,105,116] [111,102,102,115,101,116] hl hj (b:=true) (by simp only[co,c1,c17,x17,uL,sevalprocAttr,cS,aE,bj])
   have w18:co l j [[111,114,100,101,114],[108,105,109,105,116],[111,102,102,115,101,116]]=true:=by simp only[co,c1,c17,x17,uL,sevalprocAttr,cS,aE,bj]
   have hq1:((0:Int)<(q.od.length:Int))=(0<q.od.length):=aV 0 _
   have gk:=gK l j e hl hj
   rcases eP (0<q.od.length) with ⟨c19,d19⟩|⟨c19,d19⟩
   rotate_left
   rcases cr (q.li=-1) with d20|d20
   rcases eP (0<q.sk) with ⟨c21,d21⟩|⟨c21,d21⟩
   rotate_left
   rcases ajX l (j+1) e hl with _|_
   rcases eWX l (j+2) e [111,102,102,115,101,116] hl with _|_
   rcases ajX l (j+3) e hl with _|_
   rotate_left 5
   rcases eWX l j e [111,102,102,115,101,116] hl with ⟨c25,b25,t25,x25⟩|⟨c25,t25⟩
   have z26:=aB3 l j e [111,114,100,101,114] [108,105,109,105,116] [111,102,102,115,101,116] hl hj (b:=true) (by simp only[co,c1,c17,c25,sevalprocAttr,aE,bj])
   have w26:co l j [[111,114,100,101,114],[108,105,109,105,116],[111,102,102,115,101,116]]=true:=by simp only[co,c1,c17,c25,sevalprocAttr,aE,bj]
   have hq1:((0:Int)<(q.od.length:Int))=(0<q.od.length):=aV 0 _
   have gk:=gK l j e hl hj
   rcases eP (0<q.od.length) with ⟨c27,d27⟩|⟨c27,d27⟩
   rotate_left
   rcases cr (q.li=-1) with d28|d28
   rcases eP (0<q.sk) with ⟨c29,d29⟩|⟨c29,d29⟩
   rotate_left
   rcases ajX l (j+1) e hl with _|_
   rotate_left 3
   have z31:=aB3 l j e [111,114,100,101,114] [108,105,109,105,116] [111,102,102,115,101,116] hl hj (b:=false) (by simp only[co,c1,c17,c25,sevalprocAttr,aE])
   have w31:co l j [[111,114,100,101,114],[108,105,109,105,116],[111,102,102,115,101,116]]=false:=by simp only[co,c1,c17,c25,sevalprocAttr,aE]
   rotate_left
   all_goals (simp only[aoL,atH,ajY,aep,agc,aE,eK,bj,aae,abo,abp,decide_not,zRZ,sevalprocAttr,↓reduceIte, *] at E <;> cases E <;> (simp only[↓zA,sevalprocAttr,acp,pT,zP,zBS,bh,zLX, *];all_goals exact fz))
 .simp only[↓zA,sevalprocAttr,acp,pT]
  exact⟨a,j,rfl,hr,v⟩
def avj{l:List Tn}(T:TL l)(j:Nat)(q:Qy):abO l j q=some (if (asT l j).2.2=true then (if isT l j [97,115]=true then .mk 2 [] [] [q] [] [] else f0) else .mk 2 [] (asT l j).1 [q] [] [],(asT l j).2.1,(asT l j).2.2):=by
 have ne:∀ i,br l i 2=true->decide (txT l i=[])=false:=by
  intro i h
  have hb:=aaU h
  refine bw ?_
  rw[aro]
  refine T.s _ (ajv hb) ?_
  rwa [agj l i 2 aI,bf] at h
 unfold abO eM asT cd
 cases c:isT l j [97,115] with
 | true =>
  simp only[au]
  cases k:br l (j+1) 2 with
  | true=>simp only[au,ne _ k,dK,cW,ah,av]
  | false=>simp only[au,av,ah,db,dL]
 | false =>
  simp only[ah,av]
  cases k:br l j 2 with
  | true=>simp only[au,ne _ k,dK,cW,ah,av]
  | false=>simp only[au,av,ah,dK,aaw,aaH]
def aSM:IntKind.i64.wrap (-1)=-1:=by decide
def aPe:=fV (fZ @Tryz.f319.eq_1 @zq @ba6 @a7g @apI @ak0 @a7f @aF8) (fZ @aeN @aSr @a7e @bcR @aLG @acD @ep @acI) (fZ @abb @aba @aa9 @aa8 @aa7 @aa6 @eG @ao7) (fY @fC @acC @bO @P4 @Q4 @zT0 (kf aFy))
def aTj(l:List Tn)(i:Nat)(e:Int)(x:Fm)(cs:List C)(hx:cs=fmC x):aH Tryz.prog pr 319 [.ptr 0 0] [pTf l i e,.row 140 cs] ⟨false,[fmE x],[pT l i e,.row 140 []]⟩:=by
 subst hx
 have hw:IntKind.i64.wrap (1-1)=0:=by decide
 refine bB aFy ?_
 simp only[↓zA,sevalprocAttr,aPe,pT,pTf,aw4,a7x,a7m,a7r,E35]
 all_goals exact fz
def ae1{l:List Tn}{e:Int}{F:Fs}(hl:l.length<LB)(H:PY l e F)(i:Nat)(r:Fm×Nat×Bool)(hi:i<=l.length)(hr:adY F l i=some r):GP 319 [.ptr 0 0] [pT l i e] l e [] fmE i r:=by
 refine⟨Pl.at (amb H.fp hi) hr,?_⟩
 rcases eWX l i e [40] hl with _|_
 rcases eR (F.so (i+1)) λ_=>H.so _ _ aC with _|⟨_,_,_⟩|⟨a2,j2,_⟩
 rotate_left 2
 rcases eWX l j2 e [41] hl with _|_
 rcases c4:a2.q with _|_
 rotate_left
 have hc:abO l (j2+1) a2.y=_:=avj H.tl (j2+1) a2.y
 rcases e5:asT l (j2+1) with ⟨a5,j5,_|_⟩
 obtain⟨⟨u5,v5⟩,k5⟩:=(ajo e hl _ _ aC (congrArg some e5)).okA
 rotate_left
 obtain⟨⟨u5,v5⟩,k5⟩:=(ajo e hl _ _ aC (congrArg some e5)).badA
 rotate_left 2
 rcases afl l i e hl with _|_
 rcases e7:eM l (i+1) with ⟨a7,j7,_|_⟩
 obtain⟨⟨u7,v7⟩,k7⟩:=(abu e hl _ _ aC (congrArg some e7)).okA
 rotate_left
 obtain⟨⟨u7,v7⟩,k7⟩:=(abu e hl _ _ aC (congrArg some e7)).badA
 rotate_left 2
 all_goals (simp only[adY,agL,nameR,cd,zRZ,sevalprocAttr,↓reduceIte, *] at hr <;> cases hr <;> (refine bB aFy ?_;simp only[↓zA,sevalprocAttr,aPe,bz,pT,zP,bh,zLX,eG,ep,aSM, *];all_goals exact fz))
abbrev fmV(a:Fm):List X:=[.of (ci a.kd),.of (aJ (aK a.nm)),.of (aJ (aK a.az)),.of (slC qyC a.sb),.of (slC fmC a.ks),.of (slC xpC a.on)]
abbrev fmZ:List X:=[.of (ci 0),.of (aJ {data:=#[]}),.of (aJ {data:=#[]}),.nil,.nil,.nil]
abbrev fmL(b c:Fm):List C:=[ci b.kd,aJ (aK b.nm),aJ (aK b.az),slC qyC b.sb,slC fmC b.ks,slC xpC b.on,ci c.kd,aJ (aK c.nm),aJ (aK c.az),slC qyC c.sb,slC fmC c.ks,slC xpC c.on]
abbrev fmO(r:Nat)(k:Int)(b c:Fm):List X:=[.of (ci k),.of (aJ {data:=#[]}),.of (aJ {data:=#[]}),.nil,.own (.cell r 4) 140 6 (fmL b c) 2,.nil]
abbrev fmP(r:Nat)(k:Int)(b c:Fm)(y:Xp):List X:=[.of (ci k),.of (aJ {data:=#[]}),.of (aJ {data:=#[]}),.nil,.own (.cell r 4) 140 6 (fmL b c) 2,.own (.cell r 5) 28 9 [ci y.op,ci y.v.k,ci y.v.n,aJ y.v.s,aJ (aK y.tb),aJ (aK y.nm),cb y.di,slC xpC y.ks,slC qyC y.sb] 1]
abbrev fm2(k:Int)(b c:Fm):Fm:=.mk k [] [] [] [b,c] []
abbrev fm3(k:Int)(b c:Fm)(y:Xp):Fm:=.mk k [] [] [] [b,c] [y]
def FmK(r:Nat)(f:Fm)(xs:List X):Prop:=xs=fmV f\/(∃ k b c,f=fm2 k b c/\xs=fmO r k b c)\/∃ k b c y,f=fm3 k b c y/\xs=fmP r k b c y
theorem FmK.trs{r:Nat}{f:Fm}{xs:List X}(h:FmK (r+1) f xs):X.trs some (cz [0] []) xs=xs:=by
 rcases h with h|⟨k,b,c,_,h⟩|⟨k,b,c,y,_,h⟩ <;> (rw[h];rfl)
def aeZ:=fU (fY @Tryz.f312.eq_1 @zq @bba @a8Q @ba9 @ab5 @al0) (fY @aeN @bcV @aLH @acD @ak2 @bG @eG) (fW @fq @acC @bO @zT0 (kf awL))
def aI9{l:List Tn}{e:Int}{F:Fs}(hl:l.length<LB)(H:PY l e F)(i:Nat)(a:Fm)(j:Nat)(r:Fm×Nat×Bool)(hr:acz F l (l.length+1) a j=some r)(v:j<=l.length)
  (k:∀ K,cKp 319 [.ptr 0 0] [pT l i e] K↔K ⟨false,[fmE a],pT l j e::[]⟩):aH Tryz.prog pr 312 [.ptr 0 0] [pT l i e] (bz l e fmE r []):=by
 refine bB awL ?_
 simp only[↓zA,sevalprocAttr,aeZ,bz,pT,k,eG]
 refine aaj _ _ (λn s=>∃ a j xs,FmK 2 a xs/\s.fr 0=.ptr 0 0/\s.fr 2=.ptr 1 0/\s.fr 3=.ptr 2 0/\s.objs=[pT l j e,.var 140 fmZ,.var 140 xs]/\acz F l n a j=some r/\j<=l.length) ?_ (l.length+1) _ ?_
 .rintro n ⟨frn,obn,ckn⟩ ⟨a,j,xs,hx',f0,f2,f3,fo,E,hj⟩
  dsimp only at f0 f2 f3 fo
  have hxt:=hx'.trs
  cases n with
  | zero=>simp only[acz] at E;cases E
  | succ n =>
  simp only[acz] at E
  rcases eWX l j e [99,114,111,115,115] hl with ⟨c1,b1,t1,x1⟩|⟨c1,t1⟩
  rcases eWX l (j+1) e [106,111,105,110] hl with ⟨c2,b2,t2,x2⟩|⟨c2,t2⟩
  rcases eR (adY F l (j+2)) λ_=>ae1 hl H _ _ aC with e3|⟨_,_,_⟩|⟨a3,j3,e3,⟨u3,v3⟩,k3⟩
  rotate_left 2
  .simp only[ac7,dI,zRZ,sevalprocAttr,↓reduceIte,c1,c2,e3] at E
   rcases hx' with hx'|⟨fk,fb,fc,hx1,hx'⟩|⟨fk,fb,fc,fy,hx1,hx'⟩
   all_goals (subst hx';try subst hx1)
   all_goals (simp only[↓zA,sevalprocAttr,aeZ,pT,zP,zBS,bh,zLX,eG, *])
   all_goals refine⟨n,aP n,_,j3,_,.inr (.inl ⟨3,_,a3,rfl,rfl⟩),?_,E,v3⟩
   all_goals simp only[fmO,fmL,fm2,fm3]
   all_goals simp only[zVW]
   all_goals rfl
  rotate_left
  rcases eWX l j e [105,110,110,101,114] hl with ⟨c4,b4,t4,x4⟩|⟨c4,t4⟩
  rcases eWX l (j+1) e [106,111,105,110] hl with ⟨c5,b5,t5,x5⟩|⟨c5,t5⟩
  rcases eR (adY F l (j+2)) λ_=>ae1 hl H _ _ aC with e6|⟨_,_,_⟩|⟨a6,j6,e6,⟨u6,v6⟩,k6⟩
  rotate_left 2
  rcases eWX l j6 e [111,110] hl with ⟨c7,b7,t7,x7⟩|⟨c7,t7⟩
  rcases eR (F.or (j6+1) []) λ_=>H.or _ _ aC with e8|⟨_,_,_⟩|⟨a8,j8,e8,⟨u8,v8⟩,k8⟩
  rotate_left 2
  .simp only[ac7,dI,zRZ,sevalprocAttr,↓reduceIte,show ((4:Int)=3)=False from by decide,c1,c4,c5,e6,c7,e8] at E
   rcases hx' with hx'|⟨fk,fb,fc,hx1,hx'⟩|⟨fk,fb,fc,fy,hx1,hx'⟩
   all_goals (subst hx';try subst hx1)
   all_goals (simp only[↓zA,sevalprocAttr,aeZ,pT,zP,zBS,bh,zLX,bG,eG,uL, *])
   all_goals refine⟨n,aP n,_,j8,_,.inr (.inr ⟨4,_,a6,a8,rfl,rfl⟩),?_,E,v8⟩
   all_goals simp only[fmP,fmL,fm2,fm3]
   all_goals simp only[zVW]
   all_goals rfl
  rotate_left 2
  rcases eWX l j e [108,101,102,116] hl with ⟨c9,b9,t9,x9⟩|⟨c9,t9⟩
  rcases eWX l (j+1) e [106,111,105,110] hl with ⟨c10,b10,t10,x10⟩|⟨c10,t10⟩
  rcases eR (adY F l (j+2)) λ_=>ae1 hl H _ _ aC with e11|⟨_,_,_⟩|⟨a11,j11,e11,⟨u11,v11⟩,k11⟩
  rotate_left 2
  rcases eWX l j11 e [111,110] hl with ⟨c12,b12,t12,x12⟩|⟨c12,t12⟩
  rcases eR (F.or (j11+1) []) λ_=>H.or _ _ aC with e13|⟨_,_,_⟩|⟨a13,j13,e13,⟨u13,v13⟩,k13⟩
  rotate_left 2
  .simp only[ac7,dI,zRZ,sevalprocAttr,↓reduceIte,show ((5:Int)=3)=False from by decide,c1,c4,c9,c10,e11,c12,e13] at E
   rcases hx' with hx'|⟨fk,fb,fc,hx1,hx'⟩|⟨fk,fb,fc,fy,hx1,hx'⟩
   all_goals (subst hx';try subst hx1)
   all_goals (simp only[↓zA,sevalprocAttr,aeZ,pT,zP,zBS,bh,zLX,bG,eG, *])
   all_goals refine⟨n,aP n,_,j13,_,.inr (.inr ⟨5,_,a11,a13,rfl,rfl⟩),?_,E,v13⟩
   all_goals simp only[fmP,fmL,fm2,fm3]
   all_goals simp only[zVW]
   all_goals rfl
  rotate_left 2
  rcases eWX l j e [106,111,105,110] hl with ⟨c14,b14,t14,x14⟩|⟨c14,t14⟩
  rcases eR (adY F l (j+1)) λ_=>ae1 hl H _ _ aC with e15|⟨_,_,_⟩|⟨a15,j15,e15,⟨u15,v15⟩,k15⟩
  rotate_left 2
  rcases eWX l j15 e [111,110] hl with ⟨c16,b16,t16,x16⟩|⟨c16,t16⟩
  rcases eR (F.or (j15+1) []) λ_=>H.or _ _ aC with e17|⟨_,_,_⟩|⟨a17,j17,e17,⟨u17,v17⟩,k17⟩
  rotate_left 2
  .simp only[ac7,dI,zRZ,sevalprocAttr,↓reduceIte,show ((4:Int)=3)=False from by decide,c1,c4,c9,c14,e15,c16,e17] at E
   rcases hx' with hx'|⟨fk,fb,fc,hx1,hx'⟩|⟨fk,fb,fc,fy,hx1,hx'⟩
   all_goals (subst hx';try subst hx1)
   all_goals (simp only[↓zA,sevalprocAttr,aeZ,pT,zP,zBS,bh,zLX,bG,eG, *])
   all_goals refine⟨n,aP n,_,j17,_,.inr (.inr ⟨4,_,a15,a17,rfl,rfl⟩),?_,E,v17⟩
   all_goals simp only[fmP,fmL,fm2,fm3]
   all_goals simp only[zVW]
   all_goals rfl
  rotate_left 2
  all_goals (simp only[ac7,dI,zRZ,sevalprocAttr,↓reduceIte,show ((4:Int)=3)=False from by decide,show ((5:Int)=3)=False from by decide, *] at E <;> cases E <;> (rcases hx' with hx'|⟨fk,fb,fc,hx1,hx'⟩|⟨fk,fb,fc,fy,hx1,hx'⟩;all_goals (subst hx';try subst hx1);all_goals (simp only[↓zA,sevalprocAttr,aeZ,pT,zP,zBS,bh,zLX,eG,uL, *];all_goals exact fz)))
 .simp only[↓zA,sevalprocAttr,aeZ,pT]
  exact⟨a,j,_,.inl rfl,rfl,hr,v⟩
def aFa{l:List Tn}{e:Int}{F:Fs}(hl:l.length<LB)(H:PY l e F)(i:Nat)(x:Fm)(cs:List C)(hx:cs=fmC x)(a:Fm)(j:Nat)(r:Fm×Nat×Bool)(hr:acz F l (l.length+1) a j=some r)(v:j<=l.length)
  (k:∀ K,cKp 319 [.ptr 0 0] [pTf l i e,.row 140 cs] K↔K ⟨false,[fmE a],pT l j e::deF⟩):aH Tryz.prog pr 312 [.ptr 0 0] [pTf l i e,.row 140 cs] (bz l e fmE r deF):=by
 have lv:adq (some (.row 140 cs))=true:=by rw[hx,aee];rfl
 refine bB awL ?_
 simp only[↓zA,sevalprocAttr,aeZ,bz,pT,pTf,k,lv,eG]
 refine aaj _ _ (λn s=>∃ a j xs,FmK 3 a xs/\s.fr 0=.ptr 0 0/\s.fr 2=.ptr 2 0/\s.fr 3=.ptr 3 0/\s.objs=[pT l j e,.row 140 [],.var 140 fmZ,.var 140 xs]/\acz F l n a j=some r/\j<=l.length) ?_ (l.length+1) _ ?_
 .rintro n ⟨frn,obn,ckn⟩ ⟨a,j,xs,hx',f0,f2,f3,fo,E,hj⟩
  dsimp only at f0 f2 f3 fo
  have hxt:=hx'.trs
  cases n with
  | zero=>simp only[acz] at E;cases E
  | succ n =>
  simp only[acz] at E
  rcases eWX l j e [99,114,111,115,115] hl with ⟨c1,b1,t1,x1⟩|⟨c1,t1⟩
  rcases eWX l (j+1) e [106,111,105,110] hl with ⟨c2,b2,t2,x2⟩|⟨c2,t2⟩
  rcases eR (adY F l (j+2)) λ_=>ae1 hl H _ _ aC with e3|⟨_,_,_⟩|⟨a3,j3,e3,⟨u3,v3⟩,k3⟩
  rotate_left 2
  .simp only[ac7,dI,zRZ,sevalprocAttr,↓reduceIte,c1,c2,e3] at E
   rcases hx' with hx'|⟨fk,fb,fc,hx1,hx'⟩|⟨fk,fb,fc,fy,hx1,hx'⟩
   all_goals (subst hx';try subst hx1)
   all_goals (simp only[↓zA,sevalprocAttr,aeZ,pT,zP,zBS,bh,zLX,eG, *])
   all_goals refine⟨n,aP n,_,j3,_,.inr (.inl ⟨3,_,a3,rfl,rfl⟩),?_,E,v3⟩
   all_goals simp only[fmO,fmL,fm2,fm3]
   all_goals simp only[zVW]
   all_goals rfl
  rotate_left
  rcases eWX l j e [105,110,110,101,114] hl with ⟨c4,b4,t4,x4⟩|⟨c4,t4⟩
  rcases eWX l (j+1) e [106,111,105,110] hl with ⟨c5,b5,t5,x5⟩|⟨c5,t5⟩
  rcases eR (adY F l (j+2)) λ_=>ae1 hl H _ _ aC with e6|⟨_,_,_⟩|⟨a6,j6,e6,⟨u6,v6⟩,k6⟩
  rotate_left 2
  rcases eWX l j6 e [111,110] hl with ⟨c7,b7,t7,x7⟩|⟨c7,t7⟩
  rcases eR (F.or (j6+1) []) λ_=>H.or _ _ aC with e8|⟨_,_,_⟩|⟨a8,j8,e8,⟨u8,v8⟩,k8⟩
  rotate_left 2
  .simp only[ac7,dI,zRZ,sevalprocAttr,↓reduceIte,show ((4:Int)=3)=False from by decide,c1,c4,c5,e6,c7,e8] at E
   rcases hx' with hx'|⟨fk,fb,fc,hx1,hx'⟩|⟨fk,fb,fc,fy,hx1,hx'⟩
   all_goals (subst hx';try subst hx1)
   all_goals (simp only[↓zA,sevalprocAttr,aeZ,pT,zP,zBS,bh,zLX,bG,eG,uL, *])
   all_goals refine⟨n,aP n,_,j8,_,.inr (.inr ⟨4,_,a6,a8,rfl,rfl⟩),?_,E,v8⟩
   all_goals simp only[fmP,fmL,fm2,fm3]
   all_goals simp only[zVW]
   all_goals rfl
  rotate_left 2
  rcases eWX l j e [108,101,102,116] hl with ⟨c9,b9,t9,x9⟩|⟨c9,t9⟩
  rcases eWX l (j+1) e [106,111,105,110] hl with ⟨c10,b10,t10,x10⟩|⟨c10,t10⟩
  rcases eR (adY F l (j+2)) λ_=>ae1 hl H _ _ aC with e11|⟨_,_,_⟩|⟨a11,j11,e11,⟨u11,v11⟩,k11⟩
  rotate_left 2
  rcases eWX l j11 e [111,110] hl with ⟨c12,b12,t12,x12⟩|⟨c12,t12⟩
  rcases eR (F.or (j11+1) []) λ_=>H.or _ _ aC with e13|⟨_,_,_⟩|⟨a13,j13,e13,⟨u13,v13⟩,k13⟩
  rotate_left 2
  .simp only[ac7,dI,zRZ,sevalprocAttr,↓reduceIte,show ((5:Int)=3)=False from by decide,c1,c4,c9,c10,e11,c12,e13] at E
   rcases hx' with hx'|⟨fk,fb,fc,hx1,hx'⟩|⟨fk,fb,fc,fy,hx1,hx'⟩
   all_goals (subst hx';try subst hx1)
   all_goals (simp only[↓zA,sevalprocAttr,aeZ,pT,zP,zBS,bh,zLX,bG,eG, *])
   all_goals refine⟨n,aP n,_,j13,_,.inr (.inr ⟨5,_,a11,a13,rfl,rfl⟩),?_,E,v13⟩
   all_goals simp only[fmP,fmL,fm2,fm3]
   all_goals simp only[zVW]
   all_goals rfl
  rotate_left 2
  rcases eWX l j e [106,111,105,110] hl with ⟨c14,b14,t14,x14⟩|⟨c14,t14⟩
  rcases eR (adY F l (j+1)) λ_=>ae1 hl H _ _ aC with e15|⟨_,_,_⟩|⟨a15,j15,e15,⟨u15,v15⟩,k15⟩
  rotate_left 2
  rcases eWX l j15 e [111,110] hl with ⟨c16,b16,t16,x16⟩|⟨c16,t16⟩
  rcases eR (F.or (j15+1) []) λ_=>H.or _ _ aC with e17|⟨_,_,_⟩|⟨a17,j17,e17,⟨u17,v17⟩,k17⟩
  rotate_left 2
  .simp only[ac7,dI,zRZ,sevalprocAttr,↓reduceIte,show ((4:Int)=3)=False from by decide,c1,c4,c9,c14,e15,c16,e17] at E
   rcases hx' with hx'|⟨fk,fb,fc,hx1,hx'⟩|⟨fk,fb,fc,fy,hx1,hx'⟩
   all_goals (subst hx';try subst hx1)
   all_goals (simp only[↓zA,sevalprocAttr,aeZ,pT,zP,zBS,bh,zLX,bG,eG, *])
   all_goals refine⟨n,aP n,_,j17,_,.inr (.inr ⟨4,_,a15,a17,rfl,rfl⟩),?_,E,v17⟩
   all_goals simp only[fmP,fmL,fm2,fm3]
   all_goals simp only[zVW]
   all_goals rfl
  rotate_left 2
  all_goals (simp only[ac7,dI,zRZ,sevalprocAttr,↓reduceIte,show ((4:Int)=3)=False from by decide,show ((5:Int)=3)=False from by decide, *] at E <;> cases E <;> (rcases hx' with hx'|⟨fk,fb,fc,hx1,hx'⟩|⟨fk,fb,fc,fy,hx1,hx'⟩;all_goals (subst hx';try subst hx1);all_goals (simp only[↓zA,sevalprocAttr,aeZ,pT,zP,zBS,bh,zLX,eG,uL, *];all_goals exact fz)))
 .simp only[↓zA,sevalprocAttr,aeZ,pT]
  exact⟨a,j,_,.inl rfl,rfl,hr,v⟩
def aoD{l:List Tn}{e:Int}{F:Fs}(hl:l.length<LB)(H:PY l e F)(i:Nat)(r:Fm×Nat×Bool)(hi:i<=l.length)(hr:adT F l i []=some r):GP 312 [.ptr 0 0] [pT l i e] l e [] fmE i r:=by
 refine⟨Pl.at (aiY H.fp hi) hr,?_⟩
 unfold adT at hr
 cases e1:adY F l i with
 | none=>rw[e1] at hr;cases hr
 | some q =>
 obtain⟨a,j,q⟩:=q
 have g:=ae1 hl H i _ hi e1
 obtain⟨u,v⟩:=g.1
 dsimp only at u v
 rw[e1] at hr
 cases q with
 | true =>
  have k:=g.bad
  cases hr
  refine bB awL ?_
  simp only[↓zA,sevalprocAttr,aeZ,bz,pT,zP,k]
  all_goals exact fz
 | false=>exact aI9 hl H i a j r hr v g.ok
def aFb{l:List Tn}{e:Int}{F:Fs}(hl:l.length<LB)(H:PY l e F)(i:Nat)(x:Fm)(cs:List C)(hx:cs=fmC x)(r:Fm×Nat×Bool)(hi:i<=l.length)(hr:adT F l i [x]=some r):GP 312 [.ptr 0 0] [pTf l i e,.row 140 cs] l e deF fmE i r :=
 ⟨Pl.at (aiY H.fp hi) hr,aFa hl H i x cs hx x i r hr hi (λK=>aH.k (aTj l i e x cs hx) K)⟩
def ai9:=ai (fY @Tryz.f297.eq_1 @zq @bbc @a8R @bbb @ab5 @bcW) (fX @aTK @acD @eG @acC @zT0 (kf asq))
def aJr{l:List Tn}{e:Int}{F:Fs}(hl:l.length<LB)(H:PY l e F)(i:Nat)(r:Fm×Nat×Bool)(hi:i<=l.length)(hr:ahi F l i []=some r):GP 297 [.ptr 0 0] [pT l i e] l e [] fmE i r:=by
 refine⟨Pl.at (aqU H.fp hi) hr,?_⟩
 unfold ahi at hr
 cases e1:adT F l i [] with
 | none=>rw[e1] at hr;cases hr
 | some q =>
 obtain⟨a,j,q⟩:=q
 have g:=aoD hl H i _ hi e1
 obtain⟨u,v⟩:=g.1
 dsimp only at u v
 rw[e1] at hr
 cases q with
 | true =>
  have k:=g.bad
  cases hr
  refine bB asq ?_
  simp only[↓zA,sevalprocAttr,ai9,bz,pT,zP,k]
  all_goals exact fz
 | false =>
 have k:=g.ok
 simp only[Rz.on] at hr
 refine bB asq ?_
 simp only[↓zA,sevalprocAttr,ai9,bz,pT,k]
 refine aaj _ _ (λn s=>∃ a j xs,FmK 2 a xs/\s.fr 0=.ptr 0 0/\s.fr 2=.ptr 1 0/\s.fr 3=.ptr 2 0/\s.objs=[pT l j e,.var 140 fmZ,.var 140 xs]/\aed F l n a j=some r/\j<=l.length) ?_ (l.length+1) _ ?_
 .rintro n ⟨frn,obn,ckn⟩ ⟨a,j,xs,hx',f0,f2,f3,fo,E,hj⟩
  dsimp only at f0 f2 f3 fo
  have hxt:=hx'.trs
  cases n with
  | zero=>simp only[aed] at E;cases E
  | succ n =>
  simp only[aed] at E
  rcases eW l j e [44] hl with ⟨c1,b1,t1⟩|⟨c1,t1⟩
  rcases eR (adT F l (j+1) []) λ_=>aoD hl H _ _ aC with e2|⟨_,_,_⟩|⟨a2,j2,e2,⟨u2,v2⟩,k2⟩
  rotate_left 2
  .simp only[zRZ,sevalprocAttr,↓reduceIte,c1,e2] at E
   rcases hx' with hx'|⟨fk,fb,fc,hx1,hx'⟩|⟨fk,fb,fc,fy,hx1,hx'⟩
   all_goals (subst hx';try subst hx1)
   all_goals (simp only[↓zA,sevalprocAttr,ai9,pT,zP,zBS,bh,zLX,eG, *])
   all_goals refine⟨n,aP n,_,j2,_,.inr (.inl ⟨3,_,a2,rfl,rfl⟩),?_,E,v2⟩
   all_goals simp only[fmO,fmL,fm2,fm3]
   all_goals simp only[zVW]
   all_goals rfl
  rotate_left
  all_goals (simp only[zRZ,sevalprocAttr,↓reduceIte, *] at E <;> cases E <;> (rcases hx' with hx'|⟨fk,fb,fc,hx1,hx'⟩|⟨fk,fb,fc,fy,hx1,hx'⟩;all_goals (subst hx';try subst hx1);all_goals (simp only[↓zA,sevalprocAttr,ai9,pT,zP,bh,zLX,eG, *];all_goals exact fz)))
 .simp only[↓zA,sevalprocAttr,ai9,pT]
  exact⟨a,j,_,.inl rfl,rfl,hr,v⟩
def aFp{l:List Tn}{e:Int}{F:Fs}(hl:l.length<LB)(H:PY l e F)(i:Nat)(x:Fm)(cs:List C)(hx:cs=fmC x)(r:Fm×Nat×Bool)(hi:i<=l.length)(hr:ahi F l i [x]=some r):GP 297 [.ptr 0 0] [pTf l i e,.row 140 cs] l e deF fmE i r:=by
 refine⟨Pl.at (aqU H.fp hi) hr,?_⟩
 unfold ahi at hr
 have lv:adq (some (.row 140 cs))=true:=by rw[hx,aee];rfl
 cases e1:adT F l i [x] with
 | none=>rw[e1] at hr;cases hr
 | some q =>
 obtain⟨a,j,q⟩:=q
 have g:=aFb hl H i x cs hx _ hi e1
 obtain⟨u,v⟩:=g.1
 dsimp only at u v
 rw[e1] at hr
 cases q with
 | true =>
  have k:=g.bad
  cases hr
  refine bB asq ?_
  simp only[↓zA,sevalprocAttr,ai9,bz,pT,pTf,zP,k,lv]
  all_goals exact fz
 | false =>
 have k:=g.ok
 simp only[Rz.on] at hr
 refine bB asq ?_
 simp only[↓zA,sevalprocAttr,ai9,bz,pT,pTf,k,lv]
 refine aaj _ _ (λn s=>∃ a j xs,FmK 3 a xs/\s.fr 0=.ptr 0 0/\s.fr 2=.ptr 2 0/\s.fr 3=.ptr 3 0/\s.objs=[pT l j e,.row 140 [],.var 140 fmZ,.var 140 xs]/\aed F l n a j=some r/\j<=l.length) ?_ (l.length+1) _ ?_
 .rintro n ⟨frn,obn,ckn⟩ ⟨a,j,xs,hx',f0,f2,f3,fo,E,hj⟩
  dsimp only at f0 f2 f3 fo
  have hxt:=hx'.trs
  cases n with
  | zero=>simp only[aed] at E;cases E
  | succ n =>
  simp only[aed] at E
  rcases eW l j e [44] hl with ⟨c1,b1,t1⟩|⟨c1,t1⟩
  rcases eR (adT F l (j+1) []) λ_=>aoD hl H _ _ aC with e2|⟨_,_,_⟩|⟨a2,j2,e2,⟨u2,v2⟩,k2⟩
  rotate_left 2
  .simp only[zRZ,sevalprocAttr,↓reduceIte,c1,e2] at E
   rcases hx' with hx'|⟨fk,fb,fc,hx1,hx'⟩|⟨fk,fb,fc,fy,hx1,hx'⟩
   all_goals (subst hx';try subst hx1)
   all_goals (simp only[↓zA,sevalprocAttr,ai9,pT,zP,zBS,bh,zLX,eG, *])
   all_goals refine⟨n,aP n,_,j2,_,.inr (.inl ⟨3,_,a2,rfl,rfl⟩),?_,E,v2⟩
   all_goals simp only[fmO,fmL,fm2,fm3]
   all_goals simp only[zVW]
   all_goals rfl
  rotate_left
  all_goals (simp only[zRZ,sevalprocAttr,↓reduceIte, *] at E <;> cases E <;> (rcases hx' with hx'|⟨fk,fb,fc,hx1,hx'⟩|⟨fk,fb,fc,fy,hx1,hx'⟩;all_goals (subst hx';try subst hx1);all_goals (simp only[↓zA,sevalprocAttr,ai9,pT,zP,bh,zLX,eG, *];all_goals exact fz)))
 .simp only[↓zA,sevalprocAttr,ai9,pT]
  exact⟨a,j,_,.inl rfl,rfl,hr,v⟩
def aUJ{l:List Tn}{i:Nat}(c:isT l i [41]=true):aez l i=false:=by
 unfold aez
 simp only[co,ain c _ (show ([117,110,105,111,110]:List UInt8)≠[41] by decide),ain c _ (show ([101,120,99,101,112,116]:List UInt8)≠[41] by decide),ain c _ (show ([105,110,116,101,114,115,101,99,116]:List UInt8)≠[41] by decide),ain c _ (show ([111,114,100,101,114]:List UInt8)≠[41] by decide),ain c _ (show ([108,105,109,105,116]:List UInt8)≠[41] by decide),ain c _ (show ([111,102,102,115,101,116]:List UInt8)≠[41] by decide),aE]
def aPc:=fV (gh @Tryz.f326.eq_1 @zq @ba8 @al0 @aq1 @ab5 @aSu @aSr @ba7) (gh @aeN @aSt @bcU @aTI @acD @bcT @aLF @aF8 @bcS) (gh @aLE @ep @acI @abb @aba @aa9 @aa8 @aa7 @aa6) (gh @eG @ao7 @fC @acC @bO @P4 @Q4 @zT0 (kf aFw))
def aGR{l:List Tn}{e:Int}{F:Fs}(hl:l.length<LB)(H:PY l e F)(i:Nat)(r:Th×Nat×Bool)(hi:i<=l.length)(hr:ac2 F l i=some r):GP 326 [.ptr 0 0] [pT l i e] l e [] thE i r:=by
 refine⟨Pl.at (am3 H.fp hi) hr,?_⟩
 rcases eWX l i e [115,101,108,101,99,116] hl with _|_
 rcases eR (F.qy i []) λ_=>H.qy _ _ aC with _|⟨_,_,_⟩|⟨a2,j2,_⟩
 rotate_left 3
 rcases eWX l i e [40] hl with _|_
 rcases eR (F.so (i+1)) λ_=>H.so _ _ aC with _|⟨_,_,_⟩|⟨a4,j4,_⟩
 rotate_left 2
 rcases eWX l j4 e [41] hl with _|_
 rcases c6:a4.q with _|_
 rcases e7:F.fr (j4+1) [a4.f] with _|⟨a7,j7,_|_⟩
 rotate_left
 obtain⟨⟨u7,v7⟩,k7⟩:=(H.frp _ (a4.f) _ _ rfl aC e7).okA
 have l7:=(H.frp _ (a4.f) _ _ (aee _).symm aC e7).ok
 rotate_left
 obtain⟨⟨u7,v7⟩,k7⟩:=(H.frp _ (a4.f) _ _ rfl aC e7).badA
 have l7:=(H.frp _ (a4.f) _ _ (aee _).symm aC e7).bad
 rotate_left
 rcases eWX l (j4+1) e [41] hl with ⟨c8,b8,t8,x8⟩|⟨c8,t8⟩
 .have cg:=aUJ c8
  have tg:=oB l (j4+1) e hl aC cg
  simp only[ac2,agL,zRZ,sevalprocAttr,↓reduceIte, *] at hr
  cases hr
  refine bB aFw ?_
  simp only[↓zA,sevalprocAttr,aPc,bz,pT,zP,bh,zLX,ep,eG,bG, *]
  simp only[thE,al9,c6]
  all_goals first|rfl|(simp only[zVW];rfl)
 rcases c9:aez l (j4+1) with _|_
 have t9:=oB l (j4+1) e hl aC c9
 have hc:abO l (j4+1) a4.y=_:=avj H.tl (j4+1) a4.y
 rcases e10:asT l (j4+1) with ⟨a10,j10,_|_⟩
 obtain⟨⟨u10,v10⟩,k10⟩:=(ajo e hl _ _ aC (congrArg some e10)).okA
 rcases e11:F.fr (j10) [.mk 2 [] a10 [a4.y] [] []] with _|⟨a11,j11,_|_⟩
 rotate_left
 obtain⟨⟨u11,v11⟩,k11⟩:=(H.frp _ (.mk 2 [] a10 [a4.y] [] []) _ _ rfl aC e11).okA
 have l11:=(H.frp _ (.mk 2 [] a10 [a4.y] [] []) _ _ (aee _).symm aC e11).ok
 have m11:=(H.frp _ (.mk 2 [] a10 [a4.y] [] []) [ci 2,aJ {data:=#[]},aJ (aK a10),.sl [ci a4.y.op,cb a4.y.al,slC qyC a4.y.ks,cb a4.y.di,slC imC a4.y.its,slC fmC a4.y.fr,slC xpC a4.y.wh,slC xpC a4.y.gr,slC xpC a4.y.hv,slC odC a4.y.od,ci a4.y.li,ci a4.y.sk] 1,.sl [] 0,.sl [] 0] _ (by simp only[zVW];rfl) aC e11).ok
 rotate_left
 obtain⟨⟨u11,v11⟩,k11⟩:=(H.frp _ (.mk 2 [] a10 [a4.y] [] []) _ _ rfl aC e11).badA
 have l11:=(H.frp _ (.mk 2 [] a10 [a4.y] [] []) _ _ (aee _).symm aC e11).bad
 have m11:=(H.frp _ (.mk 2 [] a10 [a4.y] [] []) [ci 2,aJ {data:=#[]},aJ (aK a10),.sl [ci a4.y.op,cb a4.y.al,slC qyC a4.y.ks,cb a4.y.di,slC imC a4.y.its,slC fmC a4.y.fr,slC xpC a4.y.wh,slC xpC a4.y.gr,slC xpC a4.y.hv,slC odC a4.y.od,ci a4.y.li,ci a4.y.sk] 1,.sl [] 0,.sl [] 0] _ (by simp only[zVW];rfl) aC e11).bad
 rotate_left
 obtain⟨⟨u10,v10⟩,k10⟩:=(ajo e hl _ _ aC (congrArg some e10)).badA
 rotate_left
 have t9:=oB l (j4+1) e hl aC c9
 rcases e12:F.qy (j4+1) [a4.y] with _|⟨a12,j12,_|_⟩
 rotate_left
 obtain⟨⟨u12,v12⟩,k12⟩:=(H.qyp _ (a4.y) _ _ rfl aC e12).okA
 have l12:=(H.qyp _ (a4.y) _ _ (ad6 _).symm aC e12).ok
 rotate_left
 obtain⟨⟨u12,v12⟩,k12⟩:=(H.qyp _ (a4.y) _ _ rfl aC e12).badA
 have l12:=(H.qyp _ (a4.y) _ _ (ad6 _).symm aC e12).bad
 rotate_left 2
 rcases eR (F.fr i []) λ_=>H.fr _ _ aC with _|⟨_,_,_⟩|⟨a13,j13,_⟩
 rotate_left 3
 all_goals (simp only[ac2,agL,zRZ,sevalprocAttr,↓reduceIte, *] at hr <;> cases hr <;> (refine bB aFw ?_;simp only[↓zA,sevalprocAttr,aPc,bz,pT,zP,bh,zLX,E26,E35,a1R,bdK,ec,aa4,aSK,a91,ep,eG, *];all_goals exact fz))
def aWJ(l:List Tn)(e:Int)(T:TL l):PY l e apv where
 tl:=T
 fp:=aDq l
 or _ _ _ h:=by cases h
 orp _ _ _ _ _ _ h:=by cases h
 no _ _ _ h:=by cases h
 un _ _ _ h:=by cases h
 qy _ _ _ h:=by cases h
 qyp _ _ _ _ _ _ h:=by cases h
 ins _ _ _ h:=by cases h
 fr _ _ _ h:=by cases h
 frp _ _ _ _ _ _ h:=by cases h
 so _ _ _ h:=by cases h
def aWI{l:List Tn}{e:Int}{F:Fs}(hl:l.length<LB)(H:PY l e F):PY l e (alq l F) where
 tl:=H.tl
 fp:=aDp H.fp
 or i r hi h:=aTZ hl H i r hi h
 orp i x cs r hx hi h:=aMf hl H i x cs hx r hi h
 no i r hi h:=aqB hl H i r hi h
 un i r hi h:=aqj hl H i r hi h
 qy i r hi h:=aEo hl H i r hi h
 qyp i x cs r hx hi h:=aAE hl H i x cs hx r hi h
 ins i r hi h:=aAY hl H i r hi h
 fr i r hi h:=aJr hl H i r hi h
 frp i x cs r hx hi h:=aFp hl H i x cs hx r hi h
 so i r hi h:=aGR hl H i r hi h
theorem ao1{l:List Tn}(e:Int)(hl:l.length<LB)(T:TL l):∀ n,PY l e (ahh l n)
 | 0=>aWJ l e T
 | n+1=>aWI hl (ao1 e hl T n)
end Go.Proofs.YtghkmcffifpkeaaGreat
namespace Go.Tab
open Pe
section
variable {l:List Tn} {F:Fs}
theorem aIG:∀ (n:Nat) (o:List (List UInt8)) {i:Nat},i<=l.length->Pl l i (adK l n o i):=by
 intro n
 induction n with
 | zero=>intro o i hi _ _ _ h;cases h
 | succ n ih =>
 intro o i hi
 unfold adK
 refine .fK (λh=>.fT (λh2=>.mono (ih _ h2) aC) (.wE aC h)) (.so (ae _) hi)
theorem ad7{i:Nat}(hi:i<=l.length):Pl l i (abt l i):=.wR (ae _) hi λh=>.mono (aIG _ _ h) aC
theorem auc{i:Nat}(hi:i<=l.length):Pl l i (agY l i):=by
 refine .nR (ae _) hi λs h=>?_
 split
 .exact .so aC h
 .rename_i k c
  have h2:=afC c
  exact .fT (λh3=>.wE aC aC) (.so aC aC)
theorem aTq{i:Nat}(hi:i<=l.length):Pl l i (anc l i):=by
 refine .wR (ae _) hi λh=>.on (ad7 h) aC λ_ j h1 h2=>.wR aC h2 λh3=>.nR aC h3 λs h4=>?_
 have:=ad7 (l:=l) h4
 generalize abt l (j+1+1)=p at this
 match p,this with
 | none,_=>exact .nil
 | some (o,m,true),h=>have:=h _ _ _ rfl;exact .so aC this.2
 | some (o,m,false),h=>have:=h _ _ _ rfl;exact .so aC this.2
theorem aza(H:FP l F){i:Nat}{s:Cr}(hi:i<=l.length):Pl l i (elS F l i s):=by
 unfold elS
 refine .fI (.to (auc hi) (ae _)) ?_
 refine .fT (λh=>.wR aC h λh2=>.to (ad7 h2) aC) ?_
 refine .fT (λh=>.to (ad7 h) aC) ?_
 refine .fT (λh=>.to (aTq h) aC) ?_
 refine .fT (λh=>.wR aC h λh2=>.on (H.or h2) aC λ_ _ _ _=>.wE aC aC) (.so (ae _) hi)
theorem a1I(H:FP l F):∀ (n:Nat) (s:Cr) {i:Nat},i<=l.length->Pl l i (elL F l n s i):=by
 intro n
 induction n with
 | zero=>intro o i hi _ _ _ h;cases h
 | succ n ih =>
 intro o i hi
 unfold elL
 exact .on (aza H hi) (ae _) λ_ _ h1 h2=>.fT (λh3=>.mono (ih _ h3) aC) (.wE h1 h2)
theorem au8{un:Bool}{i:Nat}(hi:i<=l.length):Pl l i (ag5 l un i) :=
 .wR (ae _) hi λh=>.nR aC h λ_ h2=>.wR aC h2 λh3=>.nR aC h3 λ_ h4=>.to (ad7 h4) aC
theorem asD(H:FP l F){i:Nat}(hi:i<=l.length):Pl l i (ac8 F l i):=by
 unfold ac8
 refine .fT (λh=>.nR aC h λ_ h2=>.wR aC h2 λh3=>.to (a1I H _ _ h3) aC) ?_
 exact .fT (λh=>.mono (au8 h) aC) (au8 hi)
theorem aOg{i:Nat}(hi:i<=l.length):Pl l i (aiu l i):=by
 unfold aiu
 refine .fT (λh=>?_) (.fT (λh=>?_) (.so (ae _) hi))
 .have:=ahx h;exact .so aC this.2
 .have:=ahx h;exact .so aC this.2
theorem aTp(H:FP l F)(t:List UInt8)(ns:List (List UInt8)):∀ (n:Nat) (rw:List (List Xp)) {i:Nat},i+1<=l.length->Pl l i (agS F l t ns n rw i):=by
 intro n
 induction n with
 | zero=>intro o i hi _ _ _ h;cases h
 | succ n ih =>
 intro o i hi
 unfold agS
 refine .wR aC hi λh=>.on (ae7 H h) aC λ_ j h1 h2=>.wR aC h2 λh3=>?_
 exact .fT (λh4=>.mono (ih _ h4) aC) (.so aC h3)
theorem aCJ(H:FP l F){t:List UInt8}{ns:List (List UInt8)}{i:Nat}(hi:i<=l.length):Pl l i (agl F l t ns i) :=
 .fT (λh=>aTp H _ _ _ _ h) (.to (H.qy hi) (ae _))
theorem asd(H:FP l F){i:Nat}(hi:i<=l.length):Pl l i (ab2 F l i):=by
 refine .wR (ae _) hi λh=>.nR aC h λ_ h2=>?_
 exact .fI (.on (ad7 h2) aC λ_ _ _ h3=>.mono (aCJ H h3) aC) (.mono (aCJ H h2) aC)
theorem aWw(H:FP l F)(t:List UInt8):∀ (n:Nat) (ss:List As) {i:Nat},i<=l.length->Pl l i (ai6 F l t n ss i):=by
 intro n
 induction n with
 | zero=>intro o i hi _ _ _ h;cases h
 | succ n ih =>
 intro o i hi
 unfold ai6
 refine .nR (ae _) hi λ_ h=>.wR aC h λh2=>.on (H.or h2) aC λ_ j h3 h4=>?_
 exact .fT (λh5=>.mono (ih _ h5) aC) (.to (acS H h4) aC)
theorem arl(H:FP l F){i:Nat}(hi:i<=l.length):Pl l i (ad0 F l i) :=
 .nR (ae _) hi λ_ h=>.wR aC h λh2=>.mono (aWw H _ _ _ h2) aC
theorem aVK(H:FP l F){i:Nat}(hi:i<=l.length):Pl l i (anL F l i) :=
 .wR (ae _) hi λh=>.nR aC h λ_ h2=>.to (acS H h2) aC
theorem axE(H:FP l F){i:Nat}(hi:i<=l.length):Pl l i (abq F l i):=by
 unfold abq
 split
 .rename_i c;have:=afC c;exact .so aC this
 refine .fT (λh=>.mono (asD H h) aC) (.fT (λh=>.mono (aOg h) aC) (.fT (λh=>.mono (asd H h) aC) (.fT (λh=>.mono (arl H h) aC) ?_)))
 exact .fT (λh=>.mono (aVK H h) aC) (.fT (λh=>.to (H.qy h) aC) (.to (H.qy hi) (ae _)))
theorem aEf(H:FP l F):∀ (n:Nat) (o:List (Sm×Nat)) {i:Nat},i<=l.length->Pl l i (abZ F l n o i):=by
 intro n
 induction n with
 | zero=>intro o i hi _ _ _ h;cases h
 | succ n ih =>
 intro o i hi
 unfold abZ
 exact .fI (.on (axE H hi) (ae _) λ_ _ h1 h2=>.wR aC h2 λh3=>.mono (ih _ h3) aC) (.so (ae _) hi)
end
end Go.Tab
namespace Go.Proofs.YtghkmcffifpkeaaGreat
open Pe Tab
abbrev nsE(o:List (List UInt8)):X:=.of (slC bI o)
def aoy(l:List Tn)(n:Nat)(o:List (List UInt8))(j:Nat):Rz (List (List UInt8)):=if isT l j [44] then adK l n o (j+1) else wantE (bH l j [41]) o
def aym(l:List Tn)(n:Nat)(o:List (List UInt8))(i:Nat):adK l (n+1) o i=if br l i 2 then aoy l n (o++[txT l i]) (i+1) else some ([],i,true):=rfl
def amQ:=fZ @Tryz.f184.eq_1 @zq @aeN @ak0 @ab5 @bO @zT0 (kf awN)
def ae6{l:List Tn}(e:Int)(hl:l.length<LB)(i:Nat)(r:List (List UInt8)×Nat×Bool)(hi:i<=l.length)(hr:abt l i=some r):GP 184 [.ptr 0 0] [pT l i e] l e [] nsE i r:=by
 refine⟨Pl.at (ad7 hi) hr,?_⟩
 unfold abt bH at hr
 cases c1:isT l i [40] with
 | false =>
  have t1:=wF l i e [40] hl hi c1
  rw[c1] at hr
  cases hr
  refine bB awN ?_
  simp only[↓zA,sevalprocAttr,amQ,bz,pT,zP,t1]
  all_goals exact fz
 | true =>
 have b1:=fF c1
 have t1:=wT l i e [40] hl c1
 rw[c1] at hr
 simp only[au,wantR,aym,cj] at hr
 cases c2:br l (i+1) 2 with
 | false =>
  have t2:=nF l (i+1) e hl aC c2
  rw[c2] at hr
  cases hr
  refine bB awN ?_
  simp only[↓zA,sevalprocAttr,amQ,bz,pT,zP,t1,t2]
  all_goals exact fz
 | true =>
 have b2:=aaU c2
 have t2:=nT l (i+1) e hl c2
 rw[c2] at hr
 simp only[au] at hr
 refine bB awN ?_
 simp only[↓zA,sevalprocAttr,amQ,bz,pT,bh,t1,t2]
 refine aaj _ _ (λn s=>∃ o j,s.fr 0=.ptr 0 0/\(∃ c x i,c<s.clk/\s.fr 3=.own (.nm c x i) 9 1 (fl bI o) o.length)/\s.objs=[pT l j e]/\aoy l n o j=some r/\j<=l.length/\o.length<=j) ?_ l.length _ ?_
 .rintro n ⟨frn,obn,ckn⟩ ⟨o,j,f0,⟨c,x,i',hc,f3⟩,fo,E,hj,hk⟩
  dsimp only at f0 hc f3 fo
  rcases eW l j e [44] hl with ⟨c1,b1,t1⟩|⟨c1,t1⟩
  .cases n with
   | zero=>simp only[aoy,c1,au,adK] at E;cases E
   | succ m =>
   simp only[aoy,c1,au,aym] at E
   rcases eK2 l (j+1) e hl with ⟨c2,b2,t2⟩|⟨c2,t2⟩
   .simp only[c2,au] at E
    simp only[↓zA,sevalprocAttr,amQ,pT,zP,bh, *]
    and_intros
    all_goals first|exact okN _ _ aC _|exact⟨m,aP m,o++[txT l (j+1)],j+2,atI rfl rfl aC,rfl,E,by omega,by rw[bc];simp only[abP];omega⟩|(unfold LIM;unfold LB at hl;omega)|rfl
   rotate_left
   all_goals (simp only[zRZ,sevalprocAttr,↓reduceIte, *] at E <;> cases E <;> (simp only[↓zA,sevalprocAttr,amQ,pT,zP,bh,zLX, *];all_goals exact fz))
  simp only[aoy] at E
  rcases eW l j e [41] hl with _|_
  rotate_left 2
  all_goals (simp only[zRZ,sevalprocAttr,↓reduceIte, *] at E <;> cases E <;> (simp only[↓zA,sevalprocAttr,amQ,pT,zP,bh,zLX, *];all_goals exact fz))
 .simp only[↓zA,sevalprocAttr,amQ,pT]
  exact⟨[txT l (i+1)],i+2,atJ rfl rfl aC,rfl,hr,by omega,by simp only[abP];omega⟩
def bak:=fY @zq @ab5 @ak2 @bG @fq @zT0 (kf a0G)
def arj{l:List Tn}{e:Int}{F:Fs}(hl:l.length<LB)(H:PY l e F)(i:Nat)(r:List Xp×Nat×Bool)(hi:i<=l.length)(hr:aaS F l i [119,104,101,114,101]=some r):GP 95 [.ptr 0 0] [pT l i e] l e [] xsE i r:=by
 refine⟨Pl.at (acS H.fp hi) hr,?_⟩
 rcases eW l i e [119,104,101,114,101] hl with _|_
 rcases eR (F.or (i+1) []) λ_=>H.or _ _ aC with _|⟨_,_,_⟩|⟨a2,j2,_⟩
 rotate_left 4
 all_goals (simp only[aaS,zRZ,sevalprocAttr,↓reduceIte, *] at hr <;> cases hr <;> (refine bB a0G ?_;simp only[Tryz.f95,↓zA,sevalprocAttr,bak,bz,pT,zP,bh,bG, *];all_goals exact fz))
def QF(l:List Tn)(F:Fs):Prop:=∀ i r,isT l i [115,101,108,101,99,116]=false->isT l i [40]=false->F.qy i []=some r->r.2=(i,true)
def aWG(l:List Tn)(F:Fs):QF l (alq l F):=by
 intro i r c1 c2 h
 have h:aeD F l i []=some r:=h
 rw[aos] at h
 unfold aaE ah3 acx bH at h
 simp only[c1,c2,ah,av,wantR,Rz.on] at h
 cases h
 rfl
def aWH(l:List Tn):QF l apv:=λ_ _ _ _ h=>by cases h
theorem ao0(l:List Tn):∀ n,QF l (ahh l n)
 | 0=>aWH l
 | n+1=>aWG l _
abbrev smZ:List X:=[.of (ci 0),.of (aJ {data:=#[]}),.of (aJ {data:=#[]}),.nil,.nil,.of (cb false),.nil,.nil,.nil,.nil,.nil,.nil,.nil]
abbrev aji(t:List UInt8)(N R:X):List X:=[.of (ci 4),.of (aJ (aK t)),.of (aJ {data:=#[]}),.nil,N,.of (cb false),.nil,.nil,.nil,R,.nil,.nil,.nil]
def LiK{α:Type}(t:Tk)(e z:Nat)(f:α->List C)(K:X)(a:List α):Prop:=(K=.nil/\a=[])\/K=.own t e z (fl f a) a.length
def ahm:=fU (gh @Tryz.f93.eq_1 @zq @a66 @aeN @ak0 @a65 @al0 @anO @aGc) (gh @ab5 @azr @ak1 @aq1 @bcL @aTE @acD @awU @ep) (fY @abE @ab7 @fC @bO @acJ @zT0 (kf at6))
def aAZ{l:List Tn}{e:Int}{F:Fs}(hl:l.length<LB)(H:PY l e F)(Q:QF l F)(i:Nat)(r:Sm×Nat×Bool)(hi:i<=l.length)(hr:ab2 F l i=some r):GP 93 [.ptr 0 0] [pT l i e] l e [] smE i r:=by
 refine⟨Pl.at (asd H.fp hi) hr,?_⟩
 rcases eWX l i e [105,110,116,111] hl with ⟨c1,b1,t1,x1⟩|⟨c1,t1⟩
 rcases afl l (i+1) e hl with ⟨c2,b2,t2,x2⟩|⟨c2,t2⟩
 rcases eWX l (i+2) e [40] hl with ⟨c3,b3,t3,x3⟩|⟨c3,t3⟩
 have pt:=awx (bS l (i+3))
 have pk:=pK l (i+2) e hl aC
 rcases aOe l (i+3) e hl with ⟨c4,b4,t4,x4,xq4,q4⟩|⟨c4,t4,q4⟩
 rcases eR (abt l (i+2)) λ_=>ae6 e hl _ _ aC with e5|⟨_,_,_,_,_⟩|⟨a5,j5,e5,⟨u5,v5⟩,k5⟩
 rotate_left 2
 rcases eWX l j5 e [118,97,108,117,101,115] hl with ⟨c6,b6,t6,x6⟩|⟨c6,t6⟩
 .simp only[ab2,agl,nameR,cd,zRZ,sevalprocAttr,↓reduceIte,c1,c2,c3,c4,e5,c6] at hr
  refine bB at6 ?_
  simp only[↓zA,sevalprocAttr,ahm,bz,pT,bh, *]
  refine aaj _ _ (λn s=>∃ rw j K b,LiK (.cell 2 9) 25 1 (lsC xpC) K rw/\s.fr 0=.ptr 0 0/\s.fr 2=.ptr 1 0/\s.fr 3=.ptr 2 0/\s.fr 4=.of (cb b)/\s.objs=[pT l j e,.var 49 smZ,.var 49 (aji (txT l (i+1)) (.of (slC bI a5)) K)]/\(if b=true then 1<=j/\agS F l (txT l (i+1)) a5 n rw (j-1)=some r else r=(afO (txT l (i+1)) a5 rw [],j,false))/\j<=l.length/\rw.length<=j) ?_ (l.length+1) _ ?_
  .rintro n ⟨frn,obn,ckn⟩ ⟨rw,j,K,b,hK,f0,f2,f3,f4,fo,E,hj,hk⟩
   dsimp only at f0 f2 f3 f4 fo
   have hos:(rw.length+1<=LIM)=True:=aa (by unfold LIM;unfold LB at hl;omega)
   cases b with
   | false =>
    simp only[ah,av] at E
    subst E
    rcases hK with ⟨hK,hK'⟩|hK
    all_goals (subst hK;try subst hK')
    all_goals (simp only[↓zA,sevalprocAttr,ahm,pT,zP,bh,zLX, *];all_goals exact fz)
   | true =>
    simp only[au] at E
    obtain⟨h1,E⟩:=E
    cases n with
    | zero=>simp only[agS] at E;cases E
    | succ n =>
    simp only[agS,Nat.sub_add_cancel h1] at E
    rcases eWX l j e [40] hl with ⟨c7,b7,t7,x7⟩|⟨c7,t7⟩
    rcases eR (aa1 F l (j+1)) λ_=>acE hl H _ _ aC with e8|⟨_,_,_,_,_⟩|⟨a8,j8,e8,⟨u8,v8⟩,k8⟩
    rotate_left 2
    rcases eWX l j8 e [41] hl with ⟨c9,b9,t9,x9⟩|⟨c9,t9⟩
    rcases eWX l (j8+1) e [44] hl with ⟨c10,b10,t10,x10⟩|⟨c10,t10⟩
    .simp only[zRZ,sevalprocAttr,↓reduceIte,c7,e8,c9,c10] at E
     rcases hK with ⟨hK,hK'⟩|hK
     all_goals (subst hK;try subst hK')
     all_goals (simp only[↓zA,sevalprocAttr,ahm,pT,zP,bh,zLX,ec,aa4, *])
     .refine⟨n,aP n,[a8],j8+2,.own (.cell 2 9) 25 1 (fl (lsC xpC) [a8]) 1,true,.inr rfl,rfl,?_,by simp only[au];exact⟨by omega,E⟩,by omega,by simp only[abP];omega⟩
      simp only[aji]
      simp only[zVW]
      all_goals rfl
     .refine⟨n,aP n,rw++[a8],j8+2,.own (.cell 2 9) 25 1 (fl (lsC xpC) (rw++[a8])) (rw++[a8]).length,true,.inr rfl,rfl,?_,by simp only[au];exact⟨by omega,E⟩,by omega,by simp only[aeX];omega⟩
      simp only[aji]
      simp only[zVW]
      all_goals rfl
    .simp only[zRZ,sevalprocAttr,↓reduceIte,c7,e8,c9,c10] at E
     rcases hK with ⟨hK,hK'⟩|hK
     all_goals (subst hK;try subst hK')
     all_goals (simp only[↓zA,sevalprocAttr,ahm,pT,zP,bh,zLX,ec,aa4, *])
     .refine⟨n,aP n,[a8],j8+1,.own (.cell 2 9) 25 1 (fl (lsC xpC) [a8]) 1,false,.inr rfl,rfl,?_,by simp only[ah,av];cases E;rfl,by omega,by simp only[abP];omega⟩
      simp only[aji]
      simp only[zVW]
      all_goals rfl
     .refine⟨n,aP n,rw++[a8],j8+1,.own (.cell 2 9) 25 1 (fl (lsC xpC) (rw++[a8])) (rw++[a8]).length,false,.inr rfl,rfl,?_,by simp only[ah,av];cases E;rfl,by omega,by simp only[aeX];omega⟩
      simp only[aji]
      simp only[zVW]
      all_goals rfl
    rotate_left 2
    all_goals (simp only[zRZ,sevalprocAttr,↓reduceIte, *] at E <;> cases E <;> (rcases hK with ⟨hK,hK'⟩|hK;all_goals (subst hK;try subst hK');all_goals (simp only[↓zA,sevalprocAttr,ahm,pT,zP,bh,zLX,ec,aa4, *];all_goals exact fz)))
  .simp only[↓zA,sevalprocAttr,ahm,pT]
   exact⟨[],j5+1,.nil,true,.inl ⟨rfl,rfl⟩,rfl,rfl,by simp only[au];exact⟨by omega,hr⟩,by omega,aO _⟩
 rcases eWX l j5 e [115,101,108,101,99,116] hl with ⟨c11,b11,t11,x11⟩|⟨c11,t11⟩
 have z12:=aB2 l (j5) e [115,101,108,101,99,116] [40] hl aC (b:=true) (by simp only[co,c11,x11,uL,sevalprocAttr,cS,aE])
 rcases eR (F.qy (j5) []) λ_=>H.qy _ _ aC with e13|⟨_,_,_,_,_⟩|⟨a13,j13,e13,⟨u13,v13⟩,k13⟩
 rotate_left 3
 rcases eWX l j5 e [40] hl with ⟨c14,b14,t14,x14⟩|⟨c14,t14⟩
 have z15:=aB2 l (j5) e [115,101,108,101,99,116] [40] hl aC (b:=true) (by simp only[co,c11,c14,sevalprocAttr,aE,bj])
 rcases eR (F.qy (j5) []) λ_=>H.qy _ _ aC with e16|⟨_,_,_,_,_⟩|⟨a16,j16,e16,⟨u16,v16⟩,k16⟩
 rotate_left 3
 .have z17:=aB2 l (j5) e [115,101,108,101,99,116] [40] hl aC (b:=false) (by simp only[co,c11,c14,sevalprocAttr,aE])
  have gk:=gK l (j5) e hl aC
  cases e18:F.qy (j5) [] with
  | none =>
   simp only[ab2,agl,nameR,cd,zRZ,sevalprocAttr,↓reduceIte, *] at hr
   try cases hr
  | some q18 =>
   have hq:=Q _ _ (by assumption) (by assumption) e18
   obtain⟨qa,qj⟩:=q18
   dsimp only at hq
   subst hq
   simp only[ab2,agl,nameR,cd,zRZ,sevalprocAttr,↓reduceIte, *] at hr
   cases hr
   refine bB at6 ?_
   simp only[↓zA,sevalprocAttr,ahm,bz,pT,zP,zBS,bh,zLX, *]
   all_goals exact fz
 have z19:=aB2 l (i+2) e [115,101,108,101,99,116] [40] hl aC (b:=true) (by simp only[co,c3,x3,uL,sevalprocAttr,cS,aE,bj])
 rcases eR (F.qy (i+2) []) λ_=>H.qy _ _ aC with e20|⟨_,_,_,_,_⟩|⟨a20,j20,e20,⟨u20,v20⟩,k20⟩
 rotate_left 3
 rcases eWX l (i+2) e [118,97,108,117,101,115] hl with ⟨c21,b21,t21,x21⟩|⟨c21,t21⟩
 .simp only[ab2,agl,nameR,cd,zRZ,sevalprocAttr,↓reduceIte,c1,c2,c3,c21] at hr
  refine bB at6 ?_
  simp only[↓zA,sevalprocAttr,ahm,bz,pT,bh, *]
  refine aaj _ _ (λn s=>∃ rw j K b,LiK (.cell 2 9) 25 1 (lsC xpC) K rw/\s.fr 0=.ptr 0 0/\s.fr 2=.ptr 1 0/\s.fr 3=.ptr 2 0/\s.fr 4=.of (cb b)/\s.objs=[pT l j e,.var 49 smZ,.var 49 (aji (txT l (i+1)) (.nil) K)]/\(if b=true then 1<=j/\agS F l (txT l (i+1)) [] n rw (j-1)=some r else r=(afO (txT l (i+1)) [] rw [],j,false))/\j<=l.length/\rw.length<=j) ?_ (l.length+1) _ ?_
  .rintro n ⟨frn,obn,ckn⟩ ⟨rw,j,K,b,hK,f0,f2,f3,f4,fo,E,hj,hk⟩
   dsimp only at f0 f2 f3 f4 fo
   have hos:(rw.length+1<=LIM)=True:=aa (by unfold LIM;unfold LB at hl;omega)
   cases b with
   | false =>
    simp only[ah,av] at E
    subst E
    rcases hK with ⟨hK,hK'⟩|hK
    all_goals (subst hK;try subst hK')
    all_goals (simp only[↓zA,sevalprocAttr,ahm,pT,zP,bh,zLX, *];all_goals exact fz)
   | true =>
    simp only[au] at E
    obtain⟨h1,E⟩:=E
    cases n with
    | zero=>simp only[agS] at E;cases E
    | succ n =>
    simp only[agS,Nat.sub_add_cancel h1] at E
    rcases eWX l j e [40] hl with ⟨c22,b22,t22,x22⟩|⟨c22,t22⟩
    rcases eR (aa1 F l (j+1)) λ_=>acE hl H _ _ aC with e23|⟨_,_,_,_,_⟩|⟨a23,j23,e23,⟨u23,v23⟩,k23⟩
    rotate_left 2
    rcases eWX l j23 e [41] hl with ⟨c24,b24,t24,x24⟩|⟨c24,t24⟩
    rcases eWX l (j23+1) e [44] hl with ⟨c25,b25,t25,x25⟩|⟨c25,t25⟩
    .simp only[zRZ,sevalprocAttr,↓reduceIte,c22,e23,c24,c25] at E
     rcases hK with ⟨hK,hK'⟩|hK
     all_goals (subst hK;try subst hK')
     all_goals (simp only[↓zA,sevalprocAttr,ahm,pT,zP,bh,zLX,ec,aa4, *])
     .refine⟨n,aP n,[a23],j23+2,.own (.cell 2 9) 25 1 (fl (lsC xpC) [a23]) 1,true,.inr rfl,rfl,?_,by simp only[au];exact⟨by omega,E⟩,by omega,by simp only[abP];omega⟩
      simp only[aji]
      simp only[zVW]
      all_goals rfl
     .refine⟨n,aP n,rw++[a23],j23+2,.own (.cell 2 9) 25 1 (fl (lsC xpC) (rw++[a23])) (rw++[a23]).length,true,.inr rfl,rfl,?_,by simp only[au];exact⟨by omega,E⟩,by omega,by simp only[aeX];omega⟩
      simp only[aji]
      simp only[zVW]
      all_goals rfl
    .simp only[zRZ,sevalprocAttr,↓reduceIte,c22,e23,c24,c25] at E
     rcases hK with ⟨hK,hK'⟩|hK
     all_goals (subst hK;try subst hK')
     all_goals (simp only[↓zA,sevalprocAttr,ahm,pT,zP,bh,zLX,ec,aa4, *])
     .refine⟨n,aP n,[a23],j23+1,.own (.cell 2 9) 25 1 (fl (lsC xpC) [a23]) 1,false,.inr rfl,rfl,?_,by simp only[ah,av];cases E;rfl,by omega,by simp only[abP];omega⟩
      simp only[aji]
      simp only[zVW]
      all_goals rfl
     .refine⟨n,aP n,rw++[a23],j23+1,.own (.cell 2 9) 25 1 (fl (lsC xpC) (rw++[a23])) (rw++[a23]).length,false,.inr rfl,rfl,?_,by simp only[ah,av];cases E;rfl,by omega,by simp only[aeX];omega⟩
      simp only[aji]
      simp only[zVW]
      all_goals rfl
    rotate_left 2
    all_goals (simp only[zRZ,sevalprocAttr,↓reduceIte, *] at E <;> cases E <;> (rcases hK with ⟨hK,hK'⟩|hK;all_goals (subst hK;try subst hK');all_goals (simp only[↓zA,sevalprocAttr,ahm,pT,zP,bh,zLX,ec,aa4, *];all_goals exact fz)))
  .simp only[↓zA,sevalprocAttr,ahm,pT]
   exact⟨[],i+3,.nil,true,.inl ⟨rfl,rfl⟩,rfl,rfl,by simp only[au];exact⟨by omega,hr⟩,by omega,aO _⟩
 rcases eWX l (i+2) e [115,101,108,101,99,116] hl with ⟨c26,b26,t26,x26⟩|⟨c26,t26⟩
 have z27:=aB2 l (i+2) e [115,101,108,101,99,116] [40] hl aC (b:=true) (by simp only[co,c3,c26,sevalprocAttr,aE])
 rcases eR (F.qy (i+2) []) λ_=>H.qy _ _ aC with e28|⟨_,_,_,_,_⟩|⟨a28,j28,e28,⟨u28,v28⟩,k28⟩
 rotate_left 3
 .have z29:=aB2 l (i+2) e [115,101,108,101,99,116] [40] hl aC (b:=false) (by simp only[co,c3,c26,sevalprocAttr,aE])
  have gk:=gK l (i+2) e hl aC
  cases e30:F.qy (i+2) [] with
  | none =>
   simp only[ab2,agl,nameR,cd,zRZ,sevalprocAttr,↓reduceIte, *] at hr
   try cases hr
  | some q30 =>
   have hq:=Q _ _ (by assumption) (by assumption) e30
   obtain⟨qa,qj⟩:=q30
   dsimp only at hq
   subst hq
   simp only[ab2,agl,nameR,cd,zRZ,sevalprocAttr,↓reduceIte, *] at hr
   cases hr
   refine bB at6 ?_
   simp only[↓zA,sevalprocAttr,ahm,bz,pT,zP,zBS,bh,zLX, *]
   all_goals exact fz
 rotate_left 2
 all_goals (simp only[ab2,agl,nameR,cd,zRZ,sevalprocAttr,↓reduceIte, *] at hr <;> cases hr <;> (refine bB at6 ?_;simp only[↓zA,sevalprocAttr,ahm,bz,pT,zP,zBS,bh,zLX,ep,uL, *];all_goals exact fz))
abbrev arm(t:List UInt8)(K:X):List X:=[.of (ci 5),.of (aJ (aK t)),.of (aJ {data:=#[]}),.nil,.nil,.of (cb false),.nil,.nil,.nil,.nil,K,.nil,.nil]
def a4W{α:Type}{L:List α}{a b c:α}(h:L.take 3=[a,b,c]):∃ J,L=a::b::c::J:=⟨L.drop 3,(ads 3 L).symm.trans (by rw[h];rfl)⟩
def aqd:=ai (gh @Tryz.f94.eq_1 @zq @a64 @ak0 @a63 @aeN @a62 @ak2 @ab5) (fZ @a2d @bG @abE @afR @bO @agy @zT0 (kf aNU))
def aAc{l:List Tn}{e:Int}{F:Fs}(hl:l.length<LB)(H:PY l e F)(i:Nat)(r:Sm×Nat×Bool)(hi:i<=l.length)(hr:ad0 F l i=some r):GP 94 [.ptr 0 0] [pT l i e] l e [] smE i r:=by
 refine⟨Pl.at (arl H.fp hi) hr,?_⟩
 rcases eK2 l i e hl with ⟨c1,b1,t1⟩|⟨c1,t1⟩
 rcases eW l (i+1) e [115,101,116] hl with ⟨c2,b2,t2⟩|⟨c2,t2⟩
 .simp only[ad0,nameR,cd,zRZ,sevalprocAttr,↓reduceIte,c1,c2] at hr
  refine bB aNU ?_
  simp only[↓zA,sevalprocAttr,aqd,bz,pT,bh, *]
  refine aaj _ _ (λn s=>∃ ss j K b,LiK (.cell 2 10) 93 10 asC K ss/\s.fr 0=.ptr 0 0/\s.fr 2=.ptr 1 0/\s.fr 3=.ptr 2 0/\s.fr 4=.of (cb b)/\s.objs.take 3=[pT l j e,.var 49 smZ,.var 49 (arm (txT l i) K)]/\(if b=true then ai6 F l (txT l i) n ss j=some r else (aaS F l j [119,104,101,114,101]).to (λw=>ahs (txT l i) ss w)=some r)/\j<=l.length/\ss.length<=j) ?_ (l.length+1) _ ?_
  .rintro n ⟨frn,obn,ckn⟩ ⟨ss,j,K,b,hK,f0,f2,f3,f4,fo,E,hj,hk⟩
   dsimp only at f0 f2 f3 f4 fo
   obtain⟨J,fo⟩:=a4W fo
   have hos:(ss.length+1<=LIM)=True:=aa (by unfold LIM;unfold LB at hl;omega)
   cases b with
   | false =>
    simp only[ah,av] at E
    rcases eR (aaS F l j [119,104,101,114,101]) λ_=>arj hl H _ _ aC with _|⟨_,_,_⟩|⟨a3,j3,_⟩
    rotate_left 3
    all_goals (simp only[zRZ,sevalprocAttr, *] at E <;> cases E <;> (rcases hK with ⟨hK,hK'⟩|hK;all_goals (subst hK;try subst hK');all_goals (simp only[↓zA,sevalprocAttr,aqd,pT,zP,bh,zLX,bG, *];all_goals exact fz)))
   | true =>
    simp only[au] at E
    cases n with
    | zero=>simp only[ai6] at E;cases E
    | succ n =>
    simp only[ai6] at E
    rcases eK2 l j e hl with ⟨c4,b4,t4⟩|⟨c4,t4⟩
    rcases eW l (j+1) e [61] hl with ⟨c5,b5,t5⟩|⟨c5,t5⟩
    rcases eR (F.or (j+2) []) λ_=>H.or _ _ aC with e6|⟨_,_,_⟩|⟨a6,j6,e6,⟨u6,v6⟩,k6⟩
    rotate_left 2
    rcases eW l j6 e [44] hl with ⟨c7,b7,t7⟩|⟨c7,t7⟩
    .simp only[nameR,cd,zRZ,sevalprocAttr,↓reduceIte,c4,c5,e6,c7] at E
     rcases hK with ⟨hK,hK'⟩|hK
     all_goals (subst hK;try subst hK')
     all_goals (simp only[↓zA,sevalprocAttr,aqd,pT,bh,ec,aa4,bG,cm, *])
     .refine⟨n,aP n,[As.mk (txT l j) a6],j6+1,.own (.cell 2 10) 93 10 (fl asC [As.mk (txT l j) a6]) 1,true,.inr rfl,rfl,?_,by simp only[au];exact E,by omega,by simp only[abP];omega⟩
      simp only[arm]
      simp only[zVW]
      all_goals rfl
     .refine⟨n,aP n,ss++[As.mk (txT l j) a6],j6+1,.own (.cell 2 10) 93 10 (fl asC (ss++[As.mk (txT l j) a6])) (ss++[As.mk (txT l j) a6]).length,true,.inr rfl,rfl,?_,by simp only[au];exact E,by omega,by simp only[aeX];omega⟩
      simp only[arm]
      simp only[zVW]
      all_goals rfl
    .simp only[nameR,cd,zRZ,sevalprocAttr,↓reduceIte,c4,c5,e6,c7] at E
     rcases hK with ⟨hK,hK'⟩|hK
     all_goals (subst hK;try subst hK')
     all_goals (simp only[↓zA,sevalprocAttr,aqd,pT,bh,ec,aa4,bG,cm, *])
     .refine⟨n,aP n,[As.mk (txT l j) a6],j6,.own (.cell 2 10) 93 10 (fl asC [As.mk (txT l j) a6]) 1,false,.inr rfl,rfl,?_,by simp only[ah,av];exact E,by omega,by simp only[abP];omega⟩
      simp only[arm]
      simp only[zVW]
      all_goals rfl
     .refine⟨n,aP n,ss++[As.mk (txT l j) a6],j6,.own (.cell 2 10) 93 10 (fl asC (ss++[As.mk (txT l j) a6])) (ss++[As.mk (txT l j) a6]).length,false,.inr rfl,rfl,?_,by simp only[ah,av];exact E,by omega,by simp only[aeX];omega⟩
      simp only[arm]
      simp only[zVW]
      all_goals rfl
    rotate_left 2
    all_goals (simp only[nameR,cd,zRZ,sevalprocAttr,↓reduceIte, *] at E <;> cases E <;> (rcases hK with ⟨hK,hK'⟩|hK;all_goals (subst hK;try subst hK');all_goals (simp only[↓zA,sevalprocAttr,aqd,pT,zP,bh,zLX,cm, *];all_goals exact fz)))
  .simp only[↓zA,sevalprocAttr,aqd,pT]
   exact⟨[],i+2,.nil,true,.inl ⟨rfl,rfl⟩,rfl,rfl,by simp only[au];exact hr,by omega,aO _⟩
 rotate_left 2
 all_goals (simp only[ad0,nameR,cd,zRZ,sevalprocAttr,↓reduceIte, *] at hr <;> cases hr <;> (refine bB aNU ?_;simp only[↓zA,sevalprocAttr,aqd,bz,pT,zP,bh,zLX, *];all_goals exact fz))
abbrev crV(t:List UInt8)(K3 K6 K7 K8:X):List X:=[.of (ci 1),.of (aJ (aK t)),.of (aJ {data:=#[]}),K3,.nil,.of (cb false),K6,K7,K8,.nil,.nil,.nil,.nil]
def st3{α:Type}{e z:Nat}{f:α->List C}{K:X}{a:List α}(h:LiK (.cell 1 3) e z f K a):X.tr some (cz [0] []) K=K/\K.refs=[]/\X.tr (pos [0,1]) (fM [0,1] []) K=K/\(∀ a b,X.tr (λi=>some (ct [0,1] 2 i)) (cN [0,1] 2 a b) K=K)/\(∀ a b c,X.drop (.nm a b c) K=K)/\(∀ a b c,X.tr some (aaL 1 6 1 [(Tk.nm a b c,Tk.cell 1 6)]) K=K)/\X.drop (.cell 1 6) K=K/\(∀ a b c,X.tr some (aaL 1 7 1 [(Tk.nm a b c,Tk.cell 1 7)]) K=K)/\X.drop (.cell 1 7) K=K/\(∀ a b c,X.tr some (aaL 1 8 1 [(Tk.nm a b c,Tk.cell 1 8)]) K=K)/\X.drop (.cell 1 8) K=K:=by
 rcases h with ⟨h,_⟩|h <;> subst h <;> (and_intros <;> intros <;> rfl)
def st6{α:Type}{e z:Nat}{f:α->List C}{K:X}{a:List α}(h:LiK (.cell 1 6) e z f K a):X.tr some (cz [0] []) K=K/\K.refs=[]/\X.tr (pos [0,1]) (fM [0,1] []) K=K/\(∀ a b,X.tr (λi=>some (ct [0,1] 2 i)) (cN [0,1] 2 a b) K=K)/\(∀ a b c,X.drop (.nm a b c) K=K)/\(∀ a b c,X.tr some (aaL 1 3 1 [(Tk.nm a b c,Tk.cell 1 3)]) K=K)/\X.drop (.cell 1 3) K=K/\(∀ a b c,X.tr some (aaL 1 7 1 [(Tk.nm a b c,Tk.cell 1 7)]) K=K)/\X.drop (.cell 1 7) K=K/\(∀ a b c,X.tr some (aaL 1 8 1 [(Tk.nm a b c,Tk.cell 1 8)]) K=K)/\X.drop (.cell 1 8) K=K:=by
 rcases h with ⟨h,_⟩|h <;> subst h <;> (and_intros <;> intros <;> rfl)
def st7{α:Type}{e z:Nat}{f:α->List C}{K:X}{a:List α}(h:LiK (.cell 1 7) e z f K a):X.tr some (cz [0] []) K=K/\K.refs=[]/\X.tr (pos [0,1]) (fM [0,1] []) K=K/\(∀ a b,X.tr (λi=>some (ct [0,1] 2 i)) (cN [0,1] 2 a b) K=K)/\(∀ a b c,X.drop (.nm a b c) K=K)/\(∀ a b c,X.tr some (aaL 1 3 1 [(Tk.nm a b c,Tk.cell 1 3)]) K=K)/\X.drop (.cell 1 3) K=K/\(∀ a b c,X.tr some (aaL 1 6 1 [(Tk.nm a b c,Tk.cell 1 6)]) K=K)/\X.drop (.cell 1 6) K=K/\(∀ a b c,X.tr some (aaL 1 8 1 [(Tk.nm a b c,Tk.cell 1 8)]) K=K)/\X.drop (.cell 1 8) K=K:=by
 rcases h with ⟨h,_⟩|h <;> subst h <;> (and_intros <;> intros <;> rfl)
def st8{α:Type}{e z:Nat}{f:α->List C}{K:X}{a:List α}(h:LiK (.cell 1 8) e z f K a):X.tr some (cz [0] []) K=K/\K.refs=[]/\X.tr (pos [0,1]) (fM [0,1] []) K=K/\(∀ a b,X.tr (λi=>some (ct [0,1] 2 i)) (cN [0,1] 2 a b) K=K)/\(∀ a b c,X.drop (.nm a b c) K=K)/\(∀ a b c,X.tr some (aaL 1 3 1 [(Tk.nm a b c,Tk.cell 1 3)]) K=K)/\X.drop (.cell 1 3) K=K/\(∀ a b c,X.tr some (aaL 1 6 1 [(Tk.nm a b c,Tk.cell 1 6)]) K=K)/\X.drop (.cell 1 6) K=K/\(∀ a b c,X.tr some (aaL 1 7 1 [(Tk.nm a b c,Tk.cell 1 7)]) K=K)/\X.drop (.cell 1 7) K=K:=by
 rcases h with ⟨h,_⟩|h <;> subst h <;> (and_intros <;> intros <;> rfl)
def a4u:=ai (fX @zq @ak0 @a68 @ab5 @aeN @bcQ) (fX @abE @ahW @ahZ @bO @zT0 (kf aRz))
def bex(l:List Tn)(e:Int)(t:List UInt8)(cs:List Cd)(K3 K6 K7 K8:X)(i:Nat)(r:Cd×Nat×Bool):Prop:=match r with
 | (c,j,false)=>aH Tryz.prog pr 182 [.ptr 0 0,.ptr 1 0] [pT l i e,.var 49 (crV t K3 K6 K7 K8)] ⟨false,[],[pT l j e,.var 49 (crV t (.own (.cell 1 3) 149 3 (fl cdC (cs++[c])) (cs++[c]).length) K6 K7 K8)]⟩
 | (_,j,true)=>aH Tryz.prog pr 182 [.ptr 0 0,.ptr 1 0] [pT l i e,.var 49 (crV t K3 K6 K7 K8)] ⟨true,[aaJ l j e],[pT l j e,.var 49 (crV t K3 K6 K7 K8)]⟩
def alZ{l:List Tn}(e:Int)(hl:l.length<LB)(t:List UInt8){cs:List Cd}{ks:List Kd}{rs:List Rd}{xs:List Xp}{K3 K6 K7 K8:X}(hK:LiK (.cell 1 3) 149 3 cdC K3 cs)(k6:LiK (.cell 1 6) 151 2 kdC K6 ks)(k7:LiK (.cell 1 7) 153 3 rdC K7 rs)(k8:LiK (.cell 1 8) 28 9 xpC K8 xs)
  (i:Nat) (r:Cd×Nat×Bool) (hi:i<=l.length) (hc:cs.length<=i) (hr:agY l i=some r):bex l e t cs K3 K6 K7 K8 i r:=by
 have s6:=st6 k6
 have s7:=st7 k7
 have s8:=st8 k8
 have hos:(cs.length+1<=LIM)=True:=aa (by unfold LIM;unfold LB at hl;omega)
 rcases afl l i e hl with _|_
 rcases eWX l (i+1) e [105,110,116] hl with _|_
 rcases eWX l (i+2) e [110,111,116] hl with _|_
 rcases eWX l (i+3) e [110,117,108,108] hl with _|_
 rotate_left 3
 rcases eWX l (i+1) e [116,101,120,116] hl with _|_
 rcases eWX l (i+2) e [110,111,116] hl with _|_
 rcases eWX l (i+3) e [110,117,108,108] hl with _|_
 rotate_left 3
 rcases eWX l (i+1) e [98,111,111,108] hl with _|_
 rcases eWX l (i+2) e [110,111,116] hl with _|_
 rcases eWX l (i+3) e [110,117,108,108] hl with _|_
 rotate_left 5
 all_goals (simp only[agY,an7,opT,nameR,cd,zRZ,sevalprocAttr,↓reduceIte, *] at hr <;> cases hr <;> (rcases hK with ⟨hK,hK'⟩|hK;all_goals (subst hK;try subst hK');all_goals (refine bB aRz ?_;simp only[Tryz.f182,↓zA,sevalprocAttr,a4u,pT,zP,bh,zLX,ec,aa4,ahW,uL, *];all_goals exact fz)))
def liX(t:Tk)(e z:Nat)(cs:List C)(n:Nat)(b:Bool):X:=if b then .own t e z cs n else .nil
def ady(t:Tk)(e z:Nat)(cs:List C)(n:Nat):liX t e z cs n true=.own t e z cs n:=rfl
def ajg(t:Tk)(e z:Nat)(cs:List C)(n:Nat):liX t e z cs n false=.nil:=rfl
def akg{α:Type}{t:Tk}{e z:Nat}{f:α->List C}{a:List α}{b:Bool}(h:b=false->a=[]):LiK t e z f (liX t e z (fl f a) a.length b) a:=by
 cases b with
 | true=>exact .inr rfl
 | false=>exact .inl ⟨rfl,h rfl⟩
abbrev crX(r:Nat)(t:List UInt8)(c:Cr)(w6 w7 w8:Bool):List X:=crV t (.own (.cell r 3) 149 3 (fl cdC c.cs) c.cs.length) (liX (.cell r 6) 151 2 (fl kdC c.ks) c.ks.length w6) (liX (.cell r 7) 153 3 (fl rdC c.rs) c.rs.length w7) (liX (.cell r 8) 28 9 (fl xpC c.xs) c.xs.length w8)
structure CrB (c:Cr) (w6 w7 w8:Bool) (i:Nat):Prop where
 k:w6=false->c.ks=[]
 r:w7=false->c.rs=[]
 x:w8=false->c.xs=[]
 y:w8=true->c.xs≠[]
 nc:c.cs≠[]
 lc:c.cs.length<=i
 lk:c.ks.length<=i
 lr:c.rs.length<=i
 lx:c.xs.length<=i
abbrev a3w(l:List Tn)(e:Int)(t:List UInt8)(c:Cr)(w6 w7 w8:Bool)(i:Nat)(an:An):Prop:=aH Tryz.prog pr 183 [.ptr 0 0,.ptr 1 0] [pT l i e,.var 49 (crX 1 t c w6 w7 w8)] an
def bew(l:List Tn)(e:Int)(t:List UInt8)(c:Cr)(w6 w7 w8:Bool)(i:Nat)(r:Cr×Nat×Bool):Prop:=match r with
 | (c',j,false)=>∃ w6' w7' w8',CrB c' w6' w7' w8' j/\a3w l e t c w6 w7 w8 i ⟨false,[],[pT l j e,.var 49 (crX 1 t c' w6' w7' w8')]⟩
 | (_,j,true)=>∃ ob,a3w l e t c w6 w7 w8 i ⟨true,[aaJ l j e],[pT l j e,ob]⟩
def ayf:abz (abv (Value.agg #[Value.int IntKind.i64 0,Value.int IntKind.i64 0,Value.int IntKind.i64 0,Value.string {data:=#[]},Value.string {data:=#[]},Value.string {data:=#[]},Value.bool false,Value.slice none 0 0,Value.slice none 0 0]))=true:=rfl
def aet:=fU (gh @Tryz.f183.eq_1 @zq @ab5 @aeN @bcP @aTQ @acD @aGc @bcO) (gh @aTP @a67 @ak0 @bcN @bcM @aLJ @ak2 @aSC @bG) (gh @abE @ad3 @afQ @fq @bO @ahY @ahX @zT0 (kf aef))
def aC1{l:List Tn}{i:Nat}{c:Cd}{j:Nat}(h:agY l i=some (c,j,false)):i+1<=j:=by
 unfold agY nameR cd at h
 cases k:br l i 2 with
 | false=>rw[k] at h;cases h
 | true =>
  rw[k] at h
  simp only[au] at h
  cases t:an7 l (i+1) with
  | none=>rw[t] at h;cases h
  | some n =>
   rw[t] at h
   simp only at h
   split at h
   .unfold wantE bH at h
    split at h
    .cases h;omega
    .cases h
   .cases h;omega
def azd{l:List Tn}{e:Int}{F:Fs}(hl:l.length<LB)(H:PY l e F)(t:List UInt8)(c:Cr)(w6 w7 w8:Bool)(i:Nat)(B:CrB c w6 w7 w8 i)(r:Cr×Nat×Bool)(hi:i<=l.length)(hr:elS F l i c=some r):bew l e t c w6 w7 w8 i r:=by
 have s3:=st3 (K:=.own (.cell 1 3) 149 3 (fl cdC c.cs) c.cs.length) (f:=cdC) (a:=c.cs) (.inr rfl)
 have s6:=st6 (akg (t:=.cell 1 6) (e:=151) (z:=2) (f:=kdC) B.k)
 have s7:=st7 (akg (t:=.cell 1 7) (e:=153) (z:=3) (f:=rdC) B.r)
 have s8:=st8 (akg (t:=.cell 1 8) (e:=28) (z:=9) (f:=xpC) B.x)
 have hcs:decide (c.cs=[])=false:=bw B.nc
 have hx0:w8=true->((c.xs.length=0)=False):=λh=>aA (λh'=>B.y h (bK h'))
 have hos:(c.ks.length+1<=LIM)=True/\(c.rs.length+1<=LIM)=True/\(c.xs.length+1<=LIM)=True:=by
  have:=B.lk;have:=B.lr;have:=B.lx
  refine⟨aa ?_,aa ?_,aa ?_⟩ <;> (unfold LIM;unfold LB at hl;omega)
 rcases afl l i e hl with ⟨c1,b1,t1,x1⟩|⟨c1,t1⟩
 .cases e2:agY l i with
  | none =>
   simp only[elS,aE,zRZ,sevalprocAttr,↓reduceIte, *] at hr
   try cases hr
  | some r2 =>
   have g2:=alZ e hl t (.inr rfl) (akg B.k) (akg B.r) (akg B.x) i _ hi B.lc e2
   have P2:=Pl.at (auc hi) e2
   obtain⟨a,j,q⟩:=r2
   obtain⟨u,v⟩:=P2
   dsimp only at u v
   cases q with
   | true =>
    have k2:=λK=>aH.k g2 K
    simp only[elS,aE,zRZ,sevalprocAttr,↓reduceIte, *] at hr
    cases hr
    refine⟨.var 49 (crX 1 t c w6 w7 w8),?_⟩
    all_goals (refine bB aef ?_;simp only[↓zA,sevalprocAttr,aet,pT,zP,bh,zLX, *];all_goals exact fz)
   | false =>
    have k2:=λK=>aH.k g2 K
    simp only[elS,aE,zRZ,sevalprocAttr,↓reduceIte, *] at hr
    cases hr
    refine⟨w6,w7,w8,⟨B.k,B.r,B.x,B.y,by simp,by have:=B.lc;have:=aC1 e2;simp only[aeX];omega,by have:=B.lk;dsimp only;omega,by have:=B.lr;dsimp only;omega,by have:=B.lx;dsimp only;omega⟩,?_⟩
    refine bB aef ?_
    simp only[↓zA,sevalprocAttr,aet,pT,zP,bh,zLX, *]
    all_goals simp only[crX,crV]
    all_goals exact fz
 rcases eWX l i e [112,114,105,109,97,114,121] hl with _|_
 rcases eWX l (i+1) e [107,101,121] hl with _|_
 rcases eR (abt l (i+2)) λ_=>ae6 e hl _ _ aC with _|⟨a5,j5,_⟩|⟨a5,j5,_⟩
 rotate_left
 .simp only[elS,aE,zRZ,sevalprocAttr,↓reduceIte, *] at hr
  cases hr
  refine⟨.var 49 (crX 1 t c w6 w7 w8),?_⟩
  cases w6
  all_goals (refine bB aef ?_;simp only[↓zA,sevalprocAttr,aet,pT,zP,bh,zLX,ad3,ady,ajg, *])
  all_goals exact fz
 .simp only[elS,aE,zRZ,sevalprocAttr,↓reduceIte, *] at hr
  cases hr
  refine⟨true,w7,w8,⟨(λh=>by cases h),B.r,B.x,B.y,B.nc,by have:=B.lc;dsimp only;omega,by have:=B.lk;dsimp only;simp only[bc,aN,aW];omega,by have:=B.lr;dsimp only;omega,by have:=B.lx;dsimp only;omega⟩,?_⟩
  cases w6 with
  | false =>
   have h0:=B.k rfl
   refine bB aef ?_
   simp only[↓zA,sevalprocAttr,aet,pT,zP,bh,zLX,aa4,ad3,ajg, *]
   all_goals simp only[crX,crV,ady]
   all_goals exact fz
  | true =>
   refine bB aef ?_
   simp only[↓zA,sevalprocAttr,aet,pT,zP,bh,zLX,ec,ad3,ady, *]
   all_goals simp only[crX,crV,ady]
   all_goals exact fz
 rotate_left
 rcases eWX l i e [117,110,105,113,117,101] hl with _|_
 rcases eR (abt l (i+1)) λ_=>ae6 e hl _ _ aC with _|⟨a7,j7,_⟩|⟨a7,j7,_⟩
 rotate_left
 .simp only[elS,aE,zRZ,sevalprocAttr,↓reduceIte, *] at hr
  cases hr
  refine⟨.var 49 (crX 1 t c w6 w7 w8),?_⟩
  cases w6
  all_goals (refine bB aef ?_;simp only[↓zA,sevalprocAttr,aet,pT,zP,bh,zLX,ad3,ady,ajg, *])
  all_goals exact fz
 .simp only[elS,aE,zRZ,sevalprocAttr,↓reduceIte, *] at hr
  cases hr
  refine⟨true,w7,w8,⟨(λh=>by cases h),B.r,B.x,B.y,B.nc,by have:=B.lc;dsimp only;omega,by have:=B.lk;dsimp only;simp only[bc,aN,aW];omega,by have:=B.lr;dsimp only;omega,by have:=B.lx;dsimp only;omega⟩,?_⟩
  cases w6 with
  | false =>
   have h0:=B.k rfl
   refine bB aef ?_
   simp only[↓zA,sevalprocAttr,aet,pT,zP,bh,zLX,aa4,ad3,ajg, *]
   all_goals simp only[crX,crV,ady]
   all_goals exact fz
  | true =>
   refine bB aef ?_
   simp only[↓zA,sevalprocAttr,aet,pT,zP,bh,zLX,ec,ad3,ady, *]
   all_goals simp only[crX,crV,ady]
   all_goals exact fz
 rcases eWX l i e [102,111,114,101,105,103,110] hl with _|_
 rcases eWX l (i+1) e [107,101,121] hl with _|_
 rcases eR (abt l (i+2)) λ_=>ae6 e hl _ _ aC with _|⟨a10,j10,_⟩|⟨a10,j10,_⟩
 rotate_left 2
 rcases eWX l j10 e [114,101,102,101,114,101,110,99,101,115] hl with _|_
 rcases afl l (j10+1) e hl with _|_
 rcases eR (abt l (j10+2)) λ_=>ae6 e hl _ _ aC with _|⟨a13,j13,_⟩|⟨a13,j13,_⟩
 rotate_left 2
 .simp only[elS,anc,nameR,cd,aE,zRZ,sevalprocAttr,↓reduceIte, *] at hr
  cases hr
  refine⟨w6,true,w8,⟨B.k,(λh=>by cases h),B.x,B.y,B.nc,by have:=B.lc;dsimp only;omega,by have:=B.lk;dsimp only;omega,by have:=B.lr;dsimp only;simp only[bc,aN,aW];omega,by have:=B.lx;dsimp only;omega⟩,?_⟩
  cases w7 with
  | false =>
   have h0:=B.r rfl
   refine bB aef ?_
   simp only[↓zA,sevalprocAttr,aet,pT,zP,bh,zLX,aa4,afQ,ajg, *]
   all_goals simp only[crX,crV,ady]
   all_goals exact fz
  | true =>
   refine bB aef ?_
   simp only[↓zA,sevalprocAttr,aet,pT,zP,bh,zLX,ec,afQ,ady, *]
   all_goals simp only[crX,crV,ady]
   all_goals exact fz
 rotate_left 3
 rcases eWX l i e [99,104,101,99,107] hl with _|_
 rcases eWX l (i+1) e [40] hl with _|_
 rcases eR (F.or (i+2) []) λ_=>H.or _ _ aC with _|⟨a16,j16,_⟩|⟨a16,j16,_⟩
 rotate_left
 .simp only[elS,aE,zRZ,sevalprocAttr,↓reduceIte, *] at hr
  cases hr
  refine⟨.var 49 (crX 1 t c w6 w7 w8),?_⟩
  cases w8
  all_goals (refine bB aef ?_;simp only[↓zA,sevalprocAttr,aet,pT,zP,bh,zLX,bG,ady,ajg,aub,apL,E25,ayf, *])
  all_goals exact fz
 rcases eWX l j16 e [41] hl with _|_
 .simp only[elS,aE,zRZ,sevalprocAttr,↓reduceIte, *] at hr
  cases hr
  refine⟨w6,w7,true,⟨B.k,B.r,(λh=>by cases h),(λ_=>by simp),B.nc,by have:=B.lc;dsimp only;omega,by have:=B.lk;dsimp only;omega,by have:=B.lr;dsimp only;omega,by have:=B.lx;dsimp only;simp only[bc,aN,aW];omega⟩,?_⟩
  cases w8 with
  | false =>
   have h0:=B.x rfl
   refine bB aef ?_
   simp only[↓zA,sevalprocAttr,aet,pT,zP,bh,zLX,bG,ajg,aub,apL,E25,ayf, *]
   all_goals simp only[crX,crV,ady]
   all_goals exact fz
  | true =>
   refine bB aef ?_
   simp only[↓zA,sevalprocAttr,aet,pT,zP,bh,zLX,ec,bG,ady,aub,apL,E25,ayf, *]
   all_goals simp only[crX,crV,ady]
   all_goals exact fz
 .simp only[elS,aE,zRZ,sevalprocAttr,↓reduceIte, *] at hr
  cases hr
  refine⟨.var 49 (crX 1 t ⟨c.cs,c.ks,c.rs,c.xs++[a16]⟩ w6 w7 true),?_⟩
  cases w8 with
  | false =>
   have h0:=B.x rfl
   refine bB aef ?_
   simp only[↓zA,sevalprocAttr,aet,pT,zP,bh,zLX,bG,ajg,aub,apL,E25,ayf, *]
   all_goals simp only[crX,crV,ady]
   all_goals exact fz
  | true =>
   refine bB aef ?_
   simp only[↓zA,sevalprocAttr,aet,pT,zP,bh,zLX,ec,bG,ady,aub,apL,E25,ayf, *]
   all_goals simp only[crX,crV,ady]
   all_goals exact fz
 rotate_left
 have e18:agY l i=some (⟨[],0,false⟩,i,true):=by simp only[agY,nameR,cd,c1,ah,av]
 have g18:=alZ e hl t (.inr rfl) (akg B.k) (akg B.r) (akg B.x) i _ hi B.lc e18
 have k18:=λK=>aH.k g18 K
 rotate_left
 all_goals (simp only[elS,anc,nameR,cd,aE,zRZ,sevalprocAttr,↓reduceIte, *] at hr <;> cases hr <;> (refine⟨.var 49 (crX 1 t c w6 w7 w8),?_⟩;all_goals (refine bB aef ?_;simp only[↓zA,sevalprocAttr,aet,pT,zP,bh,zLX,afQ, *];all_goals exact fz)))
def elM(F:Fs)(l:List Tn)(n:Nat)(c:Cr)(j:Nat):Rz Cr:=if isT l j [44] then elL F l n c (j+1) else wantE (bH l j [41]) c
def aSn(F:Fs)(l:List Tn)(n:Nat)(c:Cr)(i:Nat):elL F l (n+1) c i=(elS F l i c).on id λs j=>elM F l n s j:=rfl
def a8a(F:Fs)(l:List Tn)(i:Nat):elS F l i c0=(agY l i).to λc=>⟨[c],[],[],[]⟩:=by
 unfold elS
 rw[show decide (c0.cs=[])=true from by simp[c0],bj,am rfl]
 rfl
def ls6{e z:Nat}{cs:List C}{n:Nat}{b:Bool}:X.tr some (cz [0] []) (liX (.cell 2 6) e z cs n b)=liX (.cell 2 6) e z cs n b/\(liX (.cell 2 6) e z cs n b).refs=[]/\X.tr (pos [0,2]) (fM [0,2] []) (liX (.cell 2 6) e z cs n b)=liX (.cell 1 6) e z cs n b/\(∀ c d,X.tr (λi=>some (ct [0,2] 3 i)) (cN [0,2] 3 c d) (liX (.cell 1 6) e z cs n b)=liX (.cell 2 6) e z cs n b):=by
 cases b <;> (and_intros <;> intros <;> rfl)
def ls7{e z:Nat}{cs:List C}{n:Nat}{b:Bool}:X.tr some (cz [0] []) (liX (.cell 2 7) e z cs n b)=liX (.cell 2 7) e z cs n b/\(liX (.cell 2 7) e z cs n b).refs=[]/\X.tr (pos [0,2]) (fM [0,2] []) (liX (.cell 2 7) e z cs n b)=liX (.cell 1 7) e z cs n b/\(∀ c d,X.tr (λi=>some (ct [0,2] 3 i)) (cN [0,2] 3 c d) (liX (.cell 1 7) e z cs n b)=liX (.cell 2 7) e z cs n b):=by
 cases b <;> (and_intros <;> intros <;> rfl)
def ls8{e z:Nat}{cs:List C}{n:Nat}{b:Bool}:X.tr some (cz [0] []) (liX (.cell 2 8) e z cs n b)=liX (.cell 2 8) e z cs n b/\(liX (.cell 2 8) e z cs n b).refs=[]/\X.tr (pos [0,2]) (fM [0,2] []) (liX (.cell 2 8) e z cs n b)=liX (.cell 1 8) e z cs n b/\(∀ c d,X.tr (λi=>some (ct [0,2] 3 i)) (cN [0,2] 3 c d) (liX (.cell 1 8) e z cs n b)=liX (.cell 2 8) e z cs n b):=by
 cases b <;> (and_intros <;> intros <;> rfl)
def an2:=ai (fZ @Tryz.f91.eq_1 @zq @a7b @ab5 @ak0 @a7a @aeN @aSC) (fY @a9D @a69 @aGc @abE @bO @zT0 (kf aFt))
def aBa{l:List Tn}{e:Int}{F:Fs}(hl:l.length<LB)(H:PY l e F)(i:Nat)(r:Sm×Nat×Bool)(hi:i<=l.length)(hr:ac8 F l i=some r):GP 91 [.ptr 0 0] [pT l i e] l e [] smE i r:=by
 refine⟨Pl.at (asD H.fp hi) hr,?_⟩
 rcases eWX l i e [116,97,98,108,101] hl with ⟨c1,b1,t1,x1⟩|⟨c1,t1⟩
 rcases afl l (i+1) e hl with ⟨c2,b2,t2,x2⟩|⟨c2,t2⟩
 rcases eWX l (i+2) e [40] hl with ⟨c3,b3,t3,x3⟩|⟨c3,t3⟩
 .simp only[ac8,nameR,cd,zRZ,sevalprocAttr,↓reduceIte,c1,c2,c3] at hr
  rw[aSn,a8a] at hr
  cases e4:agY l (i+3) with
  | none=>rw[e4] at hr;cases hr
  | some q =>
  have g4:=alZ e hl (txT l (i+1)) (K3:=.nil) (K6:=.nil) (K7:=.nil) (K8:=.nil) (ks:=[]) (rs:=[]) (xs:=[]) (cs:=[]) (.inl ⟨rfl,rfl⟩) (.inl ⟨rfl,rfl⟩) (.inl ⟨rfl,rfl⟩) (.inl ⟨rfl,rfl⟩) (i+3) _ aC (aO _) e4
  have P4:=Pl.at (auc aC) e4
  obtain⟨a,j,q⟩:=q
  obtain⟨u,v⟩:=P4
  dsimp only at u v
  rw[e4] at hr
  cases q with
  | true =>
   have k:=λK=>aH.k g4 K
   cases hr
   refine bB aFt ?_
   simp only[↓zA,sevalprocAttr,an2,bz,pT,zP,bh,zLX, *]
   all_goals exact fz
  | false =>
   have k:=λK=>aH.k g4 K
   have gt:=aC1 e4
   simp only[Rz.to,Rz.on] at hr
   refine bB aFt ?_
   simp only[↓zA,sevalprocAttr,an2,bz,pT,bh, *]
   refine aaj _ _ (λn s=>∃ c w6 w7 w8 j,CrB c w6 w7 w8 j/\s.fr 0=.ptr 0 0/\s.fr 2=.ptr 1 0/\s.fr 3=.ptr 2 0/\s.objs=[pT l j e,.var 49 smZ,.var 49 (crX 2 (txT l (i+1)) c w6 w7 w8)]/\(elM F l n c j).to (λc=>c.sm (txT l (i+1)))=some r/\j<=l.length) ?_ l.length _ ?_
   .rintro n ⟨frn,obn,ckn⟩ ⟨c,w6,w7,w8,j,B,f0,f2,f3,fo,E,hj⟩
    dsimp only at f0 f2 f3 fo
    rcases eW l j e [44] hl with ⟨c5,b5,t5⟩|⟨c5,t5⟩
    .cases n with
     | zero=>simp only[elM,c5,au,elL,Rz.to] at E;cases E
     | succ n =>
     simp only[elM,c5,au] at E
     rw[aSn] at E
     cases e6:elS F l (j+1) c with
     | none=>rw[e6] at E;cases E
     | some q =>
     have B1:CrB c w6 w7 w8 (j+1):=⟨B.k,B.r,B.x,B.y,B.nc,by have:=B.lc;omega,by have:=B.lk;omega,by have:=B.lr;omega,by have:=B.lx;omega⟩
     have g6:=azd hl H (txT l (i+1)) c w6 w7 w8 (j+1) B1 _ aC e6
     have P6:=Pl.at (aza H.fp aC) e6
     obtain⟨c',m,q⟩:=q
     obtain⟨u2,v2⟩:=P6
     dsimp only at u2 v2
     rw[e6] at E
     cases q with
     | true =>
      obtain⟨ob,g6⟩:=g6
      have k2:=λK=>aH.k g6 K
      cases E
      simp only[↓zA,sevalprocAttr,an2,pT,zP,bh,zLX,ls6,ls7,ls8, *]
      all_goals exact fz
     | false =>
      obtain⟨w6',w7',w8',B',g6⟩:=g6
      have k2:=λK=>aH.k g6 K
      simp only[Rz.on] at E
      simp only[↓zA,sevalprocAttr,an2,pT,bh,ls6,ls7,ls8, *]
      exact⟨n,aP n,c',w6',w7',w8',m,B',rfl,E,v2⟩
    rcases eW l j e [41] hl with _|_
    .simp only[elM,zRZ,sevalprocAttr,↓reduceIte, *] at E
     cases E
     cases w6 <;> cases w7 <;> cases w8
     all_goals (simp only[↓zA,sevalprocAttr,an2,pT,zP,bh,zLX, *,ady,ajg])
     all_goals (try simp only[smE,aeB,Cr.sm])
     all_goals (try simp only[B.k rfl])
     all_goals (try simp only[B.r rfl])
     all_goals (try simp only[B.x rfl])
     all_goals exact fz
    rotate_left
    all_goals (simp only[elM,zRZ,sevalprocAttr,↓reduceIte, *] at E <;> cases E <;> (simp only[↓zA,sevalprocAttr,an2,pT,zP,bh,zLX,ls6,ls7,ls8, *];all_goals exact fz))
   .simp only[↓zA,sevalprocAttr,an2,pT]
    refine⟨⟨[a],[],[],[]⟩,false,false,false,j,⟨(λ_=>rfl),(λ_=>rfl),(λ_=>rfl),(λh=>by cases h),by simp,by simp only[abP];omega,aO _,aO _,aO _⟩,?_,hr,v⟩
    simp only[crX,crV,ajg]
    all_goals exact fz
 rotate_left 2
 rcases eWX l i e [117,110,105,113,117,101] hl with _|_
 rcases eWX l (i+1) e [105,110,100,101,120] hl with _|_
 rcases afl l (i+2) e hl with _|_
 rcases eWX l (i+3) e [111,110] hl with _|_
 rcases afl l (i+4) e hl with _|_
 rcases eR (abt l (i+5)) λ_=>ae6 e hl _ _ aC with _|⟨_,_,_⟩|⟨a13,j13,_⟩
 rotate_left 7
 rcases eWX l i e [105,110,100,101,120] hl with _|_
 rcases afl l (i+1) e hl with _|_
 rcases eWX l (i+2) e [111,110] hl with _|_
 rcases afl l (i+3) e hl with _|_
 rcases eR (abt l (i+4)) λ_=>ae6 e hl _ _ aC with _|⟨_,_,_⟩|⟨a18,j18,_⟩
 rotate_left 7
 all_goals (simp only[ac8,ag5,nameR,cd,zRZ,sevalprocAttr,↓reduceIte, *] at hr <;> cases hr <;> (refine bB aFt ?_;simp only[↓zA,sevalprocAttr,an2,bz,pT,zP,bh,zLX, *];all_goals exact fz))
theorem afB{l:List Tn}{i:Nat}{w:List UInt8}(c:isT l i w=true):∀ (so:List (List UInt8×Int)),(∀ p∈so,p.1≠w)->opT l i so=none
 | [],_=>rfl
 | (v,k)::r,h=>by
  unfold opT
  rw[ain c v (h _ acO),aj aI]
  exact afB c r λp hp=>h p (eX _ hp)
def atX:List (List UInt8):=[[98,101,103,105,110],[99,111,109,109,105,116],[114,111,108,108,98,97,99,107],[97,110,97,108,121,122,101],[118,97,99,117,117,109],[99,104,101,99,107,112,111,105,110,116]]
def ayC:List Int:=[8,9,10,12,13,14]
def aUz(k:Nat)(h:k<6):∃ w o,atX[k]?=some w/\ayC[k]?=some o/\afd.drop k=(w,o)::afd.drop (k+1):=by
 rcases k with _|_|_|_|_|_|k
 .exact⟨_,_,rfl,rfl,rfl⟩
 .exact⟨_,_,rfl,rfl,rfl⟩
 .exact⟨_,_,rfl,rfl,rfl⟩
 .exact⟨_,_,rfl,rfl,rfl⟩
 .exact⟨_,_,rfl,rfl,rfl⟩
 .exact⟨_,_,rfl,rfl,rfl⟩
 .omega
def aCP(tk:Tk)(e z:Nat)(i:Int):bP tP 43 (.own tk e z (fl bI atX) 6) (.of (.lit (.int .i64 i)))=bP tP 43 (.of (slC bI atX)) (.of (.lit (.int .i64 i))):=aJj tk e z atX 6 rfl i
def aUE(tk:Tk)(e z:Nat)(i:Int):bP tP 66 (.own tk e z (fl abC ayC) 6) (.of (.lit (.int .i64 i)))=bP tP 66 (.of (slC abC ayC)) (.of (.lit (.int .i64 i))):=by
 rw[adP E66 _ _ i _ rfl,adP E66 _ _ i _ rfl]
 rfl
def as4:=fU (gh @Tryz.f46.eq_1 @zq @a7d @azr @aq1 @ab5 @bdN @ak0 @aeN) (gh @bdM @bdL @a7c @a2d @ak1 @ep @abE @fC @bO) (fY @ahE @P9 @Q9 @P3 @Q3 @zT0 (kf aN2))
def auz{l:List Tn}{e:Int}{F:Fs}(hl:l.length<LB)(H:PY l e F)(Q:QF l F)(i:Nat)(r:Sm×Nat×Bool)(hi:i<=l.length)(hr:abq F l i=some r):GP 46 [.ptr 0 0] [pT l i e] l e [] smE i r:=by
 refine⟨Pl.at (axE H.fp hi) hr,?_⟩
 rcases eWX l i e [115,101,108,101,99,116] hl with ⟨c1,b1,t1,x1⟩|⟨c1,t1⟩
 have ok1:=afB c1 afd aI
 have z2:=aB2 l i e [115,101,108,101,99,116] [40] hl hi (b:=true) (by simp only[co,c1,x1,uL,sevalprocAttr,cS,aE])
 rcases eR (F.qy i []) λ_=>H.qy _ _ aC with e3|⟨_,_,_,_,_⟩|⟨a3,j3,e3,⟨u3,v3⟩,k3⟩
 rotate_left 3
 rcases eWX l i e [40] hl with ⟨c4,b4,t4,x4⟩|⟨c4,t4⟩
 have ok4:=afB c4 afd aI
 have z5:=aB2 l i e [115,101,108,101,99,116] [40] hl hi (b:=true) (by simp only[co,c1,c4,sevalprocAttr,aE,bj])
 rcases eR (F.qy i []) λ_=>H.qy _ _ aC with e6|⟨_,_,_,_,_⟩|⟨a6,j6,e6,⟨u6,v6⟩,k6⟩
 rotate_left 3
 rcases eWX l i e [99,114,101,97,116,101] hl with ⟨c7,b7,t7,x7⟩|⟨c7,t7⟩
 have ok7:=afB c7 afd aI
 have z8:=aB2 l i e [115,101,108,101,99,116] [40] hl hi (b:=false) (by simp only[co,c1,c4,sevalprocAttr,aE])
 rcases eR (ac8 F l (i+1)) λ_=>aBa hl H _ _ aC with e9|⟨_,_,_,_,_⟩|⟨a9,j9,e9,⟨u9,v9⟩,k9⟩
 rotate_left 3
 rcases eWX l i e [100,114,111,112] hl with ⟨c10,b10,t10,x10⟩|⟨c10,t10⟩
 have ok10:=afB c10 afd aI
 have z11:=aB2 l i e [115,101,108,101,99,116] [40] hl hi (b:=false) (by simp only[co,c1,c4,sevalprocAttr,aE])
 rcases eWX l (i+1) e [116,97,98,108,101] hl with ⟨c12,b12,t12,x12⟩|⟨c12,t12⟩
 rcases afl l (i+2) e hl with ⟨c13,b13,t13,x13⟩|⟨c13,t13⟩
 rotate_left 2
 rcases eWX l (i+1) e [105,110,100,101,120] hl with ⟨c14,b14,t14,x14⟩|⟨c14,t14⟩
 rcases afl l (i+2) e hl with ⟨c15,b15,t15,x15⟩|⟨c15,t15⟩
 rotate_left 3
 rcases eWX l i e [105,110,115,101,114,116] hl with ⟨c16,b16,t16,x16⟩|⟨c16,t16⟩
 have ok16:=afB c16 afd aI
 have z17:=aB2 l i e [115,101,108,101,99,116] [40] hl hi (b:=false) (by simp only[co,c1,c4,sevalprocAttr,aE])
 rcases eR (ab2 F l (i+1)) λ_=>aAZ hl H Q _ _ aC with e18|⟨_,_,_,_,_⟩|⟨a18,j18,e18,⟨u18,v18⟩,k18⟩
 rotate_left 3
 rcases eWX l i e [117,112,100,97,116,101] hl with ⟨c19,b19,t19,x19⟩|⟨c19,t19⟩
 have ok19:=afB c19 afd aI
 have z20:=aB2 l i e [115,101,108,101,99,116] [40] hl hi (b:=false) (by simp only[co,c1,c4,sevalprocAttr,aE])
 rcases eR (ad0 F l (i+1)) λ_=>aAc hl H _ _ aC with e21|⟨_,_,_,_,_⟩|⟨a21,j21,e21,⟨u21,v21⟩,k21⟩
 rotate_left 3
 rcases eWX l i e [100,101,108,101,116,101] hl with ⟨c22,b22,t22,x22⟩|⟨c22,t22⟩
 have ok22:=afB c22 afd aI
 have z23:=aB2 l i e [115,101,108,101,99,116] [40] hl hi (b:=false) (by simp only[co,c1,c4,sevalprocAttr,aE])
 rcases eWX l (i+1) e [102,114,111,109] hl with ⟨c24,b24,t24,x24⟩|⟨c24,t24⟩
 rcases afl l (i+2) e hl with ⟨c25,b25,t25,x25⟩|⟨c25,t25⟩
 rcases eR (aaS F l (i+3) [119,104,101,114,101]) λ_=>arj hl H _ _ aC with e26|⟨_,_,_,_,_⟩|⟨a26,j26,e26,⟨u26,v26⟩,k26⟩
 rotate_left 5
 rcases eWX l i e [101,120,112,108,97,105,110] hl with ⟨c27,b27,t27,x27⟩|⟨c27,t27⟩
 have ok27:=afB c27 afd aI
 have z28:=aB2 l i e [115,101,108,101,99,116] [40] hl hi (b:=false) (by simp only[co,c1,c4,sevalprocAttr,aE])
 rcases eR (F.qy (i+1) []) λ_=>H.qy _ _ aC with e29|⟨_,_,_,_,_⟩|⟨a29,j29,e29,⟨u29,v29⟩,k29⟩
 rotate_left 3
 .have z30:=aB2 l i e [115,101,108,101,99,116] [40] hl hi (b:=false) (by simp only[co,c1,c4,sevalprocAttr,aE])
  refine bB aN2 ?_
  simp only[↓zA,sevalprocAttr,as4,bz,pT,zBS,bh,abE, *]
  refine aas 6 (λk s=>s.fr 0=.ptr 0 0/\s.fr 2=.ptr 1 0/\(∃ c x i,s.fr 5=.own (.nm c x i) 3 1 (fl abC ayC) 6)/\(∃ c x i,s.fr 67=.own (.nm c x i) 9 1 (fl bI atX) 6)/\s.fr 68=.of (.lit (.int .i64 6))/\s.fr 69=aQ k/\s.objs=[pT l i e,.var 49 smZ]/\opT l i afd=opT l i (afd.drop k)) ?_ ?_
  .and_intros
   all_goals (simp only[↓zA,sevalprocAttr,as4,pT];try exact⟨_,_,_,rfl⟩)
  rintro k' ⟨frk,obk,ckk⟩ hk ⟨f0,f2,⟨ka,kb,kc,f5⟩,⟨tc,tx,ti,f67⟩,f68,f69,fo,E⟩
  dsimp only at f0 f2 f5 f67 f68 f69 fo
  rcases aD k' 6 with dk|dk
  .have hw:=er k' aC
   have dk6:((k':Int)<6)=True:=aa aC
   obtain⟨w,o,gw,go,gd⟩:=aUz k' dk
   have gx:aaF atX (k':Int)=some w:=by rw[akV];exact gw
   have gy:aaF ayC (k':Int)=some o:=by rw[akV];exact go
   rw[gd] at E
   simp only[opT] at E
   cases c:isT l i w with
   | false =>
    have kt:=λK=>aH.k (acV l i e w hl hi) K
    rw[c] at E kt
    simp only[ah,av] at E kt
    simp only[↓zA,sevalprocAttr,as4,f0,f2,f5,f67,f68,f69,fo,pT,aCP,dk6,gx,hw,kt]
    exact⟨dk,⟨_,_,_,rfl⟩,⟨_,_,_,rfl⟩,E⟩
   | true =>
    have kt:=λK=>aH.k (acV l i e w hl hi) K
    rw[c,am rfl] at E kt
    unfold abq at hr
    rw[E] at hr
    cases hr
    simp only[↓zA,sevalprocAttr,as4,f0,f2,f5,f67,f68,f69,fo,pT,zP,zLX,abE,aCP,aUE,dk6,gx,gy,kt]
    all_goals exact fz
  have ek:k'=6:=by omega
  subst ek
  rw[show afd.drop 6=[] from rfl] at E
  simp only[opT] at E
  have gk:=gK l i e hl hi
  simp only[abq,E,c7,c10,c16,c19,c22,c27,ah,av] at hr
  cases eq:F.qy i [] with
  | none=>rw[eq] at hr;cases hr
  | some q =>
   have hq:=Q _ _ (by assumption) (by assumption) eq
   obtain⟨qa,qj⟩:=q
   dsimp only at hq
   subst hq
   rw[eq] at hr
   cases hr
   simp only[↓zA,sevalprocAttr,as4,f0,f68,f69,fo,pT,zP,zLX,gk]
   all_goals exact fz
 all_goals (simp only[abq,aiu,anL,nameR,cd,zRZ,sevalprocAttr,↓reduceIte, *] at hr <;> cases hr <;> (refine bB aN2 ?_;simp only[↓zA,sevalprocAttr,as4,bz,pT,zP,zBS,bh,zLX,bG,ep,abE, *];all_goals exact fz))
set_option maxRecDepth 1000000
def aP7:=oC Tryz.f45 (w0S Tryz.f45)
def aP6:=oC Tryz.f45 (w1S Tryz.f45)
def aP5:=oC Tryz.f45 (w2S Tryz.f45)
def aP4:=oC Tryz.f45 (w4S Tryz.f45)
def aP3:=oC Tryz.f45 (fx (wBS Tryz.f45))
def a5F:=oC Tryz.f45 (fx (dY (wBS Tryz.f45)))
def a5E:=oC Tryz.f45 (fx (fx (dY (dY (wBS Tryz.f45)))))
def aYA:=oC Tryz.f45 (dY (dY (dY (wBS Tryz.f45))))
def aYz:=oC Tryz.f90 (fx (wDS Tryz.f90))
def aYy:=oC Tryz.f90 (fx (fx (dY (wDS Tryz.f90))))
def aYx:=oC Tryz.f90 (fx (dY (dY (wDS Tryz.f90))))
def aZI(cap:Array Value)(w:World):(invoke (.fn (.func 90) cap) #[]).run Tryz.prog w=.ok (.enter 90 cap) w:=by
 show (callFunc 90 (#[]++cap)).run Tryz.prog w=_
 rw[aa5]
 exact enters_of Tryz.func90 aS rfl _ _
def aQs(p6 p7 p8:Value)(w:World):CallsD Tryz.prog 90 #[p6,p7,p8] .returning w λe u' w'=>e=.returned (.tuple #[])/\u'=.returning/\w'=w:=by
 refine callsD_of_wpS Tryz.func90 rfl λc₀ cs hu=>?_
 apply wpS_seq
 apply wpS_region
 simp[wpOpsS,go_sem,recoverD,hu,Tryz.ntmps90,Exit.thenS]
 apply wpS_seq
 apply wpS_seq
 apply wpS_region
 simp[wpOpsS,go_sem,recoverD,hu,Exit.thenS]
 refine wpS_cond (t:=true) (by simp[Act.eval,Array.replicate]) ?_
 simp only[au]
 refine wpS_of_wp (wp_ret ?_)
 cases c₀
 simp_all [bodyPostS,results,Tryz.results90,Exit.thenS]
def aSI (t:TypeId) (u p6 p7 p8:Value) (w:World) (R:Ending->FrameMode->World->Prop) (h:∀ (c₀:Frame) (cs:List Frame) (T:Array Value),T.size=Tryz.f90.ntmps->T.getD 0 undef=p6->T.getD 1 undef=p7->T.getD 2 undef=p8->T.getD 3 undef=.iface t u ->
  (wDS Tryz.f90).wp Tryz.prog (λe a w'=>bodyPostS Tryz.prog Tryz.f90 c₀ cs R e a ({c₀ with mode:=.panicking [{v:=.iface t u,recovered:=true}]}::cs) w') ⟨T,[]⟩ w):CallsD Tryz.prog 90 #[p6,p7,p8] (.panicking [{v:=.iface t u,recovered:=false}]) w R:=by
 refine callsD_of_wpS Tryz.func90 rfl λc₀ cs hu=>?_
 apply wpS_seq
 apply wpS_region
 simp[wpOpsS,go_sem,recoverD,hu,Tryz.ntmps90,Exit.thenS]
 apply wpS_seq
 apply wpS_seq
 apply wpS_region
 simp[wpOpsS,go_sem,recoverD,Exit.thenS]
 refine wpS_cond (t:=false) (by simp[Act.eval,Array.replicate]) ?_
 simp only[ah,av]
 refine wpS_of_wp (wp_skip ?_)
 simp only[Exit.thenS]
 refine wpS_of_wp (h _ _ _ ?_ ?_ ?_ ?_ ?_)
 all_goals simp[Tryz.ntmps90,Array.getD,Array.replicate]
 all_goals rfl
def a1P(tmps:Array Value)(w:World)(X:Act->World->Prop)(Q:Exit->Act->World->Prop)(hz:tmps.size=Tryz.f45.ntmps)(h:∀ cap,cap=#[tmps.getD 6 undef,tmps.getD 7 undef,tmps.getD 8 undef]->X ⟨tmps.setIfInBounds 30 (.func (.func 90) #[] cap),[⟨.fn (.func 90) cap,#[]⟩]⟩ w) :
  (w5S Tryz.f45).wp Tryz.prog (Exit.then X Q) ⟨tmps,[]⟩ w:=by
 have hmf:∀ (fn:Fn) (first cap:Array Value) (w:World),(Instr.makeFunc fn first cap).run Tryz.prog w=.ok (.func fn first cap) w:=λ_ _ _ _=>rfl
 have h':=h _ rfl
 have h30:30<tmps.size:=by rw[hz];decide
 have hg:∀ i:Nat,tmps.getD i undef=tmps[i]?.getD undef:=λi=>by simp
 simp only[hg] at h'
 apply wp_region
 simp[wpOps,go_sem,Exit.then,h30]
 exact .inl (.inl h')
def aho:=fV (fY @Tryz.f45.eq_1 @zq @awG @awF @T3 @awE @T29) (fY @azv @awD @aEL @aEN @ak1 @abE @ab7) (fY @acI @abb @aba @aa9 @aa8 @aa7 @aa6) (fY @acn @P3 @Q3 @P29 @Q29 @zT0 @aZy)
def aDs:=ai (fX @zq @awC @aEM @abE @aoW @amD) (fX @amC @P3 @Q3 @P29 @Q29 @zT0)
abbrev aWS:List X:=[.of (ci 0),.of (aJ {data:=#[]}),.of (aJ {data:=#[]}),.nil,.nil,.of (cb false),.nil,.nil,.nil,.nil,.nil,.nil,.nil]
def s5S(l:List Tn)(e:Int)(clk:Nat):S:=⟨fr5 46 24,[.var 49 aWS,.var 3 [.of (ci 0)],.var 29 [.of (ci 0)],pT3 l 0 e],clk⟩
def aDX{G:Go.Pe.GP}(hpr:PrSound Tryz.prog G pr)(l:List Tn)(j:Nat)(e q n:Int)(clk:Nat) :
  bk Tryz.prog G Tryz.f90.ntmps (wDS Tryz.f90) (ac1 (.of (.ifc 114 (.agg [ci q,ci n]))) [.var 49 aWS,.var 3 [.of (ci 0)],.var 29 [.of (ci 0)],pT3 l j e] clk) λe s7 =>
   e=.normal/\aaX Tryz.prog (pr.keep 45) Tryz.f45 (agT s7.objs s7.clk)=some ⟨false,[smE s0,aQ q,aQ n],[]⟩:=by
 generalize hΦ:(λ(e:Ex) (s6:S)=>_)=Φ
 refine bk.seq (bk.of cw hpr aYz ?_)
 simp only[Tryz.f90,↓zA,sevalprocAttr,aDs,zWH,alK,ahl,aFK,aFJ,pT3]
 refine bk.seq (bk.seq (bk.of cw hpr aYy ?_))
 simp only[↓zA,sevalprocAttr,aDs]
 refine bk.cond (t:=false) rfl ?_
 simp only[ah,av]
 refine bk.skip hpr ?_
 refine bk.seq (bk.of cw hpr aYx ?_)
 simp only[↓zA,sevalprocAttr,aDs,zWH]
 refine bk.anyN cw hpr (E:=eD) (by decide +kernel) (by decide +kernel) aI 8 (by rfl) ?_
 subst hΦ
 simp only[↓zA,sevalprocAttr,aDs,zWH,↓ahS,↓afn,↓agu,↓agv,↓ahT,↓ahU,aDK,List.replicate,aaX,Tryz.f45,aho]
 repeat' (first|exact rfl|refine ai ?_ ?_)
def aw8{G:Go.Pe.GP}(hpr:PrSound Tryz.prog G pr)(s:List UInt8)(hs:s.length<LB)(l:List Tn)(p:Int)(ht:fL s=some (l,p,0))(hl:l.length<LB){F:Fs}(H:PY l s.length F)(Q:QF l F)(r:Sm×Nat×Bool)(hr:abq F l 0=some r)(ok:Bool)
  (kR:∀ K,cKp 24 [smE r.1] [] K↔K ⟨false,[aL ok],[]⟩) (h0:r.2.2=false->ok=false->0<l.length) :
  aa2 Tryz.prog G 45 [.of (aJ (aK s)),.of (.fn 46 []),.of (.fn 24 [])] [] ⟨false,[smE (cH s0 s l ok r).1,aQ (cH s0 s l ok r).2.1,aQ (cH s0 s l ok r).2.2],[]⟩:=by
 have kt:=λK=>aH.k (abV s hs _ ht) K
 have g:=auz hl H Q 0 r (aO _) hr
 obtain⟨a,j,b⟩:=r
 obtain⟨u,v⟩:=g.1
 dsimp only at u v kR h0
 have main:∀ clk,adW Tryz.prog G pr 45 Tryz.f45 Tryz.f45.ntmps Tryz.f90.ntmps (wBS Tryz.f45) (wDS Tryz.f90) ⟨false,[smE (cH s0 s l ok (a,j,b)).1,aQ (cH s0 s l ok (a,j,b)).2.1,aQ (cH s0 s l ok (a,j,b)).2.2],[]⟩ (s5S l s.length clk):=by
  intro clk
  unfold adW
  generalize hΦ:(λ(e:Ex) (s6:S)=>_)=Φ
  refine bk.seq ?_
  cases b with
  | true =>
   have kg:=g.bad
   unfold pT at kg
   simp only[show ((0:Nat):Int)=0 from rfl] at kg
   refine bk.of cw hpr aP3 ?_
   simp only[↓zA,sevalprocAttr,aho,s5S,zWH,kg,aQg,aJ6,aXp,zP]
   subst hΦ
   refine Or.inr ?_
   by_cases hj:l.length<=j
   .have hf:aaJ l j s.length=.of (.ifc 114 (.agg [ci s.length,ci 3])):=am hj
    refine⟨_,_,congrArg Ex.pan hf,rfl,rfl,rfl,?_⟩
    simp only[cH,plT,am hj]
    exact aDX hpr l j s.length s.length 3 _
   .have hf:aaJ l j s.length=.of (.ifc 114 (.agg [ci (bS l j).pl,ci 2])):=aj hj
    refine⟨_,_,congrArg Ex.pan hf,rfl,rfl,rfl,?_⟩
    simp only[cH,plT,aj hj]
    exact aDX hpr l j s.length (bS l j).pl 2 _
  | false =>
   have kg:=g.ok
   unfold pT at kg
   simp only[show ((0:Nat):Int)=0 from rfl] at kg
   refine bk.of cw hpr aP3 ?_
   simp only[↓zA,sevalprocAttr,aho,s5S,zWH,kg,aQg,aJ6,aXp]
   refine bk.seq (bk.of cw hpr a5F ?_)
   by_cases hlt:j<l.length
   .have dl:((j:Int)<(l.length:Int))=True:=aa aC
    have kv:=λK=>aH.k (aeT l j s.length hl v) K
    unfold pT at kv
    simp only[↓zA,sevalprocAttr,aho,zWH,dl,kv,zP]
    subst hΦ
    refine Or.inr ?_
    have hj:¬l.length<=j:=by omega
    have hf:aaJ l j s.length=.of (.ifc 114 (.agg [ci (bS l j).pl,ci 2])):=aj hj
    refine⟨_,_,congrArg Ex.pan hf,rfl,rfl,rfl,?_⟩
    simp only[cH,plT,am hlt,aj hj]
    exact aDX hpr l j s.length (bS l j).pl 2 _
   .have dl:((j:Int)<(l.length:Int))=False:=aA aC
    simp only[↓zA,sevalprocAttr,aho,zWH,dl]
    refine bk.seq (bk.seq (bk.of cw hpr a5E ?_))
    cases ok with
    | true =>
     simp only[↓zA,sevalprocAttr,aho,zWH,aQj,aJ9,kR]
     refine bk.cond (t:=false) rfl ?_
     simp only[ah,av]
     refine bk.skip hpr ?_
     refine bk.of cw hpr aYA ?_
     simp only[↓zA,sevalprocAttr,aho,zWH]
     subst hΦ
     refine Or.inl ⟨rfl,?_⟩
     simp only[↓zA,sevalprocAttr,aho,zWH,aaX,cH,aj hlt]
    | false =>
     simp only[↓zA,sevalprocAttr,aho,zWH,aQj,aJ9,kR]
     refine bk.cond (t:=true) rfl ?_
     simp only[au]
     refine bk.seq (bk.anyN cw hpr (E:=eB) (by decide +kernel) (by decide +kernel) aI 11 (by rfl) ?_)
     have gx:=afE (h0 rfl rfl)
     rw[show ((0:Nat):Int)=0 from rfl] at gx
     have key:∀ s6:S,s6.fr 6=.ptr 0 0->s6.fr 7=.ptr 1 0->s6.fr 8=.ptr 2 0->s6.objs=[.var 49 [.of (ci 0),.of (aJ {data:=#[]}),.of (aJ {data:=#[]}),.nil,.nil,.of (cb false),.nil,.nil,.nil,.nil,.nil,.nil,.nil],.var 3 [.of (ci (bS l 0).pl)],.var 29 [.of (ci 4)],pT3 l j s.length]->Φ .ret s6:=by
      intro s6 h6 h7 h8 ho
      subst hΦ
      refine Or.inl ⟨rfl,?_⟩
      have hj:¬l.length<=0:=by have:=h0 rfl rfl;omega
      simp only[↓zA,sevalprocAttr,aho,aaX,cH,plT,aj hlt,aj hj,h6,h7,h8,ho,pT3]
      rfl
     simp only[↓zA,sevalprocAttr,aho,zWH,gx,↓ahS,↓afn,↓agu,↓agv,↓ahT,↓ahU,aDL,List.replicate]
     repeat' (first|exact bk.ret hpr (key _ rfl rfl rfl rfl)|refine ai ?_ ?_)
 refine ab3 cw hpr (fn:=Tryz.f45) (fg:=Tryz.f90) Tryz.func45 rfl rfl rfl aP7 aP6 aP5 aP4 a1P aZI aQs aSI (by show 3<=_;decide) ?_
 generalize hB:adW _ _ _ _ _ _ _ _ _ _=BD
 generalize hF:al5 _ _ _ _ _=A2
 simp only[↓zA,sevalprocAttr,aho,kt]
 subst hF
 refine .inr ⟨rfl,?_⟩
 simp only[↓zA,sevalprocAttr,aho,bxO]
 refine⟨rfl,rfl,rfl,rfl,_,rfl,rfl,rfl,rfl,anT.of (fr5 46 24) rfl (λj=>by
  unfold fr5;split <;> first|exact .inr ⟨rfl,λ_=>rfl⟩|exact .inl rfl) (λ_=>rfl) (r:=3) (ty:=112) (A:=[.of (slC tnC l),.of (ci 0),.of (ci s.length)]) rfl 28 9 38 12 140 6 (by rintro o (rfl|rfl|rfl) <;> rfl),?_⟩
 subst hB
 exact main _
def aE3{G:Go.Pe.GP}(hpr:PrSound Tryz.prog G pr)(s:List UInt8)(hs:s.length<LB)(l:List Tn)(p e:Int)(ht:fL s=some (l,p,e))(he:e≠0) :
  aa2 Tryz.prog G 45 [.of (aJ (aK s)),.of (.fn 46 []),.of (.fn 24 [])] [] ⟨false,[smE s0,aQ p,aQ e],[]⟩:=by
 have kt:=λK=>aH.k (abV s hs _ ht) K
 have he':(e=0)=False:=aA he
 refine ab3 cw hpr (fn:=Tryz.f45) (fg:=Tryz.f90) Tryz.func45 rfl rfl rfl aP7 aP6 aP5 aP4 a1P aZI aQs aSI (by show 3<=_;decide) ?_
 generalize hB:adW _ _ _ _ _ _ _ _ _ _=BD
 generalize hF:al5 _ _ _ _ _=A2
 simp only[↓zA,sevalprocAttr,aho,kt,he']
 subst hF
 refine .inl ⟨rfl,?_⟩
 simp only[↓zA,sevalprocAttr,aho,aaX]
 rfl
def am2(l:List Tn)(x:Sm×Nat):List C:=ci (bS l x.2).pl::smC x.1
def aku(l:List Tn)(x:Sm)(i:Nat):am2 l (x,i)=[ci (bS l i).pl,ci x.kd,aJ (aK x.tb),aJ (aK x.nm),slC cdC x.cs,slC bI x.ns,cb x.un,slC kdC x.kys,slC rdC x.rfs,slC xpC x.chs,slC (lsC xpC) x.rws,slC asC x.sts,slC xpC x.wh,slC qyC x.q]:=by
 unfold am2;rw[aeB]
def a4X{α:Type}{L:List α}{a:α}(h:L.take 1=[a]):∃ J,L=a::J:=⟨L.drop 1,(ads 1 L).symm.trans (by rw[h];rfl)⟩
def avq(tk:Tk)(xs:List X):cy tk 1 (Pe.elemOf tP 94) (some [(0,xs)])=if xs.length=14 then bJ ((X.rds xs).map λcs=>.own tk 101 14 cs 1) else none:=adl E94 aI aI rfl tk xs
def aOM(tk tk' tk2:Tk)(cs0 cs:List C)(n m e2 z2:Nat):dV tP tk 94 94 (.own tk' 101 14 cs0 n) (.own tk2 e2 z2 cs m)=if cs.length=m*14/\n+m<=LIM then some (.own tk 101 14 (cs0++cs) (n+m),some tk') else none:=aek E94 aI aI tk tk' cs0 n (.own tk2 e2 z2 cs m) cs m rfl
def aKu(tk tk2:Tk)(cs:List C)(m e2 z2:Nat):dV tP tk 94 94 .nil (.own tk2 e2 z2 cs m)=if cs.length=m*14/\m<=LIM then some (.own tk 101 14 cs m,none) else none:=afG E94 aI aI tk (.own tk2 e2 z2 cs m) cs m rfl
abbrev am1(l:List Tn)(o:List (Sm×Nat)):X:=.of (slC (am2 l) o)
def as3:=fV (fY @Tryz.f52.eq_1 @zq @bcK @bcJ @a6Y @a2h @aeN) (fY @abE @ab7 @aoX @a3q @a3o @aCU @aCX) (fY @aCT @acI @abb @aba @aa9 @aa8 @aa7) (fY @aa6 @bO @acn @P3 @Q3 @zT0 (kf a0S))
def aEa{l:List Tn}{e:Int}{F:Fs}(hl:l.length<LB)(H:PY l e F)(Q:QF l F)(r:List (Sm×Nat)×Nat×Bool)(hr:abZ F l (l.length+1) [] 0=some r):GP 52 [.ptr 0 0] [pT l 0 e] l e [] (am1 l) 0 r:=by
 refine⟨Pl.at (aEf H.fp _ _ (aO _)) hr,?_⟩
 refine bB a0S ?_
 simp only[↓zA,sevalprocAttr,as3,bz,pT]
 refine aaj _ _ (λn s=>∃ o j,((s.fr 3=.nil/\o=[])\/∃ c x i,c<s.clk/\s.fr 3=.own (.nm c x i) 101 14 (fl (am2 l) o) o.length)/\s.fr 0=.ptr 0 0/\s.objs.take 1=[pT l j e]/\abZ F l n o j=some r/\j<=l.length/\o.length<=j) ?_ (l.length+1) _ ?_
 .rintro n ⟨frn,obn,ckn⟩ ⟨o,j,hK,f0,fo,E,hj,hk⟩
  dsimp only at hK f0 fo
  obtain⟨J,fo⟩:=a4X fo
  have hos:(o.length+1<=LIM)=True:=aa (by unfold LIM;unfold LB at hl;omega)
  cases n with
  | zero=>simp only[abZ] at E;cases E
  | succ n =>
  unfold abZ at E
  by_cases hlt:j<l.length
  .have gx:=afE hlt
   have dl:((j:Int)<(l.length:Int))=True:=aa aC
   rw[am hlt] at E
   rcases eR (abq F l j) λ_=>auz hl H Q _ _ aC with e1|⟨_,_,_⟩|⟨a1,j1,e1,⟨u1,v1⟩,k1⟩
   rotate_left 2
   rcases eW l j1 e [59] hl with ⟨c2,b2,t2⟩|⟨c2,t2⟩
   .simp only[zRZ,sevalprocAttr,↓reduceIte,e1,c2] at E
    rcases hK with ⟨f3,hK'⟩|⟨c,x,i',hc,f3⟩
    all_goals (try subst hK')
    .simp only[↓zA,sevalprocAttr,as3,pT,bh,aa4,abE,avq,aKu,cm, *]
     and_intros
     all_goals first|exact⟨n,aP n,[(a1,j)],j1+1,atJ (by rw[akW,aku]) rfl aC,rfl,by simpa using E,by omega,by simp only[abP];omega⟩|rfl|omega
    .have hne:(c=ckn+1)=False:=aA aC
     simp only[↓zA,sevalprocAttr,as3,pT,bh,abE,avq,aOM,cm, *]
     and_intros
     all_goals first|exact okN _ _ aC _|exact⟨n,aP n,o++[(a1,j)],j1+1,atI (by rw[aku]) rfl aC,rfl,E,by omega,by simp only[aeX];omega⟩|rfl|omega
   rotate_left
   all_goals (simp only[zRZ,sevalprocAttr,↓reduceIte, *] at E <;> cases E <;> (rcases hK with ⟨f3,hK'⟩|⟨c,x,i',hc,f3⟩;all_goals (try subst hK');all_goals (simp only[↓zA,sevalprocAttr,as3,pT,zP,bh,zLX,abE,cm, *];all_goals exact fz)))
  .have dl:((j:Int)<(l.length:Int))=False:=aA aC
   rw[aj hlt] at E
   cases E
   rcases hK with ⟨f3,hK'⟩|⟨c,x,i',hc,f3⟩
   all_goals (try subst hK')
   all_goals (simp only[↓zA,sevalprocAttr,as3,pT,zP,f0,f3,fo,dl])
   all_goals exact fz
 .simp only[↓zA,sevalprocAttr,as3,pT]
  first|exact⟨[],0,.inl rfl,rfl,hr,aO _,aO _⟩|exact⟨[],0,rfl,rfl,hr,aO _,aO _⟩
set_option maxRecDepth 1000000
def aP2:=oC Tryz.f51 (w0S Tryz.f51)
def aP1:=oC Tryz.f51 (w1S Tryz.f51)
def aP0:=oC Tryz.f51 (w2S Tryz.f51)
def aPZ:=oC Tryz.f51 (w4S Tryz.f51)
def aPY:=oC Tryz.f51 (fx (wBS Tryz.f51))
def a5D:=oC Tryz.f51 (fx (dY (wBS Tryz.f51)))
def a5C:=oC Tryz.f51 (fx (fx (dY (dY (wBS Tryz.f51)))))
def aYw:=oC Tryz.f51 (dY (dY (dY (wBS Tryz.f51))))
def aYv:=oC Tryz.f104 (fx (wDS Tryz.f104))
def aYu:=oC Tryz.f104 (fx (fx (dY (wDS Tryz.f104))))
def aYt:=oC Tryz.f104 (fx (dY (dY (wDS Tryz.f104))))
def aZH(cap:Array Value)(w:World):(invoke (.fn (.func 104) cap) #[]).run Tryz.prog w=.ok (.enter 104 cap) w:=by
 show (callFunc 104 (#[]++cap)).run Tryz.prog w=_
 rw[aa5]
 exact enters_of Tryz.func104 aS rfl _ _
def aQr(p6 p7 p8:Value)(w:World):CallsD Tryz.prog 104 #[p6,p7,p8] .returning w λe u' w'=>e=.returned (.tuple #[])/\u'=.returning/\w'=w:=by
 refine callsD_of_wpS Tryz.func104 rfl λc₀ cs hu=>?_
 apply wpS_seq
 apply wpS_region
 simp[wpOpsS,go_sem,recoverD,hu,Tryz.ntmps104,Exit.thenS]
 apply wpS_seq
 apply wpS_seq
 apply wpS_region
 simp[wpOpsS,go_sem,recoverD,hu,Exit.thenS]
 refine wpS_cond (t:=true) (by simp[Act.eval,Array.replicate]) ?_
 simp only[au]
 refine wpS_of_wp (wp_ret ?_)
 cases c₀
 simp_all [bodyPostS,results,Tryz.results104,Exit.thenS]
def a2t (t:TypeId) (u p6 p7 p8:Value) (w:World) (R:Ending->FrameMode->World->Prop) (h:∀ (c₀:Frame) (cs:List Frame) (T:Array Value),T.size=Tryz.f104.ntmps->T.getD 0 undef=p6->T.getD 1 undef=p7->T.getD 2 undef=p8->T.getD 3 undef=.iface t u ->
  (wDS Tryz.f104).wp Tryz.prog (λe a w'=>bodyPostS Tryz.prog Tryz.f104 c₀ cs R e a ({c₀ with mode:=.panicking [{v:=.iface t u,recovered:=true}]}::cs) w') ⟨T,[]⟩ w):CallsD Tryz.prog 104 #[p6,p7,p8] (.panicking [{v:=.iface t u,recovered:=false}]) w R:=by
 refine callsD_of_wpS Tryz.func104 rfl λc₀ cs hu=>?_
 apply wpS_seq
 apply wpS_region
 simp[wpOpsS,go_sem,recoverD,hu,Tryz.ntmps104,Exit.thenS]
 apply wpS_seq
 apply wpS_seq
 apply wpS_region
 simp[wpOpsS,go_sem,recoverD,Exit.thenS]
 refine wpS_cond (t:=false) (by simp[Act.eval,Array.replicate]) ?_
 simp only[ah,av]
 refine wpS_of_wp (wp_skip ?_)
 simp only[Exit.thenS]
 refine wpS_of_wp (h _ _ _ ?_ ?_ ?_ ?_ ?_)
 all_goals simp[Tryz.ntmps104,Array.getD,Array.replicate]
 all_goals rfl
def a1O(tmps:Array Value)(w:World)(X:Act->World->Prop)(Q:Exit->Act->World->Prop)(hz:tmps.size=Tryz.f51.ntmps)(h:∀ cap,cap=#[tmps.getD 6 undef,tmps.getD 7 undef,tmps.getD 8 undef]->X ⟨tmps.setIfInBounds 30 (.func (.func 104) #[] cap),[⟨.fn (.func 104) cap,#[]⟩]⟩ w) :
  (w5S Tryz.f51).wp Tryz.prog (Exit.then X Q) ⟨tmps,[]⟩ w:=by
 have hmf:∀ (fn:Fn) (first cap:Array Value) (w:World),(Instr.makeFunc fn first cap).run Tryz.prog w=.ok (.func fn first cap) w:=λ_ _ _ _=>rfl
 have h':=h _ rfl
 have h30:30<tmps.size:=by rw[hz];decide
 have hg:∀ i:Nat,tmps.getD i undef=tmps[i]?.getD undef:=λi=>by simp
 simp only[hg] at h'
 apply wp_region
 simp[wpOps,go_sem,Exit.then,h30]
 exact .inl (.inl h')
def ahn:=fU (gh @Tryz.f51.eq_1 @zq @awG @T94 @awF @T3 @awE @T29 @azv) (gh @awD @aEN @ak1 @ab7 @acI @abb @aba @aa9 @aa8) (gh @aa7 @aa6 @acn @P3 @Q3 @P29 @Q29 @zT0 @aZx)
def awm:=ai (fW @zq @awC @aoW @amD @amC) (fW @P3 @Q3 @P29 @Q29 @zT0)
abbrev aWR:List X:=[.nil]
def s5T(l:List Tn)(e:Int)(clk:Nat):S:=⟨fr5 52 53,[.var 94 aWR,.var 3 [.of (ci 0)],.var 29 [.of (ci 0)],pT3 l 0 e],clk⟩
def aDW{G:Go.Pe.GP}(hpr:PrSound Tryz.prog G pr)(l:List Tn)(j:Nat)(e q n:Int)(clk:Nat) :
  bk Tryz.prog G Tryz.f104.ntmps (wDS Tryz.f104) (ac1 (.of (.ifc 114 (.agg [ci q,ci n]))) [.var 94 aWR,.var 3 [.of (ci 0)],.var 29 [.of (ci 0)],pT3 l j e] clk) λe s7 =>
   e=.normal/\aaX Tryz.prog (pr.keep 51) Tryz.f51 (agT s7.objs s7.clk)=some ⟨false,[am1 l [],aQ q,aQ n],[]⟩:=by
 generalize hΦ:(λ(e:Ex) (s6:S)=>_)=Φ
 refine bk.seq (bk.of cw hpr aYv ?_)
 simp only[Tryz.f104,↓zA,sevalprocAttr,awm,zWH,alK,ahl,aFK,aFJ,pT3]
 refine bk.seq (bk.seq (bk.of cw hpr aYu ?_))
 simp only[↓zA,sevalprocAttr,awm]
 refine bk.cond (t:=false) rfl ?_
 simp only[ah,av]
 refine bk.skip hpr ?_
 refine bk.seq (bk.of cw hpr aYt ?_)
 simp only[↓zA,sevalprocAttr,awm]
 refine bk.anyN cw hpr (E:=eD) (by decide +kernel) (by decide +kernel) aI 8 (by rfl) ?_
 subst hΦ
 simp only[↓zA,sevalprocAttr,awm,zWH,↓ahS,↓afn,↓agu,↓agv,↓ahT,↓ahU,aDK,List.replicate,P94,aaX,Tryz.f51,ahn]
 repeat' (first|exact rfl|refine ai ?_ ?_)
def aw7{G:Go.Pe.GP}(hpr:PrSound Tryz.prog G pr)(s:List UInt8)(hs:s.length<LB)(l:List Tn)(p:Int)(ht:fL s=some (l,p,0))(hl:l.length<LB){F:Fs}(H:PY l s.length F)(Q:QF l F)(r:List (Sm×Nat)×Nat×Bool)(hr:abZ F l (l.length+1) [] 0=some r)(ok:Bool)
  (kR:∀ K,cKp 53 [am1 l r.1] [] K↔K ⟨false,[aL ok],[]⟩) (h0:r.2.2=false->ok=false->0<l.length) :
  aa2 Tryz.prog G 51 [.of (aJ (aK s)),.of (.fn 52 []),.of (.fn 53 [])] [] ⟨false,[am1 l (cH [] s l ok r).1,aQ (cH [] s l ok r).2.1,aQ (cH [] s l ok r).2.2],[]⟩:=by
 have kt:=λK=>aH.k (abV s hs _ ht) K
 have g:=aEa hl H Q r hr
 obtain⟨a,j,b⟩:=r
 obtain⟨u,v⟩:=g.1
 dsimp only at u v kR h0
 have main:∀ clk,adW Tryz.prog G pr 51 Tryz.f51 Tryz.f51.ntmps Tryz.f104.ntmps (wBS Tryz.f51) (wDS Tryz.f104) ⟨false,[am1 l (cH [] s l ok (a,j,b)).1,aQ (cH [] s l ok (a,j,b)).2.1,aQ (cH [] s l ok (a,j,b)).2.2],[]⟩ (s5T l s.length clk):=by
  intro clk
  unfold adW
  generalize hΦ:(λ(e:Ex) (s6:S)=>_)=Φ
  refine bk.seq ?_
  cases b with
  | true =>
   have kg:=g.bad
   unfold pT at kg
   simp only[show ((0:Nat):Int)=0 from rfl] at kg
   refine bk.of cw hpr aPY ?_
   simp only[↓zA,sevalprocAttr,ahn,s5T,zWH,kg,aQf,aJ5,aXo,zP]
   subst hΦ
   refine Or.inr ?_
   by_cases hj:l.length<=j
   .have hf:aaJ l j s.length=.of (.ifc 114 (.agg [ci s.length,ci 3])):=am hj
    refine⟨_,_,congrArg Ex.pan hf,rfl,rfl,rfl,?_⟩
    simp only[cH,plT,am hj]
    exact aDW hpr l j s.length s.length 3 _
   .have hf:aaJ l j s.length=.of (.ifc 114 (.agg [ci (bS l j).pl,ci 2])):=aj hj
    refine⟨_,_,congrArg Ex.pan hf,rfl,rfl,rfl,?_⟩
    simp only[cH,plT,aj hj]
    exact aDW hpr l j s.length (bS l j).pl 2 _
  | false =>
   have kg:=g.ok
   unfold pT at kg
   simp only[show ((0:Nat):Int)=0 from rfl] at kg
   refine bk.of cw hpr aPY ?_
   simp only[↓zA,sevalprocAttr,ahn,s5T,zWH,kg,aQf,aJ5,aXo]
   refine bk.seq (bk.of cw hpr a5D ?_)
   by_cases hlt:j<l.length
   .have dl:((j:Int)<(l.length:Int))=True:=aa aC
    have kv:=λK=>aH.k (aeT l j s.length hl v) K
    unfold pT at kv
    simp only[↓zA,sevalprocAttr,ahn,zWH,dl,kv,zP]
    subst hΦ
    refine Or.inr ?_
    have hj:¬l.length<=j:=by omega
    have hf:aaJ l j s.length=.of (.ifc 114 (.agg [ci (bS l j).pl,ci 2])):=aj hj
    refine⟨_,_,congrArg Ex.pan hf,rfl,rfl,rfl,?_⟩
    simp only[cH,plT,am hlt,aj hj]
    exact aDW hpr l j s.length (bS l j).pl 2 _
   .have dl:((j:Int)<(l.length:Int))=False:=aA aC
    simp only[↓zA,sevalprocAttr,ahn,zWH,dl]
    refine bk.seq (bk.seq (bk.of cw hpr a5C ?_))
    cases ok with
    | true =>
     simp only[↓zA,sevalprocAttr,ahn,zWH,aQe,aJ4,aXn,kR]
     refine bk.cond (t:=false) rfl ?_
     simp only[ah,av]
     refine bk.skip hpr ?_
     refine bk.of cw hpr aYw ?_
     simp only[↓zA,sevalprocAttr,ahn,zWH]
     subst hΦ
     refine Or.inl ⟨rfl,?_⟩
     simp only[↓zA,sevalprocAttr,ahn,zWH,P94,aaX,cH,aj hlt]
    | false =>
     simp only[↓zA,sevalprocAttr,ahn,zWH,aQe,aJ4,aXn,kR]
     refine bk.cond (t:=true) rfl ?_
     simp only[au]
     refine bk.seq (bk.anyN cw hpr (E:=eB) (by decide +kernel) (by decide +kernel) aI 11 (by rfl) ?_)
     have gx:=afE (h0 rfl rfl)
     rw[show ((0:Nat):Int)=0 from rfl] at gx
     have key:∀ s6:S,s6.fr 6=.ptr 0 0->s6.fr 7=.ptr 1 0->s6.fr 8=.ptr 2 0->s6.objs=[.var 94 [.nil],.var 3 [.of (ci (bS l 0).pl)],.var 29 [.of (ci 4)],pT3 l j s.length]->Φ .ret s6:=by
      intro s6 h6 h7 h8 ho
      subst hΦ
      refine Or.inl ⟨rfl,?_⟩
      have hj:¬l.length<=0:=by have:=h0 rfl rfl;omega
      simp only[↓zA,sevalprocAttr,ahn,P94,aaX,cH,plT,aj hlt,aj hj,h6,h7,h8,ho,pT3]
      rfl
     simp only[↓zA,sevalprocAttr,ahn,zWH,gx,↓ahS,↓afn,↓agu,↓agv,↓ahT,↓ahU,aDL,List.replicate,P94]
     repeat' (first|exact bk.ret hpr (key _ rfl rfl rfl rfl)|refine ai ?_ ?_)
 refine ab3 cw hpr (fn:=Tryz.f51) (fg:=Tryz.f104) Tryz.func51 rfl rfl rfl aP2 aP1 aP0 aPZ a1O aZH aQr a2t (by show 3<=_;decide) ?_
 generalize hB:adW _ _ _ _ _ _ _ _ _ _=BD
 generalize hF:al5 _ _ _ _ _=A2
 simp only[↓zA,sevalprocAttr,ahn,kt]
 subst hF
 refine .inr ⟨rfl,?_⟩
 simp only[↓zA,sevalprocAttr,ahn,bxO]
 refine⟨rfl,rfl,rfl,rfl,_,rfl,rfl,rfl,rfl,anT.of (fr5 52 53) rfl (λj=>by
  unfold fr5;split <;> first|exact .inr ⟨rfl,λ_=>rfl⟩|exact .inl rfl) (λ_=>rfl) (r:=3) (ty:=112) (A:=[.of (slC tnC l),.of (ci 0),.of (ci s.length)]) rfl 28 9 38 12 140 6 (by rintro o (rfl|rfl|rfl) <;> rfl),?_⟩
 subst hB
 exact main _
def aE2{G:Go.Pe.GP}(hpr:PrSound Tryz.prog G pr)(s:List UInt8)(hs:s.length<LB)(l:List Tn)(p e:Int)(ht:fL s=some (l,p,e))(he:e≠0) :
  aa2 Tryz.prog G 51 [.of (aJ (aK s)),.of (.fn 52 []),.of (.fn 53 [])] [] ⟨false,[am1 l [],aQ p,aQ e],[]⟩:=by
 have kt:=λK=>aH.k (abV s hs _ ht) K
 have he':(e=0)=False:=aA he
 refine ab3 cw hpr (fn:=Tryz.f51) (fg:=Tryz.f104) Tryz.func51 rfl rfl rfl aP2 aP1 aP0 aPZ a1O aZH aQr a2t (by show 3<=_;decide) ?_
 generalize hB:adW _ _ _ _ _ _ _ _ _ _=BD
 generalize hF:al5 _ _ _ _ _=A2
 simp only[↓zA,sevalprocAttr,ahn,kt,he',P94]
 subst hF
 refine .inl ⟨rfl,?_⟩
 simp only[↓zA,sevalprocAttr,ahn,aaX,P94]
 rfl
end Go.Proofs.YtghkmcffifpkeaaGreat
namespace Go.Tab
open Pe
def tw(t:Tn):Nat:=1000+t.s.length
def PW(l:List Tn)(i:Nat):Nat:=((l.take i).map tw).sum
def auh{l:List Tn}{i:Nat}{t:Tn}(h:l[i]?=some t):PW l (i+1)=PW l i+1000+t.s.length:=by
 unfold PW
 rw[List.take_add_one,h]
 simp[tw,bA]
def isT_at{l:List Tn}{i:Nat}{w:List UInt8}(h:isT l i w=true):i+1<=l.length/\PW l i+1000<=PW l (i+1):=by
 unfold isT at h
 split at h
 .rename_i t e
  exact⟨(List.getElem?_eq_some_iff.1 e).1,by rw[auh e];omega⟩
 .cases h
def aci{l:List Tn}{i:Nat}{k:Int}(h:br l i k=true):i+1<=l.length/\PW l i+1000+(txT l i).length<=PW l (i+1):=by
 unfold br at h
 split at h
 .rename_i t e
  refine⟨(List.getElem?_eq_some_iff.1 e).1,?_⟩
  rw[auh e,txT,e]
  simp
 .cases h
def anz{l:List Tn}{i:Nat}{k:Int}(hl:∀ t∈l,I64 t.n):I64 (nuT l i):=by
 unfold nuT
 split
 .rename_i t e
  exact hl t (bT e)
 .exact⟨by decide,by decide⟩
theorem amm{l:List Tn}{i:Nat}:∀ {so:List (List UInt8×Int)} {o:Int},opT l i so=some o->i+1<=l.length/\PW l i+1000<=PW l (i+1)/\∃ p∈so,p.2=o
 | [],_,h=>by cases h
 | (w,p)::r,o,h=>by
  unfold opT at h
  split at h
  .rename_i e
   obtain⟨h1,h2⟩:=isT_at e
   cases h
   exact⟨h1,h2,_,acO,rfl⟩
  .obtain⟨h1,h2,p,h3,h4⟩:=amm h
   exact⟨h1,h2,p,eX _ h3,h4⟩
def dC{α:Type}(l:List Tn)(i c:Nat)(W:α->Nat)(Ok:α->Prop)(r:Rz α):Prop :=
 ∃ a j b,r=some (a,j,b)/\i<=j/\j<=l.length/\Ok a/\W a+PW l i<=PW l j+c+(if b=true then 400 else 0)
section
variable {α β:Type} {l:List Tn} {i i' c c':Nat} {W:α->Nat} {Ok:α->Prop} {W':β->Nat} {Ok':β->Prop}
theorem dC.go{a:α}{j:Nat}(h1:i<=j)(h2:j<=l.length)(h3:Ok a)(h4:W a+PW l i<=PW l j+c):dC l i c W Ok (some (a,j,false)) :=
 ⟨a,j,false,rfl,h1,h2,h3,h4⟩
theorem dC.bad{a:α}{j:Nat}(h1:i<=j)(h2:j<=l.length)(h3:Ok a)(h4:W a+PW l i<=PW l j+c+400):dC l i c W Ok (some (a,j,true)) :=
 ⟨a,j,true,rfl,h1,h2,h3,h4⟩
theorem dC.any{a:α}{j:Nat}{b:Bool}(h1:i<=j)(h2:j<=l.length)(h3:Ok a)(h4:W a+PW l i<=PW l j+c):dC l i c W Ok (some (a,j,b)) :=
 ⟨a,j,b,rfl,h1,h2,h3,fJ h4 (afa _ _)⟩
theorem dC.on{r:Rz α}{g:α->β}{f:α->Nat->Rz β}(h:dC l i c W Ok r)(hi:i'<=i)
  (hg:∀ a j,Ok a->i<=j->j<=l.length->W a+PW l i<=PW l j+c+400->Ok' (g a)/\W' (g a)+PW l i'<=PW l j+c'+400)
  (hf:∀ a j,Ok a->i<=j->j<=l.length->W a+PW l i<=PW l j+c->dC l i' c' W' Ok' (f a j)):dC l i' c' W' Ok' (r.on g f):=by
 obtain⟨a,j,b,rfl,h1,h2,h3,h4⟩:=h
 cases b with
 | true=>exact⟨g a,j,true,rfl,fJ hi h1,h2,(hg a j h3 h1 h2 h4).1,(hg a j h3 h1 h2 h4).2⟩
 | false=>exact hf a j h3 h1 h2 h4
theorem dC.to{r:Rz α}{g:α->β}(h:dC l i c W Ok r)(hi:i'<=i)
  (hg:∀ a j d,Ok a->i<=j->W a+PW l i<=PW l j+c+d->Ok' (g a)/\W' (g a)+PW l i'<=PW l j+c'+d):dC l i' c' W' Ok' (r.to g):=by
 obtain⟨a,j,b,rfl,h1,h2,h3,h4⟩:=h
 exact⟨g a,j,b,rfl,fJ hi h1,h2,(hg a j _ h3 h1 h4).1,(hg a j _ h3 h1 h4).2⟩
theorem dC.wantE{x:α}{j:Nat}{w:List UInt8}(h1:i<=j)(h2:j<=l.length)(h3:Ok x)(h4:W x+PW l i<=PW l j+c):dC l i c W Ok (wantE (bH l j w) x):=by
 unfold Go.Tab.wantE bH
 split
 .rename_i e
  have:=isT_at e
  exact .go (j:=j+1) aC aC h3 aC
 .exact .bad (j:=j) h1 h2 h3 aC
theorem dC.wantR{x:α}{j:Nat}{w:List UInt8}{f:Nat->Rz α}(h1:i<=j)(h2:j<=l.length)(h3:Ok x)(h4:W x+PW l i<=PW l j+c+400)
  (hf:j+1<=l.length->PW l j+1000<=PW l (j+1)->dC l i c W Ok (f (j+1))):dC l i c W Ok (wantR (bH l j w) x f):=by
 unfold Go.Tab.wantR bH
 split
 .rename_i e
  split at e
  .cases e
  .cases e;exact .bad h1 h2 h3 h4
 .rename_i e
  split at e
  .rename_i e1
   cases e
   exact hf (isT_at e1).1 (isT_at e1).2
  .cases e
end
def aew(o:Int)(ks:List Xp):xpW (dR o ks)=cP ks+11:=by
 simp only[dR,xpW,fS,aDN,v0,dQ,aaV,aW]
 show 1+(0+4)+1+1+1+(cP ks+1)+1+1=_
 omega
def ael{o:Int}{ks:List Xp}(h:I64 o)(hk:dv ks):fe (dR o ks):=by
 simp only[dR,fe,V64,v0,fa,acm,aaC,cV]
 exact⟨h,⟨⟨by decide,by decide⟩,by decide,by decide⟩,hk⟩
theorem af5:∀ a b:List Xp,cP (a++b)=cP a+cP b
 | [],b=>by simp[cP]
 | x::r,b=>by simp only[cD,cP,af5 r b];omega
theorem aeW:∀ {a b:List Xp},dv a->dv b->dv (a++b)
 | [],b,_,h=>h
 | x::r,b,h,h'=>by simp only[cD,dv] at h ⊢;exact⟨h.1,aeW h.2 h'⟩
def akA{a b:Xp}(h:fe a)(h':fe b):dv [a,b]:=⟨h,h',trivial⟩
def aby{a:Xp}(h:fe a):dv [a]:=⟨h,trivial⟩
def ab8(a:Xp):cP [a]=xpW a:=by simp[cP]
def al6(a b:Xp):cP [a,b]=xpW a+xpW b:=by simp[cP]
abbrev FX(l:List Tn)(i c:Nat)(r:Rz Xp):Prop:=dC l i c xpW fe r
theorem au5{l:List Tn}{nx:Nat->List Xp->Rz Xp}{so:List (List UInt8×Int)}{i0 c:Nat}(hs:∀ p∈so,I64 p.2)(hn:∀ j,i0<j->j<=l.length->FX l j 0 (nx j [])) :
  ∀ n a i,l.length<n+i->i0<=i->i<=l.length->fe a->xpW a+PW l i0<=PW l i+c->FX l i0 c (aer nx l so n a i)
 | 0,a,i,hf,_,h2,_,_=>by omega
 | n+1,a,i,hf,h1,h2,h3,h4=>by
  unfold aer
  split
  .exact .go h1 h2 h3 h4
  .rename_i o e
   obtain⟨e1,e2,p,hp,rfl⟩:=amm e
   refine (hn (i+1) aC e1).on aC (λy j hy h5 h6 h7=>⟨ael (hs p hp) (akA h3 hy),by rw[aew,al6];omega⟩) λy j hy h5 h6 h7=>?_
   exact au5 hs hn n _ j aC aC h6 (ael (hs p hp) (akA h3 hy)) (by rw[aew,al6];omega)
def ajC{l:List Tn}{nx:Nat->List Xp->Rz Xp}{so:List (List UInt8×Int)}{i c:Nat}{pre:List Xp}(hs:∀ p∈so,I64 p.2)(hn:∀ j,i<j->j<=l.length->FX l j 0 (nx j []))
  (h0:FX l i c (nx i pre)):FX l i c (agi nx l so i pre):=by
 unfold agi
 exact h0.on (ae _) (λy j hy _ _ h=>⟨hy,h⟩) λy j hy h5 h6 h7=>au5 hs hn _ _ j aC h5 h6 hy h7
def aDM(o:Int)(v:V)(tb nm:List UInt8)(di:Bool)(ks:List Xp)(sb:List Qy):xpW (.mk o v tb nm di ks sb)=v.s.size+tb.length+nm.length+cP ks+aaV sb+11:=by
 simp only[xpW,fS,aDN,dQ]
 omega
def arf(o:Int)(v:V)(tb nm:List UInt8)(di:Bool)(ks:List Xp)(sb:List Qy):fe (.mk o v tb nm di ks sb)↔I64 o/\V64 v/\dv ks/\acm sb:=by
 simp only[fe,fa,cV]
def ark:V64 v0:=⟨⟨by decide,by decide⟩,by decide,by decide⟩
def alg:fe x0:=(arf ..).2 ⟨⟨by decide,by decide⟩,ark,trivial,trivial⟩
def awn:fG y0:=by
 simp only[y0,fG,fa,dv,acm,adC,ac9,lsP]
 exact⟨⟨by decide,by decide⟩,trivial,trivial,trivial,trivial,trivial,trivial,trivial,trivial,by simp,⟨by decide,by decide⟩,by decide,by decide⟩
def awO:adg f0:=by
 simp only[f0,adg,fa,dv,acm,ac9]
 exact⟨⟨by decide,by decide⟩,trivial,trivial,trivial,trivial,trivial⟩
def as7:xpW x0=11:=rfl
def aKL:qyW y0=13:=rfl
def aN7:fmW f0=7:=rfl
def aSq(t s:List UInt8):xpW (ai3 t s)=t.length+s.length+11:=by rw[ai3,aDM];simp[v0,cP,aaV]
def aJQ(t s:List UInt8):fe (ai3 t s):=(arf ..).2 ⟨⟨by decide,by decide⟩,ark,trivial,trivial⟩
def asm(o:Int)(f:List UInt8)(di:Bool)(ks:List Xp):xpW (ajW o f di ks)=f.length+cP ks+11:=by rw[ajW,aDM];simp[v0,aaV]
def aoH{o:Int}(f:List UInt8)(di:Bool){ks:List Xp}(h:I64 o)(hk:dv ks):fe (ajW o f di ks):=(arf ..).2 ⟨h,ark,hk,trivial⟩
def aws(o:Int)(ks:List Xp)(q:Qy):xpW (af8 o ks q)=cP ks+qyW q+11:=by rw[af8,aDM];simp[v0,aaV]
def arz{o:Int}{ks:List Xp}{q:Qy}(h:I64 o)(hk:dv ks)(hq:fG q):fe (af8 o ks q):=(arf ..).2 ⟨h,ark,hk,hq,trivial⟩
def awB(no:Bool)(a:Xp):xpW (ajS no a)<=xpW a+11:=by
 unfold ajS
 split
 .rw[aew,ab8];omega
 .omega
def arT(no:Bool){a:Xp}(h:fe a):fe (ajS no a):=by
 unfold ajS
 split
 .exact ael ⟨by decide,by decide⟩ (aby h)
 .exact h
def ajZ(t:Th):Prop:=fG t.y/\fe t.e/\adg t.f
def axc{t:Th}(h:ajZ t):fe t.val:=by
 unfold Th.val
 split
 .exact arz ⟨by decide,by decide⟩ trivial h.1
 .exact h.2.1
def awp{t:Th}(h:t.q=true):xpW t.val=qyW t.y+11:=by
 unfold Th.val
 rw[am h,aws];simp[cP]
def aIq{a:Xp}(h:fe a):ajZ (.ofE a):=⟨awn,h,awO⟩
def arR{a:Qy}(h:fG a):ajZ (.ofQ a):=⟨h,alg,awO⟩
def ayb{a:Fm}(h:adg a):ajZ (.ofF a):=⟨awn,alg,h⟩
structure FOk (l:List Tn) (F:Fs) (i:Nat):Prop where
 or:∀ j pre,i<=j->j<=l.length->dv pre->FX l j (cP pre) (F.or j pre)
 no:∀ j,i<=j->j<=l.length->FX l j 0 (F.no j)
 un:∀ j,i<=j->j<=l.length->FX l j 0 (F.un j)
 qy:∀ j pre,i<=j->j<=l.length->acm pre->dC l j (aaV pre) qyW fG (F.qy j pre)
 ins:∀ j,i<=j->j<=l.length->dC l j 50 (λt=>xpW t.val) ajZ (F.ins j)
 fr:∀ j pre,i<=j->j<=l.length->ac9 pre->dC l j (ab4 pre) fmW adg (F.fr j pre)
 so:∀ j,i<=j->j<=l.length->dC l j 50 (λt=>qyW t.y+fmW t.f) ajZ (F.so j)
theorem FOk.mono{l:List Tn}{F:Fs}{i i':Nat}(h:FOk l F i)(hi:i<=i'):FOk l F i' :=
 ⟨λj p a=>h.or j p aC,λj a=>h.no j aC,λj a=>h.un j aC,λj p a=>h.qy j p aC,λj a=>h.ins j aC,λj p a=>h.fr j p aC,λj a=>h.so j aC⟩
section
variable {l:List Tn} {F:Fs} {i:Nat}
theorem FOk.or0(h:FOk l F i)(j:Nat)(h1:i<=j)(h2:j<=l.length):FX l j 0 (F.or j []):=h.or j [] h1 h2 trivial
theorem FOk.qy0(h:FOk l F i)(j:Nat)(h1:i<=j)(h2:j<=l.length):dC l j 0 qyW fG (F.qy j []):=h.qy j [] h1 h2 trivial
theorem FOk.fr0(h:FOk l F i)(j:Nat)(h1:i<=j)(h2:j<=l.length):dC l j 0 fmW adg (F.fr j []):=h.fr j [] h1 h2 trivial
theorem i0_:I64 0:=⟨by decide,by decide⟩
theorem i1:I64 1:=⟨by decide,by decide⟩
theorem i2:I64 2:=⟨by decide,by decide⟩
theorem i3:I64 3:=⟨by decide,by decide⟩
theorem aJO(hl:∀ t∈l,I64 t.n){v:V}(h:aei l i=some v):V64 v/\i+1<=l.length/\PW l i+1000+v.s.size<=PW l (i+1):=by
 unfold aei at h
 split at h
 .rename_i e;cases h
  have:=aci e
  exact⟨⟨i2,anz (k:=0) hl⟩,this.1,by show _+0<=_;omega⟩
 split at h
 .rename_i e;cases h
  have:=aci e
  refine⟨⟨i3,i0_⟩,this.1,?_⟩
  simp only[aK,ByteArray.size,dG]
  exact this.2
 split at h
 .rename_i e;cases h
  have:=isT_at e
  exact⟨⟨i1,by first|exact i1|exact i0_⟩,this.1,by show _+0<=_;omega⟩
 split at h
 .rename_i e;cases h
  have:=isT_at e
  exact⟨⟨i1,by first|exact i1|exact i0_⟩,this.1,by show _+0<=_;omega⟩
 split at h
 .rename_i e;cases h
  have:=isT_at e
  exact⟨ark,this.1,by show _+0<=_;omega⟩
 .cases h
theorem auP(h:FOk l F (i+1))(h1:i+1<=l.length)(h2:PW l i+1000<=PW l (i+1)):∀ {c:Nat},dC l i c (λt=>xpW t.val+900) ajZ (aid F l i):=by
 intro c
 refine (h.ins (i+1) (ae _) h1).on aC (λt j ht h3 h4 h5=>⟨ht,by simp only[id];omega⟩) λt j ht h3 h4 h5=>.wantE aC h4 ht aC
theorem ar1{i0:Nat}(h:FOk l F i0):∀ n ks i,l.length<n+i->i0<=i->i<=l.length->dv ks->cP ks+PW l i0<=PW l i->dC l i0 0 cP dv (acM F l n ks i)
 | 0,ks,i,hf,_,h2,_,_=>by omega
 | n+1,ks,i,hf,h1,h2,h3,h4=>by
  unfold acM
  split
  .rename_i e
   obtain⟨e1,e2⟩:=isT_at e
   refine (h.or0 (i+1) aC e1).on aC (λy j hy h5 h6 h7=>⟨aeW h3 (aby hy),by rw[af5,ab8];omega⟩) λy j hy h5 h6 h7=>?_
   exact ar1 h n _ j aC aC h6 (aeW h3 (aby hy)) (by rw[af5,ab8];omega)
  .exact .go h1 h2 h3 h4
theorem anv(h:FOk l F i)(h1:i<=l.length):dC l i 0 cP dv (aa1 F l i):=by
 refine (h.or0 i (ae _) h1).on (ae _) (λy j hy h5 h6 h7=>⟨aby hy,by rw[ab8];exact h7⟩) λy j hy h5 h6 h7=>?_
 exact ar1 h _ _ j aC h5 h6 (aby hy) (by rw[ab8];omega)
theorem asJ{ks:List Xp}{i0:Nat}(h1:i0<=i)(h2:i<=l.length)(h3:dv ks)(h4:cP ks+11+PW l i0<=PW l i):FX l i0 0 (af0 l ks i) :=
 .wantE h1 h2 (ael ⟨by decide,by decide⟩ h3) (by rw[aew];omega)
theorem aGl{ks:List Xp}{i0:Nat}(h:FOk l F (i0+1))(h1:i0+1<=i)(h2:i<=l.length)(h3:dv ks)(h4:cP ks+11+PW l i0<=PW l i):FX l i0 0 (ahk F l ks i):=by
 unfold ahk
 split
 .rename_i e
  obtain⟨e1,e2⟩:=isT_at e
  refine (h.or0 (i+1) aC e1).on aC (λy j hy h5 h6 h7=>⟨ael ⟨by decide,by decide⟩ h3,by rw[aew];omega⟩) λy j hy h5 h6 h7=>?_
  exact asJ aC h6 (aeW h3 (aby hy)) (by rw[af5,ab8];omega)
 .exact asJ aC h2 h3 h4
theorem asI{i0:Nat}(h:FOk l F (i0+1)):∀ n ks i,l.length<n+i->i0+1<=i->i<=l.length->dv ks->cP ks+11+PW l i0<=PW l i->FX l i0 0 (aej F l n ks i)
 | 0,ks,i,hf,_,h2,_,_=>by omega
 | n+1,ks,i,hf,h1,h2,h3,h4=>by
  unfold aej
  split
  .rename_i e
   obtain⟨e1,e2⟩:=isT_at e
   have hk:fe (dR 23 ks):=ael ⟨by decide,by decide⟩ h3
   refine (h.or0 (i+1) aC e1).on aC (λy j hy h5 h6 h7=>⟨hk,by rw[aew];omega⟩) λa j ha h5 h6 h7=>?_
   refine .wantR aC h6 hk (by rw[aew];omega) λh8 h9=>?_
   refine (h.or0 (j+1) aC h8).on aC (λy m hy h5 h6 h7=>⟨hk,by rw[aew];omega⟩) λb m hb h10 h11 h12=>?_
   exact asI h n _ m aC aC h11 (aeW h3 (akA ha hb)) (by rw[af5,al6];omega)
  .exact aGl h h1 h2 h3 h4
theorem aGk{i0:Nat}(h:FOk l F (i0+1))(h1:i0+1<=i)(h2:i<=l.length)(h4:11+PW l i0<=PW l i):FX l i0 0 (afZ F l i):=by
 unfold afZ
 split
 .exact asI h _ _ i aC h1 h2 trivial (by simp only[cP];omega)
 .exact .bad aC h2 (ael ⟨by decide,by decide⟩ trivial) (by rw[aew];simp only[cP];omega)
theorem avv{i0:Nat}(h:FOk l F (i0+1))(f:List UInt8)(di:Bool)(h1:i0+1<=i)(h2:i<=l.length)(h4:f.length+11+PW l i0<=PW l i):FX l i0 0 (ak5 F l i f di):=by
 refine (h.or0 i h1 h2).on aC (λy j hy h5 h6 h7=>⟨aoH f di ⟨by decide,by decide⟩ (aby hy),by rw[asm,ab8];omega⟩) λy j hy h5 h6 h7=>?_
 exact .wantE aC h6 (aoH f di ⟨by decide,by decide⟩ (aby hy)) (by rw[asm,ab8];omega)
theorem aGr{i0:Nat}(h:FOk l F (i0+1))(f:List UInt8)(h1:i0+1<=i)(h2:i<=l.length)(h4:f.length+11+PW l i0<=PW l i):FX l i0 0 (callS F l i f):=by
 have hf:∀ (o:Int) di,I64 o->fe (ajW o f di []):=λo di h=>aoH f di h trivial
 have hw:∀ (o:Int) di,xpW (ajW o f di [])=f.length+11:=λo di=>by rw[asm];rfl
 unfold callS
 split
 .split
  .rename_i e
   simp only[ap] at e
   obtain⟨e1,e2⟩:=isT_at e.2
   exact .wantE aC e1 (hf 25 false ⟨by decide,by decide⟩) (by rw[hw];omega)
  split
  .rename_i e
   obtain⟨e1,e2⟩:=isT_at e
   exact avv h f true aC e1 aC
  .exact avv h f false h1 h2 h4
 split
 .rename_i e
  obtain⟨e1,e2⟩:=isT_at e
  exact .go aC e1 (hf 24 false ⟨by decide,by decide⟩) (by rw[hw];omega)
 .refine (anv (h.mono h1) h2).on aC (λy j hy h5 h6 h7=>⟨aoH f false ⟨by decide,by decide⟩ hy,by rw[asm];omega⟩) λy j hy h5 h6 h7=>?_
  exact .wantE aC h6 (aoH f false ⟨by decide,by decide⟩ hy) (by rw[asm];omega)
theorem aA8{i0:Nat}(h:FOk l F (i0+1))(h1:i0<=i)(h2:i+1<=l.length)(h4:200+PW l i0<=PW l (i+1)):FX l i0 0 (agp F l i):=by
 refine .wantR aC h2 alg (by rw[as7];omega) λh5 h6=>?_
 have ho:I64 27:=⟨by decide,by decide⟩
 refine (h.qy0 (i+1+1) aC h5).on aC (λy j hy h5 h6 h7=>⟨arz ho trivial hy,by rw[aws];simp only[cP];omega⟩) λy j hy h5 h6 h7=>?_
 exact .wantE aC h6 (arz ho trivial hy) (by rw[aws];simp only[cP];omega)
theorem amr{l:List Tn}{i:Nat}:i<=(cd l i).2.1/\(i<=l.length->(cd l i).2.1<=l.length)/\(cd l i).1.length+PW l i<=PW l (cd l i).2.1:=by
 unfold cd
 split
 .rename_i e
  have:=aci e
  exact⟨by show i<=i+1;omega,λ_=>this.1,by show (txT l i).length+PW l i<=PW l (i+1);omega⟩
 .exact⟨ae _,λh=>h,by show 0+PW l i<=PW l i;omega⟩
theorem aEq(hl:∀ t∈l,I64 t.n)(h:FOk l F (i+1))(h1:i<=l.length):FX l i 0 (ae4 F l i):=by
 unfold ae4
 split
 .rename_i v e
  obtain⟨h2,h3,h4⟩:=aJO hl e
  exact .go aC h3 ((arf ..).2 ⟨⟨by decide,by decide⟩,h2,trivial,trivial⟩) (by rw[aDM];simp only[cP,aaV,aW];omega)
 split
 .rename_i e
  obtain⟨e1,e2⟩:=isT_at e
  exact (auP h e1 e2 (c:=0)).to (ae _) λt j d ht _ h5=>⟨axc ht,by omega⟩
 split
 .rename_i e
  obtain⟨e1,e2⟩:=isT_at e
  exact aGk h (ae _) e1 aC
 split
 .rename_i e
  obtain⟨e1,e2⟩:=isT_at e
  exact aA8 h (ae _) e1 aC
 split
 .rename_i e
  obtain⟨e1,e2⟩:=aci e
  split
  .rename_i g
   obtain⟨g1,g2⟩:=isT_at g
   exact aGr h _ aC (show i+1+1<=_ from g1) (show _<=PW l (i+1+1) by omega)
  split
  .rename_i g
   obtain⟨g1,g2⟩:=isT_at g
   obtain⟨n1,n2,n3⟩:=amr (l:=l) (i:=i+2)
   have n2:=n2 g1
   have g2:PW l (i+1)+1000<=PW l (i+2):=g2
   exact .any aC n2 (aJQ _ _) (by rw[aSq];omega)
  .exact .go aC e1 (aJQ _ _) (by rw[aSq];simp only[aW];omega)
 .exact .bad (ae _) h1 alg (by rw[as7];omega)
theorem an6(hl:∀ t∈l,I64 t.n)(h:FOk l F (i+1))(h1:i<=l.length)(pre:List Xp)(hp:dv pre):FX l i (cP pre) (agP F l i pre):=by
 cases pre with
 | cons x r =>
  simp only[dv] at hp
  exact .go (ae _) h1 hp.1 (by simp only[cP];omega)
 | nil =>
  simp only[agP,cP]
  split
  .rename_i e
   obtain⟨e1,e2⟩:=isT_at e
   exact (h.un (i+1) (ae _) e1).to aC λa j d ha _ h5=>⟨ael i3 (aby ha),by rw[aew,ab8];omega⟩
  .exact aEq hl h h1
theorem auX(hl:∀ t∈l,I64 t.n)(h:FOk l F (i+1))(h1:i<=l.length)(pre:List Xp)(hp:dv pre):FX l i (cP pre) (akO F l i pre) :=
 ajC (by intro p hp;simp only[bp,cB,eV] at hp;rcases hp with hp|hp|hp <;> subst hp <;> exact⟨by decide,by decide⟩) (λj h2 h3=>an6 hl (h.mono aC) h3 [] trivial) (an6 hl h h1 pre hp)
theorem avw(hl:∀ t∈l,I64 t.n)(h:FOk l F (i+1))(h1:i<=l.length)(pre:List Xp)(hp:dv pre):FX l i (cP pre) (ak6 F l i pre) :=
 ajC (by intro p hp;simp only[bp,cB,eV] at hp;rcases hp with hp|hp <;> subst hp <;> exact⟨by decide,by decide⟩) (λj h2 h3=>auX hl (h.mono aC) h3 [] trivial) (auX hl h h1 pre hp)
theorem avh(hl:∀ t∈l,I64 t.n)(h:FOk l F (i+1))(h1:i<=l.length)(pre:List Xp)(hp:dv pre):FX l i (cP pre) (acr F l i pre) :=
 ajC (by intro p hp;simp only[bp,cB,eV] at hp;subst hp;exact⟨by decide,by decide⟩) (λj h2 h3=>avw hl (h.mono aC) h3 [] trivial) (avw hl h h1 pre hp)
theorem aGi(hl:∀ t∈l,I64 t.n){i0:Nat}(h:FOk l F (i0+1))(h1:i<=l.length)(h2:i0<=i):FX l i 0 (acr F l i []):=avh hl (h.mono aC) h1 [] trivial
theorem ayK{a:Xp}{i0 c:Nat}(ha:fe a)(hw:xpW a+100+PW l i0<=PW l i+c)(h:FOk l F (i0+1)):∀ n ks j,l.length<n+j->i0<=i->i<=j->j<=l.length->dv ks->cP ks+150+PW l i0<=PW l j+c->PW l i<=PW l j->dC l i0 c (λx=>xpW x+100) fe (inL F l a n ks j)
 | 0,ks,j,hf,_,_,h2,_,_,_=>by omega
 | n+1,ks,j,hf,h0,h1,h2,h3,h4,h9=>by
  unfold inL
  split
  .rename_i e
   obtain⟨e1,e2⟩:=isT_at e
   refine (h.or0 (j+1) aC e1).on aC (λy m hy h5 h6 h7=>⟨ha,by omega⟩) λy m hy h5 h6 h7=>?_
   exact ayK ha hw h n _ m aC h0 aC h6 (aeW h3 (aby hy)) (by rw[af5,ab8];omega) aC
  .exact .wantE aC h2 (ael ⟨by decide,by decide⟩ h3) (by rw[aew];omega)
theorem aNw{a:Xp}{i0 c:Nat}(ha:fe a)(hw:xpW a+1000+PW l i0<=PW l i+c)(h:FOk l F (i0+1))(h0:i0+1<=i)(h1:i<=l.length):dC l i0 c (λx=>xpW x+100) fe (inS F l i a):=by
 refine .wantR aC h1 ha aC λh2 h3=>?_
 refine (h.ins (i+1) aC h2).on aC (λt j ht h5 h6 h7=>⟨ha,by omega⟩) λt j ht h5 h6 h7=>?_
 split
 .rename_i e
  simp only[ap] at e
  rw[awp e.1] at h7
  exact .wantE aC h6 (arz ⟨by decide,by decide⟩ (aby ha) ht.1) (by rw[aws,ab8];omega)
 .exact ayK (i:=i) ha aC h _ _ j aC aC aC h6 (akA ha (axc ht)) (by rw[al6];omega) aC
theorem ar2(hl:∀ t∈l,I64 t.n){a:Xp}{i0 c:Nat}(no:Bool)(ha:fe a)(hw:xpW a+PW l i0<=PW l i+c)(h:FOk l F (i0+1))(h0:i0<=i)(h1:i<=l.length):FX l i0 c (ace F l no i a):=by
 unfold ace
 split
 .rename_i e
  obtain⟨e1,e2⟩:=isT_at e
  refine (aGi hl h e1 aC).to aC λb j d hb _ h5=>⟨arT _ (ael ⟨by decide,by decide⟩ (akA ha hb)),?_⟩
  have:=awB no (dR 20 [a,b])
  rw[aew,al6] at this
  omega
 split
 .rename_i e
  obtain⟨e1,e2⟩:=isT_at e
  refine (aGi hl h e1 aC).on aC (λb j hb h5 h6 h7=>⟨ha,by omega⟩) λb j hb h5 h6 h7=>?_
  refine .wantR aC h6 ha aC λh8 h9=>?_
  refine (aGi hl h h8 aC).to aC λy m d hy _ h5=>⟨arT _ (ael ⟨by decide,by decide⟩ ⟨ha,hb,hy,trivial⟩),?_⟩
  have:=awB no (dR 22 [a,b,y])
  rw[aew] at this
  simp only[cP] at this
  omega
 split
 .rename_i e
  obtain⟨e1,e2⟩:=isT_at e
  refine (aNw (i:=i+1) (i0:=i0) (c:=c) ha aC h aC e1).to (ae _) λx j d hx _ h5=>⟨arT _ hx,?_⟩
  have:=awB no x
  omega
 .exact .any h0 h1 ha hw
theorem ayF{a:Xp}{i0 c:Nat}(no:Bool)(ha:fe a)(hw:xpW a+100+PW l i0<=PW l i+c)(h0:i0<=i)(h1:i<=l.length):FX l i0 c (isS l no i a):=by
 have:=awB no (dR 19 [a])
 rw[aew,ab8] at this
 exact .wantE h0 h1 (arT _ (ael ⟨by decide,by decide⟩ (aby ha))) aC
theorem aJT(hl:∀ t∈l,I64 t.n){a:Xp}{i0 c:Nat}(ha:fe a)(hw:xpW a+PW l i0<=PW l i+c)(h:FOk l F (i0+1))(h0:i0<=i)(h1:i<=l.length):FX l i0 c (adA F l i a):=by
 unfold adA
 split
 .rename_i o e
  obtain⟨e1,e2,p,hp,rfl⟩:=amm e
  have ho:I64 p.2:=by
   simp only[aiv,bp,cB,eV] at hp
   rcases hp with hp|hp|hp|hp|hp|hp <;> subst hp <;> exact⟨by decide,by decide⟩
  exact (aGi hl h e1 aC).to aC λb j d hb _ h5=>⟨ael ho (akA ha hb),by rw[aew,al6];omega⟩
 split
 .rename_i e
  obtain⟨e1,e2⟩:=isT_at e
  split
  .rename_i g
   obtain⟨g1,g2⟩:=isT_at g
   have g2:PW l (i+1)+1000<=PW l (i+2):=g2
   exact ayF true ha aC aC g1
  .exact ayF false ha aC aC e1
 split
 .rename_i e
  obtain⟨e1,e2⟩:=isT_at e
  exact ar2 hl true ha aC h aC e1
 .exact ar2 hl false ha hw h h0 h1
theorem aox(hl:∀ t∈l,I64 t.n)(h:FOk l F (i+1))(h1:i<=l.length)(pre:List Xp)(hp:dv pre):FX l i (cP pre) (aeF F l i pre):=by
 unfold aeF
 split
 .rename_i e
  simp only[ap] at e
  obtain⟨e1,e2⟩:=isT_at e.2
  exact (h.no (i+1) (ae _) e1).to aC λa j d ha _ h5=>⟨ael ⟨by decide,by decide⟩ (aby ha),by rw[aew,ab8];omega⟩
 .exact (avh hl h h1 pre hp).on (ae _) (λy j hy _ _ h=>⟨hy,h⟩) λy j hy h5 h6 h7=>aJT hl hy h7 h h5 h6
theorem avu(hl:∀ t∈l,I64 t.n)(h:FOk l F (i+1))(h1:i<=l.length)(pre:List Xp)(hp:dv pre):FX l i (cP pre) (ak4 F l i pre) :=
 ajC (by intro p hp;simp only[bp,cB,eV] at hp;subst hp;exact⟨by decide,by decide⟩) (λj h2 h3=>aox hl (h.mono aC) h3 [] trivial) (aox hl h h1 pre hp)
theorem aMg(hl:∀ t∈l,I64 t.n)(h:FOk l F (i+1))(h1:i<=l.length)(pre:List Xp)(hp:dv pre):FX l i (cP pre) (orS F l i pre) :=
 ajC (by intro p hp;simp only[bp,cB,eV] at hp;subst hp;exact⟨by decide,by decide⟩) (λj h2 h3=>avu hl (h.mono aC) h3 [] trivial) (avu hl h h1 pre hp)
end
def atD(op:Int)(al:Bool)(ks:List Qy)(di:Bool)(its:List Im)(fr:List Fm)(wh gr hv:List Xp)(od:List Od)(li sk:Int) :
  qyW (.mk op al ks di its fr wh gr hv od li sk)=aaV ks+adQ its+ab4 fr+cP wh+cP gr+cP hv+(od.map odW).sum+13:=by
 simp only[qyW,fS,lsW]
 omega
def awv(op:Int)(al:Bool)(ks:List Qy)(di:Bool)(its:List Im)(fr:List Fm)(wh gr hv:List Xp)(od:List Od)(li sk:Int) :
  fG (.mk op al ks di its fr wh gr hv od li sk)↔I64 op/\acm ks/\adC its/\ac9 fr/\dv wh/\dv gr/\dv hv/\(∀ x∈od,ak7 x)/\I64 li/\I64 sk:=by
 simp only[fG,fa,cV,lsP]
def aFf(st:Bool)(tb:List UInt8)(e:Xp)(az:List UInt8):imW (.mk st tb e az)=tb.length+xpW e+az.length+4:=by
 simp only[imW,fS,dQ];omega
def awJ(st:Bool)(tb:List UInt8)(e:Xp)(az:List UInt8):ak9 (.mk st tb e az)↔fe e:=by simp only[ak9,fa,cV,aaC]
def aFr(kd:Int)(nm az:List UInt8)(sb:List Qy)(ks:List Fm)(on:List Xp):fmW (.mk kd nm az sb ks on)=nm.length+az.length+aaV sb+ab4 ks+cP on+7:=by
 simp only[fmW,fS,dQ];omega
def awK(kd:Int)(nm az:List UInt8)(sb:List Qy)(ks:List Fm)(on:List Xp):adg (.mk kd nm az sb ks on)↔I64 kd/\acm sb/\ac9 ks/\dv on:=by
 simp only[adg,fa,cV]
def aoq(a:Qy):aaV [a]=qyW a:=by simp[aaV]
def ayS(a:Fm):ab4 [a]=fmW a:=by simp[ab4]
def aJs(a b:Fm):ab4 [a,b]=fmW a+fmW b:=by simp[ab4]
theorem ayM:∀ a b:List Im,adQ (a++b)=adQ a+adQ b
 | [],b=>by simp[adQ]
 | x::r,b=>by simp only[cD,adQ,ayM r b];omega
theorem avy:∀ {a b:List Im},adC a->adC b->adC (a++b)
 | [],b,_,h=>h
 | x::r,b,h,h'=>by simp only[cD,adC] at h ⊢;exact⟨h.1,avy h.2 h'⟩
def amN{a:Qy}(h:fG a):acm [a]:=⟨h,trivial⟩
def auk{a:Fm}(h:adg a):ac9 [a]:=⟨h,trivial⟩
def aWL{a:Im}(h:ak9 a):adC [a]:=⟨h,trivial⟩
def arD(di:Bool)(its:List Im)(fr:List Fm)(wh gr hv:List Xp):qyW (aiH di its fr wh gr hv)=adQ its+ab4 fr+cP wh+cP gr+cP hv+13:=by
 rw[aiH,atD];simp only[aaV,bq,bX];omega
def aoi(di:Bool){its:List Im}{fr:List Fm}{wh gr hv:List Xp}(h1:adC its)(h2:ac9 fr)(h3:dv wh)(h4:dv gr)(h5:dv hv):fG (aiH di its fr wh gr hv) :=
 (awv ..).2 ⟨⟨by decide,by decide⟩,trivial,h1,h2,h3,h4,h5,by simp,⟨by decide,by decide⟩,by decide,by decide⟩
def aPJ(o:Int)(al:Bool)(a b:Qy):qyW (ats o al a b)=qyW a+qyW b+13:=by
 rw[ats,atD];simp only[aaV,adQ,ab4,cP,bq,bX];omega
def aHK{o:Int}(al:Bool){a b:Qy}(h:I64 o)(h1:fG a)(h2:fG b):fG (ats o al a b) :=
 (awv ..).2 ⟨h,⟨h1,h2,trivial⟩,trivial,trivial,trivial,trivial,trivial,by simp,⟨by decide,by decide⟩,by decide,by decide⟩
theorem afH{l:List Tn}{i:Nat}:∀ {j:Nat},i<=j->PW l i<=PW l j
 | 0,h=>by rw[Nat.le_zero.1 h];exact ae _
 | j+1,h=>by
  rcases aD i (j+1) with q|q
  .refine fJ (afH (j:=j) aC) ?_
   cases e:l[j]? with
   | some t=>rw[auh e];omega
   | none=>unfold PW;rw[List.take_add_one,e];simp
  .rw[show i=j+1 by omega];exact ae _
def aq9{l:List Tn}{i:Nat}:i<=(eM l i).2.1/\(i<=l.length->(eM l i).2.1<=l.length)/\(eM l i).1.length+PW l i<=PW l (eM l i).2.1:=by
 unfold eM
 split
 .rename_i e
  obtain⟨e1,e2⟩:=isT_at e
  obtain⟨h1,h2,h3⟩:=amr (l:=l) (i:=i+1)
  exact⟨by omega,λ_=>h2 e1,by omega⟩
 split
 .rename_i e
  have:=aci e
  exact⟨by show i<=i+1;omega,λ_=>this.1,by show (txT l i).length+PW l i<=PW l (i+1);omega⟩
 .exact⟨ae _,λh=>h,by show 0+PW l i<=PW l i;omega⟩
section
variable {l:List Tn} {F:Fs} {i:Nat}
theorem aJf(h:FOk l F (i+1))(h1:i<=l.length)(ho:FX l i 0 (F.or i []))(hq:dC l i 0 qyW fG (F.qy i [])):dC l i 50 (λt=>xpW t.val) ajZ (aiZ F l i):=by
 unfold aiZ
 split
 .exact hq.to (ae _) λa j d ha _ h5=>⟨arR ha,by rw[awp rfl];show qyW a+11+_<=_;omega⟩
 split
 .rename_i e
  obtain⟨e1,e2⟩:=isT_at e
  refine (auP h e1 e2 (c:=0)).on (ae _) (λt j ht h5 h6 h7=>⟨ht,by simp only[id];omega⟩) λt j ht h5 h6 h7=>?_
  have hj:i+1<=j:=by
   rcases aD i j with q|q
   .omega
   .exfalso
    have:j=i:=by omega
    subst this;omega
  split
  .rename_i g
   simp only[ap] at g
   rw[awp g.1] at h7
   exact (h.qy j [t.y] hj h6 (amN ht.1)).to aC λa m d ha _ h8=>⟨arR ha,by rw[awp rfl];rw[aoq] at h8;show qyW a+11+_<=_;omega⟩
  split
  .exact .go h5 h6 ht (by show xpW t.val+_<=_;omega)
  .exact (h.or j [t.val] hj h6 (aby (axc ht))).to aC λa m d ha _ h8=>⟨aIq ha,by rw[ab8] at h8;show xpW a+_<=_;omega⟩
 .exact ho.to (ae _) λa j d ha _ h5=>⟨aIq ha,by show xpW a+_<=_;omega⟩
theorem aix{w:List UInt8}{i0:Nat}(h:FOk l F (i0+1))(h0:i0<=i)(h1:i<=l.length):dC l i 0 cP dv (aaS F l i w):=by
 unfold aaS
 split
 .rename_i e
  obtain⟨e1,e2⟩:=isT_at e
  exact (h.or0 (i+1) aC e1).to aC λa j d ha _ h5=>⟨aby ha,by rw[ab8];omega⟩
 .exact .go (ae _) h1 trivial (by simp only[cP];omega)
theorem aFc{i0:Nat}(h:FOk l F (i0+1))(h0:i0+1<=i)(h1:i<=l.length):dC l i 50 imW ak9 (aec F l i):=by
 unfold aec
 split
 .rename_i e
  obtain⟨e1,e2⟩:=isT_at e
  exact .go aC e1 ((awJ ..).2 alg) (by rw[aFf,as7];simp only[aW];omega)
 split
 .rename_i e
  simp only[ap] at e
  obtain⟨e1,e2⟩:=aci e.1
  obtain⟨e3,e4⟩:=isT_at e.2.1
  obtain⟨e5,e6⟩:=isT_at e.2.2
  have e4:PW l (i+1)+1000<=PW l (i+2):=e4
  have e6:PW l (i+2)+1000<=PW l (i+3):=e6
  exact .go aC e5 ((awJ ..).2 alg) (by rw[aFf,as7];simp only[aW];omega)
 .refine (h.or0 i aC h1).on (ae _) (λa j _ _ _ _=>⟨(awJ ..).2 alg,by rw[im0,aFf,as7];simp only[aW];omega⟩) λa j ha h5 h6 h7=>?_
  obtain⟨n1,n2,n3⟩:=aq9 (l:=l) (i:=j)
  exact .any aC (n2 h6) ((awJ ..).2 ha) (by rw[aFf];simp only[aW];omega)
theorem auI{i0:Nat}(h:FOk l F (i0+1))(di:Bool){its:List Im}{fr:List Fm}{wh gr:List Xp}(h1:adC its)(h2:ac9 fr)(h3:dv wh)(h4:dv gr)
  (h5:i0<=i) (h6:i<=l.length) (h7:adQ its+ab4 fr+cP wh+cP gr+13+PW l i0<=PW l i):dC l i0 0 qyW fG (ah6 F l di its fr wh gr i) :=
 (aix h h5 h6).to h5 λa j d ha _ h8=>⟨aoi di h1 h2 h3 h4 ha,by rw[arD];omega⟩
theorem aHT{i0:Nat}(h:FOk l F (i0+1))(di:Bool){its:List Im}{fr:List Fm}{wh:List Xp}(h1:adC its)(h2:ac9 fr)(h3:dv wh)
  (h5:i0<=i) (h6:i<=l.length) (h7:adQ its+ab4 fr+cP wh+13+PW l i0<=PW l i):dC l i0 0 qyW fG (ah7 F l di its fr wh i):=by
 have hk:fG (aiH di its fr wh [] []):=aoi di h1 h2 h3 trivial trivial
 have hw:qyW (aiH di its fr wh [] [])=adQ its+ab4 fr+cP wh+13:=by rw[arD];simp only[cP] <;> omega
 unfold ah7
 split
 .rename_i e
  obtain⟨e1,e2⟩:=isT_at e
  refine .wantR aC e1 hk (by rw[hw];omega) λh8 h9=>?_
  refine (anv (h.mono aC) h8).on aC (λy j hy h10 h11 h12=>⟨hk,by rw[hw];omega⟩) λy j hy h10 h11 h12=>?_
  exact auI h di h1 h2 h3 hy aC h11 aC
 .exact auI h di h1 h2 h3 trivial h5 h6 (by simp only[cP] <;> omega)
theorem auH{i0:Nat}(h:FOk l F (i0+1))(di:Bool){its:List Im}{fr:List Fm}(h1:adC its)(h2:ac9 fr)
  (h5:i0<=i) (h6:i<=l.length) (h7:adQ its+ab4 fr+13+PW l i0<=PW l i):dC l i0 0 qyW fG (ah5 F l di its fr i) :=
 (aix h h5 h6).on h5 (λy j hy h10 h11 h12=>⟨aoi di h1 h2 trivial trivial trivial,by rw[arD];simp only[cP];omega⟩) λy j hy h10 h11 h12 =>
  aHT h di h1 h2 hy aC h11 aC
theorem aHU{i0:Nat}(h:FOk l F (i0+1))(di:Bool){its:List Im}(h1:adC its)
  (h5:i0<=i) (h6:i<=l.length) (h7:adQ its+13+PW l i0<=PW l i):dC l i0 0 qyW fG (ahu F l di its i):=by
 unfold ahu
 split
 .rename_i e
  obtain⟨e1,e2⟩:=isT_at e
  refine (h.fr0 (i+1) aC e1).on aC (λy j hy h10 h11 h12=>⟨aoi di h1 trivial trivial trivial trivial,by rw[arD];simp only[cP,ab4] <;> omega⟩) λy j hy h10 h11 h12=>?_
  exact auH h di h1 (auk hy) aC h11 (by rw[ayS];omega)
 .exact auH h di h1 trivial h5 h6 (by simp only[ab4];omega)
theorem aoj{i0:Nat}(h:FOk l F (i0+1))(di:Bool):∀ n its i,l.length<n+i->i0+1<=i->i<=l.length->adC its->adQ its+100+PW l i0<=PW l i->dC l i0 0 qyW fG (aga F l di n its i)
 | 0,ks,i,hf,_,h2,_,_=>by omega
 | n+1,its,i,hf,h1,h2,h3,h4=>by
  refine (aFc h h1 h2).on aC (λy j hy h10 h11 h12=>⟨aoi di h3 trivial trivial trivial trivial,by rw[arD];simp only[cP,ab4] <;> omega⟩) λy j hy h10 h11 h12=>?_
  have hk:adC (its++[y]):=avy h3 (aWL hy)
  have hw:adQ (its++[y])=adQ its+imW y:=by rw[ayM];simp[adQ]
  split
  .rename_i e
   obtain⟨e1,e2⟩:=isT_at e
   exact aoj h di n _ (j+1) aC aC e1 hk (by rw[hw];omega)
  .exact aHU h di hk aC h11 (by rw[hw];omega)
theorem aHQ{i0:Nat}(h:FOk l F (i0+1))(h1:i0+1<=i)(h2:i<=l.length)(h3:1000+PW l i0<=PW l i):dC l i0 0 qyW fG (ajO F l i):=by
 unfold ajO
 split
 .rename_i e
  obtain⟨e1,e2⟩:=isT_at e
  exact aoj h true _ _ (i+1) aC aC e1 trivial (by simp only[adQ];omega)
 .exact aoj h false _ _ i aC h1 h2 trivial (by simp only[adQ];omega)
theorem arO(h:FOk l F (i+1))(h1:i<=l.length)(pre:List Qy)(hp:acm pre):dC l i (aaV pre) qyW fG (acx F l i pre):=by
 cases pre with
 | cons x r =>
  simp only[acm] at hp
  exact .go (ae _) h1 hp.1 (by simp only[aaV];omega)
 | nil =>
  simp only[acx,aaV]
  split
  .rename_i e
   obtain⟨e1,e2⟩:=isT_at e
   refine (h.qy0 (i+1) (ae _) e1).on aC (λy j hy _ _ h=>⟨hy,by simp only[id];omega⟩) λy j hy h5 h6 h7=>.wantE aC h6 hy aC
  .exact .wantR (ae _) h1 awn (by rw[aKL];omega) λh8 h9=>aHQ h (ae _) h8 aC
abbrev FQ(l:List Tn)(i c:Nat)(r:Rz Qy):Prop:=dC l i c qyW fG r
theorem auG{nx:Nat->List Qy->Rz Qy}{so:List (List UInt8×Int)}{i0 c:Nat}(hs:∀ p∈so,I64 p.2)(hn:∀ j,i0<j->j<=l.length->FQ l j 0 (nx j [])) :
  ∀ n a i,l.length<n+i->i0<=i->i<=l.length->fG a->qyW a+PW l i0<=PW l i+c->FQ l i0 c (adb nx l so n a i)
 | 0,a,i,hf,_,h2,_,_=>by omega
 | n+1,a,i,hf,h1,h2,h3,h4=>by
  unfold adb
  split
  .exact .go h1 h2 h3 h4
  .rename_i o e
   obtain⟨e1,e2,p,hp,rfl⟩:=amm e
   obtain⟨q1,q2,q3⟩ : (if isT l (i+1) [97,108,108]=true then i+2 else i+1)<=l.length/\i+1<=(if isT l (i+1) [97,108,108]=true then i+2 else i+1)/\PW l (i+1)<=PW l (if isT l (i+1) [97,108,108]=true then i+2 else i+1):=by
    split
    .rename_i g
     obtain⟨g1,g2⟩:=isT_at g
     have g2:PW l (i+1)+1000<=PW l (i+2):=g2
     exact⟨g1,by omega,by omega⟩
    .exact⟨e1,ae _,ae _⟩
   generalize (if isT l (i+1) [97,108,108]=true then i+2 else i+1)=m at *
   refine (hn m aC q1).on aC (λy j hy h5 h6 h7=>⟨aHK _ (hs p hp) h3 hy,by rw[aPJ];omega⟩) λy j hy h5 h6 h7=>?_
   exact auG hs hn n _ j aC aC h6 (aHK _ (hs p hp) h3 hy) (by rw[aPJ];omega)
theorem auF{nx:Nat->List Qy->Rz Qy}{so:List (List UInt8×Int)}{c:Nat}{pre:List Qy}(hs:∀ p∈so,I64 p.2)(hn:∀ j,i<j->j<=l.length->FQ l j 0 (nx j []))
  (h0:FQ l i c (nx i pre)):FQ l i c (ah3 nx l so i pre):=by
 unfold ah3
 exact h0.on (ae _) (λy j hy _ _ h=>⟨hy,h⟩) λy j hy h5 h6 h7=>auG hs hn _ _ j aC h5 h6 hy h7
theorem ap2(h:FOk l F (i+1))(h1:i<=l.length)(pre:List Qy)(hp:acm pre):FQ l i (aaV pre) (aaE F l i pre) :=
 auF (by intro p hp;simp only[bp,cB,eV] at hp;subst hp;exact⟨by decide,by decide⟩) (λj h2 h3=>arO (h.mono aC) h3 [] trivial) (arO h h1 pre hp)
theorem aAd(h:FOk l F (i+1))(h1:i<=l.length)(pre:List Qy)(hp:acm pre):FQ l i (aaV pre) (ah1 F l i pre) :=
 auF (by intro p hp;simp only[bp,cB,eV] at hp;rcases hp with hp|hp <;> subst hp <;> exact⟨by decide,by decide⟩) (λj h2 h3=>ap2 (h.mono aC) h3 [] trivial) (ap2 h h1 pre hp)
theorem a77(q:Qy)(od:List Od)(li sk:Int):qyW (q.endQ od li sk)<=qyW q+(od.map odW).sum:=by
 cases q;rw[Qy.endQ,atD,atD];simp only[Qy.ks,Qy.its,Qy.fr,Qy.wh,Qy.gr,Qy.hv];omega
theorem a1H(q:Qy)(li sk:Int):qyW (q.endQ q.od li sk)=qyW q:=by
 cases q;rw[Qy.endQ,atD,atD];simp only[Qy.ks,Qy.its,Qy.fr,Qy.wh,Qy.gr,Qy.hv,Qy.od]
theorem asA{q:Qy}{od:List Od}{li sk:Int}(h:fG q)(h1:∀ x∈od,ak7 x)(h2:I64 li)(h3:I64 sk):fG (q.endQ od li sk):=by
 cases q
 rw[Qy.endQ,awv] at *
 simp only[Qy.op,Qy.ks,Qy.its,Qy.fr,Qy.wh,Qy.gr,Qy.hv]
 exact⟨h.1,h.2.1,h.2.2.1,h.2.2.2.1,h.2.2.2.2.1,h.2.2.2.2.2.1,h.2.2.2.2.2.2.1,h1,h2,h3⟩
theorem aiK{q:Qy}(h:fG q):(∀ x∈q.od,ak7 x)/\I64 q.li/\I64 q.sk:=by
 cases q
 rw[awv] at h
 exact h.2.2.2.2.2.2.2
theorem azB(hl:∀ t∈l,I64 t.n){i0:Nat}:∀ n os i,l.length<n+i->i0<=i->i<=l.length->(∀ x∈os,ak7 x)->(os.map odW).sum+PW l i0<=PW l i ->
  dC l i0 0 (λos=>(os.map odW).sum) (λos=>∀ x∈os,ak7 x) (byL l n os i)
 | 0,a,i,hf,_,h2,_,_=>by omega
 | n+1,os,i,hf,h1,h2,h3,h4=>by
  unfold byL
  split
  .rename_i e
   obtain⟨e1,e2⟩ : i+1<=l.length/\PW l i+1000+(txT l i).length<=PW l (i+1):=by
    simp only[bN,ap] at e
    rcases e with e|e
    .exact aci e
    .exact aci e.1
   obtain⟨q1,q2,q3⟩ : (if co l (i+1) [[97,115,99],[100,101,115,99]]=true then i+2 else i+1)<=l.length/\i+1<=(if co l (i+1) [[97,115,99],[100,101,115,99]]=true then i+2 else i+1)/\PW l (i+1)<=PW l (if co l (i+1) [[97,115,99],[100,101,115,99]]=true then i+2 else i+1):=by
    split
    .rename_i g
     simp only[co,bN,aE] at g
     obtain⟨g1,g2⟩ : i+1+1<=l.length/\PW l (i+1)+1000<=PW l (i+1+1):=by
      rcases g with g|g
      .exact isT_at g
      .exact isT_at g
     have g2:PW l (i+1)+1000<=PW l (i+2):=g2
     exact⟨g1,by omega,by omega⟩
    .exact⟨e1,ae _,ae _⟩
   dsimp only
   generalize (if co l (i+1) [[97,115,99],[100,101,115,99]]=true then i+2 else i+1)=m at *
   generalize ho:(⟨if br l i 2=true then txT l i else [],if br l i 2=true then 0 else nuT l i,isT l (i+1) [100,101,115,99]⟩ : Od)=o
   have hk:∀ x∈os++[o],ak7 x:=by
    intro x hx
    rcases bt.1 hx with hx|hx
    .exact h3 x hx
    .simp only[cn] at hx
     subst hx ho
     refine⟨trivial,?_,trivial⟩
     show I64 (if br l i 2=true then 0 else nuT l i)
     split
     .exact i0_
     .exact anz (k:=0) hl
   have hw:((os++[o]).map odW).sum<=(os.map odW).sum+(txT l i).length+10:=by
    rw[cm,abf]
    subst ho
    simp only[aU,bq,dH,bX,odW,dQ,fS]
    split <;> simp <;> omega
   split
   .rename_i g
    obtain⟨g1,g2⟩:=isT_at g
    exact azB hl n _ (m+1) aC aC g1 hk aC
   .exact .go aC q1 hk (by show ((os++[o]).map odW).sum+_<=_;omega)
  .exact .bad h1 h2 aT (by simp only[bq,bX];omega)
theorem auS(hl:∀ t∈l,I64 t.n){i0 c:Nat}{q:Qy}{od:List Od}{li:Int}(hq:fG q)(ho:∀ x∈od,ak7 x)(h2:I64 li)(hw:∀ li sk,qyW (q.endQ od li sk)+PW l i0<=PW l i+c)(h0:i0<=i)(h1:i<=l.length):FQ l i0 c (agc l q od li i):=by
 unfold agc
 split
 .rename_i e
  obtain⟨e1,e2⟩:=isT_at e
  split
  .rename_i g
   have g1:=aci g
   have hw:=hw li (nuT l (i+1))
   have g2:PW l (i+1)+1000+(txT l (i+1)).length<=PW l (i+2):=g1.2
   exact .go aC g1.1 (asA hq ho h2 (anz (k:=0) hl)) aC
  .have hw:=hw li q.sk
   exact .bad aC e1 (asA hq ho h2 (aiK hq).2.2) aC
 .exact .go h0 h1 (asA hq ho h2 (aiK hq).2.2) (hw li q.sk)
theorem au4(hl:∀ t∈l,I64 t.n){i0 c:Nat}{q:Qy}{od:List Od}(hq:fG q)(ho:∀ x∈od,ak7 x)(hw:∀ li sk,qyW (q.endQ od li sk)+PW l i0<=PW l i+c)(h0:i0<=i)(h1:i<=l.length):FQ l i0 c (aep l q od i):=by
 unfold aep
 split
 .rename_i e
  obtain⟨e1,e2⟩:=isT_at e
  split
  .rename_i g
   have g1:=aci g
   have g2:PW l (i+1)+1000+(txT l (i+1)).length<=PW l (i+2):=g1.2
   exact auS hl hq ho (anz (k:=0) hl) (λli sk=>by have:=hw li sk;omega) aC g1.1
  .have hw:=hw q.li q.sk
   exact .bad aC e1 (asA hq ho (aiK hq).2.1 (aiK hq).2.2) aC
 .exact auS hl hq ho (aiK hq).2.1 hw h0 h1
theorem aAF(hl:∀ t∈l,I64 t.n)(h:FOk l F (i+1))(h1:i<=l.length)(pre:List Qy)(hp:acm pre):FQ l i (aaV pre) (aeD F l i pre):=by
 refine (aAd h h1 pre hp).on (ae _) (λy j hy _ _ h=>⟨hy,h⟩) λq j hq h5 h6 h7=>?_
 split
 .exact .bad h5 h6 hq aC
 split
 .rename_i e
  obtain⟨e1,e2⟩:=isT_at e
  have hb:dC l (j+1) 0 (λos=>(os.map odW).sum) (λos=>∀ x∈os,ak7 x) (ajY l (j+1)) :=
   .wantR (ae _) e1 aT (by simp only[bq,bX];omega) λh8 h9 =>
    azB hl _ _ _ aC aC h8 aT (by simp only[bq,bX];omega)
  refine hb.on aC (λy m hy h8 h9 h10=>⟨hq,by omega⟩) λo m ho h8 h9 h10=>?_
  exact au4 hl hq ho (λli sk=>by have:=a77 q o li sk;omega) aC h9
 .exact au4 hl hq (aiK hq).1 (λli sk=>by rw[a1H];exact h7) h5 h6
abbrev FF(l:List Tn)(i c:Nat)(r:Rz Fm):Prop:=dC l i c fmW adg r
theorem aqb{i0 c:Nat}{q:Qy}(hq:fG q)(h0:i0<=i)(h1:i<=l.length)(hw:qyW q+20+PW l i0<=PW l i+c):FF l i0 c (abO l i q):=by
 unfold abO
 obtain⟨n1,n2,n3⟩:=aq9 (l:=l) (i:=i)
 have n2:=n2 h1
 generalize eM l i=r at *
 obtain⟨s,j,b⟩:=r
 dsimp only at *
 split
 .exact .bad aC n2 awO (by rw[aN7];omega)
 .exact .any aC n2 ((awK ..).2 ⟨i2,amN hq,trivial,trivial⟩) (by rw[aFr,aoq];simp only[ab4,cP,aW];omega)
theorem asO{c:Nat}(h:FOk l F (i+1))(h1:i+1<=l.length)(h2:PW l i+1000<=PW l (i+1)):dC l i c (λt=>qyW t.y+fmW t.f+900) ajZ (agL F l i):=by
 refine (h.so (i+1) (ae _) h1).on aC (λt j ht h3 h4 h5=>⟨ht,by simp only[id];omega⟩) λt j ht h3 h4 h5=>.wantE aC h4 ht aC
theorem auB(h:FOk l F (i+1))(h1:i<=l.length):FF l i 0 (adY F l i):=by
 unfold adY
 split
 .rename_i e
  obtain⟨e1,e2⟩:=isT_at e
  refine (asO h e1 e2 (c:=0)).on (ae _) (λt j ht h5 h6 h7=>⟨ht.2.2,by omega⟩) λt j ht h5 h6 h7=>?_
  split
  .exact aqb ht.1 h5 h6 aC
  .exact .go h5 h6 ht.2.2 aC
 .unfold nameR
  obtain⟨n1,n2,n3⟩:=amr (l:=l) (i:=i)
  have n2:=n2 h1
  generalize hr:cd l i=r at *
  obtain⟨s,j,b⟩:=r
  dsimp only at *
  cases b with
  | true=>exact .bad n1 n2 awO (by rw[aN7];omega)
  | false =>
   have h9:s.length+1000+PW l i<=PW l j:=by
    unfold cd at hr
    split at hr
    .rename_i e
     have:=aci e
     simp only[aX] at hr
     obtain⟨rfl,rfl,_⟩:=hr
     omega
    .simp only[aX] at hr
     exact absurd hr.2.2 aI
   obtain⟨m1,m2,m3⟩:=aq9 (l:=l) (i:=j)
   exact .any aC (m2 n2) ((awK ..).2 ⟨i1,trivial,trivial,trivial⟩) (by rw[aFr];simp only[aaV,ab4,cP];omega)
theorem aqh:∀ (ws:List (List UInt8)) (i j:Nat) (b:Bool),dI l i ws=(j,b)->i<=l.length->i<=j/\j<=l.length/\PW l i+1000*(j-i)<=PW l j/\(b=false->i+ws.length<=j)
 | [],i,j,b,h,h1=>by
  simp only[dI,aX] at h
  obtain⟨rfl,rfl⟩:=h
  exact⟨ae _,h1,by omega,λ_=>ae _⟩
 | w::r,i,j,b,h,h1=>by
  unfold dI at h
  split at h
  .rename_i e
   obtain⟨e1,e2⟩:=isT_at e
   obtain⟨h2,h3,h4,h5⟩:=aqh r (i+1) j b h e1
   exact⟨by omega,h3,by omega,λhb=>by have:=h5 hb;simp only[aN];omega⟩
  .simp only[aX] at h
   obtain⟨rfl,rfl⟩:=h
   exact⟨ae _,h1,by omega,λhb=>by cases hb⟩
theorem aZB{k:Int}{ws:List (List UInt8)}(h:ac7 l i=some (k,ws)):I64 k/\1<=ws.length:=by
 unfold ac7 at h
 split at h
 .cases h;exact⟨i3,by decide⟩
 split at h
 .cases h;exact⟨⟨by decide,by decide⟩,by decide⟩
 split at h
 .cases h;exact⟨⟨by decide,by decide⟩,by decide⟩
 split at h
 .cases h;exact⟨⟨by decide,by decide⟩,by decide⟩
 .cases h
theorem akh{i0 c:Nat}(h:FOk l F (i0+1)):∀ n a i,l.length<n+i->i0<=i->i<=l.length->adg a->fmW a+PW l i0<=PW l i+c->FF l i0 c (acz F l n a i)
 | 0,a,i,hf,_,h2,_,_=>by omega
 | n+1,a,i,hf,h1,h2,h3,h4=>by
  unfold acz
  split
  .exact .go h1 h2 h3 h4
  .rename_i k ws e
   obtain⟨hk,hws⟩:=aZB e
   unfold wantR
   split
   .rename_i j e2
    obtain⟨q1,q2,q3,q4⟩:=aqh ws i j true e2 h2
    exact .bad aC q2 h3 aC
   .rename_i j e2
    obtain⟨q1,q2,q3,q4⟩:=aqh ws i j false e2 h2
    have q4:=q4 rfl
    refine (auB (h.mono aC) q2).on aC (λy m hy h5 h6 h7=>⟨h3,by omega⟩) λb m hb h5 h6 h7=>?_
    have hk0:∀ y,dv y->adg (.mk k [] [] [] [a,b] y):=λy hy=>(awK ..).2 ⟨hk,trivial,⟨h3,hb,trivial⟩,hy⟩
    have hw0:∀ y,fmW (.mk k [] [] [] [a,b] y)=fmW a+fmW b+cP y+7:=λy=>by rw[aFr,aJs];simp only[aaV,aW];omega
    split
    .exact akh h n _ m aC aC h6 (hk0 [] trivial) (by rw[hw0];simp only[cP];omega)
    split
    .rename_i g
     obtain⟨g1,g2⟩:=isT_at g
     refine (h.or0 (m+1) aC g1).on aC (λy p hy h8 h9 h10=>⟨hk0 _ (aby hy),by rw[hw0,ab8];omega⟩) λy p hy h8 h9 h10=>?_
     exact akh h n _ p aC aC h9 (hk0 _ (aby hy)) (by rw[hw0,ab8];omega)
    .exact .bad aC h6 h3 aC
theorem ar7(h:FOk l F (i+1))(h1:i<=l.length)(pre:List Fm)(hp:ac9 pre):FF l i (ab4 pre) (adT F l i pre):=by
 cases pre with
 | cons x r =>
  simp only[ac9] at hp
  exact akh h _ _ i aC (ae _) h1 hp.1 (by simp only[ab4];omega)
 | nil =>
  simp only[adT,ab4]
  exact (auB h h1).on (ae _) (λy j hy _ _ h=>⟨hy,h⟩) λy j hy h5 h6 h7=>akh h _ _ j aC h5 h6 hy h7
theorem asn{i0 c:Nat}(h:FOk l F (i0+1)):∀ n a i,l.length<n+i->i0<=i->i<=l.length->adg a->fmW a+PW l i0<=PW l i+c->FF l i0 c (aed F l n a i)
 | 0,a,i,hf,_,h2,_,_=>by omega
 | n+1,a,i,hf,h1,h2,h3,h4=>by
  unfold aed
  split
  .rename_i e
   obtain⟨e1,e2⟩:=isT_at e
   have hw0:∀ b,fmW (.mk 3 [] [] [] [a,b] [])=fmW a+fmW b+7:=λb=>by rw[aFr,aJs];simp only[aaV,cP,aW];omega
   have hk0:∀ b,adg b->adg (.mk 3 [] [] [] [a,b] []):=λb hb=>(awK ..).2 ⟨i3,trivial,⟨h3,hb,trivial⟩,trivial⟩
   refine (ar7 (h.mono aC) e1 [] trivial).on aC (λy j hy h5 h6 h7=>⟨hk0 y hy,by simp only[ab4] at h7;rw[hw0];omega⟩) λy j hy h5 h6 h7=>?_
   simp only[ab4] at h7
   exact asn h n _ j aC aC h6 (hk0 y hy) (by rw[hw0];omega)
  .exact .go h1 h2 h3 h4
theorem aFq(h:FOk l F (i+1))(h1:i<=l.length)(pre:List Fm)(hp:ac9 pre):FF l i (ab4 pre) (ahi F l i pre) :=
 (ar7 h h1 pre hp).on (ae _) (λy j hy _ _ h=>⟨hy,h⟩) λy j hy h5 h6 h7=>asn h _ _ j aC h5 h6 hy h7
theorem axI(h:FOk l F (i+1))(h1:i<=l.length)(hf:FF l i 0 (F.fr i []))(hq:dC l i 0 qyW fG (F.qy i [])):dC l i 50 (λt=>qyW t.y+fmW t.f) ajZ (ac2 F l i):=by
 have wQ:∀ a,qyW (Th.ofQ a).y+fmW (Th.ofQ a).f=qyW a+7:=λa=>by rw[← aN7];rfl
 have wF:∀ a,qyW (Th.ofF a).y+fmW (Th.ofF a).f=fmW a+13:=λa=>by rw[eJ,← aKL];rfl
 unfold ac2
 split
 .exact hq.to (ae _) λa j d ha _ h5=>⟨arR ha,by rw[wQ];omega⟩
 split
 .rename_i e
  obtain⟨e1,e2⟩:=isT_at e
  refine (asO h e1 e2 (c:=0)).on (ae _) (λt j ht h5 h6 h7=>⟨ht,by simp only[id];omega⟩) λt j ht h5 h6 h7=>?_
  have hj:i+1<=j:=by
   rcases aD i j with q|q
   .omega
   .exfalso
    have:j=i:=by omega
    subst this;omega
  split
  .exact .go h5 h6 ht aC
  split
  .exact (h.qy j [t.y] hj h6 (amN ht.1)).to aC λa m d ha _ h8=>⟨arR ha,by rw[aoq] at h8;rw[wQ];omega⟩
  split
  .refine (aqb (i0:=j) (c:=qyW t.y+20) ht.1 (ae _) h6 aC).on h5 (λf m hf h8 h9 h10=>⟨ht,by have:=afH (l:=l) h8;omega⟩) λf m hf h8 h9 h10=>?_
   have hm:i+1<=m:=by omega
   exact (h.fr m [f] hm h9 (auk hf)).to aC λa p d ha _ h11=>⟨ayb ha,by rw[ayS] at h11;rw[wF];omega⟩
  .exact (h.fr j [t.f] hj h6 (auk ht.2.2)).to aC λa p d ha _ h11=>⟨ayb ha,by rw[ayS] at h11;rw[wF];omega⟩
 .exact hf.to (ae _) λa j d ha _ h5=>⟨ayb ha,by rw[wF];omega⟩
end
structure Ful (l:List Tn) (F:Fs) (m:Nat):Prop where
 lo:∀ i,i<=l.length->2*(l.length-i)+1<=m->(∀ pre,dv pre->FX l i (cP pre) (F.or i pre))/\FX l i 0 (F.no i)/\FX l i 0 (F.un i)/\(∀ pre,acm pre->FQ l i (aaV pre) (F.qy i pre))/\(∀ pre,ac9 pre->FF l i (ab4 pre) (F.fr i pre))
 hi:∀ i,i<=l.length->2*(l.length-i)+2<=m->dC l i 50 (λt=>xpW t.val) ajZ (F.ins i)/\dC l i 50 (λt=>qyW t.y+fmW t.f) ajZ (F.so i)
theorem Ful.from{l:List Tn}{F:Fs}{m i:Nat}(h:Ful l F m)(hm:2*(l.length-i)+2<=m):FOk l F i where
 or j p h1 h2:=(h.lo j h2 aC).1 p
 no j h1 h2:=(h.lo j h2 aC).2.1
 un j h1 h2:=(h.lo j h2 aC).2.2.1
 qy j p h1 h2:=(h.lo j h2 aC).2.2.2.1 p
 fr j p h1 h2:=(h.lo j h2 aC).2.2.2.2 p
 ins j h1 h2:=(h.hi j h2 aC).1
 so j h1 h2:=(h.hi j h2 aC).2
theorem ful{l:List Tn}(hl:∀ t∈l,I64 t.n):∀ m,Ful l (ahh l m) m
 | 0=>⟨λi _ h=>by omega,λi _ h=>by omega⟩
 | m+1=>by
  have ih:=ful hl m
  have hF:∀ i,i<=l.length->2*(l.length-i)+1<=m+1->FOk l (ahh l m) (i+1):=λi h1 h2=>by
   rcases aD i l.length with q|q
   .exact ih.from aC
   .exact⟨λj _ a b=>by omega,λj a b=>by omega,λj a b=>by omega,λj _ a b=>by omega,λj a b=>by omega,λj _ a b=>by omega,λj a b=>by omega⟩
  refine⟨λi h1 h2=>?_,λi h1 h2=>?_⟩
  .have h:=hF i h1 h2
   exact⟨λpre hp=>aMg hl h h1 pre hp,aox hl h h1 [] trivial,an6 hl h h1 [] trivial,λpre hp=>aAF hl h h1 pre hp,λpre hp=>aFq h h1 pre hp⟩
  .have h:=hF i h1 aC
   have q:=ih.lo i h1 aC
   exact⟨aJf h h1 (q.1 [] trivial) (q.2.2.2.1 [] trivial),axI h h1 (q.2.2.2.2 [] trivial) (q.2.2.2.1 [] trivial)⟩

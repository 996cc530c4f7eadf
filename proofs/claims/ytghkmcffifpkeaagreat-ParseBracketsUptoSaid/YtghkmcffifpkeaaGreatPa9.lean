/- A part. Conditions: none. -/
import Derived.Test.YtghkmcffifpkeaaGreatPa8
set_option linter.all false
set_option maxRecDepth 100000
set_option maxHeartbeats 64000000
namespace Go.Proofs.YtghkmcffifpkeaaGreat
open Pe Tab
def a0G(l:List Tn)(n:Nat)(os:List Od)(i:Nat):byL l (n+1) os i=match byR l i with
 | some (o,j,false)=>if isT l j [44] then byL l n (os++[o]) (j+1) else some (os++[o],j,false)
 | _=>some ([],i,true):=by
 show (if _ then _ else _)=_
 unfold byR
 by_cases c:(bq l i 2||(bq l i 3&&decide (0<nuT l i)))=true
 .rw[au c,au c]
  simp only[ca,aD]
 .rw[ar c,ar c]
def byM(l:List Tn)(n:Nat)(os:List Od)(j:Nat):Rz (List Od):=if isT l j [44] then byL l n os (j+1) else some (os,j,false)
def av4(l:List Tn)(n:Nat)(os:List Od)(i:Nat)(h:∀ q,byR l i=some q->q.2.2=true->q.2.1=i:=by intro q h;unfold byR at h;split at h <;> (cases h;intro h;first|rfl|cases h)):byL l (n+1) os i=(byR l i).on (λ_=>[]) λo j=>byM l n (os++[o]) j:=by
 rw[a0G]
 cases e:byR l i with
 | none=>unfold byR at e;split at e <;> cases e
 | some q =>
  obtain⟨o,j,b⟩:=q
  cases b with
  | true=>have:=h _ e rfl;dsimp only at this;rw[this];rfl
  | false=>rfl
def anV(l:List Tn)(q:Qy)(j:Nat):Rz Qy :=
 if asG q&&ca l j [[111,114,100,101,114],[108,105,109,105,116],[111,102,102,115,101,116]] then some (q,j,true)
 else if isT l j [111,114,100,101,114] then (ajg l (j+1)).on (λ_=>q) λo m=>ad2 l q o m
 else ad2 l q q.od j
def anA(F:Fs)(l:List Tn)(i:Nat)(pre:List Qy):aeg F l i pre=(aam F l i pre).on id λa j=>(acU (aam F l) l [([117,110,105,111,110],2),([101,120,99,101,112,116],4)] (l.length+1) a j).on id λq j=>anV l q j:=by
 show (ahq F l i pre).on id (λq j=>anV l q j)=_
 unfold ahq ahs
 cases e:aam F l i pre with
 | none=>rfl
 | some q =>
  obtain⟨a,j,b⟩:=q
  cases b <;> rfl
abbrev asJ(q:Qy)(os:List Od)(r:Nat):List X:=[.of (ci q.op),.of (cb q.al),.of (slC qyC q.ks),.of (cb q.di),.of (slC imC q.its),.of (slC fmC q.fr),.of (slC xpC q.wh),.of (slC xpC q.gr),.of (slC xpC q.hv),.own (.cell r 9) 126 3 (fl odC os) os.length,.of (ci q.li),.of (ci q.sk)]
def ab5:=gm (gv @Tryz.f39.eq_1 @zq @a9B @bbQ @a9A @ayp @alm @a0n) (gv @akq @abO @aeo @bbP @ba1 @aSe @acj @a0m) (gv @eo @acu @aaO @aaN @aaM @aaL @aaK @aaJ) (gu @agB @aiH @bQ @P3 @Q3 @zT0 (kf ax0))
def aC8{l:List Tn}{e:Int}{F:Fs}(hl:l.length<LB)(H:PY l e F)(i:Nat)(r:Qy×Nat×Bool)(hi:i<=l.length)(hr:aeg F l i []=some r):GP 39 [.ptr 0 0] [pT l i e] l e [] qyE i r:=by
 refine⟨Pl.at (anz H.fp hi) hr,?_⟩
 rw[anA] at hr
 cases e1:aam F l i [] with
 | none=>rw[e1] at hr;cases hr
 | some q =>
 obtain⟨a,j,q⟩:=q
 have g:=ahL hl H i _ hi e1
 obtain⟨u,v⟩:=g.1
 dsimp only at u v
 rw[e1] at hr
 cases q with
 | true =>
  have k:=g.bad
  cases hr
  refine bB ax0 ?_
  simp only[↓zA,sevalprocAttr,ab5,bw,pT,zP,k]
  all_goals exact fz
 | false =>
 have k:=g.ok
 simp only[Rz.on] at hr
 refine bB ax0 ?_
 simp only[↓zA,sevalprocAttr,ab5,bw,pT,k]
 refine fX _ _ (λn s=>∃ q j,s.fr 0=.ptr 0 0/\s.fr 2=.ptr 1 0/\s.fr 3=.ptr 2 0/\s.objs=[pT l j e,.var 38 qyZ,.var 38 (qyV q)]/\(acU (aam F l) l [([117,110,105,111,110],2),([101,120,99,101,112,116],4)] n q j).on id (λq j=>anV l q j)=some r/\j<=l.length) ?_ (l.length+1) _ ?_
 .rintro n ⟨frn,obn,ckn⟩ ⟨q,j,f0,f2,f3,fo,E,hj⟩
  dsimp only at f0 f2 f3 fo
  cases n with
  | zero=>simp only[acU,Rz.on] at E;cases E
  | succ n =>
  simp only[acU,opT] at E
  cases cu:isT l j [117,110,105,111,110] with
  | true =>
   have hj1:=ft cu
   have hw:=fq j (by unfold LB at hl;omega)
   have tU:=aB2 l j e [117,110,105,111,110] [101,120,99,101,112,116] hl hj (b:=true) (by simp only[ca,cu,aD,eA])
   have tI:=sK l j e [117,110,105,111,110] hl hj
   rw[cu] at tI
   simp only[cu,am] at E
   cases e2:aam F l (if isT l (j+1) [97,108,108]=true then j+2 else j+1) [] with
   | none=>rw[e2] at E;cases E
   | some r2 =>
   have g2:=ah3 (e:=e) hl 149 74 aI (aF aI) avG aCH arJ (aam F l) (λi r h1 h2=>ahL hl H i r h1 h2) 2 (ci q.op) (cb q.al) (slC qyC q.ks) (cb q.di) (slC imC q.its) (slC fmC q.fr) (slC xpC q.wh) (slC xpC q.gr) (slC xpC q.hv) (slC odC q.od) (ci q.li) (ci q.sk) (j+1) r2 aC e2
   obtain⟨y,j2,q2⟩:=r2
   obtain⟨u2,v2⟩:=g2.1
   dsimp only at u2 v2
   rw[e2] at E
   cases q2 with
   | true =>
    have k2:=g2.bad
    cases E
    simp only[↓zA,sevalprocAttr,ab5,pT,zP,zBS,f0,f3,fo,hw,tU,tI,k2]
    all_goals exact fz
   | false =>
    have k2:=g2.ok
    simp only[Rz.on] at E
    simp only[↓zA,sevalprocAttr,ab5,pT,zBS,f0,f2,f3,fo,hw,tU,tI,k2]
    refine⟨n,aO n,_,j2,?_,E,v2⟩
    simp only[qyV,qyL]
    simp only[zVW]
    all_goals rfl
  | false =>
  cases cx:isT l j [101,120,99,101,112,116] with
  | true =>
   have hj1:=ft cx
   have hw:=fq j (by unfold LB at hl;omega)
   have tU:=aB2 l j e [117,110,105,111,110] [101,120,99,101,112,116] hl hj (b:=true) (by simp only[ca,cu,cx,aD,bh])
   have tI:=sK l j e [117,110,105,111,110] hl hj
   rw[cu] at tI
   simp only[cu,cx,am,av,ah] at E
   cases e2:aam F l (if isT l (j+1) [97,108,108]=true then j+2 else j+1) [] with
   | none=>rw[e2] at E;cases E
   | some r2 =>
   have g2:=ah3 (e:=e) hl 149 74 aI (aF aI) avG aCH arJ (aam F l) (λi r h1 h2=>ahL hl H i r h1 h2) 4 (ci q.op) (cb q.al) (slC qyC q.ks) (cb q.di) (slC imC q.its) (slC fmC q.fr) (slC xpC q.wh) (slC xpC q.gr) (slC xpC q.hv) (slC odC q.od) (ci q.li) (ci q.sk) (j+1) r2 aC e2
   obtain⟨y,j2,q2⟩:=r2
   obtain⟨u2,v2⟩:=g2.1
   dsimp only at u2 v2
   rw[e2] at E
   cases q2 with
   | true =>
    have k2:=g2.bad
    cases E
    simp only[↓zA,sevalprocAttr,ab5,pT,zP,zBS,f0,f3,fo,hw,tU,tI,k2]
    all_goals exact fz
   | false =>
    have k2:=g2.ok
    simp only[Rz.on] at E
    simp only[↓zA,sevalprocAttr,ab5,pT,zBS,f0,f2,f3,fo,hw,tU,tI,k2]
    refine⟨n,aO n,_,j2,?_,E,v2⟩
    simp only[qyV,qyL]
    simp only[zVW]
    all_goals rfl
  | false =>
   have tU:=aB2 l j e [117,110,105,111,110] [101,120,99,101,112,116] hl hj (b:=false) (by simp only[ca,cu,cx,aD])
   simp only[cu,cx,ah,av,Rz.on] at E
   rcases eWX l j e [111,114,100,101,114] hl with ⟨c1,b1,t1,x1⟩|⟨c1,t1⟩
   have z2:=aB3 l j e [111,114,100,101,114] [108,105,109,105,116] [111,102,102,115,101,116] hl hj (b:=true) (by simp only[ca,c1,x1,uL,sevalprocAttr,cI,fv,aD])
   have w2:ca l j [[111,114,100,101,114],[108,105,109,105,116],[111,102,102,115,101,116]]=true:=by simp only[ca,c1,x1,uL,sevalprocAttr,cI,fv,aD]
   have hq1:((0:Int)<(q.od.length:Int))=(0<q.od.length):=ba 0 _
   have gk:=gK l j e hl hj
   rcases eP (0<q.od.length) with ⟨c3,d3⟩|⟨c3,d3⟩
   rotate_left
   rcases cd (q.li=-1) with d4|d4
   rcases eP (0<q.sk) with ⟨c5,d5⟩|⟨c5,d5⟩
   rotate_left
   rcases eWX l (j+1) e [98,121] hl with ⟨c6,b6,t6,x6⟩|⟨c6,t6⟩
   simp only[anV,asG,ajg,aD,fR,aaX,zRZ,sevalprocAttr,↓reduceIte,c1,w2,d3,d4,d5,c6] at E
   rw[show l.length+1=l.length+1 from rfl,av4] at E
   rcases eR (byR l (j+2)) λ_=>ao0 e hl H.tl _ _ aC with e8|⟨a8,j8,e8,⟨u8,v8⟩,k8⟩|⟨a8,j8,e8,⟨u8,v8⟩,k8⟩
   rotate_left
   .simp only[e8,Rz.on] at E
    cases E
    simp only[↓zA,sevalprocAttr,ab5,pT,zP,zBS,be,zLX, *]
    all_goals exact fz
   .simp only[e8,Rz.on,ch] at E
    simp only[↓zA,sevalprocAttr,ab5,pT,zBS,be, *]
    refine fX _ _ (λn s=>∃ os j,s.fr 0=.ptr 0 0/\s.fr 2=.ptr 1 0/\s.fr 3=.ptr 2 0/\s.objs=[pT l j e,.var 38 qyZ,.var 38 (asJ q os 2)]/\(byM l n os j).on (λ_=>q) (λo m=>ad2 l q o m)=some r/\j<=l.length/\os.length<=j) ?_ l.length _ ?_
    .rintro n ⟨frn,obn,ckn⟩ ⟨os,j,f0,f2,f3,fo,E,hj,hk⟩
     dsimp only at f0 f2 f3 fo
     have hos:(os.length+1<=LIM)=True:=aa (by unfold LIM;unfold LB at hl;omega)
     rcases eWX l j e [44] hl with ⟨c9,b9,t9,x9⟩|⟨c9,t9⟩
     .cases n with
      | zero=>simp only[byM,c9,am,byL,Rz.on] at E;cases E
      | succ m =>
      simp only[byM,c9,am] at E
      rw[av4] at E
      rcases eR (byR l (j+1)) λ_=>ao0 e hl H.tl _ _ aC with e10|⟨a10,j10,e10,⟨u10,v10⟩,k10⟩|⟨a10,j10,e10,⟨u10,v10⟩,k10⟩
      rotate_left
      .simp only[e10,Rz.on] at E
       cases E
       simp only[↓zA,sevalprocAttr,ab5,pT,zP,be,zLX, *]
       all_goals exact fz
      .simp only[e10,Rz.on] at E
       simp only[↓zA,sevalprocAttr,ab5,pT,zP,be,zLX,dV, *]
       refine⟨m,aO m,os++[a10],j10,?_,E,v10,by simp only[aey];omega⟩
       simp only[asJ]
       simp only[zVW]
       all_goals rfl
      all_goals (simp only[byM,ad2,afB,zRZ,sevalprocAttr, *] at E <;> cases E)
     rcases eWX l j e [108,105,109,105,116] hl with _|_
     rcases aje l (j+1) e hl with _|_
     rcases eWX l (j+2) e [111,102,102,115,101,116] hl with _|_
     rcases aje l (j+3) e hl with _|_
     rotate_left 4
     rcases eWX l j e [111,102,102,115,101,116] hl with _|_
     rcases aje l (j+1) e hl with _|_
     rotate_left 3
     all_goals (simp only[byM,ad2,afB,zRZ,sevalprocAttr,↓reduceIte, *] at E <;> cases E <;> (simp only[↓zA,sevalprocAttr,ab5,pT,zP,be,zLX, *];all_goals exact fz))
    .simp only[↓zA,sevalprocAttr,ab5,pT,f0,f2,f3]
     refine⟨[a8],j8,?_,E,v8,by simp only[abf];omega⟩
     simp only[asJ]
     simp only[zVW]
     all_goals rfl
   rotate_left 2
   rcases eWX l j e [108,105,109,105,116] hl with ⟨c17,b17,t17,x17⟩|⟨c17,t17⟩
   have z18:=aB3 l j e [111,114,100,101,114] [108,105,109,105,116] [111,102,102,115,101,116] hl hj (b:=true) (by simp only[ca,c1,c17,x17,uL,sevalprocAttr,cI,aD,bh])
   have w18:ca l j [[111,114,100,101,114],[108,105,109,105,116],[111,102,102,115,101,116]]=true:=by simp only[ca,c1,c17,x17,uL,sevalprocAttr,cI,aD,bh]
   have hq1:((0:Int)<(q.od.length:Int))=(0<q.od.length):=ba 0 _
   have gk:=gK l j e hl hj
   rcases eP (0<q.od.length) with ⟨c19,d19⟩|⟨c19,d19⟩
   rotate_left
   rcases cd (q.li=-1) with d20|d20
   rcases eP (0<q.sk) with ⟨c21,d21⟩|⟨c21,d21⟩
   rotate_left
   rcases aje l (j+1) e hl with _|_
   rcases eWX l (j+2) e [111,102,102,115,101,116] hl with _|_
   rcases aje l (j+3) e hl with _|_
   rotate_left 5
   rcases eWX l j e [111,102,102,115,101,116] hl with ⟨c25,b25,t25,x25⟩|⟨c25,t25⟩
   have z26:=aB3 l j e [111,114,100,101,114] [108,105,109,105,116] [111,102,102,115,101,116] hl hj (b:=true) (by simp only[ca,c1,c17,c25,sevalprocAttr,aD,bh])
   have w26:ca l j [[111,114,100,101,114],[108,105,109,105,116],[111,102,102,115,101,116]]=true:=by simp only[ca,c1,c17,c25,sevalprocAttr,aD,bh]
   have hq1:((0:Int)<(q.od.length:Int))=(0<q.od.length):=ba 0 _
   have gk:=gK l j e hl hj
   rcases eP (0<q.od.length) with ⟨c27,d27⟩|⟨c27,d27⟩
   rotate_left
   rcases cd (q.li=-1) with d28|d28
   rcases eP (0<q.sk) with ⟨c29,d29⟩|⟨c29,d29⟩
   rotate_left
   rcases aje l (j+1) e hl with _|_
   rotate_left 3
   have z31:=aB3 l j e [111,114,100,101,114] [108,105,109,105,116] [111,102,102,115,101,116] hl hj (b:=false) (by simp only[ca,c1,c17,c25,sevalprocAttr,aD])
   have w31:ca l j [[111,114,100,101,114],[108,105,109,105,116],[111,102,102,115,101,116]]=false:=by simp only[ca,c1,c17,c25,sevalprocAttr,aD]
   rotate_left
   all_goals (simp only[anV,asG,ajg,ad2,afB,aD,eA,bh,fR,aaX,aaY,decide_not,zRZ,sevalprocAttr,↓reduceIte, *] at E <;> cases E <;> (simp only[↓zA,sevalprocAttr,ab5,pT,zP,zBS,be,zLX, *];all_goals exact fz))
 .simp only[↓zA,sevalprocAttr,ab5,pT]
  exact⟨a,j,rfl,hr,v⟩
def azz{l:List Tn}{e:Int}{F:Fs}(hl:l.length<LB)(H:PY l e F)(i:Nat)(x:Qy)(cs:List C)(hx:cs=qyC x)(r:Qy×Nat×Bool)(hi:i<=l.length)(hr:aeg F l i [x]=some r):GP 39 [.ptr 0 0] [pTq l i e,.row 38 cs] l e deQ qyE i r:=by
 refine⟨Pl.at (anz H.fp hi) hr,?_⟩
 rw[anA] at hr
 have lv:ac5 (some (.row 38 cs))=true:=by rw[hx,adK];rfl
 cases e1:aam F l i [x] with
 | none=>rw[e1] at hr;cases hr
 | some q =>
 obtain⟨a,j,q⟩:=q
 have g:=azS hl H i x cs hx _ hi e1
 obtain⟨u,v⟩:=g.1
 dsimp only at u v
 rw[e1] at hr
 cases q with
 | true =>
  have k:=g.bad
  cases hr
  refine bB ax0 ?_
  simp only[↓zA,sevalprocAttr,ab5,bw,pT,pTq,zP,k,lv]
  all_goals exact fz
 | false =>
 have k:=g.ok
 simp only[Rz.on] at hr
 refine bB ax0 ?_
 simp only[↓zA,sevalprocAttr,ab5,bw,pT,pTq,k,lv]
 refine fX _ _ (λn s=>∃ q j,s.fr 0=.ptr 0 0/\s.fr 2=.ptr 2 0/\s.fr 3=.ptr 3 0/\s.objs=[pT l j e,.row 38 [],.var 38 qyZ,.var 38 (qyV q)]/\(acU (aam F l) l [([117,110,105,111,110],2),([101,120,99,101,112,116],4)] n q j).on id (λq j=>anV l q j)=some r/\j<=l.length) ?_ (l.length+1) _ ?_
 .rintro n ⟨frn,obn,ckn⟩ ⟨q,j,f0,f2,f3,fo,E,hj⟩
  dsimp only at f0 f2 f3 fo
  cases n with
  | zero=>simp only[acU,Rz.on] at E;cases E
  | succ n =>
  simp only[acU,opT] at E
  cases cu:isT l j [117,110,105,111,110] with
  | true =>
   have hj1:=ft cu
   have hw:=fq j (by unfold LB at hl;omega)
   have tU:=aB2 l j e [117,110,105,111,110] [101,120,99,101,112,116] hl hj (b:=true) (by simp only[ca,cu,aD,eA])
   have tI:=sK l j e [117,110,105,111,110] hl hj
   rw[cu] at tI
   simp only[cu,am] at E
   cases e2:aam F l (if isT l (j+1) [97,108,108]=true then j+2 else j+1) [] with
   | none=>rw[e2] at E;cases E
   | some r2 =>
   have g2:=ah3 (e:=e) hl 149 74 aI (aF aI) avG aCH arJ (aam F l) (λi r h1 h2=>ahL hl H i r h1 h2) 2 (ci q.op) (cb q.al) (slC qyC q.ks) (cb q.di) (slC imC q.its) (slC fmC q.fr) (slC xpC q.wh) (slC xpC q.gr) (slC xpC q.hv) (slC odC q.od) (ci q.li) (ci q.sk) (j+1) r2 aC e2
   obtain⟨y,j2,q2⟩:=r2
   obtain⟨u2,v2⟩:=g2.1
   dsimp only at u2 v2
   rw[e2] at E
   cases q2 with
   | true =>
    have k2:=g2.bad
    cases E
    simp only[↓zA,sevalprocAttr,ab5,pT,zP,zBS,f0,f3,fo,hw,tU,tI,k2]
    all_goals exact fz
   | false =>
    have k2:=g2.ok
    simp only[Rz.on] at E
    simp only[↓zA,sevalprocAttr,ab5,pT,zBS,f0,f2,f3,fo,hw,tU,tI,k2]
    refine⟨n,aO n,_,j2,?_,E,v2⟩
    simp only[qyV,qyL]
    simp only[zVW]
    all_goals rfl
  | false =>
  cases cx:isT l j [101,120,99,101,112,116] with
  | true =>
   have hj1:=ft cx
   have hw:=fq j (by unfold LB at hl;omega)
   have tU:=aB2 l j e [117,110,105,111,110] [101,120,99,101,112,116] hl hj (b:=true) (by simp only[ca,cu,cx,aD,bh])
   have tI:=sK l j e [117,110,105,111,110] hl hj
   rw[cu] at tI
   simp only[cu,cx,am,av,ah] at E
   cases e2:aam F l (if isT l (j+1) [97,108,108]=true then j+2 else j+1) [] with
   | none=>rw[e2] at E;cases E
   | some r2 =>
   have g2:=ah3 (e:=e) hl 149 74 aI (aF aI) avG aCH arJ (aam F l) (λi r h1 h2=>ahL hl H i r h1 h2) 4 (ci q.op) (cb q.al) (slC qyC q.ks) (cb q.di) (slC imC q.its) (slC fmC q.fr) (slC xpC q.wh) (slC xpC q.gr) (slC xpC q.hv) (slC odC q.od) (ci q.li) (ci q.sk) (j+1) r2 aC e2
   obtain⟨y,j2,q2⟩:=r2
   obtain⟨u2,v2⟩:=g2.1
   dsimp only at u2 v2
   rw[e2] at E
   cases q2 with
   | true =>
    have k2:=g2.bad
    cases E
    simp only[↓zA,sevalprocAttr,ab5,pT,zP,zBS,f0,f3,fo,hw,tU,tI,k2]
    all_goals exact fz
   | false =>
    have k2:=g2.ok
    simp only[Rz.on] at E
    simp only[↓zA,sevalprocAttr,ab5,pT,zBS,f0,f2,f3,fo,hw,tU,tI,k2]
    refine⟨n,aO n,_,j2,?_,E,v2⟩
    simp only[qyV,qyL]
    simp only[zVW]
    all_goals rfl
  | false =>
   have tU:=aB2 l j e [117,110,105,111,110] [101,120,99,101,112,116] hl hj (b:=false) (by simp only[ca,cu,cx,aD])
   simp only[cu,cx,ah,av,Rz.on] at E
   rcases eWX l j e [111,114,100,101,114] hl with ⟨c1,b1,t1,x1⟩|⟨c1,t1⟩
   have z2:=aB3 l j e [111,114,100,101,114] [108,105,109,105,116] [111,102,102,115,101,116] hl hj (b:=true) (by simp only[ca,c1,x1,uL,sevalprocAttr,cI,fv,aD])
   have w2:ca l j [[111,114,100,101,114],[108,105,109,105,116],[111,102,102,115,101,116]]=true:=by simp only[ca,c1,x1,uL,sevalprocAttr,cI,fv,aD]
   have hq1:((0:Int)<(q.od.length:Int))=(0<q.od.length):=ba 0 _
   have gk:=gK l j e hl hj
   rcases eP (0<q.od.length) with ⟨c3,d3⟩|⟨c3,d3⟩
   rotate_left
   rcases cd (q.li=-1) with d4|d4
   rcases eP (0<q.sk) with ⟨c5,d5⟩|⟨c5,d5⟩
   rotate_left
   rcases eWX l (j+1) e [98,121] hl with ⟨c6,b6,t6,x6⟩|⟨c6,t6⟩
   simp only[anV,asG,ajg,aD,fR,aaX,zRZ,sevalprocAttr,↓reduceIte,c1,w2,d3,d4,d5,c6] at E
   rw[show l.length+1=l.length+1 from rfl,av4] at E
   rcases eR (byR l (j+2)) λ_=>ao0 e hl H.tl _ _ aC with e8|⟨a8,j8,e8,⟨u8,v8⟩,k8⟩|⟨a8,j8,e8,⟨u8,v8⟩,k8⟩
   rotate_left
   .simp only[e8,Rz.on] at E
    cases E
    simp only[↓zA,sevalprocAttr,ab5,pT,zP,zBS,be,zLX, *]
    all_goals exact fz
   .simp only[e8,Rz.on,ch] at E
    simp only[↓zA,sevalprocAttr,ab5,pT,zBS,be, *]
    refine fX _ _ (λn s=>∃ os j,s.fr 0=.ptr 0 0/\s.fr 2=.ptr 2 0/\s.fr 3=.ptr 3 0/\s.objs=[pT l j e,.row 38 [],.var 38 qyZ,.var 38 (asJ q os 3)]/\(byM l n os j).on (λ_=>q) (λo m=>ad2 l q o m)=some r/\j<=l.length/\os.length<=j) ?_ l.length _ ?_
    .rintro n ⟨frn,obn,ckn⟩ ⟨os,j,f0,f2,f3,fo,E,hj,hk⟩
     dsimp only at f0 f2 f3 fo
     have hos:(os.length+1<=LIM)=True:=aa (by unfold LIM;unfold LB at hl;omega)
     rcases eWX l j e [44] hl with ⟨c9,b9,t9,x9⟩|⟨c9,t9⟩
     .cases n with
      | zero=>simp only[byM,c9,am,byL,Rz.on] at E;cases E
      | succ m =>
      simp only[byM,c9,am] at E
      rw[av4] at E
      rcases eR (byR l (j+1)) λ_=>ao0 e hl H.tl _ _ aC with e10|⟨a10,j10,e10,⟨u10,v10⟩,k10⟩|⟨a10,j10,e10,⟨u10,v10⟩,k10⟩
      rotate_left
      .simp only[e10,Rz.on] at E
       cases E
       simp only[↓zA,sevalprocAttr,ab5,pT,zP,be,zLX, *]
       all_goals exact fz
      .simp only[e10,Rz.on] at E
       simp only[↓zA,sevalprocAttr,ab5,pT,zP,be,zLX,dV, *]
       refine⟨m,aO m,os++[a10],j10,?_,E,v10,by simp only[aey];omega⟩
       simp only[asJ]
       simp only[zVW]
       all_goals rfl
      all_goals (simp only[byM,ad2,afB,zRZ,sevalprocAttr, *] at E <;> cases E)
     rcases eWX l j e [108,105,109,105,116] hl with _|_
     rcases aje l (j+1) e hl with _|_
     rcases eWX l (j+2) e [111,102,102,115,101,116] hl with _|_
     rcases aje l (j+3) e hl with _|_
     rotate_left 4
     rcases eWX l j e [111,102,102,115,101,116] hl with _|_
     rcases aje l (j+1) e hl with _|_
     rotate_left 3
     all_goals (simp only[byM,ad2,afB,zRZ,sevalprocAttr,↓reduceIte, *] at E <;> cases E <;> (simp only[↓zA,sevalprocAttr,ab5,pT,zP,be,zLX, *];all_goals exact fz))
    .simp only[↓zA,sevalprocAttr,ab5,pT,f0,f2,f3]
     refine⟨[a8],j8,?_,E,v8,by simp only[abf];omega⟩
     simp only[asJ]
     simp only[zVW]
     all_goals rfl
   rotate_left 2
   rcases eWX l j e [108,105,109,105,116] hl with ⟨c17,b17,t17,x17⟩|⟨c17,t17⟩
   have z18:=aB3 l j e [111,114,100,101,114] [108,105,109,105,116] [111,102,102,115,101,116] hl hj (b:=true) (by simp only[ca,c1,c17,x17,uL,sevalprocAttr,cI,aD,bh])
   have w18:ca l j [[111,114,100,101,114],[108,105,109,105,116],[111,102,102,115,101,116]]=true:=by simp only[ca,c1,c17,x17,uL,sevalprocAttr,cI,aD,bh]
   have hq1:((0:Int)<(q.od.length:Int))=(0<q.od.length):=ba 0 _
   have gk:=gK l j e hl hj
   rcases eP (0<q.od.length) with ⟨c19,d19⟩|⟨c19,d19⟩
   rotate_left
   rcases cd (q.li=-1) with d20|d20
   rcases eP (0<q.sk) with ⟨c21,d21⟩|⟨c21,d21⟩
   rotate_left
   rcases aje l (j+1) e hl with _|_
   rcases eWX l (j+2) e [111,102,102,115,101,116] hl with _|_
   rcases aje l (j+3) e hl with _|_
   rotate_left 5
   rcases eWX l j e [111,102,102,115,101,116] hl with ⟨c25,b25,t25,x25⟩|⟨c25,t25⟩
   have z26:=aB3 l j e [111,114,100,101,114] [108,105,109,105,116] [111,102,102,115,101,116] hl hj (b:=true) (by simp only[ca,c1,c17,c25,sevalprocAttr,aD,bh])
   have w26:ca l j [[111,114,100,101,114],[108,105,109,105,116],[111,102,102,115,101,116]]=true:=by simp only[ca,c1,c17,c25,sevalprocAttr,aD,bh]
   have hq1:((0:Int)<(q.od.length:Int))=(0<q.od.length):=ba 0 _
   have gk:=gK l j e hl hj
   rcases eP (0<q.od.length) with ⟨c27,d27⟩|⟨c27,d27⟩
   rotate_left
   rcases cd (q.li=-1) with d28|d28
   rcases eP (0<q.sk) with ⟨c29,d29⟩|⟨c29,d29⟩
   rotate_left
   rcases aje l (j+1) e hl with _|_
   rotate_left 3
   have z31:=aB3 l j e [111,114,100,101,114] [108,105,109,105,116] [111,102,102,115,101,116] hl hj (b:=false) (by simp only[ca,c1,c17,c25,sevalprocAttr,aD])
   have w31:ca l j [[111,114,100,101,114],[108,105,109,105,116],[111,102,102,115,101,116]]=false:=by simp only[ca,c1,c17,c25,sevalprocAttr,aD]
   rotate_left
   all_goals (simp only[anV,asG,ajg,ad2,afB,aD,eA,bh,fR,aaX,aaY,decide_not,zRZ,sevalprocAttr,↓reduceIte, *] at E <;> cases E <;> (simp only[↓zA,sevalprocAttr,ab5,pT,zP,zBS,be,zLX, *];all_goals exact fz))
 .simp only[↓zA,sevalprocAttr,ab5,pT]
  exact⟨a,j,rfl,hr,v⟩
def aum{l:List Tn}(T:TL l)(j:Nat)(q:Qy):abp l j q=some (if (asT l j).2.2=true then (if isT l j [97,115]=true then .mk 2 [] [] [q] [] [] else f0) else .mk 2 [] (asT l j).1 [q] [] [],(asT l j).2.1,(asT l j).2.2):=by
 have ne:∀ i,bq l i 2=true->decide (txT l i=[])=false:=by
  intro i h
  have hb:=aay h
  refine bd ?_
  rw[aqw]
  refine T.s _ (akI hb) ?_
  rwa [fO l i 2 aI,aV] at h
 unfold abp eF asT bT
 cases c:isT l j [97,115] with
 | true =>
  simp only[am]
  cases k:bq l (j+1) 2 with
  | true=>simp only[am,ne _ k,dH,cj,ah,av]
  | false=>simp only[am,av,ah,cX,cY]
 | false =>
  simp only[ah,av]
  cases k:bq l j 2 with
  | true=>simp only[am,ne _ k,dH,cj,ah,av]
  | false=>simp only[am,av,ah,dH,aag,fS]
def aRq:IntKind.i64.wrap (-1)=-1:=by decide
def aNZ:=gm (gv @Tryz.f319.eq_1 @zq @a9f @a5m @aoY @akp @a5l @aEV) (gv @aeo @aQ5 @a5k @baS @aKo @acj @eo @acu) (gv @aaO @aaN @aaM @aaL @aaK @aaJ @er @aoj) (gu @fC @aci @bQ @P4 @Q4 @zT0 (kf aEm))
def aRS(l:List Tn)(i:Nat)(e:Int)(x:Fm)(cs:List C)(hx:cs=fmC x):aH Tryz.prog pr 319 [.ptr 0 0] [pTf l i e,.row 140 cs] ⟨false,[fmE x],[pT l i e,.row 140 []]⟩:=by
 subst hx
 have hw:IntKind.i64.wrap (1-1)=0:=by decide
 refine bB aEm ?_
 simp only[↓zA,sevalprocAttr,aNZ,pT,pTf,awd,a5D,a5s,a5x,E35]
 all_goals exact fz
def aeC{l:List Tn}{e:Int}{F:Fs}(hl:l.length<LB)(H:PY l e F)(i:Nat)(r:Fm×Nat×Bool)(hi:i<=l.length)(hr:adB F l i=some r):GP 319 [.ptr 0 0] [pT l i e] l e [] fmE i r:=by
 refine⟨Pl.at (alv H.fp hi) hr,?_⟩
 rcases eWX l i e [40] hl with _|_
 rcases eR (F.so (i+1)) λ_=>H.so _ _ aC with _|⟨_,_,_⟩|⟨a2,j2,_⟩
 rotate_left 2
 rcases eWX l j2 e [41] hl with _|_
 rcases c4:a2.q with _|_
 rotate_left
 have hc:abp l (j2+1) a2.y=_:=aum H.tl (j2+1) a2.y
 rcases e5:asT l (j2+1) with ⟨a5,j5,_|_⟩
 obtain⟨⟨u5,v5⟩,k5⟩:=(aiD e hl _ _ aC (congrArg some e5)).okA
 rotate_left
 obtain⟨⟨u5,v5⟩,k5⟩:=(aiD e hl _ _ aC (congrArg some e5)).badA
 rotate_left 2
 rcases aeP l i e hl with _|_
 rcases e7:eF l (i+1) with ⟨a7,j7,_|_⟩
 obtain⟨⟨u7,v7⟩,k7⟩:=(aa4 e hl _ _ aC (congrArg some e7)).okA
 rotate_left
 obtain⟨⟨u7,v7⟩,k7⟩:=(aa4 e hl _ _ aC (congrArg some e7)).badA
 rotate_left 2
 all_goals (simp only[adB,agf,nameR,bT,zRZ,sevalprocAttr,↓reduceIte, *] at hr <;> cases hr <;> (refine bB aEm ?_;simp only[↓zA,sevalprocAttr,aNZ,bw,pT,zP,be,zLX,er,eo,aRq, *];all_goals exact fz))
abbrev fmV(a:Fm):List X:=[.of (ci a.kd),.of (aG (aK a.nm)),.of (aG (aK a.az)),.of (slC qyC a.sb),.of (slC fmC a.ks),.of (slC xpC a.on)]
abbrev fmZ:List X:=[.of (ci 0),.of (aG {data:=#[]}),.of (aG {data:=#[]}),.nil,.nil,.nil]
abbrev fmL(b c:Fm):List C:=[ci b.kd,aG (aK b.nm),aG (aK b.az),slC qyC b.sb,slC fmC b.ks,slC xpC b.on,ci c.kd,aG (aK c.nm),aG (aK c.az),slC qyC c.sb,slC fmC c.ks,slC xpC c.on]
abbrev fmO(r:Nat)(k:Int)(b c:Fm):List X:=[.of (ci k),.of (aG {data:=#[]}),.of (aG {data:=#[]}),.nil,.own (.cell r 4) 140 6 (fmL b c) 2,.nil]
abbrev fmP(r:Nat)(k:Int)(b c:Fm)(y:Xp):List X:=[.of (ci k),.of (aG {data:=#[]}),.of (aG {data:=#[]}),.nil,.own (.cell r 4) 140 6 (fmL b c) 2,.own (.cell r 5) 28 9 [ci y.op,ci y.v.k,ci y.v.n,aG y.v.s,aG (aK y.tb),aG (aK y.nm),cb y.di,slC xpC y.ks,slC qyC y.sb] 1]
abbrev fm2(k:Int)(b c:Fm):Fm:=.mk k [] [] [] [b,c] []
abbrev fm3(k:Int)(b c:Fm)(y:Xp):Fm:=.mk k [] [] [] [b,c] [y]
def FmK(r:Nat)(f:Fm)(xs:List X):Prop:=xs=fmV f\/(∃ k b c,f=fm2 k b c/\xs=fmO r k b c)\/∃ k b c y,f=fm3 k b c y/\xs=fmP r k b c y
theorem FmK.trs{r:Nat}{f:Fm}{xs:List X}(h:FmK (r+1) f xs):X.trs some (cf [0] []) xs=xs:=by
 rcases h with h|⟨k,b,c,_,h⟩|⟨k,b,c,y,_,h⟩ <;> (rw[h];rfl)
def aeA:=gj (gu @Tryz.f312.eq_1 @zq @a9j @a6R @a9i @abO @alm) (gu @aeo @baW @aKp @acj @akr @bF @er) (gp @eZ @aci @bQ @zT0 (kf avS))
def aHR{l:List Tn}{e:Int}{F:Fs}(hl:l.length<LB)(H:PY l e F)(i:Nat)(a:Fm)(j:Nat)(r:Fm×Nat×Bool)(hr:acf F l (l.length+1) a j=some r)(v:j<=l.length)
  (k:∀ K,cKp 319 [.ptr 0 0] [pT l i e] K↔K ⟨false,[fmE a],pT l j e::[]⟩):aH Tryz.prog pr 312 [.ptr 0 0] [pT l i e] (bw l e fmE r []):=by
 refine bB avS ?_
 simp only[↓zA,sevalprocAttr,aeA,bw,pT,k,er]
 refine fX _ _ (λn s=>∃ a j xs,FmK 2 a xs/\s.fr 0=.ptr 0 0/\s.fr 2=.ptr 1 0/\s.fr 3=.ptr 2 0/\s.objs=[pT l j e,.var 140 fmZ,.var 140 xs]/\acf F l n a j=some r/\j<=l.length) ?_ (l.length+1) _ ?_
 .rintro n ⟨frn,obn,ckn⟩ ⟨a,j,xs,hx',f0,f2,f3,fo,E,hj⟩
  dsimp only at f0 f2 f3 fo
  have hxt:=hx'.trs
  cases n with
  | zero=>simp only[acf] at E;cases E
  | succ n =>
  simp only[acf] at E
  rcases eWX l j e [99,114,111,115,115] hl with ⟨c1,b1,t1,x1⟩|⟨c1,t1⟩
  rcases eWX l (j+1) e [106,111,105,110] hl with ⟨c2,b2,t2,x2⟩|⟨c2,t2⟩
  rcases eR (adB F l (j+2)) λ_=>aeC hl H _ _ aC with e3|⟨_,_,_⟩|⟨a3,j3,e3,⟨u3,v3⟩,k3⟩
  rotate_left 2
  .simp only[acR,dG,zRZ,sevalprocAttr,↓reduceIte,c1,c2,e3] at E
   rcases hx' with hx'|⟨fk,fb,fc,hx1,hx'⟩|⟨fk,fb,fc,fy,hx1,hx'⟩
   all_goals (subst hx';try subst hx1)
   all_goals (simp only[↓zA,sevalprocAttr,aeA,pT,zP,zBS,be,zLX,er, *])
   all_goals refine⟨n,aO n,_,j3,_,.inr (.inl ⟨3,_,a3,rfl,rfl⟩),?_,E,v3⟩
   all_goals simp only[fmO,fmL,fm2,fm3]
   all_goals simp only[zVW]
   all_goals rfl
  rotate_left
  rcases eWX l j e [105,110,110,101,114] hl with ⟨c4,b4,t4,x4⟩|⟨c4,t4⟩
  rcases eWX l (j+1) e [106,111,105,110] hl with ⟨c5,b5,t5,x5⟩|⟨c5,t5⟩
  rcases eR (adB F l (j+2)) λ_=>aeC hl H _ _ aC with e6|⟨_,_,_⟩|⟨a6,j6,e6,⟨u6,v6⟩,k6⟩
  rotate_left 2
  rcases eWX l j6 e [111,110] hl with ⟨c7,b7,t7,x7⟩|⟨c7,t7⟩
  rcases eR (F.or (j6+1) []) λ_=>H.or _ _ aC with e8|⟨_,_,_⟩|⟨a8,j8,e8,⟨u8,v8⟩,k8⟩
  rotate_left 2
  .simp only[acR,dG,zRZ,sevalprocAttr,↓reduceIte,show ((4:Int)=3)=False from by decide,c1,c4,c5,e6,c7,e8] at E
   rcases hx' with hx'|⟨fk,fb,fc,hx1,hx'⟩|⟨fk,fb,fc,fy,hx1,hx'⟩
   all_goals (subst hx';try subst hx1)
   all_goals (simp only[↓zA,sevalprocAttr,aeA,pT,zP,zBS,be,zLX,bF,er,uL, *])
   all_goals refine⟨n,aO n,_,j8,_,.inr (.inr ⟨4,_,a6,a8,rfl,rfl⟩),?_,E,v8⟩
   all_goals simp only[fmP,fmL,fm2,fm3]
   all_goals simp only[zVW]
   all_goals rfl
  rotate_left 2
  rcases eWX l j e [108,101,102,116] hl with ⟨c9,b9,t9,x9⟩|⟨c9,t9⟩
  rcases eWX l (j+1) e [106,111,105,110] hl with ⟨c10,b10,t10,x10⟩|⟨c10,t10⟩
  rcases eR (adB F l (j+2)) λ_=>aeC hl H _ _ aC with e11|⟨_,_,_⟩|⟨a11,j11,e11,⟨u11,v11⟩,k11⟩
  rotate_left 2
  rcases eWX l j11 e [111,110] hl with ⟨c12,b12,t12,x12⟩|⟨c12,t12⟩
  rcases eR (F.or (j11+1) []) λ_=>H.or _ _ aC with e13|⟨_,_,_⟩|⟨a13,j13,e13,⟨u13,v13⟩,k13⟩
  rotate_left 2
  .simp only[acR,dG,zRZ,sevalprocAttr,↓reduceIte,show ((5:Int)=3)=False from by decide,c1,c4,c9,c10,e11,c12,e13] at E
   rcases hx' with hx'|⟨fk,fb,fc,hx1,hx'⟩|⟨fk,fb,fc,fy,hx1,hx'⟩
   all_goals (subst hx';try subst hx1)
   all_goals (simp only[↓zA,sevalprocAttr,aeA,pT,zP,zBS,be,zLX,bF,er, *])
   all_goals refine⟨n,aO n,_,j13,_,.inr (.inr ⟨5,_,a11,a13,rfl,rfl⟩),?_,E,v13⟩
   all_goals simp only[fmP,fmL,fm2,fm3]
   all_goals simp only[zVW]
   all_goals rfl
  rotate_left 2
  rcases eWX l j e [106,111,105,110] hl with ⟨c14,b14,t14,x14⟩|⟨c14,t14⟩
  rcases eR (adB F l (j+1)) λ_=>aeC hl H _ _ aC with e15|⟨_,_,_⟩|⟨a15,j15,e15,⟨u15,v15⟩,k15⟩
  rotate_left 2
  rcases eWX l j15 e [111,110] hl with ⟨c16,b16,t16,x16⟩|⟨c16,t16⟩
  rcases eR (F.or (j15+1) []) λ_=>H.or _ _ aC with e17|⟨_,_,_⟩|⟨a17,j17,e17,⟨u17,v17⟩,k17⟩
  rotate_left 2
  .simp only[acR,dG,zRZ,sevalprocAttr,↓reduceIte,show ((4:Int)=3)=False from by decide,c1,c4,c9,c14,e15,c16,e17] at E
   rcases hx' with hx'|⟨fk,fb,fc,hx1,hx'⟩|⟨fk,fb,fc,fy,hx1,hx'⟩
   all_goals (subst hx';try subst hx1)
   all_goals (simp only[↓zA,sevalprocAttr,aeA,pT,zP,zBS,be,zLX,bF,er, *])
   all_goals refine⟨n,aO n,_,j17,_,.inr (.inr ⟨4,_,a15,a17,rfl,rfl⟩),?_,E,v17⟩
   all_goals simp only[fmP,fmL,fm2,fm3]
   all_goals simp only[zVW]
   all_goals rfl
  rotate_left 2
  all_goals (simp only[acR,dG,zRZ,sevalprocAttr,↓reduceIte,show ((4:Int)=3)=False from by decide,show ((5:Int)=3)=False from by decide, *] at E <;> cases E <;> (rcases hx' with hx'|⟨fk,fb,fc,hx1,hx'⟩|⟨fk,fb,fc,fy,hx1,hx'⟩;all_goals (subst hx';try subst hx1);all_goals (simp only[↓zA,sevalprocAttr,aeA,pT,zP,zBS,be,zLX,er,uL, *];all_goals exact fz)))
 .simp only[↓zA,sevalprocAttr,aeA,pT]
  exact⟨a,j,_,.inl rfl,rfl,hr,v⟩
def aDX{l:List Tn}{e:Int}{F:Fs}(hl:l.length<LB)(H:PY l e F)(i:Nat)(x:Fm)(cs:List C)(hx:cs=fmC x)(a:Fm)(j:Nat)(r:Fm×Nat×Bool)(hr:acf F l (l.length+1) a j=some r)(v:j<=l.length)
  (k:∀ K,cKp 319 [.ptr 0 0] [pTf l i e,.row 140 cs] K↔K ⟨false,[fmE a],pT l j e::deF⟩):aH Tryz.prog pr 312 [.ptr 0 0] [pTf l i e,.row 140 cs] (bw l e fmE r deF):=by
 have lv:ac5 (some (.row 140 cs))=true:=by rw[hx,adS];rfl
 refine bB avS ?_
 simp only[↓zA,sevalprocAttr,aeA,bw,pT,pTf,k,lv,er]
 refine fX _ _ (λn s=>∃ a j xs,FmK 3 a xs/\s.fr 0=.ptr 0 0/\s.fr 2=.ptr 2 0/\s.fr 3=.ptr 3 0/\s.objs=[pT l j e,.row 140 [],.var 140 fmZ,.var 140 xs]/\acf F l n a j=some r/\j<=l.length) ?_ (l.length+1) _ ?_
 .rintro n ⟨frn,obn,ckn⟩ ⟨a,j,xs,hx',f0,f2,f3,fo,E,hj⟩
  dsimp only at f0 f2 f3 fo
  have hxt:=hx'.trs
  cases n with
  | zero=>simp only[acf] at E;cases E
  | succ n =>
  simp only[acf] at E
  rcases eWX l j e [99,114,111,115,115] hl with ⟨c1,b1,t1,x1⟩|⟨c1,t1⟩
  rcases eWX l (j+1) e [106,111,105,110] hl with ⟨c2,b2,t2,x2⟩|⟨c2,t2⟩
  rcases eR (adB F l (j+2)) λ_=>aeC hl H _ _ aC with e3|⟨_,_,_⟩|⟨a3,j3,e3,⟨u3,v3⟩,k3⟩
  rotate_left 2
  .simp only[acR,dG,zRZ,sevalprocAttr,↓reduceIte,c1,c2,e3] at E
   rcases hx' with hx'|⟨fk,fb,fc,hx1,hx'⟩|⟨fk,fb,fc,fy,hx1,hx'⟩
   all_goals (subst hx';try subst hx1)
   all_goals (simp only[↓zA,sevalprocAttr,aeA,pT,zP,zBS,be,zLX,er, *])
   all_goals refine⟨n,aO n,_,j3,_,.inr (.inl ⟨3,_,a3,rfl,rfl⟩),?_,E,v3⟩
   all_goals simp only[fmO,fmL,fm2,fm3]
   all_goals simp only[zVW]
   all_goals rfl
  rotate_left
  rcases eWX l j e [105,110,110,101,114] hl with ⟨c4,b4,t4,x4⟩|⟨c4,t4⟩
  rcases eWX l (j+1) e [106,111,105,110] hl with ⟨c5,b5,t5,x5⟩|⟨c5,t5⟩
  rcases eR (adB F l (j+2)) λ_=>aeC hl H _ _ aC with e6|⟨_,_,_⟩|⟨a6,j6,e6,⟨u6,v6⟩,k6⟩
  rotate_left 2
  rcases eWX l j6 e [111,110] hl with ⟨c7,b7,t7,x7⟩|⟨c7,t7⟩
  rcases eR (F.or (j6+1) []) λ_=>H.or _ _ aC with e8|⟨_,_,_⟩|⟨a8,j8,e8,⟨u8,v8⟩,k8⟩
  rotate_left 2
  .simp only[acR,dG,zRZ,sevalprocAttr,↓reduceIte,show ((4:Int)=3)=False from by decide,c1,c4,c5,e6,c7,e8] at E
   rcases hx' with hx'|⟨fk,fb,fc,hx1,hx'⟩|⟨fk,fb,fc,fy,hx1,hx'⟩
   all_goals (subst hx';try subst hx1)
   all_goals (simp only[↓zA,sevalprocAttr,aeA,pT,zP,zBS,be,zLX,bF,er,uL, *])
   all_goals refine⟨n,aO n,_,j8,_,.inr (.inr ⟨4,_,a6,a8,rfl,rfl⟩),?_,E,v8⟩
   all_goals simp only[fmP,fmL,fm2,fm3]
   all_goals simp only[zVW]
   all_goals rfl
  rotate_left 2
  rcases eWX l j e [108,101,102,116] hl with ⟨c9,b9,t9,x9⟩|⟨c9,t9⟩
  rcases eWX l (j+1) e [106,111,105,110] hl with ⟨c10,b10,t10,x10⟩|⟨c10,t10⟩
  rcases eR (adB F l (j+2)) λ_=>aeC hl H _ _ aC with e11|⟨_,_,_⟩|⟨a11,j11,e11,⟨u11,v11⟩,k11⟩
  rotate_left 2
  rcases eWX l j11 e [111,110] hl with ⟨c12,b12,t12,x12⟩|⟨c12,t12⟩
  rcases eR (F.or (j11+1) []) λ_=>H.or _ _ aC with e13|⟨_,_,_⟩|⟨a13,j13,e13,⟨u13,v13⟩,k13⟩
  rotate_left 2
  .simp only[acR,dG,zRZ,sevalprocAttr,↓reduceIte,show ((5:Int)=3)=False from by decide,c1,c4,c9,c10,e11,c12,e13] at E
   rcases hx' with hx'|⟨fk,fb,fc,hx1,hx'⟩|⟨fk,fb,fc,fy,hx1,hx'⟩
   all_goals (subst hx';try subst hx1)
   all_goals (simp only[↓zA,sevalprocAttr,aeA,pT,zP,zBS,be,zLX,bF,er, *])
   all_goals refine⟨n,aO n,_,j13,_,.inr (.inr ⟨5,_,a11,a13,rfl,rfl⟩),?_,E,v13⟩
   all_goals simp only[fmP,fmL,fm2,fm3]
   all_goals simp only[zVW]
   all_goals rfl
  rotate_left 2
  rcases eWX l j e [106,111,105,110] hl with ⟨c14,b14,t14,x14⟩|⟨c14,t14⟩
  rcases eR (adB F l (j+1)) λ_=>aeC hl H _ _ aC with e15|⟨_,_,_⟩|⟨a15,j15,e15,⟨u15,v15⟩,k15⟩
  rotate_left 2
  rcases eWX l j15 e [111,110] hl with ⟨c16,b16,t16,x16⟩|⟨c16,t16⟩
  rcases eR (F.or (j15+1) []) λ_=>H.or _ _ aC with e17|⟨_,_,_⟩|⟨a17,j17,e17,⟨u17,v17⟩,k17⟩
  rotate_left 2
  .simp only[acR,dG,zRZ,sevalprocAttr,↓reduceIte,show ((4:Int)=3)=False from by decide,c1,c4,c9,c14,e15,c16,e17] at E
   rcases hx' with hx'|⟨fk,fb,fc,hx1,hx'⟩|⟨fk,fb,fc,fy,hx1,hx'⟩
   all_goals (subst hx';try subst hx1)
   all_goals (simp only[↓zA,sevalprocAttr,aeA,pT,zP,zBS,be,zLX,bF,er, *])
   all_goals refine⟨n,aO n,_,j17,_,.inr (.inr ⟨4,_,a15,a17,rfl,rfl⟩),?_,E,v17⟩
   all_goals simp only[fmP,fmL,fm2,fm3]
   all_goals simp only[zVW]
   all_goals rfl
  rotate_left 2
  all_goals (simp only[acR,dG,zRZ,sevalprocAttr,↓reduceIte,show ((4:Int)=3)=False from by decide,show ((5:Int)=3)=False from by decide, *] at E <;> cases E <;> (rcases hx' with hx'|⟨fk,fb,fc,hx1,hx'⟩|⟨fk,fb,fc,fy,hx1,hx'⟩;all_goals (subst hx';try subst hx1);all_goals (simp only[↓zA,sevalprocAttr,aeA,pT,zP,zBS,be,zLX,er,uL, *];all_goals exact fz)))
 .simp only[↓zA,sevalprocAttr,aeA,pT]
  exact⟨a,j,_,.inl rfl,rfl,hr,v⟩
def anN{l:List Tn}{e:Int}{F:Fs}(hl:l.length<LB)(H:PY l e F)(i:Nat)(r:Fm×Nat×Bool)(hi:i<=l.length)(hr:adx F l i []=some r):GP 312 [.ptr 0 0] [pT l i e] l e [] fmE i r:=by
 refine⟨Pl.at (aie H.fp hi) hr,?_⟩
 unfold adx at hr
 cases e1:adB F l i with
 | none=>rw[e1] at hr;cases hr
 | some q =>
 obtain⟨a,j,q⟩:=q
 have g:=aeC hl H i _ hi e1
 obtain⟨u,v⟩:=g.1
 dsimp only at u v
 rw[e1] at hr
 cases q with
 | true =>
  have k:=g.bad
  cases hr
  refine bB avS ?_
  simp only[↓zA,sevalprocAttr,aeA,bw,pT,zP,k]
  all_goals exact fz
 | false=>exact aHR hl H i a j r hr v g.ok
def aDY{l:List Tn}{e:Int}{F:Fs}(hl:l.length<LB)(H:PY l e F)(i:Nat)(x:Fm)(cs:List C)(hx:cs=fmC x)(r:Fm×Nat×Bool)(hi:i<=l.length)(hr:adx F l i [x]=some r):GP 312 [.ptr 0 0] [pTf l i e,.row 140 cs] l e deF fmE i r :=
 ⟨Pl.at (aie H.fp hi) hr,aDX hl H i x cs hx x i r hr hi (λK=>aH.k (aRS l i e x cs hx) K)⟩
def aip:=ai (gu @Tryz.f297.eq_1 @zq @a9l @a6S @a9k @abO @baX) (gq @aSj @acj @er @aci @zT0 (kf aru))
def aIa{l:List Tn}{e:Int}{F:Fs}(hl:l.length<LB)(H:PY l e F)(i:Nat)(r:Fm×Nat×Bool)(hi:i<=l.length)(hr:agF F l i []=some r):GP 297 [.ptr 0 0] [pT l i e] l e [] fmE i r:=by
 refine⟨Pl.at (ap5 H.fp hi) hr,?_⟩
 unfold agF at hr
 cases e1:adx F l i [] with
 | none=>rw[e1] at hr;cases hr
 | some q =>
 obtain⟨a,j,q⟩:=q
 have g:=anN hl H i _ hi e1
 obtain⟨u,v⟩:=g.1
 dsimp only at u v
 rw[e1] at hr
 cases q with
 | true =>
  have k:=g.bad
  cases hr
  refine bB aru ?_
  simp only[↓zA,sevalprocAttr,aip,bw,pT,zP,k]
  all_goals exact fz
 | false =>
 have k:=g.ok
 simp only[Rz.on] at hr
 refine bB aru ?_
 simp only[↓zA,sevalprocAttr,aip,bw,pT,k]
 refine fX _ _ (λn s=>∃ a j xs,FmK 2 a xs/\s.fr 0=.ptr 0 0/\s.fr 2=.ptr 1 0/\s.fr 3=.ptr 2 0/\s.objs=[pT l j e,.var 140 fmZ,.var 140 xs]/\adR F l n a j=some r/\j<=l.length) ?_ (l.length+1) _ ?_
 .rintro n ⟨frn,obn,ckn⟩ ⟨a,j,xs,hx',f0,f2,f3,fo,E,hj⟩
  dsimp only at f0 f2 f3 fo
  have hxt:=hx'.trs
  cases n with
  | zero=>simp only[adR] at E;cases E
  | succ n =>
  simp only[adR] at E
  rcases eW l j e [44] hl with ⟨c1,b1,t1⟩|⟨c1,t1⟩
  rcases eR (adx F l (j+1) []) λ_=>anN hl H _ _ aC with e2|⟨_,_,_⟩|⟨a2,j2,e2,⟨u2,v2⟩,k2⟩
  rotate_left 2
  .simp only[zRZ,sevalprocAttr,↓reduceIte,c1,e2] at E
   rcases hx' with hx'|⟨fk,fb,fc,hx1,hx'⟩|⟨fk,fb,fc,fy,hx1,hx'⟩
   all_goals (subst hx';try subst hx1)
   all_goals (simp only[↓zA,sevalprocAttr,aip,pT,zP,zBS,be,zLX,er, *])
   all_goals refine⟨n,aO n,_,j2,_,.inr (.inl ⟨3,_,a2,rfl,rfl⟩),?_,E,v2⟩
   all_goals simp only[fmO,fmL,fm2,fm3]
   all_goals simp only[zVW]
   all_goals rfl
  rotate_left
  all_goals (simp only[zRZ,sevalprocAttr,↓reduceIte, *] at E <;> cases E <;> (rcases hx' with hx'|⟨fk,fb,fc,hx1,hx'⟩|⟨fk,fb,fc,fy,hx1,hx'⟩;all_goals (subst hx';try subst hx1);all_goals (simp only[↓zA,sevalprocAttr,aip,pT,zP,be,zLX,er, *];all_goals exact fz)))
 .simp only[↓zA,sevalprocAttr,aip,pT]
  exact⟨a,j,_,.inl rfl,rfl,hr,v⟩
def aEd{l:List Tn}{e:Int}{F:Fs}(hl:l.length<LB)(H:PY l e F)(i:Nat)(x:Fm)(cs:List C)(hx:cs=fmC x)(r:Fm×Nat×Bool)(hi:i<=l.length)(hr:agF F l i [x]=some r):GP 297 [.ptr 0 0] [pTf l i e,.row 140 cs] l e deF fmE i r:=by
 refine⟨Pl.at (ap5 H.fp hi) hr,?_⟩
 unfold agF at hr
 have lv:ac5 (some (.row 140 cs))=true:=by rw[hx,adS];rfl
 cases e1:adx F l i [x] with
 | none=>rw[e1] at hr;cases hr
 | some q =>
 obtain⟨a,j,q⟩:=q
 have g:=aDY hl H i x cs hx _ hi e1
 obtain⟨u,v⟩:=g.1
 dsimp only at u v
 rw[e1] at hr
 cases q with
 | true =>
  have k:=g.bad
  cases hr
  refine bB aru ?_
  simp only[↓zA,sevalprocAttr,aip,bw,pT,pTf,zP,k,lv]
  all_goals exact fz
 | false =>
 have k:=g.ok
 simp only[Rz.on] at hr
 refine bB aru ?_
 simp only[↓zA,sevalprocAttr,aip,bw,pT,pTf,k,lv]
 refine fX _ _ (λn s=>∃ a j xs,FmK 3 a xs/\s.fr 0=.ptr 0 0/\s.fr 2=.ptr 2 0/\s.fr 3=.ptr 3 0/\s.objs=[pT l j e,.row 140 [],.var 140 fmZ,.var 140 xs]/\adR F l n a j=some r/\j<=l.length) ?_ (l.length+1) _ ?_
 .rintro n ⟨frn,obn,ckn⟩ ⟨a,j,xs,hx',f0,f2,f3,fo,E,hj⟩
  dsimp only at f0 f2 f3 fo
  have hxt:=hx'.trs
  cases n with
  | zero=>simp only[adR] at E;cases E
  | succ n =>
  simp only[adR] at E
  rcases eW l j e [44] hl with ⟨c1,b1,t1⟩|⟨c1,t1⟩
  rcases eR (adx F l (j+1) []) λ_=>anN hl H _ _ aC with e2|⟨_,_,_⟩|⟨a2,j2,e2,⟨u2,v2⟩,k2⟩
  rotate_left 2
  .simp only[zRZ,sevalprocAttr,↓reduceIte,c1,e2] at E
   rcases hx' with hx'|⟨fk,fb,fc,hx1,hx'⟩|⟨fk,fb,fc,fy,hx1,hx'⟩
   all_goals (subst hx';try subst hx1)
   all_goals (simp only[↓zA,sevalprocAttr,aip,pT,zP,zBS,be,zLX,er, *])
   all_goals refine⟨n,aO n,_,j2,_,.inr (.inl ⟨3,_,a2,rfl,rfl⟩),?_,E,v2⟩
   all_goals simp only[fmO,fmL,fm2,fm3]
   all_goals simp only[zVW]
   all_goals rfl
  rotate_left
  all_goals (simp only[zRZ,sevalprocAttr,↓reduceIte, *] at E <;> cases E <;> (rcases hx' with hx'|⟨fk,fb,fc,hx1,hx'⟩|⟨fk,fb,fc,fy,hx1,hx'⟩;all_goals (subst hx';try subst hx1);all_goals (simp only[↓zA,sevalprocAttr,aip,pT,zP,be,zLX,er, *];all_goals exact fz)))
 .simp only[↓zA,sevalprocAttr,aip,pT]
  exact⟨a,j,_,.inl rfl,rfl,hr,v⟩
def aTj{l:List Tn}{i:Nat}(c:isT l i [41]=true):adf l i=false:=by
 unfold adf
 simp only[ca,aiT c _ (show ([117,110,105,111,110]:List UInt8)≠[41] by decide),aiT c _ (show ([101,120,99,101,112,116]:List UInt8)≠[41] by decide),aiT c _ (show ([105,110,116,101,114,115,101,99,116]:List UInt8)≠[41] by decide),aiT c _ (show ([111,114,100,101,114]:List UInt8)≠[41] by decide),aiT c _ (show ([108,105,109,105,116]:List UInt8)≠[41] by decide),aiT c _ (show ([111,102,102,115,101,116]:List UInt8)≠[41] by decide),aD]
def aNW:=gm (gz @Tryz.f326.eq_1 @zq @a9h @alm @aqc @abO @aQ8 @aQ5 @a9g) (gz @aeo @aQ7 @baV @aSh @acj @baU @aKn @aEV @baT) (gz @aKm @eo @acu @aaO @aaN @aaM @aaL @aaK @aaJ) (gz @er @aoj @fC @aci @bQ @P4 @Q4 @zT0 (kf aEk))
def aFF{l:List Tn}{e:Int}{F:Fs}(hl:l.length<LB)(H:PY l e F)(i:Nat)(r:Th×Nat×Bool)(hi:i<=l.length)(hr:acO F l i=some r):GP 326 [.ptr 0 0] [pT l i e] l e [] thE i r:=by
 refine⟨Pl.at (amj H.fp hi) hr,?_⟩
 rcases eWX l i e [115,101,108,101,99,116] hl with _|_
 rcases eR (F.qy i []) λ_=>H.qy _ _ aC with _|⟨_,_,_⟩|⟨a2,j2,_⟩
 rotate_left 3
 rcases eWX l i e [40] hl with _|_
 rcases eR (F.so (i+1)) λ_=>H.so _ _ aC with _|⟨_,_,_⟩|⟨a4,j4,_⟩
 rotate_left 2
 rcases eWX l j4 e [41] hl with _|_
 rcases c6:a4.q with _|_
 rcases e7:F.fr (j4+1) [a4.f] with _|⟨a7,j7,_|_⟩
 rotate_left
 obtain⟨⟨u7,v7⟩,k7⟩:=(H.frp _ (a4.f) _ _ rfl aC e7).okA
 have l7:=(H.frp _ (a4.f) _ _ (adS _).symm aC e7).ok
 rotate_left
 obtain⟨⟨u7,v7⟩,k7⟩:=(H.frp _ (a4.f) _ _ rfl aC e7).badA
 have l7:=(H.frp _ (a4.f) _ _ (adS _).symm aC e7).bad
 rotate_left
 rcases eWX l (j4+1) e [41] hl with ⟨c8,b8,t8,x8⟩|⟨c8,t8⟩
 .have cg:=aTj c8
  have tg:=oB l (j4+1) e hl aC cg
  simp only[acO,agf,zRZ,sevalprocAttr,↓reduceIte, *] at hr
  cases hr
  refine bB aEk ?_
  simp only[↓zA,sevalprocAttr,aNW,bw,pT,zP,be,zLX,eo,er,bF, *]
  simp only[thE,alu,c6]
  all_goals first|rfl|(simp only[zVW];rfl)
 rcases c9:adf l (j4+1) with _|_
 have t9:=oB l (j4+1) e hl aC c9
 have hc:abp l (j4+1) a4.y=_:=aum H.tl (j4+1) a4.y
 rcases e10:asT l (j4+1) with ⟨a10,j10,_|_⟩
 obtain⟨⟨u10,v10⟩,k10⟩:=(aiD e hl _ _ aC (congrArg some e10)).okA
 rcases e11:F.fr (j10) [.mk 2 [] a10 [a4.y] [] []] with _|⟨a11,j11,_|_⟩
 rotate_left
 obtain⟨⟨u11,v11⟩,k11⟩:=(H.frp _ (.mk 2 [] a10 [a4.y] [] []) _ _ rfl aC e11).okA
 have l11:=(H.frp _ (.mk 2 [] a10 [a4.y] [] []) _ _ (adS _).symm aC e11).ok
 have m11:=(H.frp _ (.mk 2 [] a10 [a4.y] [] []) [ci 2,aG {data:=#[]},aG (aK a10),.sl [ci a4.y.op,cb a4.y.al,slC qyC a4.y.ks,cb a4.y.di,slC imC a4.y.its,slC fmC a4.y.fr,slC xpC a4.y.wh,slC xpC a4.y.gr,slC xpC a4.y.hv,slC odC a4.y.od,ci a4.y.li,ci a4.y.sk] 1,.sl [] 0,.sl [] 0] _ (by simp only[zVW];rfl) aC e11).ok
 rotate_left
 obtain⟨⟨u11,v11⟩,k11⟩:=(H.frp _ (.mk 2 [] a10 [a4.y] [] []) _ _ rfl aC e11).badA
 have l11:=(H.frp _ (.mk 2 [] a10 [a4.y] [] []) _ _ (adS _).symm aC e11).bad
 have m11:=(H.frp _ (.mk 2 [] a10 [a4.y] [] []) [ci 2,aG {data:=#[]},aG (aK a10),.sl [ci a4.y.op,cb a4.y.al,slC qyC a4.y.ks,cb a4.y.di,slC imC a4.y.its,slC fmC a4.y.fr,slC xpC a4.y.wh,slC xpC a4.y.gr,slC xpC a4.y.hv,slC odC a4.y.od,ci a4.y.li,ci a4.y.sk] 1,.sl [] 0,.sl [] 0] _ (by simp only[zVW];rfl) aC e11).bad
 rotate_left
 obtain⟨⟨u10,v10⟩,k10⟩:=(aiD e hl _ _ aC (congrArg some e10)).badA
 rotate_left
 have t9:=oB l (j4+1) e hl aC c9
 rcases e12:F.qy (j4+1) [a4.y] with _|⟨a12,j12,_|_⟩
 rotate_left
 obtain⟨⟨u12,v12⟩,k12⟩:=(H.qyp _ (a4.y) _ _ rfl aC e12).okA
 have l12:=(H.qyp _ (a4.y) _ _ (adK _).symm aC e12).ok
 rotate_left
 obtain⟨⟨u12,v12⟩,k12⟩:=(H.qyp _ (a4.y) _ _ rfl aC e12).badA
 have l12:=(H.qyp _ (a4.y) _ _ (adK _).symm aC e12).bad
 rotate_left 2
 rcases eR (F.fr i []) λ_=>H.fr _ _ aC with _|⟨_,_,_⟩|⟨a13,j13,_⟩
 rotate_left 3
 all_goals (simp only[acO,agf,zRZ,sevalprocAttr,↓reduceIte, *] at hr <;> cases hr <;> (refine bB aEk ?_;simp only[↓zA,sevalprocAttr,aNW,bw,pT,zP,be,zLX,E26,E35,aZ9,bbL,dV,aaG,aRo,a8d,eo,er, *];all_goals exact fz))
def aVh(l:List Tn)(e:Int)(T:TL l):PY l e aoI where
 tl:=T
 fp:=aCf l
 or _ _ _ h:=by cases h
 orp _ _ _ _ _ _ h:=by cases h
 no _ _ _ h:=by cases h
 un _ _ _ h:=by cases h
 qy _ _ _ h:=by cases h
 qyp _ _ _ _ _ _ h:=by cases h
 ins _ _ _ h:=by cases h
 fr _ _ _ h:=by cases h
 frp _ _ _ _ _ _ h:=by cases h
 so _ _ _ h:=by cases h
def aVg{l:List Tn}{e:Int}{F:Fs}(hl:l.length<LB)(H:PY l e F):PY l e (akO l F) where
 tl:=H.tl
 fp:=aCe H.fp
 or i r hi h:=aSy hl H i r hi h
 orp i x cs r hx hi h:=aKY hl H i x cs hx r hi h
 no i r hi h:=apP hl H i r hi h
 un i r hi h:=apB hl H i r hi h
 qy i r hi h:=aC8 hl H i r hi h
 qyp i x cs r hx hi h:=azz hl H i x cs hx r hi h
 ins i r hi h:=azT hl H i r hi h
 fr i r hi h:=aIa hl H i r hi h
 frp i x cs r hx hi h:=aEd hl H i x cs hx r hi h
 so i r hi h:=aFF hl H i r hi h
theorem aob{l:List Tn}(e:Int)(hl:l.length<LB)(T:TL l):∀ n,PY l e (aac l n)
 | 0=>aVh l e T
 | n+1=>aVg hl (aob e hl T n)
end Go.Proofs.YtghkmcffifpkeaaGreat
namespace Go.Tab
open Pe
section
variable {l:List Tn} {F:Fs}
theorem aHo:∀ (n:Nat) (o:List (List UInt8)) {i:Nat},i<=l.length->Pl l i (ahC l n o i):=by
 intro n
 induction n with
 | zero=>intro o i hi _ _ _ h;cases h
 | succ n ih =>
 intro o i hi
 unfold ahC
 refine .fK (λh=>.fT (λh2=>.mono (ih _ h2) aC) (.wE aC h)) (.so (ae _) hi)
theorem afC{i:Nat}(hi:i<=l.length):Pl l i (acg l i):=.wR (ae _) hi λh=>.mono (aHo _ _ h) aC
theorem ate{i:Nat}(hi:i<=l.length):Pl l i (ajf l i):=by
 refine .nR (ae _) hi λs h=>?_
 split
 .exact .so aC h
 .rename_i k c
  have h2:=af5 c
  exact .fT (λh3=>.wE aC aC) (.so aC aC)
theorem aRZ{i:Nat}(hi:i<=l.length):Pl l i (awW l i):=by
 refine .wR (ae _) hi λh=>.on (afC h) aC λ_ j h1 h2=>.wR aC h2 λh3=>.nR aC h3 λs h4=>?_
 have:=afC (l:=l) h4
 generalize acg l (j+1+1)=p at this
 match p,this with
 | none,_=>exact .nil
 | some (o,m,true),h=>have:=h _ _ _ rfl;exact .so aC this.2
 | some (o,m,false),h=>have:=h _ _ _ rfl;exact .so aC this.2
theorem aIn(H:FP l F){i:Nat}{s:Cr}(hi:i<=l.length):Pl l i (elS F l i s):=by
 unfold elS
 refine .fI (.to (ate hi) (ae _)) ?_
 refine .fT (λh=>.wR aC h λh2=>.to (afC h2) aC) ?_
 refine .fT (λh=>.to (afC h) aC) ?_
 refine .fT (λh=>.to (aRZ h) aC) ?_
 refine .fT (λh=>.wR aC h λh2=>.on (H.or h2) aC λ_ _ _ _=>.wE aC aC) (.so (ae _) hi)
theorem aZ2(H:FP l F):∀ (n:Nat) (s:Cr) {i:Nat},i<=l.length->Pl l i (elL F l n s i):=by
 intro n
 induction n with
 | zero=>intro o i hi _ _ _ h;cases h
 | succ n ih =>
 intro o i hi
 unfold elL
 exact .on (aIn H hi) (ae _) λ_ _ h1 h2=>.fT (λh3=>.mono (ih _ h3) aC) (.wE h1 h2)
theorem aua{un:Bool}{i:Nat}(hi:i<=l.length):Pl l i (anQ l un i) :=
 .wR (ae _) hi λh=>.nR aC h λ_ h2=>.wR aC h2 λh3=>.nR aC h3 λ_ h4=>.to (afC h4) aC
theorem arB(H:FP l F){i:Nat}(hi:i<=l.length):Pl l i (age F l i):=by
 unfold age
 refine .fT (λh=>.nR aC h λ_ h2=>.wR aC h2 λh3=>.to (aZ2 H _ _ h3) aC) ?_
 exact .fT (λh=>.mono (aua h) aC) (aua hi)
theorem aMX{i:Nat}(hi:i<=l.length):Pl l i (aoW l i):=by
 unfold aoW
 refine .fT (λh=>?_) (.fT (λh=>?_) (.so (ae _) hi))
 .have:=agW h;exact .so aC this.2
 .have:=agW h;exact .so aC this.2
theorem aRY(H:FP l F)(t:List UInt8)(ns:List (List UInt8)):∀ (n:Nat) (rw:List (List Xp)) {i:Nat},i+1<=l.length->Pl l i (aj1 F l t ns n rw i):=by
 intro n
 induction n with
 | zero=>intro o i hi _ _ _ h;cases h
 | succ n ih =>
 intro o i hi
 unfold aj1
 refine .wR aC hi λh=>.on (afE H h) aC λ_ j h1 h2=>.wR aC h2 λh3=>?_
 exact .fT (λh4=>.mono (ih _ h4) aC) (.so aC h3)
theorem aBx(H:FP l F){t:List UInt8}{ns:List (List UInt8)}{i:Nat}(hi:i<=l.length):Pl l i (ajb F l t ns i) :=
 .fT (λh=>aRY H _ _ _ _ h) (.to (H.qy hi) (ae _))
theorem ari(H:FP l F){i:Nat}(hi:i<=l.length):Pl l i (adH F l i):=by
 refine .wR (ae _) hi λh=>.nR aC h λ_ h2=>?_
 exact .fI (.on (afC h2) aC λ_ _ _ h3=>.mono (aBx H h3) aC) (.mono (aBx H h2) aC)
theorem aU4(H:FP l F)(t:List UInt8):∀ (n:Nat) (ss:List As) {i:Nat},i<=l.length->Pl l i (an6 F l t n ss i):=by
 intro n
 induction n with
 | zero=>intro o i hi _ _ _ h;cases h
 | succ n ih =>
 intro o i hi
 unfold an6
 refine .nR (ae _) hi λ_ h=>.wR aC h λh2=>.on (H.or h2) aC λ_ j h3 h4=>?_
 exact .fT (λh5=>.mono (ih _ h5) aC) (.to (acD H h4) aC)
theorem aqs(H:FP l F){i:Nat}(hi:i<=l.length):Pl l i (ahW F l i) :=
 .nR (ae _) hi λ_ h=>.wR aC h λh2=>.mono (aU4 H _ _ _ h2) aC
theorem aUi(H:FP l F){i:Nat}(hi:i<=l.length):Pl l i (aEH F l i) :=
 .wR (ae _) hi λh=>.nR aC h λ_ h2=>.to (acD H h2) aC
theorem awL(H:FP l F){i:Nat}(hi:i<=l.length):Pl l i (aea F l i):=by
 unfold aea
 split
 .rename_i c;have:=af5 c;exact .so aC this
 refine .fT (λh=>.mono (arB H h) aC) (.fT (λh=>.mono (aMX h) aC) (.fT (λh=>.mono (ari H h) aC) (.fT (λh=>.mono (aqs H h) aC) ?_)))
 exact .fT (λh=>.mono (aUi H h) aC) (.fT (λh=>.to (H.qy h) aC) (.to (H.qy hi) (ae _)))
theorem aC1(H:FP l F):∀ (n:Nat) (o:List (Sm×Nat)) {i:Nat},i<=l.length->Pl l i (adF F l n o i):=by
 intro n
 induction n with
 | zero=>intro o i hi _ _ _ h;cases h
 | succ n ih =>
 intro o i hi
 unfold adF
 exact .fI (.on (awL H hi) (ae _) λ_ _ h1 h2=>.wR aC h2 λh3=>.mono (ih _ h3) aC) (.so (ae _) hi)
end
end Go.Tab
namespace Go.Proofs.YtghkmcffifpkeaaGreat
open Pe Tab
abbrev nsE(o:List (List UInt8)):X:=.of (slC bU o)
def anH(l:List Tn)(n:Nat)(o:List (List UInt8))(j:Nat):Rz (List (List UInt8)):=if isT l j [44] then ahC l n o (j+1) else wantE (bG l j [41]) o
def axn(l:List Tn)(n:Nat)(o:List (List UInt8))(i:Nat):ahC l (n+1) o i=if bq l i 2 then anH l n (o++[txT l i]) (i+1) else some ([],i,true):=rfl
def al8:=gv @Tryz.f184.eq_1 @zq @aeo @akp @abO @bQ @zT0 (kf avU)
def aeF{l:List Tn}(e:Int)(hl:l.length<LB)(i:Nat)(r:List (List UInt8)×Nat×Bool)(hi:i<=l.length)(hr:acg l i=some r):GP 184 [.ptr 0 0] [pT l i e] l e [] nsE i r:=by
 refine⟨Pl.at (afC hi) hr,?_⟩
 unfold acg bG at hr
 cases c1:isT l i [40] with
 | false =>
  have t1:=wF l i e [40] hl hi c1
  rw[c1] at hr
  cases hr
  refine bB avU ?_
  simp only[↓zA,sevalprocAttr,al8,bw,pT,zP,t1]
  all_goals exact fz
 | true =>
 have b1:=ft c1
 have t1:=wT l i e [40] hl c1
 rw[c1] at hr
 simp only[am,wantR,axn,ch] at hr
 cases c2:bq l (i+1) 2 with
 | false =>
  have t2:=nF l (i+1) e hl aC c2
  rw[c2] at hr
  cases hr
  refine bB avU ?_
  simp only[↓zA,sevalprocAttr,al8,bw,pT,zP,t1,t2]
  all_goals exact fz
 | true =>
 have b2:=aay c2
 have t2:=nT l (i+1) e hl c2
 rw[c2] at hr
 simp only[am] at hr
 refine bB avU ?_
 simp only[↓zA,sevalprocAttr,al8,bw,pT,be,t1,t2]
 refine fX _ _ (λn s=>∃ o j,s.fr 0=.ptr 0 0/\(∃ c x i,c<s.clk/\s.fr 3=.own (.nm c x i) 9 1 (fl bU o) o.length)/\s.objs=[pT l j e]/\anH l n o j=some r/\j<=l.length/\o.length<=j) ?_ l.length _ ?_
 .rintro n ⟨frn,obn,ckn⟩ ⟨o,j,f0,⟨c,x,i',hc,f3⟩,fo,E,hj,hk⟩
  dsimp only at f0 hc f3 fo
  rcases eW l j e [44] hl with ⟨c1,b1,t1⟩|⟨c1,t1⟩
  .cases n with
   | zero=>simp only[anH,c1,am,ahC] at E;cases E
   | succ m =>
   simp only[anH,c1,am,axn] at E
   rcases eK2 l (j+1) e hl with ⟨c2,b2,t2⟩|⟨c2,t2⟩
   .simp only[c2,am] at E
    simp only[↓zA,sevalprocAttr,al8,pT,zP,be, *]
    and_intros
    all_goals first|exact okN _ _ aC _|exact⟨m,aO m,o++[txT l (j+1)],j+2,asH rfl rfl aC,rfl,E,by omega,by rw[bg];simp only[abf];omega⟩|(unfold LIM;unfold LB at hl;omega)|rfl
   rotate_left
   all_goals (simp only[zRZ,sevalprocAttr,↓reduceIte, *] at E <;> cases E <;> (simp only[↓zA,sevalprocAttr,al8,pT,zP,be,zLX, *];all_goals exact fz))
  simp only[anH] at E
  rcases eW l j e [41] hl with _|_
  rotate_left 2
  all_goals (simp only[zRZ,sevalprocAttr,↓reduceIte, *] at E <;> cases E <;> (simp only[↓zA,sevalprocAttr,al8,pT,zP,be,zLX, *];all_goals exact fz))
 .simp only[↓zA,sevalprocAttr,al8,pT]
  exact⟨[txT l (i+1)],i+2,asI rfl rfl aC,rfl,hr,by omega,by simp only[abf];omega⟩
def a8v:=gu @zq @abO @akr @bF @eZ @zT0 (kf aY4)
def aqq{l:List Tn}{e:Int}{F:Fs}(hl:l.length<LB)(H:PY l e F)(i:Nat)(r:List Xp×Nat×Bool)(hi:i<=l.length)(hr:aav F l i [119,104,101,114,101]=some r):GP 95 [.ptr 0 0] [pT l i e] l e [] xsE i r:=by
 refine⟨Pl.at (acD H.fp hi) hr,?_⟩
 rcases eW l i e [119,104,101,114,101] hl with _|_
 rcases eR (F.or (i+1) []) λ_=>H.or _ _ aC with _|⟨_,_,_⟩|⟨a2,j2,_⟩
 rotate_left 4
 all_goals (simp only[aav,zRZ,sevalprocAttr,↓reduceIte, *] at hr <;> cases hr <;> (refine bB aY4 ?_;simp only[Tryz.f95,↓zA,sevalprocAttr,a8v,bw,pT,zP,be,bF, *];all_goals exact fz))
def QF(l:List Tn)(F:Fs):Prop:=∀ i r,isT l i [115,101,108,101,99,116]=false->isT l i [40]=false->F.qy i []=some r->r.2=(i,true)
def aVe(l:List Tn)(F:Fs):QF l (akO l F):=by
 intro i r c1 c2 h
 have h:aeg F l i []=some r:=h
 rw[anA] at h
 unfold aam ahs acd bG at h
 simp only[c1,c2,ah,av,wantR,Rz.on] at h
 cases h
 rfl
def aVf(l:List Tn):QF l aoI:=λ_ _ _ _ h=>by cases h
theorem ay0(l:List Tn):∀ n,QF l (aac l n)
 | 0=>aVf l
 | n+1=>aVe l _
abbrev smZ:List X:=[.of (ci 0),.of (aG {data:=#[]}),.of (aG {data:=#[]}),.nil,.nil,.of (cb false),.nil,.nil,.nil,.nil,.nil,.nil,.nil]
abbrev aiz(t:List UInt8)(N R:X):List X:=[.of (ci 4),.of (aG (aK t)),.of (aG {data:=#[]}),.nil,N,.of (cb false),.nil,.nil,.nil,R,.nil,.nil,.nil]
def LiK{α:Type}(t:Tk)(e z:Nat)(f:α->List C)(K:X)(a:List α):Prop:=(K=.nil/\a=[])\/K=.own t e z (fl f a) a.length
def agK:=gj (gz @Tryz.f93.eq_1 @zq @a5c @aeo @akp @a5b @alm @amX @aE0) (gz @abO @ayp @akq @aqc @baM @aSd @acj @av1 @eo) (gu @aca @ab9 @fC @bQ @adk @zT0 (kf as7))
def azU{l:List Tn}{e:Int}{F:Fs}(hl:l.length<LB)(H:PY l e F)(Q:QF l F)(i:Nat)(r:Sm×Nat×Bool)(hi:i<=l.length)(hr:adH F l i=some r):GP 93 [.ptr 0 0] [pT l i e] l e [] smE i r:=by
 refine⟨Pl.at (ari H.fp hi) hr,?_⟩
 rcases eWX l i e [105,110,116,111] hl with ⟨c1,b1,t1,x1⟩|⟨c1,t1⟩
 rcases aeP l (i+1) e hl with ⟨c2,b2,t2,x2⟩|⟨c2,t2⟩
 rcases eWX l (i+2) e [40] hl with ⟨c3,b3,t3,x3⟩|⟨c3,t3⟩
 have pt:=avC (bN l (i+3))
 have pk:=pK l (i+2) e hl aC
 rcases aMV l (i+3) e hl with ⟨c4,b4,t4,x4,xq4,q4⟩|⟨c4,t4,q4⟩
 rcases eR (acg l (i+2)) λ_=>aeF e hl _ _ aC with e5|⟨_,_,_,_,_⟩|⟨a5,j5,e5,⟨u5,v5⟩,k5⟩
 rotate_left 2
 rcases eWX l j5 e [118,97,108,117,101,115] hl with ⟨c6,b6,t6,x6⟩|⟨c6,t6⟩
 .simp only[adH,ajb,nameR,bT,zRZ,sevalprocAttr,↓reduceIte,c1,c2,c3,c4,e5,c6] at hr
  refine bB as7 ?_
  simp only[↓zA,sevalprocAttr,agK,bw,pT,be, *]
  refine fX _ _ (λn s=>∃ rw j K b,LiK (.cell 2 9) 25 1 (lsC xpC) K rw/\s.fr 0=.ptr 0 0/\s.fr 2=.ptr 1 0/\s.fr 3=.ptr 2 0/\s.fr 4=.of (cb b)/\s.objs=[pT l j e,.var 49 smZ,.var 49 (aiz (txT l (i+1)) (.of (slC bU a5)) K)]/\(if b=true then 1<=j/\aj1 F l (txT l (i+1)) a5 n rw (j-1)=some r else r=(afc (txT l (i+1)) a5 rw [],j,false))/\j<=l.length/\rw.length<=j) ?_ (l.length+1) _ ?_
  .rintro n ⟨frn,obn,ckn⟩ ⟨rw,j,K,b,hK,f0,f2,f3,f4,fo,E,hj,hk⟩
   dsimp only at f0 f2 f3 f4 fo
   have hos:(rw.length+1<=LIM)=True:=aa (by unfold LIM;unfold LB at hl;omega)
   cases b with
   | false =>
    simp only[ah,av] at E
    subst E
    rcases hK with ⟨hK,hK'⟩|hK
    all_goals (subst hK;try subst hK')
    all_goals (simp only[↓zA,sevalprocAttr,agK,pT,zP,be,zLX, *];all_goals exact fz)
   | true =>
    simp only[am] at E
    obtain⟨h1,E⟩:=E
    cases n with
    | zero=>simp only[aj1] at E;cases E
    | succ n =>
    simp only[aj1,Nat.sub_add_cancel h1] at E
    rcases eWX l j e [40] hl with ⟨c7,b7,t7,x7⟩|⟨c7,t7⟩
    rcases eR (aaE F l (j+1)) λ_=>acl hl H _ _ aC with e8|⟨_,_,_,_,_⟩|⟨a8,j8,e8,⟨u8,v8⟩,k8⟩
    rotate_left 2
    rcases eWX l j8 e [41] hl with ⟨c9,b9,t9,x9⟩|⟨c9,t9⟩
    rcases eWX l (j8+1) e [44] hl with ⟨c10,b10,t10,x10⟩|⟨c10,t10⟩
    .simp only[zRZ,sevalprocAttr,↓reduceIte,c7,e8,c9,c10] at E
     rcases hK with ⟨hK,hK'⟩|hK
     all_goals (subst hK;try subst hK')
     all_goals (simp only[↓zA,sevalprocAttr,agK,pT,zP,be,zLX,dV,aaG, *])
     .refine⟨n,aO n,[a8],j8+2,.own (.cell 2 9) 25 1 (fl (lsC xpC) [a8]) 1,true,.inr rfl,rfl,?_,by simp only[am];exact⟨by omega,E⟩,by omega,by simp only[abf];omega⟩
      simp only[aiz]
      simp only[zVW]
      all_goals rfl
     .refine⟨n,aO n,rw++[a8],j8+2,.own (.cell 2 9) 25 1 (fl (lsC xpC) (rw++[a8])) (rw++[a8]).length,true,.inr rfl,rfl,?_,by simp only[am];exact⟨by omega,E⟩,by omega,by simp only[aey];omega⟩
      simp only[aiz]
      simp only[zVW]
      all_goals rfl
    .simp only[zRZ,sevalprocAttr,↓reduceIte,c7,e8,c9,c10] at E
     rcases hK with ⟨hK,hK'⟩|hK
     all_goals (subst hK;try subst hK')
     all_goals (simp only[↓zA,sevalprocAttr,agK,pT,zP,be,zLX,dV,aaG, *])
     .refine⟨n,aO n,[a8],j8+1,.own (.cell 2 9) 25 1 (fl (lsC xpC) [a8]) 1,false,.inr rfl,rfl,?_,by simp only[ah,av];cases E;rfl,by omega,by simp only[abf];omega⟩
      simp only[aiz]
      simp only[zVW]
      all_goals rfl
     .refine⟨n,aO n,rw++[a8],j8+1,.own (.cell 2 9) 25 1 (fl (lsC xpC) (rw++[a8])) (rw++[a8]).length,false,.inr rfl,rfl,?_,by simp only[ah,av];cases E;rfl,by omega,by simp only[aey];omega⟩
      simp only[aiz]
      simp only[zVW]
      all_goals rfl
    rotate_left 2
    all_goals (simp only[zRZ,sevalprocAttr,↓reduceIte, *] at E <;> cases E <;> (rcases hK with ⟨hK,hK'⟩|hK;all_goals (subst hK;try subst hK');all_goals (simp only[↓zA,sevalprocAttr,agK,pT,zP,be,zLX,dV,aaG, *];all_goals exact fz)))
  .simp only[↓zA,sevalprocAttr,agK,pT]
   exact⟨[],j5+1,.nil,true,.inl ⟨rfl,rfl⟩,rfl,rfl,by simp only[am];exact⟨by omega,hr⟩,by omega,aU _⟩
 rcases eWX l j5 e [115,101,108,101,99,116] hl with ⟨c11,b11,t11,x11⟩|⟨c11,t11⟩
 have z12:=aB2 l (j5) e [115,101,108,101,99,116] [40] hl aC (b:=true) (by simp only[ca,c11,x11,uL,sevalprocAttr,cI,aD])
 rcases eR (F.qy (j5) []) λ_=>H.qy _ _ aC with e13|⟨_,_,_,_,_⟩|⟨a13,j13,e13,⟨u13,v13⟩,k13⟩
 rotate_left 3
 rcases eWX l j5 e [40] hl with ⟨c14,b14,t14,x14⟩|⟨c14,t14⟩
 have z15:=aB2 l (j5) e [115,101,108,101,99,116] [40] hl aC (b:=true) (by simp only[ca,c11,c14,sevalprocAttr,aD,bh])
 rcases eR (F.qy (j5) []) λ_=>H.qy _ _ aC with e16|⟨_,_,_,_,_⟩|⟨a16,j16,e16,⟨u16,v16⟩,k16⟩
 rotate_left 3
 .have z17:=aB2 l (j5) e [115,101,108,101,99,116] [40] hl aC (b:=false) (by simp only[ca,c11,c14,sevalprocAttr,aD])
  have gk:=gK l (j5) e hl aC
  cases e18:F.qy (j5) [] with
  | none =>
   simp only[adH,ajb,nameR,bT,zRZ,sevalprocAttr,↓reduceIte, *] at hr
   try cases hr
  | some q18 =>
   have hq:=Q _ _ (by assumption) (by assumption) e18
   obtain⟨qa,qj⟩:=q18
   dsimp only at hq
   subst hq
   simp only[adH,ajb,nameR,bT,zRZ,sevalprocAttr,↓reduceIte, *] at hr
   cases hr
   refine bB as7 ?_
   simp only[↓zA,sevalprocAttr,agK,bw,pT,zP,zBS,be,zLX, *]
   all_goals exact fz
 have z19:=aB2 l (i+2) e [115,101,108,101,99,116] [40] hl aC (b:=true) (by simp only[ca,c3,x3,uL,sevalprocAttr,cI,aD,bh])
 rcases eR (F.qy (i+2) []) λ_=>H.qy _ _ aC with e20|⟨_,_,_,_,_⟩|⟨a20,j20,e20,⟨u20,v20⟩,k20⟩
 rotate_left 3
 rcases eWX l (i+2) e [118,97,108,117,101,115] hl with ⟨c21,b21,t21,x21⟩|⟨c21,t21⟩
 .simp only[adH,ajb,nameR,bT,zRZ,sevalprocAttr,↓reduceIte,c1,c2,c3,c21] at hr
  refine bB as7 ?_
  simp only[↓zA,sevalprocAttr,agK,bw,pT,be, *]
  refine fX _ _ (λn s=>∃ rw j K b,LiK (.cell 2 9) 25 1 (lsC xpC) K rw/\s.fr 0=.ptr 0 0/\s.fr 2=.ptr 1 0/\s.fr 3=.ptr 2 0/\s.fr 4=.of (cb b)/\s.objs=[pT l j e,.var 49 smZ,.var 49 (aiz (txT l (i+1)) (.nil) K)]/\(if b=true then 1<=j/\aj1 F l (txT l (i+1)) [] n rw (j-1)=some r else r=(afc (txT l (i+1)) [] rw [],j,false))/\j<=l.length/\rw.length<=j) ?_ (l.length+1) _ ?_
  .rintro n ⟨frn,obn,ckn⟩ ⟨rw,j,K,b,hK,f0,f2,f3,f4,fo,E,hj,hk⟩
   dsimp only at f0 f2 f3 f4 fo
   have hos:(rw.length+1<=LIM)=True:=aa (by unfold LIM;unfold LB at hl;omega)
   cases b with
   | false =>
    simp only[ah,av] at E
    subst E
    rcases hK with ⟨hK,hK'⟩|hK
    all_goals (subst hK;try subst hK')
    all_goals (simp only[↓zA,sevalprocAttr,agK,pT,zP,be,zLX, *];all_goals exact fz)
   | true =>
    simp only[am] at E
    obtain⟨h1,E⟩:=E
    cases n with
    | zero=>simp only[aj1] at E;cases E
    | succ n =>
    simp only[aj1,Nat.sub_add_cancel h1] at E
    rcases eWX l j e [40] hl with ⟨c22,b22,t22,x22⟩|⟨c22,t22⟩
    rcases eR (aaE F l (j+1)) λ_=>acl hl H _ _ aC with e23|⟨_,_,_,_,_⟩|⟨a23,j23,e23,⟨u23,v23⟩,k23⟩
    rotate_left 2
    rcases eWX l j23 e [41] hl with ⟨c24,b24,t24,x24⟩|⟨c24,t24⟩
    rcases eWX l (j23+1) e [44] hl with ⟨c25,b25,t25,x25⟩|⟨c25,t25⟩
    .simp only[zRZ,sevalprocAttr,↓reduceIte,c22,e23,c24,c25] at E
     rcases hK with ⟨hK,hK'⟩|hK
     all_goals (subst hK;try subst hK')
     all_goals (simp only[↓zA,sevalprocAttr,agK,pT,zP,be,zLX,dV,aaG, *])
     .refine⟨n,aO n,[a23],j23+2,.own (.cell 2 9) 25 1 (fl (lsC xpC) [a23]) 1,true,.inr rfl,rfl,?_,by simp only[am];exact⟨by omega,E⟩,by omega,by simp only[abf];omega⟩
      simp only[aiz]
      simp only[zVW]
      all_goals rfl
     .refine⟨n,aO n,rw++[a23],j23+2,.own (.cell 2 9) 25 1 (fl (lsC xpC) (rw++[a23])) (rw++[a23]).length,true,.inr rfl,rfl,?_,by simp only[am];exact⟨by omega,E⟩,by omega,by simp only[aey];omega⟩
      simp only[aiz]
      simp only[zVW]
      all_goals rfl
    .simp only[zRZ,sevalprocAttr,↓reduceIte,c22,e23,c24,c25] at E
     rcases hK with ⟨hK,hK'⟩|hK
     all_goals (subst hK;try subst hK')
     all_goals (simp only[↓zA,sevalprocAttr,agK,pT,zP,be,zLX,dV,aaG, *])
     .refine⟨n,aO n,[a23],j23+1,.own (.cell 2 9) 25 1 (fl (lsC xpC) [a23]) 1,false,.inr rfl,rfl,?_,by simp only[ah,av];cases E;rfl,by omega,by simp only[abf];omega⟩
      simp only[aiz]
      simp only[zVW]
      all_goals rfl
     .refine⟨n,aO n,rw++[a23],j23+1,.own (.cell 2 9) 25 1 (fl (lsC xpC) (rw++[a23])) (rw++[a23]).length,false,.inr rfl,rfl,?_,by simp only[ah,av];cases E;rfl,by omega,by simp only[aey];omega⟩
      simp only[aiz]
      simp only[zVW]
      all_goals rfl
    rotate_left 2
    all_goals (simp only[zRZ,sevalprocAttr,↓reduceIte, *] at E <;> cases E <;> (rcases hK with ⟨hK,hK'⟩|hK;all_goals (subst hK;try subst hK');all_goals (simp only[↓zA,sevalprocAttr,agK,pT,zP,be,zLX,dV,aaG, *];all_goals exact fz)))
  .simp only[↓zA,sevalprocAttr,agK,pT]
   exact⟨[],i+3,.nil,true,.inl ⟨rfl,rfl⟩,rfl,rfl,by simp only[am];exact⟨by omega,hr⟩,by omega,aU _⟩
 rcases eWX l (i+2) e [115,101,108,101,99,116] hl with ⟨c26,b26,t26,x26⟩|⟨c26,t26⟩
 have z27:=aB2 l (i+2) e [115,101,108,101,99,116] [40] hl aC (b:=true) (by simp only[ca,c3,c26,sevalprocAttr,aD])
 rcases eR (F.qy (i+2) []) λ_=>H.qy _ _ aC with e28|⟨_,_,_,_,_⟩|⟨a28,j28,e28,⟨u28,v28⟩,k28⟩
 rotate_left 3
 .have z29:=aB2 l (i+2) e [115,101,108,101,99,116] [40] hl aC (b:=false) (by simp only[ca,c3,c26,sevalprocAttr,aD])
  have gk:=gK l (i+2) e hl aC
  cases e30:F.qy (i+2) [] with
  | none =>
   simp only[adH,ajb,nameR,bT,zRZ,sevalprocAttr,↓reduceIte, *] at hr
   try cases hr
  | some q30 =>
   have hq:=Q _ _ (by assumption) (by assumption) e30
   obtain⟨qa,qj⟩:=q30
   dsimp only at hq
   subst hq
   simp only[adH,ajb,nameR,bT,zRZ,sevalprocAttr,↓reduceIte, *] at hr
   cases hr
   refine bB as7 ?_
   simp only[↓zA,sevalprocAttr,agK,bw,pT,zP,zBS,be,zLX, *]
   all_goals exact fz
 rotate_left 2
 all_goals (simp only[adH,ajb,nameR,bT,zRZ,sevalprocAttr,↓reduceIte, *] at hr <;> cases hr <;> (refine bB as7 ?_;simp only[↓zA,sevalprocAttr,agK,bw,pT,zP,zBS,be,zLX,eo,uL, *];all_goals exact fz))
abbrev aqt(t:List UInt8)(K:X):List X:=[.of (ci 5),.of (aG (aK t)),.of (aG {data:=#[]}),.nil,.nil,.of (cb false),.nil,.nil,.nil,.nil,K,.nil,.nil]
def a2V{α:Type}{L:List α}{a b c:α}(h:L.take 3=[a,b,c]):∃ J,L=a::b::c::J:=⟨L.drop 3,(ac6 3 L).symm.trans (by rw[h];rfl)⟩
def apx:=ai (gz @Tryz.f94.eq_1 @zq @a5a @akp @a49 @aeo @a48 @akr @abO) (gv @a0l @bF @aca @afY @bQ @aho @zT0 (kf aMC))
def ay9{l:List Tn}{e:Int}{F:Fs}(hl:l.length<LB)(H:PY l e F)(i:Nat)(r:Sm×Nat×Bool)(hi:i<=l.length)(hr:ahW F l i=some r):GP 94 [.ptr 0 0] [pT l i e] l e [] smE i r:=by
 refine⟨Pl.at (aqs H.fp hi) hr,?_⟩
 rcases eK2 l i e hl with ⟨c1,b1,t1⟩|⟨c1,t1⟩
 rcases eW l (i+1) e [115,101,116] hl with ⟨c2,b2,t2⟩|⟨c2,t2⟩
 .simp only[ahW,nameR,bT,zRZ,sevalprocAttr,↓reduceIte,c1,c2] at hr
  refine bB aMC ?_
  simp only[↓zA,sevalprocAttr,apx,bw,pT,be, *]
  refine fX _ _ (λn s=>∃ ss j K b,LiK (.cell 2 10) 93 10 asC K ss/\s.fr 0=.ptr 0 0/\s.fr 2=.ptr 1 0/\s.fr 3=.ptr 2 0/\s.fr 4=.of (cb b)/\s.objs.take 3=[pT l j e,.var 49 smZ,.var 49 (aqt (txT l i) K)]/\(if b=true then an6 F l (txT l i) n ss j=some r else (aav F l j [119,104,101,114,101]).to (λw=>agQ (txT l i) ss w)=some r)/\j<=l.length/\ss.length<=j) ?_ (l.length+1) _ ?_
  .rintro n ⟨frn,obn,ckn⟩ ⟨ss,j,K,b,hK,f0,f2,f3,f4,fo,E,hj,hk⟩
   dsimp only at f0 f2 f3 f4 fo
   obtain⟨J,fo⟩:=a2V fo
   have hos:(ss.length+1<=LIM)=True:=aa (by unfold LIM;unfold LB at hl;omega)
   cases b with
   | false =>
    simp only[ah,av] at E
    rcases eR (aav F l j [119,104,101,114,101]) λ_=>aqq hl H _ _ aC with _|⟨_,_,_⟩|⟨a3,j3,_⟩
    rotate_left 3
    all_goals (simp only[zRZ,sevalprocAttr, *] at E <;> cases E <;> (rcases hK with ⟨hK,hK'⟩|hK;all_goals (subst hK;try subst hK');all_goals (simp only[↓zA,sevalprocAttr,apx,pT,zP,be,zLX,bF, *];all_goals exact fz)))
   | true =>
    simp only[am] at E
    cases n with
    | zero=>simp only[an6] at E;cases E
    | succ n =>
    simp only[an6] at E
    rcases eK2 l j e hl with ⟨c4,b4,t4⟩|⟨c4,t4⟩
    rcases eW l (j+1) e [61] hl with ⟨c5,b5,t5⟩|⟨c5,t5⟩
    rcases eR (F.or (j+2) []) λ_=>H.or _ _ aC with e6|⟨_,_,_⟩|⟨a6,j6,e6,⟨u6,v6⟩,k6⟩
    rotate_left 2
    rcases eW l j6 e [44] hl with ⟨c7,b7,t7⟩|⟨c7,t7⟩
    .simp only[nameR,bT,zRZ,sevalprocAttr,↓reduceIte,c4,c5,e6,c7] at E
     rcases hK with ⟨hK,hK'⟩|hK
     all_goals (subst hK;try subst hK')
     all_goals (simp only[↓zA,sevalprocAttr,apx,pT,be,dV,aaG,bF,bX, *])
     .refine⟨n,aO n,[As.mk (txT l j) a6],j6+1,.own (.cell 2 10) 93 10 (fl asC [As.mk (txT l j) a6]) 1,true,.inr rfl,rfl,?_,by simp only[am];exact E,by omega,by simp only[abf];omega⟩
      simp only[aqt]
      simp only[zVW]
      all_goals rfl
     .refine⟨n,aO n,ss++[As.mk (txT l j) a6],j6+1,.own (.cell 2 10) 93 10 (fl asC (ss++[As.mk (txT l j) a6])) (ss++[As.mk (txT l j) a6]).length,true,.inr rfl,rfl,?_,by simp only[am];exact E,by omega,by simp only[aey];omega⟩
      simp only[aqt]
      simp only[zVW]
      all_goals rfl
    .simp only[nameR,bT,zRZ,sevalprocAttr,↓reduceIte,c4,c5,e6,c7] at E
     rcases hK with ⟨hK,hK'⟩|hK
     all_goals (subst hK;try subst hK')
     all_goals (simp only[↓zA,sevalprocAttr,apx,pT,be,dV,aaG,bF,bX, *])
     .refine⟨n,aO n,[As.mk (txT l j) a6],j6,.own (.cell 2 10) 93 10 (fl asC [As.mk (txT l j) a6]) 1,false,.inr rfl,rfl,?_,by simp only[ah,av];exact E,by omega,by simp only[abf];omega⟩
      simp only[aqt]
      simp only[zVW]
      all_goals rfl
     .refine⟨n,aO n,ss++[As.mk (txT l j) a6],j6,.own (.cell 2 10) 93 10 (fl asC (ss++[As.mk (txT l j) a6])) (ss++[As.mk (txT l j) a6]).length,false,.inr rfl,rfl,?_,by simp only[ah,av];exact E,by omega,by simp only[aey];omega⟩
      simp only[aqt]
      simp only[zVW]
      all_goals rfl
    rotate_left 2
    all_goals (simp only[nameR,bT,zRZ,sevalprocAttr,↓reduceIte, *] at E <;> cases E <;> (rcases hK with ⟨hK,hK'⟩|hK;all_goals (subst hK;try subst hK');all_goals (simp only[↓zA,sevalprocAttr,apx,pT,zP,be,zLX,bX, *];all_goals exact fz)))
  .simp only[↓zA,sevalprocAttr,apx,pT]
   exact⟨[],i+2,.nil,true,.inl ⟨rfl,rfl⟩,rfl,rfl,by simp only[am];exact hr,by omega,aU _⟩
 rotate_left 2
 all_goals (simp only[ahW,nameR,bT,zRZ,sevalprocAttr,↓reduceIte, *] at hr <;> cases hr <;> (refine bB aMC ?_;simp only[↓zA,sevalprocAttr,apx,bw,pT,zP,be,zLX, *];all_goals exact fz))
abbrev crV(t:List UInt8)(K3 K6 K7 K8:X):List X:=[.of (ci 1),.of (aG (aK t)),.of (aG {data:=#[]}),K3,.nil,.of (cb false),K6,K7,K8,.nil,.nil,.nil,.nil]
def st3{α:Type}{e z:Nat}{f:α->List C}{K:X}{a:List α}(h:LiK (.cell 1 3) e z f K a):X.tr some (cf [0] []) K=K/\K.refs=[]/\X.tr (pos [0,1]) (fD [0,1] []) K=K/\(∀ a b,X.tr (λi=>some (ce [0,1] 2 i)) (cB [0,1] 2 a b) K=K)/\(∀ a b c,X.drop (.nm a b c) K=K)/\(∀ a b c,X.tr some (aar 1 6 1 [(Tk.nm a b c,Tk.cell 1 6)]) K=K)/\X.drop (.cell 1 6) K=K/\(∀ a b c,X.tr some (aar 1 7 1 [(Tk.nm a b c,Tk.cell 1 7)]) K=K)/\X.drop (.cell 1 7) K=K/\(∀ a b c,X.tr some (aar 1 8 1 [(Tk.nm a b c,Tk.cell 1 8)]) K=K)/\X.drop (.cell 1 8) K=K:=by
 rcases h with ⟨h,_⟩|h <;> subst h <;> (and_intros <;> intros <;> rfl)
def st6{α:Type}{e z:Nat}{f:α->List C}{K:X}{a:List α}(h:LiK (.cell 1 6) e z f K a):X.tr some (cf [0] []) K=K/\K.refs=[]/\X.tr (pos [0,1]) (fD [0,1] []) K=K/\(∀ a b,X.tr (λi=>some (ce [0,1] 2 i)) (cB [0,1] 2 a b) K=K)/\(∀ a b c,X.drop (.nm a b c) K=K)/\(∀ a b c,X.tr some (aar 1 3 1 [(Tk.nm a b c,Tk.cell 1 3)]) K=K)/\X.drop (.cell 1 3) K=K/\(∀ a b c,X.tr some (aar 1 7 1 [(Tk.nm a b c,Tk.cell 1 7)]) K=K)/\X.drop (.cell 1 7) K=K/\(∀ a b c,X.tr some (aar 1 8 1 [(Tk.nm a b c,Tk.cell 1 8)]) K=K)/\X.drop (.cell 1 8) K=K:=by
 rcases h with ⟨h,_⟩|h <;> subst h <;> (and_intros <;> intros <;> rfl)
def st7{α:Type}{e z:Nat}{f:α->List C}{K:X}{a:List α}(h:LiK (.cell 1 7) e z f K a):X.tr some (cf [0] []) K=K/\K.refs=[]/\X.tr (pos [0,1]) (fD [0,1] []) K=K/\(∀ a b,X.tr (λi=>some (ce [0,1] 2 i)) (cB [0,1] 2 a b) K=K)/\(∀ a b c,X.drop (.nm a b c) K=K)/\(∀ a b c,X.tr some (aar 1 3 1 [(Tk.nm a b c,Tk.cell 1 3)]) K=K)/\X.drop (.cell 1 3) K=K/\(∀ a b c,X.tr some (aar 1 6 1 [(Tk.nm a b c,Tk.cell 1 6)]) K=K)/\X.drop (.cell 1 6) K=K/\(∀ a b c,X.tr some (aar 1 8 1 [(Tk.nm a b c,Tk.cell 1 8)]) K=K)/\X.drop (.cell 1 8) K=K:=by
 rcases h with ⟨h,_⟩|h <;> subst h <;> (and_intros <;> intros <;> rfl)
def st8{α:Type}{e z:Nat}{f:α->List C}{K:X}{a:List α}(h:LiK (.cell 1 8) e z f K a):X.tr some (cf [0] []) K=K/\K.refs=[]/\X.tr (pos [0,1]) (fD [0,1] []) K=K/\(∀ a b,X.tr (λi=>some (ce [0,1] 2 i)) (cB [0,1] 2 a b) K=K)/\(∀ a b c,X.drop (.nm a b c) K=K)/\(∀ a b c,X.tr some (aar 1 3 1 [(Tk.nm a b c,Tk.cell 1 3)]) K=K)/\X.drop (.cell 1 3) K=K/\(∀ a b c,X.tr some (aar 1 6 1 [(Tk.nm a b c,Tk.cell 1 6)]) K=K)/\X.drop (.cell 1 6) K=K/\(∀ a b c,X.tr some (aar 1 7 1 [(Tk.nm a b c,Tk.cell 1 7)]) K=K)/\X.drop (.cell 1 7) K=K:=by
 rcases h with ⟨h,_⟩|h <;> subst h <;> (and_intros <;> intros <;> rfl)
def a2t:=ai (gq @zq @akp @a5e @abO @aeo @baR) (gq @aca @aiq @ajn @bQ @zT0 (kf aQg))
def bcx(l:List Tn)(e:Int)(t:List UInt8)(cs:List Cd)(K3 K6 K7 K8:X)(i:Nat)(r:Cd×Nat×Bool):Prop:=match r with
 | (c,j,false)=>aH Tryz.prog pr 182 [.ptr 0 0,.ptr 1 0] [pT l i e,.var 49 (crV t K3 K6 K7 K8)] ⟨false,[],[pT l j e,.var 49 (crV t (.own (.cell 1 3) 149 3 (fl cdC (cs++[c])) (cs++[c]).length) K6 K7 K8)]⟩
 | (_,j,true)=>aH Tryz.prog pr 182 [.ptr 0 0,.ptr 1 0] [pT l i e,.var 49 (crV t K3 K6 K7 K8)] ⟨true,[aaq l j e],[pT l j e,.var 49 (crV t K3 K6 K7 K8)]⟩
def alk{l:List Tn}(e:Int)(hl:l.length<LB)(t:List UInt8){cs:List Cd}{ks:List Kd}{rs:List Rd}{xs:List Xp}{K3 K6 K7 K8:X}(hK:LiK (.cell 1 3) 149 3 cdC K3 cs)(k6:LiK (.cell 1 6) 151 2 kdC K6 ks)(k7:LiK (.cell 1 7) 153 3 rdC K7 rs)(k8:LiK (.cell 1 8) 28 9 xpC K8 xs)
  (i:Nat) (r:Cd×Nat×Bool) (hi:i<=l.length) (hc:cs.length<=i) (hr:ajf l i=some r):bcx l e t cs K3 K6 K7 K8 i r:=by
 have s6:=st6 k6
 have s7:=st7 k7
 have s8:=st8 k8
 have hos:(cs.length+1<=LIM)=True:=aa (by unfold LIM;unfold LB at hl;omega)
 rcases aeP l i e hl with _|_
 rcases eWX l (i+1) e [105,110,116] hl with _|_
 rcases eWX l (i+2) e [110,111,116] hl with _|_
 rcases eWX l (i+3) e [110,117,108,108] hl with _|_
 rotate_left 3
 rcases eWX l (i+1) e [116,101,120,116] hl with _|_
 rcases eWX l (i+2) e [110,111,116] hl with _|_
 rcases eWX l (i+3) e [110,117,108,108] hl with _|_
 rotate_left 3
 rcases eWX l (i+1) e [98,111,111,108] hl with _|_
 rcases eWX l (i+2) e [110,111,116] hl with _|_
 rcases eWX l (i+3) e [110,117,108,108] hl with _|_
 rotate_left 5
 all_goals (simp only[ajf,awt,opT,nameR,bT,zRZ,sevalprocAttr,↓reduceIte, *] at hr <;> cases hr <;> (rcases hK with ⟨hK,hK'⟩|hK;all_goals (subst hK;try subst hK');all_goals (refine bB aQg ?_;simp only[Tryz.f182,↓zA,sevalprocAttr,a2t,pT,zP,be,zLX,dV,aaG,aiq,uL, *];all_goals exact fz)))
def liX(t:Tk)(e z:Nat)(cs:List C)(n:Nat)(b:Bool):X:=if b then .own t e z cs n else .nil
def ade(t:Tk)(e z:Nat)(cs:List C)(n:Nat):liX t e z cs n true=.own t e z cs n:=rfl
def aiy(t:Tk)(e z:Nat)(cs:List C)(n:Nat):liX t e z cs n false=.nil:=rfl
def ajy{α:Type}{t:Tk}{e z:Nat}{f:α->List C}{a:List α}{b:Bool}(h:b=false->a=[]):LiK t e z f (liX t e z (fl f a) a.length b) a:=by
 cases b with
 | true=>exact .inr rfl
 | false=>exact .inl ⟨rfl,h rfl⟩
abbrev crX(r:Nat)(t:List UInt8)(c:Cr)(w6 w7 w8:Bool):List X:=crV t (.own (.cell r 3) 149 3 (fl cdC c.cs) c.cs.length) (liX (.cell r 6) 151 2 (fl kdC c.ks) c.ks.length w6) (liX (.cell r 7) 153 3 (fl rdC c.rs) c.rs.length w7) (liX (.cell r 8) 28 9 (fl xpC c.xs) c.xs.length w8)
structure CrB (c:Cr) (w6 w7 w8:Bool) (i:Nat):Prop where
 k:w6=false->c.ks=[]
 r:w7=false->c.rs=[]
 x:w8=false->c.xs=[]
 y:w8=true->c.xs≠[]
 nc:c.cs≠[]
 lc:c.cs.length<=i
 lk:c.ks.length<=i
 lr:c.rs.length<=i
 lx:c.xs.length<=i
abbrev a1q(l:List Tn)(e:Int)(t:List UInt8)(c:Cr)(w6 w7 w8:Bool)(i:Nat)(an:An):Prop:=aH Tryz.prog pr 183 [.ptr 0 0,.ptr 1 0] [pT l i e,.var 49 (crX 1 t c w6 w7 w8)] an
def bcw(l:List Tn)(e:Int)(t:List UInt8)(c:Cr)(w6 w7 w8:Bool)(i:Nat)(r:Cr×Nat×Bool):Prop:=match r with
 | (c',j,false)=>∃ w6' w7' w8',CrB c' w6' w7' w8' j/\a1q l e t c w6 w7 w8 i ⟨false,[],[pT l j e,.var 49 (crX 1 t c' w6' w7' w8')]⟩
 | (_,j,true)=>∃ ob,a1q l e t c w6 w7 w8 i ⟨true,[aaq l j e],[pT l j e,ob]⟩
def axi:abb (aa5 (Value.agg #[Value.int IntKind.i64 0,Value.int IntKind.i64 0,Value.int IntKind.i64 0,Value.string {data:=#[]},Value.string {data:=#[]},Value.string {data:=#[]},Value.bool false,Value.slice none 0 0,Value.slice none 0 0]))=true:=rfl
def ad5:=gj (gz @Tryz.f183.eq_1 @zq @abO @aeo @baQ @aSp @acj @aE0 @baP) (gz @aSo @a5d @akp @baO @baN @aKr @akr @aRh @bF) (gz @aca @ad8 @afX @eZ @bQ @ajm @ajl @zT0 (kf adT))
def aBN{l:List Tn}{i:Nat}{c:Cd}{j:Nat}(h:ajf l i=some (c,j,false)):i+1<=j:=by
 unfold ajf nameR bT at h
 cases k:bq l i 2 with
 | false=>rw[k] at h;cases h
 | true =>
  rw[k] at h
  simp only[am] at h
  cases t:awt l (i+1) with
  | none=>rw[t] at h;cases h
  | some n =>
   rw[t] at h
   simp only at h
   split at h
   .unfold wantE bG at h
    split at h
    .cases h;omega
    .cases h
   .cases h;omega
def ayc{l:List Tn}{e:Int}{F:Fs}(hl:l.length<LB)(H:PY l e F)(t:List UInt8)(c:Cr)(w6 w7 w8:Bool)(i:Nat)(B:CrB c w6 w7 w8 i)(r:Cr×Nat×Bool)(hi:i<=l.length)(hr:elS F l i c=some r):bcw l e t c w6 w7 w8 i r:=by
 have s3:=st3 (K:=.own (.cell 1 3) 149 3 (fl cdC c.cs) c.cs.length) (f:=cdC) (a:=c.cs) (.inr rfl)
 have s6:=st6 (ajy (t:=.cell 1 6) (e:=151) (z:=2) (f:=kdC) B.k)
 have s7:=st7 (ajy (t:=.cell 1 7) (e:=153) (z:=3) (f:=rdC) B.r)
 have s8:=st8 (ajy (t:=.cell 1 8) (e:=28) (z:=9) (f:=xpC) B.x)
 have hcs:decide (c.cs=[])=false:=bd B.nc
 have hx0:w8=true->((c.xs.length=0)=False):=λh=>aF (λh'=>B.y h (bP h'))
 have hos:(c.ks.length+1<=LIM)=True/\(c.rs.length+1<=LIM)=True/\(c.xs.length+1<=LIM)=True:=by
  have:=B.lk;have:=B.lr;have:=B.lx
  refine⟨aa ?_,aa ?_,aa ?_⟩ <;> (unfold LIM;unfold LB at hl;omega)
 rcases aeP l i e hl with ⟨c1,b1,t1,x1⟩|⟨c1,t1⟩
 .cases e2:ajf l i with
  | none =>
   simp only[elS,aD,zRZ,sevalprocAttr,↓reduceIte, *] at hr
   try cases hr
  | some r2 =>
   have g2:=alk e hl t (.inr rfl) (ajy B.k) (ajy B.r) (ajy B.x) i _ hi B.lc e2
   have P2:=Pl.at (ate hi) e2
   obtain⟨a,j,q⟩:=r2
   obtain⟨u,v⟩:=P2
   dsimp only at u v
   cases q with
   | true =>
    have k2:=λK=>aH.k g2 K
    simp only[elS,aD,zRZ,sevalprocAttr,↓reduceIte, *] at hr
    cases hr
    refine⟨.var 49 (crX 1 t c w6 w7 w8),?_⟩
    all_goals (refine bB adT ?_;simp only[↓zA,sevalprocAttr,ad5,pT,zP,be,zLX, *];all_goals exact fz)
   | false =>
    have k2:=λK=>aH.k g2 K
    simp only[elS,aD,zRZ,sevalprocAttr,↓reduceIte, *] at hr
    cases hr
    refine⟨w6,w7,w8,⟨B.k,B.r,B.x,B.y,by simp,by have:=B.lc;have:=aBN e2;simp only[aey];omega,by have:=B.lk;dsimp only;omega,by have:=B.lr;dsimp only;omega,by have:=B.lx;dsimp only;omega⟩,?_⟩
    refine bB adT ?_
    simp only[↓zA,sevalprocAttr,ad5,pT,zP,be,zLX, *]
    all_goals simp only[crX,crV]
    all_goals exact fz
 rcases eWX l i e [112,114,105,109,97,114,121] hl with _|_
 rcases eWX l (i+1) e [107,101,121] hl with _|_
 rcases eR (acg l (i+2)) λ_=>aeF e hl _ _ aC with _|⟨a5,j5,_⟩|⟨a5,j5,_⟩
 rotate_left
 .simp only[elS,aD,zRZ,sevalprocAttr,↓reduceIte, *] at hr
  cases hr
  refine⟨.var 49 (crX 1 t c w6 w7 w8),?_⟩
  cases w6
  all_goals (refine bB adT ?_;simp only[↓zA,sevalprocAttr,ad5,pT,zP,be,zLX,ad8,ade,aiy, *])
  all_goals exact fz
 .simp only[elS,aD,zRZ,sevalprocAttr,↓reduceIte, *] at hr
  cases hr
  refine⟨true,w7,w8,⟨(λh=>by cases h),B.r,B.x,B.y,B.nc,by have:=B.lc;dsimp only;omega,by have:=B.lk;dsimp only;simp only[bg,aN,aR];omega,by have:=B.lr;dsimp only;omega,by have:=B.lx;dsimp only;omega⟩,?_⟩
  cases w6 with
  | false =>
   have h0:=B.k rfl
   refine bB adT ?_
   simp only[↓zA,sevalprocAttr,ad5,pT,zP,be,zLX,aaG,ad8,aiy, *]
   all_goals simp only[crX,crV,ade]
   all_goals exact fz
  | true =>
   refine bB adT ?_
   simp only[↓zA,sevalprocAttr,ad5,pT,zP,be,zLX,dV,ad8,ade, *]
   all_goals simp only[crX,crV,ade]
   all_goals exact fz
 rotate_left
 rcases eWX l i e [117,110,105,113,117,101] hl with _|_
 rcases eR (acg l (i+1)) λ_=>aeF e hl _ _ aC with _|⟨a7,j7,_⟩|⟨a7,j7,_⟩
 rotate_left
 .simp only[elS,aD,zRZ,sevalprocAttr,↓reduceIte, *] at hr
  cases hr
  refine⟨.var 49 (crX 1 t c w6 w7 w8),?_⟩
  cases w6
  all_goals (refine bB adT ?_;simp only[↓zA,sevalprocAttr,ad5,pT,zP,be,zLX,ad8,ade,aiy, *])
  all_goals exact fz
 .simp only[elS,aD,zRZ,sevalprocAttr,↓reduceIte, *] at hr
  cases hr
  refine⟨true,w7,w8,⟨(λh=>by cases h),B.r,B.x,B.y,B.nc,by have:=B.lc;dsimp only;omega,by have:=B.lk;dsimp only;simp only[bg,aN,aR];omega,by have:=B.lr;dsimp only;omega,by have:=B.lx;dsimp only;omega⟩,?_⟩
  cases w6 with
  | false =>
   have h0:=B.k rfl
   refine bB adT ?_
   simp only[↓zA,sevalprocAttr,ad5,pT,zP,be,zLX,aaG,ad8,aiy, *]
   all_goals simp only[crX,crV,ade]
   all_goals exact fz
  | true =>
   refine bB adT ?_
   simp only[↓zA,sevalprocAttr,ad5,pT,zP,be,zLX,dV,ad8,ade, *]
   all_goals simp only[crX,crV,ade]
   all_goals exact fz
 rcases eWX l i e [102,111,114,101,105,103,110] hl with _|_
 rcases eWX l (i+1) e [107,101,121] hl with _|_
 rcases eR (acg l (i+2)) λ_=>aeF e hl _ _ aC with _|⟨a10,j10,_⟩|⟨a10,j10,_⟩
 rotate_left 2
 rcases eWX l j10 e [114,101,102,101,114,101,110,99,101,115] hl with _|_
 rcases aeP l (j10+1) e hl with _|_
 rcases eR (acg l (j10+2)) λ_=>aeF e hl _ _ aC with _|⟨a13,j13,_⟩|⟨a13,j13,_⟩
 rotate_left 2
 .simp only[elS,awW,nameR,bT,aD,zRZ,sevalprocAttr,↓reduceIte, *] at hr
  cases hr
  refine⟨w6,true,w8,⟨B.k,(λh=>by cases h),B.x,B.y,B.nc,by have:=B.lc;dsimp only;omega,by have:=B.lk;dsimp only;omega,by have:=B.lr;dsimp only;simp only[bg,aN,aR];omega,by have:=B.lx;dsimp only;omega⟩,?_⟩
  cases w7 with
  | false =>
   have h0:=B.r rfl
   refine bB adT ?_
   simp only[↓zA,sevalprocAttr,ad5,pT,zP,be,zLX,aaG,afX,aiy, *]
   all_goals simp only[crX,crV,ade]
   all_goals exact fz
  | true =>
   refine bB adT ?_
   simp only[↓zA,sevalprocAttr,ad5,pT,zP,be,zLX,dV,afX,ade, *]
   all_goals simp only[crX,crV,ade]
   all_goals exact fz
 rotate_left 3
 rcases eWX l i e [99,104,101,99,107] hl with _|_
 rcases eWX l (i+1) e [40] hl with _|_
 rcases eR (F.or (i+2) []) λ_=>H.or _ _ aC with _|⟨a16,j16,_⟩|⟨a16,j16,_⟩
 rotate_left
 .simp only[elS,aD,zRZ,sevalprocAttr,↓reduceIte, *] at hr
  cases hr
  refine⟨.var 49 (crX 1 t c w6 w7 w8),?_⟩
  cases w8
  all_goals (refine bB adT ?_;simp only[↓zA,sevalprocAttr,ad5,pT,zP,be,zLX,bF,ade,aiy,atd,ao1,E25,axi, *])
  all_goals exact fz
 rcases eWX l j16 e [41] hl with _|_
 .simp only[elS,aD,zRZ,sevalprocAttr,↓reduceIte, *] at hr
  cases hr
  refine⟨w6,w7,true,⟨B.k,B.r,(λh=>by cases h),(λ_=>by simp),B.nc,by have:=B.lc;dsimp only;omega,by have:=B.lk;dsimp only;omega,by have:=B.lr;dsimp only;omega,by have:=B.lx;dsimp only;simp only[bg,aN,aR];omega⟩,?_⟩
  cases w8 with
  | false =>
   have h0:=B.x rfl
   refine bB adT ?_
   simp only[↓zA,sevalprocAttr,ad5,pT,zP,be,zLX,bF,aiy,atd,ao1,E25,axi, *]
   all_goals simp only[crX,crV,ade]
   all_goals exact fz
  | true =>
   refine bB adT ?_
   simp only[↓zA,sevalprocAttr,ad5,pT,zP,be,zLX,dV,bF,ade,atd,ao1,E25,axi, *]
   all_goals simp only[crX,crV,ade]
   all_goals exact fz
 .simp only[elS,aD,zRZ,sevalprocAttr,↓reduceIte, *] at hr
  cases hr
  refine⟨.var 49 (crX 1 t ⟨c.cs,c.ks,c.rs,c.xs++[a16]⟩ w6 w7 true),?_⟩
  cases w8 with
  | false =>
   have h0:=B.x rfl
   refine bB adT ?_
   simp only[↓zA,sevalprocAttr,ad5,pT,zP,be,zLX,bF,aiy,atd,ao1,E25,axi, *]
   all_goals simp only[crX,crV,ade]
   all_goals exact fz
  | true =>
   refine bB adT ?_
   simp only[↓zA,sevalprocAttr,ad5,pT,zP,be,zLX,dV,bF,ade,atd,ao1,E25,axi, *]
   all_goals simp only[crX,crV,ade]
   all_goals exact fz
 rotate_left
 have e18:ajf l i=some (⟨[],0,false⟩,i,true):=by simp only[ajf,nameR,bT,c1,ah,av]
 have g18:=alk e hl t (.inr rfl) (ajy B.k) (ajy B.r) (ajy B.x) i _ hi B.lc e18
 have k18:=λK=>aH.k g18 K
 rotate_left
 all_goals (simp only[elS,awW,nameR,bT,aD,zRZ,sevalprocAttr,↓reduceIte, *] at hr <;> cases hr <;> (refine⟨.var 49 (crX 1 t c w6 w7 w8),?_⟩;all_goals (refine bB adT ?_;simp only[↓zA,sevalprocAttr,ad5,pT,zP,be,zLX,afX, *];all_goals exact fz)))
def elM(F:Fs)(l:List Tn)(n:Nat)(c:Cr)(j:Nat):Rz Cr:=if isT l j [44] then elL F l n c (j+1) else wantE (bG l j [41]) c
def aQ2(F:Fs)(l:List Tn)(n:Nat)(c:Cr)(i:Nat):elL F l (n+1) c i=(elS F l i c).on id λs j=>elM F l n s j:=rfl
def a6b(F:Fs)(l:List Tn)(i:Nat):elS F l i c0=(ajf l i).to λc=>⟨[c],[],[],[]⟩:=by
 unfold elS
 rw[show decide (c0.cs=[])=true from by simp[c0],bh,au rfl]
 rfl
def ls6{e z:Nat}{cs:List C}{n:Nat}{b:Bool}:X.tr some (cf [0] []) (liX (.cell 2 6) e z cs n b)=liX (.cell 2 6) e z cs n b/\(liX (.cell 2 6) e z cs n b).refs=[]/\X.tr (pos [0,2]) (fD [0,2] []) (liX (.cell 2 6) e z cs n b)=liX (.cell 1 6) e z cs n b/\(∀ c d,X.tr (λi=>some (ce [0,2] 3 i)) (cB [0,2] 3 c d) (liX (.cell 1 6) e z cs n b)=liX (.cell 2 6) e z cs n b):=by
 cases b <;> (and_intros <;> intros <;> rfl)
def ls7{e z:Nat}{cs:List C}{n:Nat}{b:Bool}:X.tr some (cf [0] []) (liX (.cell 2 7) e z cs n b)=liX (.cell 2 7) e z cs n b/\(liX (.cell 2 7) e z cs n b).refs=[]/\X.tr (pos [0,2]) (fD [0,2] []) (liX (.cell 2 7) e z cs n b)=liX (.cell 1 7) e z cs n b/\(∀ c d,X.tr (λi=>some (ce [0,2] 3 i)) (cB [0,2] 3 c d) (liX (.cell 1 7) e z cs n b)=liX (.cell 2 7) e z cs n b):=by
 cases b <;> (and_intros <;> intros <;> rfl)
def ls8{e z:Nat}{cs:List C}{n:Nat}{b:Bool}:X.tr some (cf [0] []) (liX (.cell 2 8) e z cs n b)=liX (.cell 2 8) e z cs n b/\(liX (.cell 2 8) e z cs n b).refs=[]/\X.tr (pos [0,2]) (fD [0,2] []) (liX (.cell 2 8) e z cs n b)=liX (.cell 1 8) e z cs n b/\(∀ c d,X.tr (λi=>some (ce [0,2] 3 i)) (cB [0,2] 3 c d) (liX (.cell 1 8) e z cs n b)=liX (.cell 2 8) e z cs n b):=by
 cases b <;> (and_intros <;> intros <;> rfl)
def am9:=ai (gv @Tryz.f91.eq_1 @zq @a5h @abO @akp @a5g @aeo @aRh) (gu @a7P @a5f @aE0 @aca @bQ @zT0 (kf aEh))
def az5{l:List Tn}{e:Int}{F:Fs}(hl:l.length<LB)(H:PY l e F)(i:Nat)(r:Sm×Nat×Bool)(hi:i<=l.length)(hr:age F l i=some r):GP 91 [.ptr 0 0] [pT l i e] l e [] smE i r:=by
 refine⟨Pl.at (arB H.fp hi) hr,?_⟩
 rcases eWX l i e [116,97,98,108,101] hl with ⟨c1,b1,t1,x1⟩|⟨c1,t1⟩
 rcases aeP l (i+1) e hl with ⟨c2,b2,t2,x2⟩|⟨c2,t2⟩
 rcases eWX l (i+2) e [40] hl with ⟨c3,b3,t3,x3⟩|⟨c3,t3⟩
 .simp only[age,nameR,bT,zRZ,sevalprocAttr,↓reduceIte,c1,c2,c3] at hr
  rw[aQ2,a6b] at hr
  cases e4:ajf l (i+3) with
  | none=>rw[e4] at hr;cases hr
  | some q =>
  have g4:=alk e hl (txT l (i+1)) (K3:=.nil) (K6:=.nil) (K7:=.nil) (K8:=.nil) (ks:=[]) (rs:=[]) (xs:=[]) (cs:=[]) (.inl ⟨rfl,rfl⟩) (.inl ⟨rfl,rfl⟩) (.inl ⟨rfl,rfl⟩) (.inl ⟨rfl,rfl⟩) (i+3) _ aC (aU _) e4
  have P4:=Pl.at (ate aC) e4
  obtain⟨a,j,q⟩:=q
  obtain⟨u,v⟩:=P4
  dsimp only at u v
  rw[e4] at hr
  cases q with
  | true =>
   have k:=λK=>aH.k g4 K
   cases hr
   refine bB aEh ?_
   simp only[↓zA,sevalprocAttr,am9,bw,pT,zP,be,zLX, *]
   all_goals exact fz
  | false =>
   have k:=λK=>aH.k g4 K
   have gt:=aBN e4
   simp only[Rz.to,Rz.on] at hr
   refine bB aEh ?_
   simp only[↓zA,sevalprocAttr,am9,bw,pT,be, *]
   refine fX _ _ (λn s=>∃ c w6 w7 w8 j,CrB c w6 w7 w8 j/\s.fr 0=.ptr 0 0/\s.fr 2=.ptr 1 0/\s.fr 3=.ptr 2 0/\s.objs=[pT l j e,.var 49 smZ,.var 49 (crX 2 (txT l (i+1)) c w6 w7 w8)]/\(elM F l n c j).to (λc=>c.sm (txT l (i+1)))=some r/\j<=l.length) ?_ l.length _ ?_
   .rintro n ⟨frn,obn,ckn⟩ ⟨c,w6,w7,w8,j,B,f0,f2,f3,fo,E,hj⟩
    dsimp only at f0 f2 f3 fo
    rcases eW l j e [44] hl with ⟨c5,b5,t5⟩|⟨c5,t5⟩
    .cases n with
     | zero=>simp only[elM,c5,am,elL,Rz.to] at E;cases E
     | succ n =>
     simp only[elM,c5,am] at E
     rw[aQ2] at E
     cases e6:elS F l (j+1) c with
     | none=>rw[e6] at E;cases E
     | some q =>
     have B1:CrB c w6 w7 w8 (j+1):=⟨B.k,B.r,B.x,B.y,B.nc,by have:=B.lc;omega,by have:=B.lk;omega,by have:=B.lr;omega,by have:=B.lx;omega⟩
     have g6:=ayc hl H (txT l (i+1)) c w6 w7 w8 (j+1) B1 _ aC e6
     have P6:=Pl.at (aIn H.fp aC) e6
     obtain⟨c',m,q⟩:=q
     obtain⟨u2,v2⟩:=P6
     dsimp only at u2 v2
     rw[e6] at E
     cases q with
     | true =>
      obtain⟨ob,g6⟩:=g6
      have k2:=λK=>aH.k g6 K
      cases E
      simp only[↓zA,sevalprocAttr,am9,pT,zP,be,zLX,ls6,ls7,ls8, *]
      all_goals exact fz
     | false =>
      obtain⟨w6',w7',w8',B',g6⟩:=g6
      have k2:=λK=>aH.k g6 K
      simp only[Rz.on] at E
      simp only[↓zA,sevalprocAttr,am9,pT,be,ls6,ls7,ls8, *]
      exact⟨n,aO n,c',w6',w7',w8',m,B',rfl,E,v2⟩
    rcases eW l j e [41] hl with _|_
    .simp only[elM,zRZ,sevalprocAttr,↓reduceIte, *] at E
     cases E
     cases w6 <;> cases w7 <;> cases w8
     all_goals (simp only[↓zA,sevalprocAttr,am9,pT,zP,be,zLX, *,ade,aiy])
     all_goals (try simp only[smE,aeT,Cr.sm])
     all_goals (try simp only[B.k rfl])
     all_goals (try simp only[B.r rfl])
     all_goals (try simp only[B.x rfl])
     all_goals exact fz
    rotate_left
    all_goals (simp only[elM,zRZ,sevalprocAttr,↓reduceIte, *] at E <;> cases E <;> (simp only[↓zA,sevalprocAttr,am9,pT,zP,be,zLX,ls6,ls7,ls8, *];all_goals exact fz))
   .simp only[↓zA,sevalprocAttr,am9,pT]
    refine⟨⟨[a],[],[],[]⟩,false,false,false,j,⟨(λ_=>rfl),(λ_=>rfl),(λ_=>rfl),(λh=>by cases h),by simp,by simp only[abf];omega,aU _,aU _,aU _⟩,?_,hr,v⟩
    simp only[crX,crV,aiy]
    all_goals exact fz
 rotate_left 2
 rcases eWX l i e [117,110,105,113,117,101] hl with _|_
 rcases eWX l (i+1) e [105,110,100,101,120] hl with _|_
 rcases aeP l (i+2) e hl with _|_
 rcases eWX l (i+3) e [111,110] hl with _|_
 rcases aeP l (i+4) e hl with _|_
 rcases eR (acg l (i+5)) λ_=>aeF e hl _ _ aC with _|⟨_,_,_⟩|⟨a13,j13,_⟩
 rotate_left 7
 rcases eWX l i e [105,110,100,101,120] hl with _|_
 rcases aeP l (i+1) e hl with _|_
 rcases eWX l (i+2) e [111,110] hl with _|_
 rcases aeP l (i+3) e hl with _|_
 rcases eR (acg l (i+4)) λ_=>aeF e hl _ _ aC with _|⟨_,_,_⟩|⟨a18,j18,_⟩
 rotate_left 7
 all_goals (simp only[age,anQ,nameR,bT,zRZ,sevalprocAttr,↓reduceIte, *] at hr <;> cases hr <;> (refine bB aEh ?_;simp only[↓zA,sevalprocAttr,am9,bw,pT,zP,be,zLX, *];all_goals exact fz))
theorem aa2{l:List Tn}{i:Nat}{w:List UInt8}(c:isT l i w=true):∀ (so:List (List UInt8×Int)),(∀ p∈so,p.1≠w)->opT l i so=none
 | [],_=>rfl
 | (v,k)::r,h=>by
  unfold opT
  rw[aiT c v (h _ abt),ar aI]
  exact aa2 c r λp hp=>h p (dY _ hp)
def asY:List (List UInt8):=[[98,101,103,105,110],[99,111,109,109,105,116],[114,111,108,108,98,97,99,107],[97,110,97,108,121,122,101],[118,97,99,117,117,109],[99,104,101,99,107,112,111,105,110,116]]
def axC:List Int:=[8,9,10,12,13,14]
def aS9(k:Nat)(h:k<6):∃ w o,asY[k]?=some w/\axC[k]?=some o/\ag1.drop k=(w,o)::ag1.drop (k+1):=by
 rcases k with _|_|_|_|_|_|k
 .exact⟨_,_,rfl,rfl,rfl⟩
 .exact⟨_,_,rfl,rfl,rfl⟩
 .exact⟨_,_,rfl,rfl,rfl⟩
 .exact⟨_,_,rfl,rfl,rfl⟩
 .exact⟨_,_,rfl,rfl,rfl⟩
 .exact⟨_,_,rfl,rfl,rfl⟩
 .omega
def aBD(tk:Tk)(e z:Nat)(i:Int):bz tP 43 (.own tk e z (fl bU asY) 6) (.of (.lit (.int .i64 i)))=bz tP 43 (.of (slC bU asY)) (.of (.lit (.int .i64 i))):=axO tk e z asY 6 rfl i
def aTe(tk:Tk)(e z:Nat)(i:Int):bz tP 66 (.own tk e z (fl aa6 axC) 6) (.of (.lit (.int .i64 i)))=bz tP 66 (.of (slC aa6 axC)) (.of (.lit (.int .i64 i))):=by
 rw[abY E66 _ _ i _ rfl,abY E66 _ _ i _ rfl]
 rfl
def arZ:=gj (gz @Tryz.f46.eq_1 @zq @a5j @ayp @aqc @abO @bbO @akp @aeo) (gz @bbN @bbM @a5i @a0l @akq @eo @aca @fC @bQ) (gu @afZ @P9 @Q9 @P3 @Q3 @zT0 (kf aMJ))
def atD{l:List Tn}{e:Int}{F:Fs}(hl:l.length<LB)(H:PY l e F)(Q:QF l F)(i:Nat)(r:Sm×Nat×Bool)(hi:i<=l.length)(hr:aea F l i=some r):GP 46 [.ptr 0 0] [pT l i e] l e [] smE i r:=by
 refine⟨Pl.at (awL H.fp hi) hr,?_⟩
 rcases eWX l i e [115,101,108,101,99,116] hl with ⟨c1,b1,t1,x1⟩|⟨c1,t1⟩
 have ok1:=aa2 c1 ag1 aI
 have z2:=aB2 l i e [115,101,108,101,99,116] [40] hl hi (b:=true) (by simp only[ca,c1,x1,uL,sevalprocAttr,cI,aD])
 rcases eR (F.qy i []) λ_=>H.qy _ _ aC with e3|⟨_,_,_,_,_⟩|⟨a3,j3,e3,⟨u3,v3⟩,k3⟩
 rotate_left 3
 rcases eWX l i e [40] hl with ⟨c4,b4,t4,x4⟩|⟨c4,t4⟩
 have ok4:=aa2 c4 ag1 aI
 have z5:=aB2 l i e [115,101,108,101,99,116] [40] hl hi (b:=true) (by simp only[ca,c1,c4,sevalprocAttr,aD,bh])
 rcases eR (F.qy i []) λ_=>H.qy _ _ aC with e6|⟨_,_,_,_,_⟩|⟨a6,j6,e6,⟨u6,v6⟩,k6⟩
 rotate_left 3
 rcases eWX l i e [99,114,101,97,116,101] hl with ⟨c7,b7,t7,x7⟩|⟨c7,t7⟩
 have ok7:=aa2 c7 ag1 aI
 have z8:=aB2 l i e [115,101,108,101,99,116] [40] hl hi (b:=false) (by simp only[ca,c1,c4,sevalprocAttr,aD])
 rcases eR (age F l (i+1)) λ_=>az5 hl H _ _ aC with e9|⟨_,_,_,_,_⟩|⟨a9,j9,e9,⟨u9,v9⟩,k9⟩
 rotate_left 3
 rcases eWX l i e [100,114,111,112] hl with ⟨c10,b10,t10,x10⟩|⟨c10,t10⟩
 have ok10:=aa2 c10 ag1 aI
 have z11:=aB2 l i e [115,101,108,101,99,116] [40] hl hi (b:=false) (by simp only[ca,c1,c4,sevalprocAttr,aD])
 rcases eWX l (i+1) e [116,97,98,108,101] hl with ⟨c12,b12,t12,x12⟩|⟨c12,t12⟩
 rcases aeP l (i+2) e hl with ⟨c13,b13,t13,x13⟩|⟨c13,t13⟩
 rotate_left 2
 rcases eWX l (i+1) e [105,110,100,101,120] hl with ⟨c14,b14,t14,x14⟩|⟨c14,t14⟩
 rcases aeP l (i+2) e hl with ⟨c15,b15,t15,x15⟩|⟨c15,t15⟩
 rotate_left 3
 rcases eWX l i e [105,110,115,101,114,116] hl with ⟨c16,b16,t16,x16⟩|⟨c16,t16⟩
 have ok16:=aa2 c16 ag1 aI
 have z17:=aB2 l i e [115,101,108,101,99,116] [40] hl hi (b:=false) (by simp only[ca,c1,c4,sevalprocAttr,aD])
 rcases eR (adH F l (i+1)) λ_=>azU hl H Q _ _ aC with e18|⟨_,_,_,_,_⟩|⟨a18,j18,e18,⟨u18,v18⟩,k18⟩
 rotate_left 3
 rcases eWX l i e [117,112,100,97,116,101] hl with ⟨c19,b19,t19,x19⟩|⟨c19,t19⟩
 have ok19:=aa2 c19 ag1 aI
 have z20:=aB2 l i e [115,101,108,101,99,116] [40] hl hi (b:=false) (by simp only[ca,c1,c4,sevalprocAttr,aD])
 rcases eR (ahW F l (i+1)) λ_=>ay9 hl H _ _ aC with e21|⟨_,_,_,_,_⟩|⟨a21,j21,e21,⟨u21,v21⟩,k21⟩
 rotate_left 3
 rcases eWX l i e [100,101,108,101,116,101] hl with ⟨c22,b22,t22,x22⟩|⟨c22,t22⟩
 have ok22:=aa2 c22 ag1 aI
 have z23:=aB2 l i e [115,101,108,101,99,116] [40] hl hi (b:=false) (by simp only[ca,c1,c4,sevalprocAttr,aD])
 rcases eWX l (i+1) e [102,114,111,109] hl with ⟨c24,b24,t24,x24⟩|⟨c24,t24⟩
 rcases aeP l (i+2) e hl with ⟨c25,b25,t25,x25⟩|⟨c25,t25⟩
 rcases eR (aav F l (i+3) [119,104,101,114,101]) λ_=>aqq hl H _ _ aC with e26|⟨_,_,_,_,_⟩|⟨a26,j26,e26,⟨u26,v26⟩,k26⟩
 rotate_left 5
 rcases eWX l i e [101,120,112,108,97,105,110] hl with ⟨c27,b27,t27,x27⟩|⟨c27,t27⟩
 have ok27:=aa2 c27 ag1 aI
 have z28:=aB2 l i e [115,101,108,101,99,116] [40] hl hi (b:=false) (by simp only[ca,c1,c4,sevalprocAttr,aD])
 rcases eR (F.qy (i+1) []) λ_=>H.qy _ _ aC with e29|⟨_,_,_,_,_⟩|⟨a29,j29,e29,⟨u29,v29⟩,k29⟩
 rotate_left 3
 .have z30:=aB2 l i e [115,101,108,101,99,116] [40] hl hi (b:=false) (by simp only[ca,c1,c4,sevalprocAttr,aD])
  refine bB aMJ ?_
  simp only[↓zA,sevalprocAttr,arZ,bw,pT,zBS,be,aca, *]
  refine abJ 6 (λk s=>s.fr 0=.ptr 0 0/\s.fr 2=.ptr 1 0/\(∃ c x i,s.fr 5=.own (.nm c x i) 3 1 (fl aa6 axC) 6)/\(∃ c x i,s.fr 67=.own (.nm c x i) 9 1 (fl bU asY) 6)/\s.fr 68=.of (.lit (.int .i64 6))/\s.fr 69=aQ k/\s.objs=[pT l i e,.var 49 smZ]/\opT l i ag1=opT l i (ag1.drop k)) ?_ ?_
  .and_intros
   all_goals (simp only[↓zA,sevalprocAttr,arZ,pT];try exact⟨_,_,_,rfl⟩)
  rintro k' ⟨frk,obk,ckk⟩ hk ⟨f0,f2,⟨ka,kb,kc,f5⟩,⟨tc,tx,ti,f67⟩,f68,f69,fo,E⟩
  dsimp only at f0 f2 f5 f67 f68 f69 fo
  rcases aA k' 6 with dk|dk
  .have hw:=fq k' aC
   have dk6:((k':Int)<6)=True:=aa aC
   obtain⟨w,o,gw,go,gd⟩:=aS9 k' dk
   have gx:aaA asY (k':Int)=some w:=by rw[akk];exact gw
   have gy:aaA axC (k':Int)=some o:=by rw[akk];exact go
   rw[gd] at E
   simp only[opT] at E
   cases c:isT l i w with
   | false =>
    have kt:=λK=>aH.k (acI l i e w hl hi) K
    rw[c] at E kt
    simp only[ah,av] at E kt
    simp only[↓zA,sevalprocAttr,arZ,f0,f2,f5,f67,f68,f69,fo,pT,aBD,dk6,gx,hw,kt]
    exact⟨dk,⟨_,_,_,rfl⟩,⟨_,_,_,rfl⟩,E⟩
   | true =>
    have kt:=λK=>aH.k (acI l i e w hl hi) K
    rw[c,au rfl] at E kt
    unfold aea at hr
    rw[E] at hr
    cases hr
    simp only[↓zA,sevalprocAttr,arZ,f0,f2,f5,f67,f68,f69,fo,pT,zP,zLX,aca,aBD,aTe,dk6,gx,gy,kt]
    all_goals exact fz
  have ek:k'=6:=by omega
  subst ek
  rw[show ag1.drop 6=[] from rfl] at E
  simp only[opT] at E
  have gk:=gK l i e hl hi
  simp only[aea,E,c7,c10,c16,c19,c22,c27,ah,av] at hr
  cases eq:F.qy i [] with
  | none=>rw[eq] at hr;cases hr
  | some q =>
   have hq:=Q _ _ (by assumption) (by assumption) eq
   obtain⟨qa,qj⟩:=q
   dsimp only at hq
   subst hq
   rw[eq] at hr
   cases hr
   simp only[↓zA,sevalprocAttr,arZ,f0,f68,f69,fo,pT,zP,zLX,gk]
   all_goals exact fz
 all_goals (simp only[aea,aoW,aEH,nameR,bT,zRZ,sevalprocAttr,↓reduceIte, *] at hr <;> cases hr <;> (refine bB aMJ ?_;simp only[↓zA,sevalprocAttr,arZ,bw,pT,zP,zBS,be,zLX,bF,eo,aca, *];all_goals exact fz))
set_option maxRecDepth 1000000
def aOQ:=oC Tryz.f45 (w0S Tryz.f45)
def aOP:=oC Tryz.f45 (w1S Tryz.f45)
def aOO:=oC Tryz.f45 (w2S Tryz.f45)
def aON:=oC Tryz.f45 (w4S Tryz.f45)
def aOM:=oC Tryz.f45 (aaR (wBS Tryz.f45))
def a3M:=oC Tryz.f45 (aaR (eK (wBS Tryz.f45)))
def a3L:=oC Tryz.f45 (aaR (aaR (eK (eK (wBS Tryz.f45)))))
def aW4:=oC Tryz.f45 (eK (eK (eK (wBS Tryz.f45))))
def aW3:=oC Tryz.f90 (aaR (wDS Tryz.f90))
def aW2:=oC Tryz.f90 (aaR (aaR (eK (wDS Tryz.f90))))
def aW1:=oC Tryz.f90 (aaR (eK (eK (wDS Tryz.f90))))
def aYb(cap:Array Value)(w:World):(invoke (.fn (.func 90) cap) #[]).run Tryz.prog w=.ok (.enter 90 cap) w:=by
 show (callFunc 90 (#[]++cap)).run Tryz.prog w=_
 rw[aaI]
 exact enters_of Tryz.func90 aS rfl _ _
def aPa(p6 p7 p8:Value)(w:World):CallsD Tryz.prog 90 #[p6,p7,p8] .returning w λe u' w'=>e=.returned (.tuple #[])/\u'=.returning/\w'=w:=by
 refine callsD_of_wpS Tryz.func90 rfl λc₀ cs hu=>?_
 apply wpS_seq
 apply wpS_region
 simp[wpOpsS,go_sem,recoverD,hu,Tryz.ntmps90,Exit.thenS]
 apply wpS_seq
 apply wpS_seq
 apply wpS_region
 simp[wpOpsS,go_sem,recoverD,hu,Exit.thenS]
 refine wpS_cond (t:=true) (by simp[Act.eval,Array.replicate]) ?_
 simp only[am]
 refine wpS_of_wp (wp_ret ?_)
 cases c₀
 simp_all [bodyPostS,results,Tryz.results90,Exit.thenS]
def aan (t:TypeId) (u p6 p7 p8:Value) (w:World) (R:Ending->FrameMode->World->Prop) (h:∀ (c₀:Frame) (cs:List Frame) (T:Array Value),T.size=Tryz.f90.ntmps->T.getD 0 undef=p6->T.getD 1 undef=p7->T.getD 2 undef=p8->T.getD 3 undef=.iface t u ->
  (wDS Tryz.f90).wp Tryz.prog (λe a w'=>bodyPostS Tryz.prog Tryz.f90 c₀ cs R e a ({c₀ with mode:=.panicking [{v:=.iface t u,recovered:=true}]}::cs) w') ⟨T,[]⟩ w):CallsD Tryz.prog 90 #[p6,p7,p8] (.panicking [{v:=.iface t u,recovered:=false}]) w R:=by
 refine callsD_of_wpS Tryz.func90 rfl λc₀ cs hu=>?_
 apply wpS_seq
 apply wpS_region
 simp[wpOpsS,go_sem,recoverD,hu,Tryz.ntmps90,Exit.thenS]
 apply wpS_seq
 apply wpS_seq
 apply wpS_region
 simp[wpOpsS,go_sem,recoverD,Exit.thenS]
 refine wpS_cond (t:=false) (by simp[Act.eval,Array.replicate]) ?_
 simp only[ah,av]
 refine wpS_of_wp (wp_skip ?_)
 simp only[Exit.thenS]
 refine wpS_of_wp (h _ _ _ ?_ ?_ ?_ ?_ ?_)
 all_goals simp[Tryz.ntmps90,Array.getD,Array.replicate]
 all_goals rfl
def aZ7(tmps:Array Value)(w:World)(X:Act->World->Prop)(Q:Exit->Act->World->Prop)(hz:tmps.size=Tryz.f45.ntmps)(h:∀ cap,cap=#[tmps.getD 6 undef,tmps.getD 7 undef,tmps.getD 8 undef]->X ⟨tmps.setIfInBounds 30 (.func (.func 90) #[] cap),[⟨.fn (.func 90) cap,#[]⟩]⟩ w) :
  (w5S Tryz.f45).wp Tryz.prog (Exit.then X Q) ⟨tmps,[]⟩ w:=by
 have hmf:∀ (fn:Fn) (first cap:Array Value) (w:World),(Instr.makeFunc fn first cap).run Tryz.prog w=.ok (.func fn first cap) w:=λ_ _ _ _=>rfl
 have h':=h _ rfl
 have h30:30<tmps.size:=by rw[hz];decide
 have hg:∀ i:Nat,tmps.getD i undef=tmps[i]?.getD undef:=λi=>by simp
 simp only[hg] at h'
 apply wp_region
 simp[wpOps,go_sem,Exit.then,h30]
 exact .inl (.inl h')
def agM:=gm (gu @Tryz.f45.eq_1 @zq @avM @avL @T3 @avK @T29) (gu @aEY @avJ @aDw @aDy @akq @aca @ab9) (gu @acu @aaO @aaN @aaM @aaL @aaK @aaJ) (gu @acG @P3 @Q3 @P29 @Q29 @zT0 @aX1)
def aCh:=ai (gq @zq @avI @aDx @aca @an7 @alV) (gq @alU @P3 @Q3 @P29 @Q29 @zT0)
abbrev aVq:List X:=[.of (ci 0),.of (aG {data:=#[]}),.of (aG {data:=#[]}),.nil,.nil,.of (cb false),.nil,.nil,.nil,.nil,.nil,.nil,.nil]
def s5S(l:List Tn)(e:Int)(clk:Nat):S:=⟨fr5 46 24,[.var 49 aVq,.var 3 [.of (ci 0)],.var 29 [.of (ci 0)],pT3 l 0 e],clk⟩
def aCK{G:Go.Pe.GP}(hpr:PrSound Tryz.prog G pr)(l:List Tn)(j:Nat)(e q n:Int)(clk:Nat) :
  bt Tryz.prog G Tryz.f90.ntmps (wDS Tryz.f90) (acN (.of (.ifc 114 (.agg [ci q,ci n]))) [.var 49 aVq,.var 3 [.of (ci 0)],.var 29 [.of (ci 0)],pT3 l j e] clk) λe s7 =>
   e=.normal/\aaC Tryz.prog (pr.keep 45) Tryz.f45 (agl s7.objs s7.clk)=some ⟨false,[smE s0,aQ q,aQ n],[]⟩:=by
 generalize hΦ:(λ(e:Ex) (s6:S)=>_)=Φ
 refine bt.seq (bt.of cy hpr aW3 ?_)
 simp only[Tryz.f90,↓zA,sevalprocAttr,aCh,zWH,ak5,agJ,aEx,aEw,pT3]
 refine bt.seq (bt.seq (bt.of cy hpr aW2 ?_))
 simp only[↓zA,sevalprocAttr,aCh]
 refine bt.cond (t:=false) rfl ?_
 simp only[ah,av]
 refine bt.skip hpr ?_
 refine bt.seq (bt.of cy hpr aW1 ?_)
 simp only[↓zA,sevalprocAttr,aCh,zWH]
 refine bt.anyN cy hpr (E:=eD) (by decide +kernel) (by decide +kernel) aI 8 (by rfl) ?_
 subst hΦ
 simp only[↓zA,sevalprocAttr,aCh,zWH,↓ahk,↓aeR,↓afT,↓afU,↓ahl,↓ahm,aCx,List.replicate,aaC,Tryz.f45,agM]
 repeat' (first|exact rfl|refine ai ?_ ?_)
def awi{G:Go.Pe.GP}(hpr:PrSound Tryz.prog G pr)(s:List UInt8)(hs:s.length<LB)(l:List Tn)(p:Int)(ht:abv s=some (l,p,0))(hl:l.length<LB){F:Fs}(H:PY l s.length F)(Q:QF l F)(r:Sm×Nat×Bool)(hr:aea F l 0=some r)(ok:Bool)
  (kR:∀ K,cKp 24 [smE r.1] [] K↔K ⟨false,[aM ok],[]⟩) (h0:r.2.2=false->ok=false->0<l.length) :
  aa9 Tryz.prog G 45 [.of (aG (aK s)),.of (.fn 46 []),.of (.fn 24 [])] [] ⟨false,[smE (cS s0 s l ok r).1,aQ (cS s0 s l ok r).2.1,aQ (cS s0 s l ok r).2.2],[]⟩:=by
 have kt:=λK=>aH.k (ab4 s hs _ ht) K
 have g:=atD hl H Q 0 r (aU _) hr
 obtain⟨a,j,b⟩:=r
 obtain⟨u,v⟩:=g.1
 dsimp only at u v kR h0
 have main:∀ clk,adz Tryz.prog G pr 45 Tryz.f45 Tryz.f45.ntmps Tryz.f90.ntmps (wBS Tryz.f45) (wDS Tryz.f90) ⟨false,[smE (cS s0 s l ok (a,j,b)).1,aQ (cS s0 s l ok (a,j,b)).2.1,aQ (cS s0 s l ok (a,j,b)).2.2],[]⟩ (s5S l s.length clk):=by
  intro clk
  unfold adz
  generalize hΦ:(λ(e:Ex) (s6:S)=>_)=Φ
  refine bt.seq ?_
  cases b with
  | true =>
   have kg:=g.bad
   unfold pT at kg
   simp only[show ((0:Nat):Int)=0 from rfl] at kg
   refine bt.of cy hpr aOM ?_
   simp only[↓zA,sevalprocAttr,agM,s5S,zWH,kg,aOZ,aIO,aVU,zP]
   subst hΦ
   refine Or.inr ?_
   by_cases hj:l.length<=j
   .have hf:aaq l j s.length=.of (.ifc 114 (.agg [ci s.length,ci 3])):=au hj
    refine⟨_,_,congrArg Ex.pan hf,rfl,rfl,rfl,?_⟩
    simp only[cS,plT,au hj]
    exact aCK hpr l j s.length s.length 3 _
   .have hf:aaq l j s.length=.of (.ifc 114 (.agg [ci (bN l j).pl,ci 2])):=ar hj
    refine⟨_,_,congrArg Ex.pan hf,rfl,rfl,rfl,?_⟩
    simp only[cS,plT,ar hj]
    exact aCK hpr l j s.length (bN l j).pl 2 _
  | false =>
   have kg:=g.ok
   unfold pT at kg
   simp only[show ((0:Nat):Int)=0 from rfl] at kg
   refine bt.of cy hpr aOM ?_
   simp only[↓zA,sevalprocAttr,agM,s5S,zWH,kg,aOZ,aIO,aVU]
   refine bt.seq (bt.of cy hpr a3M ?_)
   by_cases hlt:j<l.length
   .have dl:((j:Int)<(l.length:Int))=True:=aa aC
    have kv:=λK=>aH.k (aeu l j s.length hl v) K
    unfold pT at kv
    simp only[↓zA,sevalprocAttr,agM,zWH,dl,kv,zP]
    subst hΦ
    refine Or.inr ?_
    have hj:¬l.length<=j:=by omega
    have hf:aaq l j s.length=.of (.ifc 114 (.agg [ci (bN l j).pl,ci 2])):=ar hj
    refine⟨_,_,congrArg Ex.pan hf,rfl,rfl,rfl,?_⟩
    simp only[cS,plT,au hlt,ar hj]
    exact aCK hpr l j s.length (bN l j).pl 2 _
   .have dl:((j:Int)<(l.length:Int))=False:=aF aC
    simp only[↓zA,sevalprocAttr,agM,zWH,dl]
    refine bt.seq (bt.seq (bt.of cy hpr a3L ?_))
    cases ok with
    | true =>
     simp only[↓zA,sevalprocAttr,agM,zWH,aO2,aIR,kR]
     refine bt.cond (t:=false) rfl ?_
     simp only[ah,av]
     refine bt.skip hpr ?_
     refine bt.of cy hpr aW4 ?_
     simp only[↓zA,sevalprocAttr,agM,zWH]
     subst hΦ
     refine Or.inl ⟨rfl,?_⟩
     simp only[↓zA,sevalprocAttr,agM,zWH,aaC,cS,ar hlt]
    | false =>
     simp only[↓zA,sevalprocAttr,agM,zWH,aO2,aIR,kR]
     refine bt.cond (t:=true) rfl ?_
     simp only[am]
     refine bt.seq (bt.anyN cy hpr (E:=eB) (by decide +kernel) (by decide +kernel) aI 11 (by rfl) ?_)
     have gx:=ae3 (h0 rfl rfl)
     rw[show ((0:Nat):Int)=0 from rfl] at gx
     have key:∀ s6:S,s6.fr 6=.ptr 0 0->s6.fr 7=.ptr 1 0->s6.fr 8=.ptr 2 0->s6.objs=[.var 49 [.of (ci 0),.of (aG {data:=#[]}),.of (aG {data:=#[]}),.nil,.nil,.of (cb false),.nil,.nil,.nil,.nil,.nil,.nil,.nil],.var 3 [.of (ci (bN l 0).pl)],.var 29 [.of (ci 4)],pT3 l j s.length]->Φ .ret s6:=by
      intro s6 h6 h7 h8 ho
      subst hΦ
      refine Or.inl ⟨rfl,?_⟩
      have hj:¬l.length<=0:=by have:=h0 rfl rfl;omega
      simp only[↓zA,sevalprocAttr,agM,aaC,cS,plT,ar hlt,ar hj,h6,h7,h8,ho,pT3]
      rfl
     simp only[↓zA,sevalprocAttr,agM,zWH,gx,↓ahk,↓aeR,↓afT,↓afU,↓ahl,↓ahm,aCy,List.replicate]
     repeat' (first|exact bt.ret hpr (key _ rfl rfl rfl rfl)|refine ai ?_ ?_)
 refine abH cy hpr (fn:=Tryz.f45) (fg:=Tryz.f90) Tryz.func45 rfl rfl rfl aOQ aOP aOO aON aZ7 aYb aPa aan (by show 3<=_;decide) ?_
 generalize hB:adz _ _ _ _ _ _ _ _ _ _=BD
 generalize hF:alq _ _ _ _ _=A2
 simp only[↓zA,sevalprocAttr,agM,kt]
 subst hF
 refine .inr ⟨rfl,?_⟩
 simp only[↓zA,sevalprocAttr,agM,bxO]
 refine⟨rfl,rfl,rfl,rfl,_,rfl,rfl,rfl,rfl,am1.of (fr5 46 24) rfl (λj=>by
  unfold fr5;split <;> first|exact .inr ⟨rfl,λ_=>rfl⟩|exact .inl rfl) (λ_=>rfl) (r:=3) (ty:=112) (A:=[.of (slC tnC l),.of (ci 0),.of (ci s.length)]) rfl 28 9 38 12 140 6 (by rintro o (rfl|rfl|rfl) <;> rfl),?_⟩
 subst hB
 exact main _
def aDQ{G:Go.Pe.GP}(hpr:PrSound Tryz.prog G pr)(s:List UInt8)(hs:s.length<LB)(l:List Tn)(p e:Int)(ht:abv s=some (l,p,e))(he:e≠0) :
  aa9 Tryz.prog G 45 [.of (aG (aK s)),.of (.fn 46 []),.of (.fn 24 [])] [] ⟨false,[smE s0,aQ p,aQ e],[]⟩:=by
 have kt:=λK=>aH.k (ab4 s hs _ ht) K
 have he':(e=0)=False:=aF he
 refine abH cy hpr (fn:=Tryz.f45) (fg:=Tryz.f90) Tryz.func45 rfl rfl rfl aOQ aOP aOO aON aZ7 aYb aPa aan (by show 3<=_;decide) ?_
 generalize hB:adz _ _ _ _ _ _ _ _ _ _=BD
 generalize hF:alq _ _ _ _ _=A2
 simp only[↓zA,sevalprocAttr,agM,kt,he']
 subst hF
 refine .inl ⟨rfl,?_⟩
 simp only[↓zA,sevalprocAttr,agM,aaC]
 rfl
def ami(l:List Tn)(x:Sm×Nat):List C:=ci (bN l x.2).pl::smC x.1
def ajL(l:List Tn)(x:Sm)(i:Nat):ami l (x,i)=[ci (bN l i).pl,ci x.kd,aG (aK x.tb),aG (aK x.nm),slC cdC x.cs,slC bU x.ns,cb x.un,slC kdC x.kys,slC rdC x.rfs,slC xpC x.chs,slC (lsC xpC) x.rws,slC asC x.sts,slC xpC x.wh,slC qyC x.q]:=by
 unfold ami;rw[aeT]
def a2W{α:Type}{L:List α}{a:α}(h:L.take 1=[a]):∃ J,L=a::J:=⟨L.drop 1,(ac6 1 L).symm.trans (by rw[h];rfl)⟩
def aus(tk:Tk)(xs:List X):bW tk 1 (Pe.elemOf tP 94) (some [(0,xs)])=if xs.length=14 then bE ((X.rds xs).map λcs=>.own tk 101 14 cs 1) else none:=ac2 E94 aI aI rfl tk xs
def aNu(tk tk' tk2:Tk)(cs0 cs:List C)(n m e2 z2:Nat):dP tP tk 94 94 (.own tk' 101 14 cs0 n) (.own tk2 e2 z2 cs m)=if cs.length=m*14/\n+m<=LIM then some (.own tk 101 14 (cs0++cs) (n+m),some tk') else none:=adX E94 aI aI tk tk' cs0 n (.own tk2 e2 z2 cs m) cs m rfl
def aJc(tk tk2:Tk)(cs:List C)(m e2 z2:Nat):dP tP tk 94 94 .nil (.own tk2 e2 z2 cs m)=if cs.length=m*14/\m<=LIM then some (.own tk 101 14 cs m,none) else none:=ae5 E94 aI aI tk (.own tk2 e2 z2 cs m) cs m rfl
abbrev amh(l:List Tn)(o:List (Sm×Nat)):X:=.of (slC (ami l) o)
def arY:=gm (gu @Tryz.f52.eq_1 @zq @baL @baK @a43 @a0o @aeo) (gu @aca @ab9 @an8 @a1k @a1i @aBI @aBL) (gu @aBH @acu @aaO @aaN @aaM @aaL @aaK) (gu @aaJ @bQ @acG @P3 @Q3 @zT0 (kf aZg))
def aCW{l:List Tn}{e:Int}{F:Fs}(hl:l.length<LB)(H:PY l e F)(Q:QF l F)(r:List (Sm×Nat)×Nat×Bool)(hr:adF F l (l.length+1) [] 0=some r):GP 52 [.ptr 0 0] [pT l 0 e] l e [] (amh l) 0 r:=by
 refine⟨Pl.at (aC1 H.fp _ _ (aU _)) hr,?_⟩
 refine bB aZg ?_
 simp only[↓zA,sevalprocAttr,arY,bw,pT]
 refine fX _ _ (λn s=>∃ o j,((s.fr 3=.nil/\o=[])\/∃ c x i,c<s.clk/\s.fr 3=.own (.nm c x i) 101 14 (fl (ami l) o) o.length)/\s.fr 0=.ptr 0 0/\s.objs.take 1=[pT l j e]/\adF F l n o j=some r/\j<=l.length/\o.length<=j) ?_ (l.length+1) _ ?_
 .rintro n ⟨frn,obn,ckn⟩ ⟨o,j,hK,f0,fo,E,hj,hk⟩
  dsimp only at hK f0 fo
  obtain⟨J,fo⟩:=a2W fo
  have hos:(o.length+1<=LIM)=True:=aa (by unfold LIM;unfold LB at hl;omega)
  cases n with
  | zero=>simp only[adF] at E;cases E
  | succ n =>
  unfold adF at E
  by_cases hlt:j<l.length
  .have gx:=ae3 hlt
   have dl:((j:Int)<(l.length:Int))=True:=aa aC
   rw[au hlt] at E
   rcases eR (aea F l j) λ_=>atD hl H Q _ _ aC with e1|⟨_,_,_⟩|⟨a1,j1,e1,⟨u1,v1⟩,k1⟩
   rotate_left 2
   rcases eW l j1 e [59] hl with ⟨c2,b2,t2⟩|⟨c2,t2⟩
   .simp only[zRZ,sevalprocAttr,↓reduceIte,e1,c2] at E
    rcases hK with ⟨f3,hK'⟩|⟨c,x,i',hc,f3⟩
    all_goals (try subst hK')
    .simp only[↓zA,sevalprocAttr,arY,pT,be,aaG,aca,aus,aJc,bX, *]
     and_intros
     all_goals first|exact⟨n,aO n,[(a1,j)],j1+1,asI (by rw[akl,ajL]) rfl aC,rfl,by simpa using E,by omega,by simp only[abf];omega⟩|rfl|omega
    .have hne:(c=ckn+1)=False:=aF aC
     simp only[↓zA,sevalprocAttr,arY,pT,be,aca,aus,aNu,bX, *]
     and_intros
     all_goals first|exact okN _ _ aC _|exact⟨n,aO n,o++[(a1,j)],j1+1,asH (by rw[ajL]) rfl aC,rfl,E,by omega,by simp only[aey];omega⟩|rfl|omega
   rotate_left
   all_goals (simp only[zRZ,sevalprocAttr,↓reduceIte, *] at E <;> cases E <;> (rcases hK with ⟨f3,hK'⟩|⟨c,x,i',hc,f3⟩;all_goals (try subst hK');all_goals (simp only[↓zA,sevalprocAttr,arY,pT,zP,be,zLX,aca,bX, *];all_goals exact fz)))
  .have dl:((j:Int)<(l.length:Int))=False:=aF aC
   rw[ar hlt] at E
   cases E
   rcases hK with ⟨f3,hK'⟩|⟨c,x,i',hc,f3⟩
   all_goals (try subst hK')
   all_goals (simp only[↓zA,sevalprocAttr,arY,pT,zP,f0,f3,fo,dl])
   all_goals exact fz
 .simp only[↓zA,sevalprocAttr,arY,pT]
  first|exact⟨[],0,.inl rfl,rfl,hr,aU _,aU _⟩|exact⟨[],0,rfl,rfl,hr,aU _,aU _⟩
set_option maxRecDepth 1000000
def aOL:=oC Tryz.f51 (w0S Tryz.f51)
def aOK:=oC Tryz.f51 (w1S Tryz.f51)
def aOJ:=oC Tryz.f51 (w2S Tryz.f51)
def aOI:=oC Tryz.f51 (w4S Tryz.f51)
def aOH:=oC Tryz.f51 (aaR (wBS Tryz.f51))
def a3K:=oC Tryz.f51 (aaR (eK (wBS Tryz.f51)))
def a3J:=oC Tryz.f51 (aaR (aaR (eK (eK (wBS Tryz.f51)))))
def aW0:=oC Tryz.f51 (eK (eK (eK (wBS Tryz.f51))))
def aWZ:=oC Tryz.f104 (aaR (wDS Tryz.f104))
def aWY:=oC Tryz.f104 (aaR (aaR (eK (wDS Tryz.f104))))
def aWX:=oC Tryz.f104 (aaR (eK (eK (wDS Tryz.f104))))
def aYa(cap:Array Value)(w:World):(invoke (.fn (.func 104) cap) #[]).run Tryz.prog w=.ok (.enter 104 cap) w:=by
 show (callFunc 104 (#[]++cap)).run Tryz.prog w=_
 rw[aaI]
 exact enters_of Tryz.func104 aS rfl _ _
def aO9(p6 p7 p8:Value)(w:World):CallsD Tryz.prog 104 #[p6,p7,p8] .returning w λe u' w'=>e=.returned (.tuple #[])/\u'=.returning/\w'=w:=by
 refine callsD_of_wpS Tryz.func104 rfl λc₀ cs hu=>?_
 apply wpS_seq
 apply wpS_region
 simp[wpOpsS,go_sem,recoverD,hu,Tryz.ntmps104,Exit.thenS]
 apply wpS_seq
 apply wpS_seq
 apply wpS_region
 simp[wpOpsS,go_sem,recoverD,hu,Exit.thenS]
 refine wpS_cond (t:=true) (by simp[Act.eval,Array.replicate]) ?_
 simp only[am]
 refine wpS_of_wp (wp_ret ?_)
 cases c₀
 simp_all [bodyPostS,results,Tryz.results104,Exit.thenS]
def a0w (t:TypeId) (u p6 p7 p8:Value) (w:World) (R:Ending->FrameMode->World->Prop) (h:∀ (c₀:Frame) (cs:List Frame) (T:Array Value),T.size=Tryz.f104.ntmps->T.getD 0 undef=p6->T.getD 1 undef=p7->T.getD 2 undef=p8->T.getD 3 undef=.iface t u ->
  (wDS Tryz.f104).wp Tryz.prog (λe a w'=>bodyPostS Tryz.prog Tryz.f104 c₀ cs R e a ({c₀ with mode:=.panicking [{v:=.iface t u,recovered:=true}]}::cs) w') ⟨T,[]⟩ w):CallsD Tryz.prog 104 #[p6,p7,p8] (.panicking [{v:=.iface t u,recovered:=false}]) w R:=by
 refine callsD_of_wpS Tryz.func104 rfl λc₀ cs hu=>?_
 apply wpS_seq
 apply wpS_region
 simp[wpOpsS,go_sem,recoverD,hu,Tryz.ntmps104,Exit.thenS]
 apply wpS_seq
 apply wpS_seq
 apply wpS_region
 simp[wpOpsS,go_sem,recoverD,Exit.thenS]
 refine wpS_cond (t:=false) (by simp[Act.eval,Array.replicate]) ?_
 simp only[ah,av]
 refine wpS_of_wp (wp_skip ?_)
 simp only[Exit.thenS]
 refine wpS_of_wp (h _ _ _ ?_ ?_ ?_ ?_ ?_)
 all_goals simp[Tryz.ntmps104,Array.getD,Array.replicate]
 all_goals rfl
def aZ6(tmps:Array Value)(w:World)(X:Act->World->Prop)(Q:Exit->Act->World->Prop)(hz:tmps.size=Tryz.f51.ntmps)(h:∀ cap,cap=#[tmps.getD 6 undef,tmps.getD 7 undef,tmps.getD 8 undef]->X ⟨tmps.setIfInBounds 30 (.func (.func 104) #[] cap),[⟨.fn (.func 104) cap,#[]⟩]⟩ w) :
  (w5S Tryz.f51).wp Tryz.prog (Exit.then X Q) ⟨tmps,[]⟩ w:=by
 have hmf:∀ (fn:Fn) (first cap:Array Value) (w:World),(Instr.makeFunc fn first cap).run Tryz.prog w=.ok (.func fn first cap) w:=λ_ _ _ _=>rfl
 have h':=h _ rfl
 have h30:30<tmps.size:=by rw[hz];decide
 have hg:∀ i:Nat,tmps.getD i undef=tmps[i]?.getD undef:=λi=>by simp
 simp only[hg] at h'
 apply wp_region
 simp[wpOps,go_sem,Exit.then,h30]
 exact .inl (.inl h')
def agL:=gj (gz @Tryz.f51.eq_1 @zq @avM @T94 @avL @T3 @avK @T29 @aEY) (gz @avJ @aDy @akq @ab9 @acu @aaO @aaN @aaM @aaL) (gz @aaK @aaJ @acG @P3 @Q3 @P29 @Q29 @zT0 @aX0)
def avq:=ai (gp @zq @avI @an7 @alV @alU) (gp @P3 @Q3 @P29 @Q29 @zT0)
abbrev aVp:List X:=[.nil]
def s5T(l:List Tn)(e:Int)(clk:Nat):S:=⟨fr5 52 53,[.var 94 aVp,.var 3 [.of (ci 0)],.var 29 [.of (ci 0)],pT3 l 0 e],clk⟩
def aCJ{G:Go.Pe.GP}(hpr:PrSound Tryz.prog G pr)(l:List Tn)(j:Nat)(e q n:Int)(clk:Nat) :
  bt Tryz.prog G Tryz.f104.ntmps (wDS Tryz.f104) (acN (.of (.ifc 114 (.agg [ci q,ci n]))) [.var 94 aVp,.var 3 [.of (ci 0)],.var 29 [.of (ci 0)],pT3 l j e] clk) λe s7 =>
   e=.normal/\aaC Tryz.prog (pr.keep 51) Tryz.f51 (agl s7.objs s7.clk)=some ⟨false,[amh l [],aQ q,aQ n],[]⟩:=by
 generalize hΦ:(λ(e:Ex) (s6:S)=>_)=Φ
 refine bt.seq (bt.of cy hpr aWZ ?_)
 simp only[Tryz.f104,↓zA,sevalprocAttr,avq,zWH,ak5,agJ,aEx,aEw,pT3]
 refine bt.seq (bt.seq (bt.of cy hpr aWY ?_))
 simp only[↓zA,sevalprocAttr,avq]
 refine bt.cond (t:=false) rfl ?_
 simp only[ah,av]
 refine bt.skip hpr ?_
 refine bt.seq (bt.of cy hpr aWX ?_)
 simp only[↓zA,sevalprocAttr,avq]
 refine bt.anyN cy hpr (E:=eD) (by decide +kernel) (by decide +kernel) aI 8 (by rfl) ?_
 subst hΦ
 simp only[↓zA,sevalprocAttr,avq,zWH,↓ahk,↓aeR,↓afT,↓afU,↓ahl,↓ahm,aCx,List.replicate,P94,aaC,Tryz.f51,agL]
 repeat' (first|exact rfl|refine ai ?_ ?_)
def awg{G:Go.Pe.GP}(hpr:PrSound Tryz.prog G pr)(s:List UInt8)(hs:s.length<LB)(l:List Tn)(p:Int)(ht:abv s=some (l,p,0))(hl:l.length<LB){F:Fs}(H:PY l s.length F)(Q:QF l F)(r:List (Sm×Nat)×Nat×Bool)(hr:adF F l (l.length+1) [] 0=some r)(ok:Bool)
  (kR:∀ K,cKp 53 [amh l r.1] [] K↔K ⟨false,[aM ok],[]⟩) (h0:r.2.2=false->ok=false->0<l.length) :
  aa9 Tryz.prog G 51 [.of (aG (aK s)),.of (.fn 52 []),.of (.fn 53 [])] [] ⟨false,[amh l (cS [] s l ok r).1,aQ (cS [] s l ok r).2.1,aQ (cS [] s l ok r).2.2],[]⟩:=by
 have kt:=λK=>aH.k (ab4 s hs _ ht) K
 have g:=aCW hl H Q r hr
 obtain⟨a,j,b⟩:=r
 obtain⟨u,v⟩:=g.1
 dsimp only at u v kR h0
 have main:∀ clk,adz Tryz.prog G pr 51 Tryz.f51 Tryz.f51.ntmps Tryz.f104.ntmps (wBS Tryz.f51) (wDS Tryz.f104) ⟨false,[amh l (cS [] s l ok (a,j,b)).1,aQ (cS [] s l ok (a,j,b)).2.1,aQ (cS [] s l ok (a,j,b)).2.2],[]⟩ (s5T l s.length clk):=by
  intro clk
  unfold adz
  generalize hΦ:(λ(e:Ex) (s6:S)=>_)=Φ
  refine bt.seq ?_
  cases b with
  | true =>
   have kg:=g.bad
   unfold pT at kg
   simp only[show ((0:Nat):Int)=0 from rfl] at kg
   refine bt.of cy hpr aOH ?_
   simp only[↓zA,sevalprocAttr,agL,s5T,zWH,kg,aOY,aIN,aVT,zP]
   subst hΦ
   refine Or.inr ?_
   by_cases hj:l.length<=j
   .have hf:aaq l j s.length=.of (.ifc 114 (.agg [ci s.length,ci 3])):=au hj
    refine⟨_,_,congrArg Ex.pan hf,rfl,rfl,rfl,?_⟩
    simp only[cS,plT,au hj]
    exact aCJ hpr l j s.length s.length 3 _
   .have hf:aaq l j s.length=.of (.ifc 114 (.agg [ci (bN l j).pl,ci 2])):=ar hj
    refine⟨_,_,congrArg Ex.pan hf,rfl,rfl,rfl,?_⟩
    simp only[cS,plT,ar hj]
    exact aCJ hpr l j s.length (bN l j).pl 2 _
  | false =>
   have kg:=g.ok
   unfold pT at kg
   simp only[show ((0:Nat):Int)=0 from rfl] at kg
   refine bt.of cy hpr aOH ?_
   simp only[↓zA,sevalprocAttr,agL,s5T,zWH,kg,aOY,aIN,aVT]
   refine bt.seq (bt.of cy hpr a3K ?_)
   by_cases hlt:j<l.length
   .have dl:((j:Int)<(l.length:Int))=True:=aa aC
    have kv:=λK=>aH.k (aeu l j s.length hl v) K
    unfold pT at kv
    simp only[↓zA,sevalprocAttr,agL,zWH,dl,kv,zP]
    subst hΦ
    refine Or.inr ?_
    have hj:¬l.length<=j:=by omega
    have hf:aaq l j s.length=.of (.ifc 114 (.agg [ci (bN l j).pl,ci 2])):=ar hj
    refine⟨_,_,congrArg Ex.pan hf,rfl,rfl,rfl,?_⟩
    simp only[cS,plT,au hlt,ar hj]
    exact aCJ hpr l j s.length (bN l j).pl 2 _
   .have dl:((j:Int)<(l.length:Int))=False:=aF aC
    simp only[↓zA,sevalprocAttr,agL,zWH,dl]
    refine bt.seq (bt.seq (bt.of cy hpr a3J ?_))
    cases ok with
    | true =>
     simp only[↓zA,sevalprocAttr,agL,zWH,aOX,aIM,aVS,kR]
     refine bt.cond (t:=false) rfl ?_
     simp only[ah,av]
     refine bt.skip hpr ?_
     refine bt.of cy hpr aW0 ?_
     simp only[↓zA,sevalprocAttr,agL,zWH]
     subst hΦ
     refine Or.inl ⟨rfl,?_⟩
     simp only[↓zA,sevalprocAttr,agL,zWH,P94,aaC,cS,ar hlt]
    | false =>
     simp only[↓zA,sevalprocAttr,agL,zWH,aOX,aIM,aVS,kR]
     refine bt.cond (t:=true) rfl ?_
     simp only[am]
     refine bt.seq (bt.anyN cy hpr (E:=eB) (by decide +kernel) (by decide +kernel) aI 11 (by rfl) ?_)
     have gx:=ae3 (h0 rfl rfl)
     rw[show ((0:Nat):Int)=0 from rfl] at gx
     have key:∀ s6:S,s6.fr 6=.ptr 0 0->s6.fr 7=.ptr 1 0->s6.fr 8=.ptr 2 0->s6.objs=[.var 94 [.nil],.var 3 [.of (ci (bN l 0).pl)],.var 29 [.of (ci 4)],pT3 l j s.length]->Φ .ret s6:=by
      intro s6 h6 h7 h8 ho
      subst hΦ
      refine Or.inl ⟨rfl,?_⟩
      have hj:¬l.length<=0:=by have:=h0 rfl rfl;omega
      simp only[↓zA,sevalprocAttr,agL,P94,aaC,cS,plT,ar hlt,ar hj,h6,h7,h8,ho,pT3]
      rfl
     simp only[↓zA,sevalprocAttr,agL,zWH,gx,↓ahk,↓aeR,↓afT,↓afU,↓ahl,↓ahm,aCy,List.replicate,P94]
     repeat' (first|exact bt.ret hpr (key _ rfl rfl rfl rfl)|refine ai ?_ ?_)
 refine abH cy hpr (fn:=Tryz.f51) (fg:=Tryz.f104) Tryz.func51 rfl rfl rfl aOL aOK aOJ aOI aZ6 aYa aO9 a0w (by show 3<=_;decide) ?_
 generalize hB:adz _ _ _ _ _ _ _ _ _ _=BD
 generalize hF:alq _ _ _ _ _=A2
 simp only[↓zA,sevalprocAttr,agL,kt]
 subst hF
 refine .inr ⟨rfl,?_⟩
 simp only[↓zA,sevalprocAttr,agL,bxO]
 refine⟨rfl,rfl,rfl,rfl,_,rfl,rfl,rfl,rfl,am1.of (fr5 52 53) rfl (λj=>by
  unfold fr5;split <;> first|exact .inr ⟨rfl,λ_=>rfl⟩|exact .inl rfl) (λ_=>rfl) (r:=3) (ty:=112) (A:=[.of (slC tnC l),.of (ci 0),.of (ci s.length)]) rfl 28 9 38 12 140 6 (by rintro o (rfl|rfl|rfl) <;> rfl),?_⟩
 subst hB
 exact main _
def aDP{G:Go.Pe.GP}(hpr:PrSound Tryz.prog G pr)(s:List UInt8)(hs:s.length<LB)(l:List Tn)(p e:Int)(ht:abv s=some (l,p,e))(he:e≠0) :
  aa9 Tryz.prog G 51 [.of (aG (aK s)),.of (.fn 52 []),.of (.fn 53 [])] [] ⟨false,[amh l [],aQ p,aQ e],[]⟩:=by
 have kt:=λK=>aH.k (ab4 s hs _ ht) K
 have he':(e=0)=False:=aF he
 refine abH cy hpr (fn:=Tryz.f51) (fg:=Tryz.f104) Tryz.func51 rfl rfl rfl aOL aOK aOJ aOI aZ6 aYa aO9 a0w (by show 3<=_;decide) ?_
 generalize hB:adz _ _ _ _ _ _ _ _ _ _=BD
 generalize hF:alq _ _ _ _ _=A2
 simp only[↓zA,sevalprocAttr,agL,kt,he',P94]
 subst hF
 refine .inl ⟨rfl,?_⟩
 simp only[↓zA,sevalprocAttr,agL,aaC,P94]
 rfl
end Go.Proofs.YtghkmcffifpkeaaGreat
namespace Go.Tab
open Pe
def tw(t:Tn):Nat:=1000+t.s.length
def PW(l:List Tn)(i:Nat):Nat:=((l.take i).map tw).sum
def atk{l:List Tn}{i:Nat}{t:Tn}(h:l[i]?=some t):PW l (i+1)=PW l i+1000+t.s.length:=by
 unfold PW
 rw[List.take_add_one,h]
 simp[tw,bA]
def isT_at{l:List Tn}{i:Nat}{w:List UInt8}(h:isT l i w=true):i+1<=l.length/\PW l i+1000<=PW l (i+1):=by
 unfold isT at h
 split at h
 .rename_i t e
  exact⟨(List.getElem?_eq_some_iff.1 e).1,by rw[atk e];omega⟩
 .cases h
def fO{l:List Tn}{i:Nat}{k:Int}(h:bq l i k=true):i+1<=l.length/\PW l i+1000+(txT l i).length<=PW l (i+1):=by
 unfold bq at h
 split at h
 .rename_i t e
  refine⟨(List.getElem?_eq_some_iff.1 e).1,?_⟩
  rw[atk e,txT,e]
  simp
 .cases h
def amJ{l:List Tn}{i:Nat}{k:Int}(hl:∀ t∈l,I64 t.n):I64 (nuT l i):=by
 unfold nuT
 split
 .rename_i t e
  exact hl t (bO e)
 .exact⟨by decide,by decide⟩
theorem alF{l:List Tn}{i:Nat}:∀ {so:List (List UInt8×Int)} {o:Int},opT l i so=some o->i+1<=l.length/\PW l i+1000<=PW l (i+1)/\∃ p∈so,p.2=o
 | [],_,h=>by cases h
 | (w,p)::r,o,h=>by
  unfold opT at h
  split at h
  .rename_i e
   obtain⟨h1,h2⟩:=isT_at e
   cases h
   exact⟨h1,h2,_,abt,rfl⟩
  .obtain⟨h1,h2,p,h3,h4⟩:=alF h
   exact⟨h1,h2,p,dY _ h3,h4⟩
def dw{α:Type}(l:List Tn)(i c:Nat)(W:α->Nat)(Ok:α->Prop)(r:Rz α):Prop :=
 ∃ a j b,r=some (a,j,b)/\i<=j/\j<=l.length/\Ok a/\W a+PW l i<=PW l j+c+(if b=true then 400 else 0)
section
variable {α β:Type} {l:List Tn} {i i' c c':Nat} {W:α->Nat} {Ok:α->Prop} {W':β->Nat} {Ok':β->Prop}
theorem dw.go{a:α}{j:Nat}(h1:i<=j)(h2:j<=l.length)(h3:Ok a)(h4:W a+PW l i<=PW l j+c):dw l i c W Ok (some (a,j,false)) :=
 ⟨a,j,false,rfl,h1,h2,h3,h4⟩
theorem dw.bad{a:α}{j:Nat}(h1:i<=j)(h2:j<=l.length)(h3:Ok a)(h4:W a+PW l i<=PW l j+c+400):dw l i c W Ok (some (a,j,true)) :=
 ⟨a,j,true,rfl,h1,h2,h3,h4⟩
theorem dw.any{a:α}{j:Nat}{b:Bool}(h1:i<=j)(h2:j<=l.length)(h3:Ok a)(h4:W a+PW l i<=PW l j+c):dw l i c W Ok (some (a,j,b)) :=
 ⟨a,j,b,rfl,h1,h2,h3,fx h4 (aeH _ _)⟩
theorem dw.on{r:Rz α}{g:α->β}{f:α->Nat->Rz β}(h:dw l i c W Ok r)(hi:i'<=i)
  (hg:∀ a j,Ok a->i<=j->j<=l.length->W a+PW l i<=PW l j+c+400->Ok' (g a)/\W' (g a)+PW l i'<=PW l j+c'+400)
  (hf:∀ a j,Ok a->i<=j->j<=l.length->W a+PW l i<=PW l j+c->dw l i' c' W' Ok' (f a j)):dw l i' c' W' Ok' (r.on g f):=by
 obtain⟨a,j,b,rfl,h1,h2,h3,h4⟩:=h
 cases b with
 | true=>exact⟨g a,j,true,rfl,fx hi h1,h2,(hg a j h3 h1 h2 h4).1,(hg a j h3 h1 h2 h4).2⟩
 | false=>exact hf a j h3 h1 h2 h4
theorem dw.to{r:Rz α}{g:α->β}(h:dw l i c W Ok r)(hi:i'<=i)
  (hg:∀ a j d,Ok a->i<=j->W a+PW l i<=PW l j+c+d->Ok' (g a)/\W' (g a)+PW l i'<=PW l j+c'+d):dw l i' c' W' Ok' (r.to g):=by
 obtain⟨a,j,b,rfl,h1,h2,h3,h4⟩:=h
 exact⟨g a,j,b,rfl,fx hi h1,h2,(hg a j _ h3 h1 h4).1,(hg a j _ h3 h1 h4).2⟩
theorem dw.wantE{x:α}{j:Nat}{w:List UInt8}(h1:i<=j)(h2:j<=l.length)(h3:Ok x)(h4:W x+PW l i<=PW l j+c):dw l i c W Ok (wantE (bG l j w) x):=by
 unfold Go.Tab.wantE bG
 split
 .rename_i e
  have:=isT_at e
  exact .go (j:=j+1) aC aC h3 aC
 .exact .bad (j:=j) h1 h2 h3 aC
theorem dw.wantR{x:α}{j:Nat}{w:List UInt8}{f:Nat->Rz α}(h1:i<=j)(h2:j<=l.length)(h3:Ok x)(h4:W x+PW l i<=PW l j+c+400)
  (hf:j+1<=l.length->PW l j+1000<=PW l (j+1)->dw l i c W Ok (f (j+1))):dw l i c W Ok (wantR (bG l j w) x f):=by
 unfold Go.Tab.wantR bG
 split
 .rename_i e
  split at e
  .cases e
  .cases e;exact .bad h1 h2 h3 h4
 .rename_i e
  split at e
  .rename_i e1
   cases e
   exact hf (isT_at e1).1 (isT_at e1).2
  .cases e
end
def ad9(o:Int)(ks:List Xp):xpW (cR o ks)=cD ks+11:=by
 simp only[cR,xpW,fL,aCA,v0,dT,aaw,aR]
 show 1+(0+4)+1+1+1+(cD ks+1)+1+1=_
 omega
def adY{o:Int}{ks:List Xp}(h:I64 o)(hk:dh ks):eN (cR o ks):=by
 simp only[cR,eN,V64,v0,eM,ab1,aak,cM]
 exact⟨h,⟨⟨by decide,by decide⟩,by decide,by decide⟩,hk⟩
theorem afs:∀ a b:List Xp,cD (a++b)=cD a+cD b
 | [],b=>by simp[cD]
 | x::r,b=>by simp only[cQ,cD,afs r b];omega
theorem aex:∀ {a b:List Xp},dh a->dh b->dh (a++b)
 | [],b,_,h=>h
 | x::r,b,h,h'=>by simp only[cQ,dh] at h ⊢;exact⟨h.1,aex h.2 h'⟩
def ajV{a b:Xp}(h:eN a)(h':eN b):dh [a,b]:=⟨h,h',trivial⟩
def aa8{a:Xp}(h:eN a):dh [a]:=⟨h,trivial⟩
def abQ(a:Xp):cD [a]=xpW a:=by simp[cD]
def alr(a b:Xp):cD [a,b]=xpW a+xpW b:=by simp[cD]
abbrev FX(l:List Tn)(i c:Nat)(r:Rz Xp):Prop:=dw l i c xpW eN r
theorem at7{l:List Tn}{nx:Nat->List Xp->Rz Xp}{so:List (List UInt8×Int)}{i0 c:Nat}(hs:∀ p∈so,I64 p.2)(hn:∀ j,i0<j->j<=l.length->FX l j 0 (nx j [])) :
  ∀ n a i,l.length<n+i->i0<=i->i<=l.length->eN a->xpW a+PW l i0<=PW l i+c->FX l i0 c (act nx l so n a i)
 | 0,a,i,hf,_,h2,_,_=>by omega
 | n+1,a,i,hf,h1,h2,h3,h4=>by
  unfold act
  split
  .exact .go h1 h2 h3 h4
  .rename_i o e
   obtain⟨e1,e2,p,hp,rfl⟩:=alF e
   refine (hn (i+1) aC e1).on aC (λy j hy h5 h6 h7=>⟨adY (hs p hp) (ajV h3 hy),by rw[ad9,alr];omega⟩) λy j hy h5 h6 h7=>?_
   exact at7 hs hn n _ j aC aC h6 (adY (hs p hp) (ajV h3 hy)) (by rw[ad9,alr];omega)
def aiR{l:List Tn}{nx:Nat->List Xp->Rz Xp}{so:List (List UInt8×Int)}{i c:Nat}{pre:List Xp}(hs:∀ p∈so,I64 p.2)(hn:∀ j,i<j->j<=l.length->FX l j 0 (nx j []))
  (h0:FX l i c (nx i pre)):FX l i c (acr nx l so i pre):=by
 unfold acr
 exact h0.on (ae _) (λy j hy _ _ h=>⟨hy,h⟩) λy j hy h5 h6 h7=>at7 hs hn _ _ j aC h5 h6 hy h7
def awc(o:Int)(v:V)(tb nm:List UInt8)(di:Bool)(ks:List Xp)(sb:List Qy):xpW (.mk o v tb nm di ks sb)=v.s.size+tb.length+nm.length+cD ks+aaw sb+11:=by
 simp only[xpW,fL,aCA,dT]
 omega
def aok(o:Int)(v:V)(tb nm:List UInt8)(di:Bool)(ks:List Xp)(sb:List Qy):eN (.mk o v tb nm di ks sb)↔I64 o/\V64 v/\dh ks/\ab1 sb:=by
 simp only[eN,eM,cM]
def aoo:V64 v0:=⟨⟨by decide,by decide⟩,by decide,by decide⟩
def akF:eN x0:=(aok ..).2 ⟨⟨by decide,by decide⟩,aoo,trivial,trivial⟩
def aCz:fM y0:=by
 simp only[y0,fM,eM,dh,ab1,adj,acS,lsP]
 exact⟨⟨by decide,by decide⟩,trivial,trivial,trivial,trivial,trivial,trivial,trivial,trivial,by simp,⟨by decide,by decide⟩,by decide,by decide⟩
def avV:acY f0:=by
 simp only[f0,acY,eM,dh,ab1,acS]
 exact⟨⟨by decide,by decide⟩,trivial,trivial,trivial,trivial,trivial⟩
def ar1:xpW x0=11:=rfl
def aVC:qyW y0=13:=rfl
def aMO:fmW f0=7:=rfl
def aQ4(t s:List UInt8):xpW (aij t s)=t.length+s.length+11:=by rw[aij,awc];simp[v0,cD,aaw]
def aIy(t s:List UInt8):eN (aij t s):=(aok ..).2 ⟨⟨by decide,by decide⟩,aoo,trivial,trivial⟩
def arq(o:Int)(f:List UInt8)(di:Bool)(ks:List Xp):xpW (ajd o f di ks)=f.length+cD ks+11:=by rw[ajd,awc];simp[v0,aaw]
def anR{o:Int}(f:List UInt8)(di:Bool){ks:List Xp}(h:I64 o)(hk:dh ks):eN (ajd o f di ks):=(aok ..).2 ⟨h,aoo,hk,trivial⟩
def avw(o:Int)(ks:List Xp)(q:Qy):xpW (afu o ks q)=cD ks+qyW q+11:=by rw[afu,awc];simp[v0,aaw]
def aqH{o:Int}{ks:List Xp}{q:Qy}(h:I64 o)(hk:dh ks)(hq:fM q):eN (afu o ks q):=(aok ..).2 ⟨h,aoo,hk,hq,trivial⟩
def avH(no:Bool)(a:Xp):xpW (ai8 no a)<=xpW a+11:=by
 unfold ai8
 split
 .rw[ad9,abQ];omega
 .omega
def aqY(no:Bool){a:Xp}(h:eN a):eN (ai8 no a):=by
 unfold ai8
 split
 .exact adY ⟨by decide,by decide⟩ (aa8 h)
 .exact h
def ajh(t:Th):Prop:=fM t.y/\eN t.e/\acY t.f
def awl{t:Th}(h:ajh t):eN t.val:=by
 unfold Th.val
 split
 .exact aqH ⟨by decide,by decide⟩ trivial h.1
 .exact h.2.1
def avt{t:Th}(h:t.q=true):xpW t.val=qyW t.y+11:=by
 unfold Th.val
 rw[au h,avw];simp[cD]
def aG8{a:Xp}(h:eN a):ajh (.ofE a):=⟨aCz,h,avV⟩
def aqW{a:Qy}(h:fM a):ajh (.ofQ a):=⟨h,akF,avV⟩
def axe{a:Fm}(h:acY a):ajh (.ofF a):=⟨aCz,akF,h⟩
structure FOk (l:List Tn) (F:Fs) (i:Nat):Prop where
 or:∀ j pre,i<=j->j<=l.length->dh pre->FX l j (cD pre) (F.or j pre)
 no:∀ j,i<=j->j<=l.length->FX l j 0 (F.no j)
 un:∀ j,i<=j->j<=l.length->FX l j 0 (F.un j)
 qy:∀ j pre,i<=j->j<=l.length->ab1 pre->dw l j (aaw pre) qyW fM (F.qy j pre)
 ins:∀ j,i<=j->j<=l.length->dw l j 50 (λt=>xpW t.val) ajh (F.ins j)
 fr:∀ j pre,i<=j->j<=l.length->acS pre->dw l j (abM pre) fmW acY (F.fr j pre)
 so:∀ j,i<=j->j<=l.length->dw l j 50 (λt=>qyW t.y+fmW t.f) ajh (F.so j)
theorem FOk.mono{l:List Tn}{F:Fs}{i i':Nat}(h:FOk l F i)(hi:i<=i'):FOk l F i' :=
 ⟨λj p a=>h.or j p aC,λj a=>h.no j aC,λj a=>h.un j aC,λj p a=>h.qy j p aC,λj a=>h.ins j aC,λj p a=>h.fr j p aC,λj a=>h.so j aC⟩
section
variable {l:List Tn} {F:Fs} {i:Nat}
theorem FOk.or0(h:FOk l F i)(j:Nat)(h1:i<=j)(h2:j<=l.length):FX l j 0 (F.or j []):=h.or j [] h1 h2 trivial
theorem FOk.qy0(h:FOk l F i)(j:Nat)(h1:i<=j)(h2:j<=l.length):dw l j 0 qyW fM (F.qy j []):=h.qy j [] h1 h2 trivial
theorem FOk.fr0(h:FOk l F i)(j:Nat)(h1:i<=j)(h2:j<=l.length):dw l j 0 fmW acY (F.fr j []):=h.fr j [] h1 h2 trivial
theorem i0_:I64 0:=⟨by decide,by decide⟩
theorem i1:I64 1:=⟨by decide,by decide⟩
theorem i2:I64 2:=⟨by decide,by decide⟩
theorem i3:I64 3:=⟨by decide,by decide⟩
theorem aIw(hl:∀ t∈l,I64 t.n){v:V}(h:abe l i=some v):V64 v/\i+1<=l.length/\PW l i+1000+v.s.size<=PW l (i+1):=by
 unfold abe at h
 split at h
 .rename_i e;cases h
  have:=fO e
  exact⟨⟨i2,amJ (k:=0) hl⟩,this.1,by show _+0<=_;omega⟩
 split at h
 .rename_i e;cases h
  have:=fO e
  refine⟨⟨i3,i0_⟩,this.1,?_⟩
  simp only[aK,ByteArray.size,dD]
  exact this.2
 split at h
 .rename_i e;cases h
  have:=isT_at e
  exact⟨⟨i1,by first|exact i1|exact i0_⟩,this.1,by show _+0<=_;omega⟩
 split at h
 .rename_i e;cases h
  have:=isT_at e
  exact⟨⟨i1,by first|exact i1|exact i0_⟩,this.1,by show _+0<=_;omega⟩
 split at h
 .rename_i e;cases h
  have:=isT_at e
  exact⟨aoo,this.1,by show _+0<=_;omega⟩
 .cases h
theorem atT(h:FOk l F (i+1))(h1:i+1<=l.length)(h2:PW l i+1000<=PW l (i+1)):∀ {c:Nat},dw l i c (λt=>xpW t.val+900) ajh (aeh F l i):=by
 intro c
 refine (h.ins (i+1) (ae _) h1).on aC (λt j ht h3 h4 h5=>⟨ht,by simp only[id];omega⟩) λt j ht h3 h4 h5=>.wantE aC h4 ht aC
theorem aq6{i0:Nat}(h:FOk l F i0):∀ n ks i,l.length<n+i->i0<=i->i<=l.length->dh ks->cD ks+PW l i0<=PW l i->dw l i0 0 cD dh (acy F l n ks i)
 | 0,ks,i,hf,_,h2,_,_=>by omega
 | n+1,ks,i,hf,h1,h2,h3,h4=>by
  unfold acy
  split
  .rename_i e
   obtain⟨e1,e2⟩:=isT_at e
   refine (h.or0 (i+1) aC e1).on aC (λy j hy h5 h6 h7=>⟨aex h3 (aa8 hy),by rw[afs,abQ];omega⟩) λy j hy h5 h6 h7=>?_
   exact aq6 h n _ j aC aC h6 (aex h3 (aa8 hy)) (by rw[afs,abQ];omega)
  .exact .go h1 h2 h3 h4
theorem amH(h:FOk l F i)(h1:i<=l.length):dw l i 0 cD dh (aaE F l i):=by
 refine (h.or0 i (ae _) h1).on (ae _) (λy j hy h5 h6 h7=>⟨aa8 hy,by rw[abQ];exact h7⟩) λy j hy h5 h6 h7=>?_
 exact aq6 h _ _ j aC h5 h6 (aa8 hy) (by rw[abQ];omega)
theorem arI{ks:List Xp}{i0:Nat}(h1:i0<=i)(h2:i<=l.length)(h3:dh ks)(h4:cD ks+11+PW l i0<=PW l i):FX l i0 0 (afn l ks i) :=
 .wantE h1 h2 (adY ⟨by decide,by decide⟩ h3) (by rw[ad9];omega)
theorem aE9{ks:List Xp}{i0:Nat}(h:FOk l F (i0+1))(h1:i0+1<=i)(h2:i<=l.length)(h3:dh ks)(h4:cD ks+11+PW l i0<=PW l i):FX l i0 0 (agH F l ks i):=by
 unfold agH
 split
 .rename_i e
  obtain⟨e1,e2⟩:=isT_at e
  refine (h.or0 (i+1) aC e1).on aC (λy j hy h5 h6 h7=>⟨adY ⟨by decide,by decide⟩ h3,by rw[ad9];omega⟩) λy j hy h5 h6 h7=>?_
  exact arI aC h6 (aex h3 (aa8 hy)) (by rw[afs,abQ];omega)
 .exact arI aC h2 h3 h4
theorem arH{i0:Nat}(h:FOk l F (i0+1)):∀ n ks i,l.length<n+i->i0+1<=i->i<=l.length->dh ks->cD ks+11+PW l i0<=PW l i->FX l i0 0 (adW F l n ks i)
 | 0,ks,i,hf,_,h2,_,_=>by omega
 | n+1,ks,i,hf,h1,h2,h3,h4=>by
  unfold adW
  split
  .rename_i e
   obtain⟨e1,e2⟩:=isT_at e
   have hk:eN (cR 23 ks):=adY ⟨by decide,by decide⟩ h3
   refine (h.or0 (i+1) aC e1).on aC (λy j hy h5 h6 h7=>⟨hk,by rw[ad9];omega⟩) λa j ha h5 h6 h7=>?_
   refine .wantR aC h6 hk (by rw[ad9];omega) λh8 h9=>?_
   refine (h.or0 (j+1) aC h8).on aC (λy m hy h5 h6 h7=>⟨hk,by rw[ad9];omega⟩) λb m hb h10 h11 h12=>?_
   exact arH h n _ m aC aC h11 (aex h3 (ajV ha hb)) (by rw[afs,alr];omega)
  .exact aE9 h h1 h2 h3 h4
theorem aE8{i0:Nat}(h:FOk l F (i0+1))(h1:i0+1<=i)(h2:i<=l.length)(h4:11+PW l i0<=PW l i):FX l i0 0 (afm F l i):=by
 unfold afm
 split
 .exact arH h _ _ i aC h1 h2 trivial (by simp only[cD];omega)
 .exact .bad aC h2 (adY ⟨by decide,by decide⟩ trivial) (by rw[ad9];simp only[cD];omega)
theorem auy{i0:Nat}(h:FOk l F (i0+1))(f:List UInt8)(di:Bool)(h1:i0+1<=i)(h2:i<=l.length)(h4:f.length+11+PW l i0<=PW l i):FX l i0 0 (akv F l i f di):=by
 refine (h.or0 i h1 h2).on aC (λy j hy h5 h6 h7=>⟨anR f di ⟨by decide,by decide⟩ (aa8 hy),by rw[arq,abQ];omega⟩) λy j hy h5 h6 h7=>?_
 exact .wantE aC h6 (anR f di ⟨by decide,by decide⟩ (aa8 hy)) (by rw[arq,abQ];omega)
theorem aFf{i0:Nat}(h:FOk l F (i0+1))(f:List UInt8)(h1:i0+1<=i)(h2:i<=l.length)(h4:f.length+11+PW l i0<=PW l i):FX l i0 0 (callS F l i f):=by
 have hf:∀ (o:Int) di,I64 o->eN (ajd o f di []):=λo di h=>anR f di h trivial
 have hw:∀ (o:Int) di,xpW (ajd o f di [])=f.length+11:=λo di=>by rw[arq];rfl
 unfold callS
 split
 .split
  .rename_i e
   simp only[aj] at e
   obtain⟨e1,e2⟩:=isT_at e.2
   exact .wantE aC e1 (hf 25 false ⟨by decide,by decide⟩) (by rw[hw];omega)
  split
  .rename_i e
   obtain⟨e1,e2⟩:=isT_at e
   exact auy h f true aC e1 aC
  .exact auy h f false h1 h2 h4
 split
 .rename_i e
  obtain⟨e1,e2⟩:=isT_at e
  exact .go aC e1 (hf 24 false ⟨by decide,by decide⟩) (by rw[hw];omega)
 .refine (amH (h.mono h1) h2).on aC (λy j hy h5 h6 h7=>⟨anR f false ⟨by decide,by decide⟩ hy,by rw[arq];omega⟩) λy j hy h5 h6 h7=>?_
  exact .wantE aC h6 (anR f false ⟨by decide,by decide⟩ hy) (by rw[arq];omega)
theorem az3{i0:Nat}(h:FOk l F (i0+1))(h1:i0<=i)(h2:i+1<=l.length)(h4:200+PW l i0<=PW l (i+1)):FX l i0 0 (afP F l i):=by
 refine .wantR aC h2 akF (by rw[ar1];omega) λh5 h6=>?_
 have ho:I64 27:=⟨by decide,by decide⟩
 refine (h.qy0 (i+1+1) aC h5).on aC (λy j hy h5 h6 h7=>⟨aqH ho trivial hy,by rw[avw];simp only[cD];omega⟩) λy j hy h5 h6 h7=>?_
 exact .wantE aC h6 (aqH ho trivial hy) (by rw[avw];simp only[cD];omega)
theorem alK{l:List Tn}{i:Nat}:i<=(bT l i).2.1/\(i<=l.length->(bT l i).2.1<=l.length)/\(bT l i).1.length+PW l i<=PW l (bT l i).2.1:=by
 unfold bT
 split
 .rename_i e
  have:=fO e
  exact⟨by show i<=i+1;omega,λ_=>this.1,by show (txT l i).length+PW l i<=PW l (i+1);omega⟩
 .exact⟨ae _,λh=>h,by show 0+PW l i<=PW l i;omega⟩
theorem aDa(hl:∀ t∈l,I64 t.n)(h:FOk l F (i+1))(h1:i<=l.length):FX l i 0 (ac4 F l i):=by
 unfold ac4
 split
 .rename_i v e
  obtain⟨h2,h3,h4⟩:=aIw hl e
  exact .go aC h3 ((aok ..).2 ⟨⟨by decide,by decide⟩,h2,trivial,trivial⟩) (by rw[awc];simp only[cD,aaw,aR];omega)
 split
 .rename_i e
  obtain⟨e1,e2⟩:=isT_at e
  exact (atT h e1 e2 (c:=0)).to (ae _) λt j d ht _ h5=>⟨awl ht,by omega⟩
 split
 .rename_i e
  obtain⟨e1,e2⟩:=isT_at e
  exact aE8 h (ae _) e1 aC
 split
 .rename_i e
  obtain⟨e1,e2⟩:=isT_at e
  exact az3 h (ae _) e1 aC
 split
 .rename_i e
  obtain⟨e1,e2⟩:=fO e
  split
  .rename_i g
   obtain⟨g1,g2⟩:=isT_at g
   exact aFf h _ aC (show i+1+1<=_ from g1) (show _<=PW l (i+1+1) by omega)
  split
  .rename_i g
   obtain⟨g1,g2⟩:=isT_at g
   obtain⟨n1,n2,n3⟩:=alK (l:=l) (i:=i+2)
   have n2:=n2 g1
   have g2:PW l (i+1)+1000<=PW l (i+2):=g2
   exact .any aC n2 (aIy _ _) (by rw[aQ4];omega)
  .exact .go aC e1 (aIy _ _) (by rw[aQ4];simp only[aR];omega)
 .exact .bad (ae _) h1 akF (by rw[ar1];omega)
theorem ane(hl:∀ t∈l,I64 t.n)(h:FOk l F (i+1))(h1:i<=l.length)(pre:List Xp)(hp:dh pre):FX l i (cD pre) (abz F l i pre):=by
 cases pre with
 | cons x r =>
  simp only[dh] at hp
  exact .go (ae _) h1 hp.1 (by simp only[cD];omega)
 | nil =>
  simp only[abz,cD]
  split
  .rename_i e
   obtain⟨e1,e2⟩:=isT_at e
   exact (h.un (i+1) (ae _) e1).to aC λa j d ha _ h5=>⟨adY i3 (aa8 ha),by rw[ad9,abQ];omega⟩
  .exact aDa hl h h1
theorem at1(hl:∀ t∈l,I64 t.n)(h:FOk l F (i+1))(h1:i<=l.length)(pre:List Xp)(hp:dh pre):FX l i (cD pre) (agX F l i pre) :=
 aiR (by intro p hp;simp only[bj,bH,dJ] at hp;rcases hp with hp|hp|hp <;> subst hp <;> exact⟨by decide,by decide⟩) (λj h2 h3=>ane hl (h.mono aC) h3 [] trivial) (ane hl h h1 pre hp)
theorem auz(hl:∀ t∈l,I64 t.n)(h:FOk l F (i+1))(h1:i<=l.length)(pre:List Xp)(hp:dh pre):FX l i (cD pre) (ag6 F l i pre) :=
 aiR (by intro p hp;simp only[bj,bH,dJ] at hp;rcases hp with hp|hp <;> subst hp <;> exact⟨by decide,by decide⟩) (λj h2 h3=>at1 hl (h.mono aC) h3 [] trivial) (at1 hl h h1 pre hp)
theorem aul(hl:∀ t∈l,I64 t.n)(h:FOk l F (i+1))(h1:i<=l.length)(pre:List Xp)(hp:dh pre):FX l i (cD pre) (aan F l i pre) :=
 aiR (by intro p hp;simp only[bj,bH,dJ] at hp;subst hp;exact⟨by decide,by decide⟩) (λj h2 h3=>auz hl (h.mono aC) h3 [] trivial) (auz hl h h1 pre hp)
theorem aE6(hl:∀ t∈l,I64 t.n){i0:Nat}(h:FOk l F (i0+1))(h1:i<=l.length)(h2:i0<=i):FX l i 0 (aan F l i []):=aul hl (h.mono aC) h1 [] trivial
theorem axI{a:Xp}{i0 c:Nat}(ha:eN a)(hw:xpW a+100+PW l i0<=PW l i+c)(h:FOk l F (i0+1)):∀ n ks j,l.length<n+j->i0<=i->i<=j->j<=l.length->dh ks->cD ks+150+PW l i0<=PW l j+c->PW l i<=PW l j->dw l i0 c (λx=>xpW x+100) eN (inL F l a n ks j)
 | 0,ks,j,hf,_,_,h2,_,_,_=>by omega
 | n+1,ks,j,hf,h0,h1,h2,h3,h4,h9=>by
  unfold inL
  split
  .rename_i e
   obtain⟨e1,e2⟩:=isT_at e
   refine (h.or0 (j+1) aC e1).on aC (λy m hy h5 h6 h7=>⟨ha,by omega⟩) λy m hy h5 h6 h7=>?_
   exact axI ha hw h n _ m aC h0 aC h6 (aex h3 (aa8 hy)) (by rw[afs,abQ];omega) aC
  .exact .wantE aC h2 (adY ⟨by decide,by decide⟩ h3) (by rw[ad9];omega)
theorem aMh{a:Xp}{i0 c:Nat}(ha:eN a)(hw:xpW a+1000+PW l i0<=PW l i+c)(h:FOk l F (i0+1))(h0:i0+1<=i)(h1:i<=l.length):dw l i0 c (λx=>xpW x+100) eN (inS F l i a):=by
 refine .wantR aC h1 ha aC λh2 h3=>?_
 refine (h.ins (i+1) aC h2).on aC (λt j ht h5 h6 h7=>⟨ha,by omega⟩) λt j ht h5 h6 h7=>?_
 split
 .rename_i e
  simp only[aj] at e
  rw[avt e.1] at h7
  exact .wantE aC h6 (aqH ⟨by decide,by decide⟩ (aa8 ha) ht.1) (by rw[avw,abQ];omega)
 .exact axI (i:=i) ha aC h _ _ j aC aC aC h6 (ajV ha (awl ht)) (by rw[alr];omega) aC
theorem aq7(hl:∀ t∈l,I64 t.n){a:Xp}{i0 c:Nat}(no:Bool)(ha:eN a)(hw:xpW a+PW l i0<=PW l i+c)(h:FOk l F (i0+1))(h0:i0<=i)(h1:i<=l.length):FX l i0 c (abx F l no i a):=by
 unfold abx
 split
 .rename_i e
  obtain⟨e1,e2⟩:=isT_at e
  refine (aE6 hl h e1 aC).to aC λb j d hb _ h5=>⟨aqY _ (adY ⟨by decide,by decide⟩ (ajV ha hb)),?_⟩
  have:=avH no (cR 20 [a,b])
  rw[ad9,alr] at this
  omega
 split
 .rename_i e
  obtain⟨e1,e2⟩:=isT_at e
  refine (aE6 hl h e1 aC).on aC (λb j hb h5 h6 h7=>⟨ha,by omega⟩) λb j hb h5 h6 h7=>?_
  refine .wantR aC h6 ha aC λh8 h9=>?_
  refine (aE6 hl h h8 aC).to aC λy m d hy _ h5=>⟨aqY _ (adY ⟨by decide,by decide⟩ ⟨ha,hb,hy,trivial⟩),?_⟩
  have:=avH no (cR 22 [a,b,y])
  rw[ad9] at this
  simp only[cD] at this
  omega
 split
 .rename_i e
  obtain⟨e1,e2⟩:=isT_at e
  refine (aMh (i:=i+1) (i0:=i0) (c:=c) ha aC h aC e1).to (ae _) λx j d hx _ h5=>⟨aqY _ hx,?_⟩
  have:=avH no x
  omega
 .exact .any h0 h1 ha hw
theorem axF{a:Xp}{i0 c:Nat}(no:Bool)(ha:eN a)(hw:xpW a+100+PW l i0<=PW l i+c)(h0:i0<=i)(h1:i<=l.length):FX l i0 c (isS l no i a):=by
 have:=avH no (cR 19 [a])
 rw[ad9,abQ] at this
 exact .wantE h0 h1 (aqY _ (adY ⟨by decide,by decide⟩ (aa8 ha))) aC
theorem aIB(hl:∀ t∈l,I64 t.n){a:Xp}{i0 c:Nat}(ha:eN a)(hw:xpW a+PW l i0<=PW l i+c)(h:FOk l F (i0+1))(h0:i0<=i)(h1:i<=l.length):FX l i0 c (abN F l i a):=by
 unfold abN
 split
 .rename_i o e
  obtain⟨e1,e2,p,hp,rfl⟩:=alF e
  have ho:I64 p.2:=by
   simp only[agp,bj,bH,dJ] at hp
   rcases hp with hp|hp|hp|hp|hp|hp <;> subst hp <;> exact⟨by decide,by decide⟩
  exact (aE6 hl h e1 aC).to aC λb j d hb _ h5=>⟨adY ho (ajV ha hb),by rw[ad9,alr];omega⟩
 split
 .rename_i e
  obtain⟨e1,e2⟩:=isT_at e
  split
  .rename_i g
   obtain⟨g1,g2⟩:=isT_at g
   have g2:PW l (i+1)+1000<=PW l (i+2):=g2
   exact axF true ha aC aC g1
  .exact axF false ha aC aC e1
 split
 .rename_i e
  obtain⟨e1,e2⟩:=isT_at e
  exact aq7 hl true ha aC h aC e1
 .exact aq7 hl false ha hw h h0 h1
theorem anG(hl:∀ t∈l,I64 t.n)(h:FOk l F (i+1))(h1:i<=l.length)(pre:List Xp)(hp:dh pre):FX l i (cD pre) (ab6 F l i pre):=by
 unfold ab6
 split
 .rename_i e
  simp only[aj] at e
  obtain⟨e1,e2⟩:=isT_at e.2
  exact (h.no (i+1) (ae _) e1).to aC λa j d ha _ h5=>⟨adY ⟨by decide,by decide⟩ (aa8 ha),by rw[ad9,abQ];omega⟩
 .exact (aul hl h h1 pre hp).on (ae _) (λy j hy _ _ h=>⟨hy,h⟩) λy j hy h5 h6 h7=>aIB hl hy h7 h h5 h6
theorem aux(hl:∀ t∈l,I64 t.n)(h:FOk l F (i+1))(h1:i<=l.length)(pre:List Xp)(hp:dh pre):FX l i (cD pre) (ain F l i pre) :=
 aiR (by intro p hp;simp only[bj,bH,dJ] at hp;subst hp;exact⟨by decide,by decide⟩) (λj h2 h3=>anG hl (h.mono aC) h3 [] trivial) (anG hl h h1 pre hp)
theorem aKZ(hl:∀ t∈l,I64 t.n)(h:FOk l F (i+1))(h1:i<=l.length)(pre:List Xp)(hp:dh pre):FX l i (cD pre) (orS F l i pre) :=
 aiR (by intro p hp;simp only[bj,bH,dJ] at hp;subst hp;exact⟨by decide,by decide⟩) (λj h2 h3=>aux hl (h.mono aC) h3 [] trivial) (aux hl h h1 pre hp)
end
def asB(op:Int)(al:Bool)(ks:List Qy)(di:Bool)(its:List Im)(fr:List Fm)(wh gr hv:List Xp)(od:List Od)(li sk:Int) :
  qyW (.mk op al ks di its fr wh gr hv od li sk)=aaw ks+adu its+abM fr+cD wh+cD gr+cD hv+(od.map odW).sum+13:=by
 simp only[qyW,fL,lsW]
 omega
def avA(op:Int)(al:Bool)(ks:List Qy)(di:Bool)(its:List Im)(fr:List Fm)(wh gr hv:List Xp)(od:List Od)(li sk:Int) :
  fM (.mk op al ks di its fr wh gr hv od li sk)↔I64 op/\ab1 ks/\adj its/\acS fr/\dh wh/\dh gr/\dh hv/\(∀ x∈od,akx x)/\I64 li/\I64 sk:=by
 simp only[fM,eM,cM,lsP]
def aD3(st:Bool)(tb:List UInt8)(e:Xp)(az:List UInt8):imW (.mk st tb e az)=tb.length+xpW e+az.length+4:=by
 simp only[imW,fL,dT];omega
def avQ(st:Bool)(tb:List UInt8)(e:Xp)(az:List UInt8):akz (.mk st tb e az)↔eN e:=by simp only[akz,eM,cM,aak]
def aEf(kd:Int)(nm az:List UInt8)(sb:List Qy)(ks:List Fm)(on:List Xp):fmW (.mk kd nm az sb ks on)=nm.length+az.length+aaw sb+abM ks+cD on+7:=by
 simp only[fmW,fL,dT];omega
def avR(kd:Int)(nm az:List UInt8)(sb:List Qy)(ks:List Fm)(on:List Xp):acY (.mk kd nm az sb ks on)↔I64 kd/\ab1 sb/\acS ks/\dh on:=by
 simp only[acY,eM,cM]
def anx(a:Qy):aaw [a]=qyW a:=by simp[aaw]
def axR(a:Fm):abM [a]=fmW a:=by simp[abM]
def aIb(a b:Fm):abM [a,b]=fmW a+fmW b:=by simp[abM]
theorem axK:∀ a b:List Im,adu (a++b)=adu a+adu b
 | [],b=>by simp[adu]
 | x::r,b=>by simp only[cQ,adu,axK r b];omega
theorem auC:∀ {a b:List Im},adj a->adj b->adj (a++b)
 | [],b,_,h=>h
 | x::r,b,h,h'=>by simp only[cQ,adj] at h ⊢;exact⟨h.1,auC h.2 h'⟩
def al5{a:Qy}(h:fM a):ab1 [a]:=⟨h,trivial⟩
def atn{a:Fm}(h:acY a):acS [a]:=⟨h,trivial⟩
def aVj{a:Im}(h:akz a):adj [a]:=⟨h,trivial⟩
def aqK(di:Bool)(its:List Im)(fr:List Fm)(wh gr hv:List Xp):qyW (ah4 di its fr wh gr hv)=adu its+abM fr+cD wh+cD gr+cD hv+13:=by
 rw[ah4,asB];simp only[aaw,bm,bR];omega
def anq(di:Bool){its:List Im}{fr:List Fm}{wh gr hv:List Xp}(h1:adj its)(h2:acS fr)(h3:dh wh)(h4:dh gr)(h5:dh hv):fM (ah4 di its fr wh gr hv) :=
 (avA ..).2 ⟨⟨by decide,by decide⟩,trivial,h1,h2,h3,h4,h5,by simp,⟨by decide,by decide⟩,by decide,by decide⟩
def aOu(o:Int)(al:Bool)(a b:Qy):qyW (asn o al a b)=qyW a+qyW b+13:=by
 rw[asn,asB];simp only[aaw,adu,abM,cD,bm,bR];omega
def aGu{o:Int}(al:Bool){a b:Qy}(h:I64 o)(h1:fM a)(h2:fM b):fM (asn o al a b) :=
 (avA ..).2 ⟨h,⟨h1,h2,trivial⟩,trivial,trivial,trivial,trivial,trivial,by simp,⟨by decide,by decide⟩,by decide,by decide⟩
theorem ae6{l:List Tn}{i:Nat}:∀ {j:Nat},i<=j->PW l i<=PW l j
 | 0,h=>by rw[Nat.le_zero.1 h];exact ae _
 | j+1,h=>by
  rcases aA i (j+1) with q|q
  .refine fx (ae6 (j:=j) aC) ?_
   cases e:l[j]? with
   | some t=>rw[atk e];omega
   | none=>unfold PW;rw[List.take_add_one,e];simp
  .rw[show i=j+1 by omega];exact ae _
def aqj{l:List Tn}{i:Nat}:i<=(eF l i).2.1/\(i<=l.length->(eF l i).2.1<=l.length)/\(eF l i).1.length+PW l i<=PW l (eF l i).2.1:=by
 unfold eF
 split
 .rename_i e
  obtain⟨e1,e2⟩:=isT_at e
  obtain⟨h1,h2,h3⟩:=alK (l:=l) (i:=i+1)
  exact⟨by omega,λ_=>h2 e1,by omega⟩
 split
 .rename_i e
  have:=fO e
  exact⟨by show i<=i+1;omega,λ_=>this.1,by show (txT l i).length+PW l i<=PW l (i+1);omega⟩
 .exact⟨ae _,λh=>h,by show 0+PW l i<=PW l i;omega⟩
section
variable {l:List Tn} {F:Fs} {i:Nat}
theorem aHW(h:FOk l F (i+1))(h1:i<=l.length)(ho:FX l i 0 (F.or i []))(hq:dw l i 0 qyW fM (F.qy i [])):dw l i 50 (λt=>xpW t.val) ajh (ag2 F l i):=by
 unfold ag2
 split
 .exact hq.to (ae _) λa j d ha _ h5=>⟨aqW ha,by rw[avt rfl];show qyW a+11+_<=_;omega⟩
 split
 .rename_i e
  obtain⟨e1,e2⟩:=isT_at e
  refine (atT h e1 e2 (c:=0)).on (ae _) (λt j ht h5 h6 h7=>⟨ht,by simp only[id];omega⟩) λt j ht h5 h6 h7=>?_
  have hj:i+1<=j:=by
   rcases aA i j with q|q
   .omega
   .exfalso
    have:j=i:=by omega
    subst this;omega
  split
  .rename_i g
   simp only[aj] at g
   rw[avt g.1] at h7
   exact (h.qy j [t.y] hj h6 (al5 ht.1)).to aC λa m d ha _ h8=>⟨aqW ha,by rw[avt rfl];rw[anx] at h8;show qyW a+11+_<=_;omega⟩
  split
  .exact .go h5 h6 ht (by show xpW t.val+_<=_;omega)
  .exact (h.or j [t.val] hj h6 (aa8 (awl ht))).to aC λa m d ha _ h8=>⟨aG8 ha,by rw[abQ] at h8;show xpW a+_<=_;omega⟩
 .exact ho.to (ae _) λa j d ha _ h5=>⟨aG8 ha,by show xpW a+_<=_;omega⟩
theorem ahR{w:List UInt8}{i0:Nat}(h:FOk l F (i0+1))(h0:i0<=i)(h1:i<=l.length):dw l i 0 cD dh (aav F l i w):=by
 unfold aav
 split
 .rename_i e
  obtain⟨e1,e2⟩:=isT_at e
  exact (h.or0 (i+1) aC e1).to aC λa j d ha _ h5=>⟨aa8 ha,by rw[abQ];omega⟩
 .exact .go (ae _) h1 trivial (by simp only[cD];omega)
theorem aD0{i0:Nat}(h:FOk l F (i0+1))(h0:i0+1<=i)(h1:i<=l.length):dw l i 50 imW akz (adP F l i):=by
 unfold adP
 split
 .rename_i e
  obtain⟨e1,e2⟩:=isT_at e
  exact .go aC e1 ((avQ ..).2 akF) (by rw[aD3,ar1];simp only[aR];omega)
 split
 .rename_i e
  simp only[aj] at e
  obtain⟨e1,e2⟩:=fO e.1
  obtain⟨e3,e4⟩:=isT_at e.2.1
  obtain⟨e5,e6⟩:=isT_at e.2.2
  have e4:PW l (i+1)+1000<=PW l (i+2):=e4
  have e6:PW l (i+2)+1000<=PW l (i+3):=e6
  exact .go aC e5 ((avQ ..).2 akF) (by rw[aD3,ar1];simp only[aR];omega)
 .refine (h.or0 i aC h1).on (ae _) (λa j _ _ _ _=>⟨(avQ ..).2 akF,by rw[im0,aD3,ar1];simp only[aR];omega⟩) λa j ha h5 h6 h7=>?_
  obtain⟨n1,n2,n3⟩:=aqj (l:=l) (i:=j)
  exact .any aC (n2 h6) ((avQ ..).2 ha) (by rw[aD3];simp only[aR];omega)
theorem atM{i0:Nat}(h:FOk l F (i0+1))(di:Bool){its:List Im}{fr:List Fm}{wh gr:List Xp}(h1:adj its)(h2:acS fr)(h3:dh wh)(h4:dh gr)
  (h5:i0<=i) (h6:i<=l.length) (h7:adu its+abM fr+cD wh+cD gr+13+PW l i0<=PW l i):dw l i0 0 qyW fM (ahw F l di its fr wh gr i) :=
 (ahR h h5 h6).to h5 λa j d ha _ h8=>⟨anq di h1 h2 h3 h4 ha,by rw[aqK];omega⟩
theorem aGD{i0:Nat}(h:FOk l F (i0+1))(di:Bool){its:List Im}{fr:List Fm}{wh:List Xp}(h1:adj its)(h2:acS fr)(h3:dh wh)
  (h5:i0<=i) (h6:i<=l.length) (h7:adu its+abM fr+cD wh+13+PW l i0<=PW l i):dw l i0 0 qyW fM (ahx F l di its fr wh i):=by
 have hk:fM (ah4 di its fr wh [] []):=anq di h1 h2 h3 trivial trivial
 have hw:qyW (ah4 di its fr wh [] [])=adu its+abM fr+cD wh+13:=by rw[aqK];simp only[cD] <;> omega
 unfold ahx
 split
 .rename_i e
  obtain⟨e1,e2⟩:=isT_at e
  refine .wantR aC e1 hk (by rw[hw];omega) λh8 h9=>?_
  refine (amH (h.mono aC) h8).on aC (λy j hy h10 h11 h12=>⟨hk,by rw[hw];omega⟩) λy j hy h10 h11 h12=>?_
  exact atM h di h1 h2 h3 hy aC h11 aC
 .exact atM h di h1 h2 h3 trivial h5 h6 (by simp only[cD] <;> omega)
theorem atL{i0:Nat}(h:FOk l F (i0+1))(di:Bool){its:List Im}{fr:List Fm}(h1:adj its)(h2:acS fr)
  (h5:i0<=i) (h6:i<=l.length) (h7:adu its+abM fr+13+PW l i0<=PW l i):dw l i0 0 qyW fM (ahu F l di its fr i) :=
 (ahR h h5 h6).on h5 (λy j hy h10 h11 h12=>⟨anq di h1 h2 trivial trivial trivial,by rw[aqK];simp only[cD];omega⟩) λy j hy h10 h11 h12 =>
  aGD h di h1 h2 hy aC h11 aC
theorem aGE{i0:Nat}(h:FOk l F (i0+1))(di:Bool){its:List Im}(h1:adj its)
  (h5:i0<=i) (h6:i<=l.length) (h7:adu its+13+PW l i0<=PW l i):dw l i0 0 qyW fM (agT F l di its i):=by
 unfold agT
 split
 .rename_i e
  obtain⟨e1,e2⟩:=isT_at e
  refine (h.fr0 (i+1) aC e1).on aC (λy j hy h10 h11 h12=>⟨anq di h1 trivial trivial trivial trivial,by rw[aqK];simp only[cD,abM] <;> omega⟩) λy j hy h10 h11 h12=>?_
  exact atL h di h1 (atn hy) aC h11 (by rw[axR];omega)
 .exact atL h di h1 trivial h5 h6 (by simp only[abM];omega)
theorem anr{i0:Nat}(h:FOk l F (i0+1))(di:Bool):∀ n its i,l.length<n+i->i0+1<=i->i<=l.length->adj its->adu its+100+PW l i0<=PW l i->dw l i0 0 qyW fM (afx F l di n its i)
 | 0,ks,i,hf,_,h2,_,_=>by omega
 | n+1,its,i,hf,h1,h2,h3,h4=>by
  refine (aD0 h h1 h2).on aC (λy j hy h10 h11 h12=>⟨anq di h3 trivial trivial trivial trivial,by rw[aqK];simp only[cD,abM] <;> omega⟩) λy j hy h10 h11 h12=>?_
  have hk:adj (its++[y]):=auC h3 (aVj hy)
  have hw:adu (its++[y])=adu its+imW y:=by rw[axK];simp[adu]
  split
  .rename_i e
   obtain⟨e1,e2⟩:=isT_at e
   exact anr h di n _ (j+1) aC aC e1 hk (by rw[hw];omega)
  .exact aGE h di hk aC h11 (by rw[hw];omega)
theorem aGA{i0:Nat}(h:FOk l F (i0+1))(h1:i0+1<=i)(h2:i<=l.length)(h3:1000+PW l i0<=PW l i):dw l i0 0 qyW fM (ai3 F l i):=by
 unfold ai3
 split
 .rename_i e
  obtain⟨e1,e2⟩:=isT_at e
  exact anr h true _ _ (i+1) aC aC e1 trivial (by simp only[adu];omega)
 .exact anr h false _ _ i aC h1 h2 trivial (by simp only[adu];omega)
theorem aqS(h:FOk l F (i+1))(h1:i<=l.length)(pre:List Qy)(hp:ab1 pre):dw l i (aaw pre) qyW fM (acd F l i pre):=by
 cases pre with
 | cons x r =>
  simp only[ab1] at hp
  exact .go (ae _) h1 hp.1 (by simp only[aaw];omega)
 | nil =>
  simp only[acd,aaw]
  split
  .rename_i e
   obtain⟨e1,e2⟩:=isT_at e
   refine (h.qy0 (i+1) (ae _) e1).on aC (λy j hy _ _ h=>⟨hy,by simp only[id];omega⟩) λy j hy h5 h6 h7=>.wantE aC h6 hy aC
  .exact .wantR (ae _) h1 aCz (by rw[aVC];omega) λh8 h9=>aGA h (ae _) h8 aC
abbrev FQ(l:List Tn)(i c:Nat)(r:Rz Qy):Prop:=dw l i c qyW fM r
theorem atK{nx:Nat->List Qy->Rz Qy}{so:List (List UInt8×Int)}{i0 c:Nat}(hs:∀ p∈so,I64 p.2)(hn:∀ j,i0<j->j<=l.length->FQ l j 0 (nx j [])) :
  ∀ n a i,l.length<n+i->i0<=i->i<=l.length->fM a->qyW a+PW l i0<=PW l i+c->FQ l i0 c (acU nx l so n a i)
 | 0,a,i,hf,_,h2,_,_=>by omega
 | n+1,a,i,hf,h1,h2,h3,h4=>by
  unfold acU
  split
  .exact .go h1 h2 h3 h4
  .rename_i o e
   obtain⟨e1,e2,p,hp,rfl⟩:=alF e
   obtain⟨q1,q2,q3⟩ : (if isT l (i+1) [97,108,108]=true then i+2 else i+1)<=l.length/\i+1<=(if isT l (i+1) [97,108,108]=true then i+2 else i+1)/\PW l (i+1)<=PW l (if isT l (i+1) [97,108,108]=true then i+2 else i+1):=by
    split
    .rename_i g
     obtain⟨g1,g2⟩:=isT_at g
     have g2:PW l (i+1)+1000<=PW l (i+2):=g2
     exact⟨g1,by omega,by omega⟩
    .exact⟨e1,ae _,ae _⟩
   generalize (if isT l (i+1) [97,108,108]=true then i+2 else i+1)=m at *
   refine (hn m aC q1).on aC (λy j hy h5 h6 h7=>⟨aGu _ (hs p hp) h3 hy,by rw[aOu];omega⟩) λy j hy h5 h6 h7=>?_
   exact atK hs hn n _ j aC aC h6 (aGu _ (hs p hp) h3 hy) (by rw[aOu];omega)
theorem atJ{nx:Nat->List Qy->Rz Qy}{so:List (List UInt8×Int)}{c:Nat}{pre:List Qy}(hs:∀ p∈so,I64 p.2)(hn:∀ j,i<j->j<=l.length->FQ l j 0 (nx j []))
  (h0:FQ l i c (nx i pre)):FQ l i c (ahs nx l so i pre):=by
 unfold ahs
 exact h0.on (ae _) (λy j hy _ _ h=>⟨hy,h⟩) λy j hy h5 h6 h7=>atK hs hn _ _ j aC h5 h6 hy h7
theorem apj(h:FOk l F (i+1))(h1:i<=l.length)(pre:List Qy)(hp:ab1 pre):FQ l i (aaw pre) (aam F l i pre) :=
 atJ (by intro p hp;simp only[bj,bH,dJ] at hp;subst hp;exact⟨by decide,by decide⟩) (λj h2 h3=>aqS (h.mono aC) h3 [] trivial) (aqS h h1 pre hp)
theorem aza(h:FOk l F (i+1))(h1:i<=l.length)(pre:List Qy)(hp:ab1 pre):FQ l i (aaw pre) (ahq F l i pre) :=
 atJ (by intro p hp;simp only[bj,bH,dJ] at hp;rcases hp with hp|hp <;> subst hp <;> exact⟨by decide,by decide⟩) (λj h2 h3=>apj (h.mono aC) h3 [] trivial) (apj h h1 pre hp)
theorem a6a(q:Qy)(od:List Od)(li sk:Int):qyW (q.endQ od li sk)<=qyW q+(od.map odW).sum:=by
 cases q;rw[Qy.endQ,asB,asB];simp only[Qy.ks,Qy.its,Qy.fr,Qy.wh,Qy.gr,Qy.hv];omega
theorem aZ1(q:Qy)(li sk:Int):qyW (q.endQ q.od li sk)=qyW q:=by
 cases q;rw[Qy.endQ,asB,asB];simp only[Qy.ks,Qy.its,Qy.fr,Qy.wh,Qy.gr,Qy.hv,Qy.od]
theorem arz{q:Qy}{od:List Od}{li sk:Int}(h:fM q)(h1:∀ x∈od,akx x)(h2:I64 li)(h3:I64 sk):fM (q.endQ od li sk):=by
 cases q
 rw[Qy.endQ,avA] at *
 simp only[Qy.op,Qy.ks,Qy.its,Qy.fr,Qy.wh,Qy.gr,Qy.hv]
 exact⟨h.1,h.2.1,h.2.2.1,h.2.2.2.1,h.2.2.2.2.1,h.2.2.2.2.2.1,h.2.2.2.2.2.2.1,h1,h2,h3⟩
theorem ah6{q:Qy}(h:fM q):(∀ x∈q.od,akx x)/\I64 q.li/\I64 q.sk:=by
 cases q
 rw[avA] at h
 exact h.2.2.2.2.2.2.2
theorem ayy(hl:∀ t∈l,I64 t.n){i0:Nat}:∀ n os i,l.length<n+i->i0<=i->i<=l.length->(∀ x∈os,akx x)->(os.map odW).sum+PW l i0<=PW l i ->
  dw l i0 0 (λos=>(os.map odW).sum) (λos=>∀ x∈os,akx x) (byL l n os i)
 | 0,a,i,hf,_,h2,_,_=>by omega
 | n+1,os,i,hf,h1,h2,h3,h4=>by
  unfold byL
  split
  .rename_i e
   obtain⟨e1,e2⟩ : i+1<=l.length/\PW l i+1000+(txT l i).length<=PW l (i+1):=by
    simp only[bk,aj] at e
    rcases e with e|e
    .exact fO e
    .exact fO e.1
   obtain⟨q1,q2,q3⟩ : (if ca l (i+1) [[97,115,99],[100,101,115,99]]=true then i+2 else i+1)<=l.length/\i+1<=(if ca l (i+1) [[97,115,99],[100,101,115,99]]=true then i+2 else i+1)/\PW l (i+1)<=PW l (if ca l (i+1) [[97,115,99],[100,101,115,99]]=true then i+2 else i+1):=by
    split
    .rename_i g
     simp only[ca,bk,aD] at g
     obtain⟨g1,g2⟩ : i+1+1<=l.length/\PW l (i+1)+1000<=PW l (i+1+1):=by
      rcases g with g|g
      .exact isT_at g
      .exact isT_at g
     have g2:PW l (i+1)+1000<=PW l (i+2):=g2
     exact⟨g1,by omega,by omega⟩
    .exact⟨e1,ae _,ae _⟩
   dsimp only
   generalize (if ca l (i+1) [[97,115,99],[100,101,115,99]]=true then i+2 else i+1)=m at *
   generalize ho:(⟨if bq l i 2=true then txT l i else [],if bq l i 2=true then 0 else nuT l i,isT l (i+1) [100,101,115,99]⟩ : Od)=o
   have hk:∀ x∈os++[o],akx x:=by
    intro x hx
    rcases br.1 hx with hx|hx
    .exact h3 x hx
    .simp only[cC] at hx
     subst hx ho
     refine⟨trivial,?_,trivial⟩
     show I64 (if bq l i 2=true then 0 else nuT l i)
     split
     .exact i0_
     .exact amJ (k:=0) hl
   have hw:((os++[o]).map odW).sum<=(os.map odW).sum+(txT l i).length+10:=by
    rw[bX,aaQ]
    subst ho
    simp only[bc,bm,dF,bR,odW,dT,fL]
    split <;> simp <;> omega
   split
   .rename_i g
    obtain⟨g1,g2⟩:=isT_at g
    exact ayy hl n _ (m+1) aC aC g1 hk aC
   .exact .go aC q1 hk (by show ((os++[o]).map odW).sum+_<=_;omega)
  .exact .bad h1 h2 aT (by simp only[bm,bR];omega)
theorem atW(hl:∀ t∈l,I64 t.n){i0 c:Nat}{q:Qy}{od:List Od}{li:Int}(hq:fM q)(ho:∀ x∈od,akx x)(h2:I64 li)(hw:∀ li sk,qyW (q.endQ od li sk)+PW l i0<=PW l i+c)(h0:i0<=i)(h1:i<=l.length):FQ l i0 c (afB l q od li i):=by
 unfold afB
 split
 .rename_i e
  obtain⟨e1,e2⟩:=isT_at e
  split
  .rename_i g
   have g1:=fO g
   have hw:=hw li (nuT l (i+1))
   have g2:PW l (i+1)+1000+(txT l (i+1)).length<=PW l (i+2):=g1.2
   exact .go aC g1.1 (arz hq ho h2 (amJ (k:=0) hl)) aC
  .have hw:=hw li q.sk
   exact .bad aC e1 (arz hq ho h2 (ah6 hq).2.2) aC
 .exact .go h0 h1 (arz hq ho h2 (ah6 hq).2.2) (hw li q.sk)
theorem at6(hl:∀ t∈l,I64 t.n){i0 c:Nat}{q:Qy}{od:List Od}(hq:fM q)(ho:∀ x∈od,akx x)(hw:∀ li sk,qyW (q.endQ od li sk)+PW l i0<=PW l i+c)(h0:i0<=i)(h1:i<=l.length):FQ l i0 c (ad2 l q od i):=by
 unfold ad2
 split
 .rename_i e
  obtain⟨e1,e2⟩:=isT_at e
  split
  .rename_i g
   have g1:=fO g
   have g2:PW l (i+1)+1000+(txT l (i+1)).length<=PW l (i+2):=g1.2
   exact atW hl hq ho (amJ (k:=0) hl) (λli sk=>by have:=hw li sk;omega) aC g1.1
  .have hw:=hw q.li q.sk
   exact .bad aC e1 (arz hq ho (ah6 hq).2.1 (ah6 hq).2.2) aC
 .exact atW hl hq ho (ah6 hq).2.1 hw h0 h1
theorem azA(hl:∀ t∈l,I64 t.n)(h:FOk l F (i+1))(h1:i<=l.length)(pre:List Qy)(hp:ab1 pre):FQ l i (aaw pre) (aeg F l i pre):=by
 refine (aza h h1 pre hp).on (ae _) (λy j hy _ _ h=>⟨hy,h⟩) λq j hq h5 h6 h7=>?_
 split
 .exact .bad h5 h6 hq aC
 split
 .rename_i e
  obtain⟨e1,e2⟩:=isT_at e
  have hb:dw l (j+1) 0 (λos=>(os.map odW).sum) (λos=>∀ x∈os,akx x) (ajg l (j+1)) :=
   .wantR (ae _) e1 aT (by simp only[bm,bR];omega) λh8 h9 =>
    ayy hl _ _ _ aC aC h8 aT (by simp only[bm,bR];omega)
  refine hb.on aC (λy m hy h8 h9 h10=>⟨hq,by omega⟩) λo m ho h8 h9 h10=>?_
  exact at6 hl hq ho (λli sk=>by have:=a6a q o li sk;omega) aC h9
 .exact at6 hl hq (ah6 hq).1 (λli sk=>by rw[aZ1];exact h7) h5 h6
abbrev FF(l:List Tn)(i c:Nat)(r:Rz Fm):Prop:=dw l i c fmW acY r
theorem apv{i0 c:Nat}{q:Qy}(hq:fM q)(h0:i0<=i)(h1:i<=l.length)(hw:qyW q+20+PW l i0<=PW l i+c):FF l i0 c (abp l i q):=by
 unfold abp
 obtain⟨n1,n2,n3⟩:=aqj (l:=l) (i:=i)
 have n2:=n2 h1
 generalize eF l i=r at *
 obtain⟨s,j,b⟩:=r
 dsimp only at *
 split
 .exact .bad aC n2 avV (by rw[aMO];omega)
 .exact .any aC n2 ((avR ..).2 ⟨i2,al5 hq,trivial,trivial⟩) (by rw[aEf,anx];simp only[abM,cD,aR];omega)
theorem arO{c:Nat}(h:FOk l F (i+1))(h1:i+1<=l.length)(h2:PW l i+1000<=PW l (i+1)):dw l i c (λt=>qyW t.y+fmW t.f+900) ajh (agf F l i):=by
 refine (h.so (i+1) (ae _) h1).on aC (λt j ht h3 h4 h5=>⟨ht,by simp only[id];omega⟩) λt j ht h3 h4 h5=>.wantE aC h4 ht aC
theorem atF(h:FOk l F (i+1))(h1:i<=l.length):FF l i 0 (adB F l i):=by
 unfold adB
 split
 .rename_i e
  obtain⟨e1,e2⟩:=isT_at e
  refine (arO h e1 e2 (c:=0)).on (ae _) (λt j ht h5 h6 h7=>⟨ht.2.2,by omega⟩) λt j ht h5 h6 h7=>?_
  split
  .exact apv ht.1 h5 h6 aC
  .exact .go h5 h6 ht.2.2 aC
 .unfold nameR
  obtain⟨n1,n2,n3⟩:=alK (l:=l) (i:=i)
  have n2:=n2 h1
  generalize hr:bT l i=r at *
  obtain⟨s,j,b⟩:=r
  dsimp only at *
  cases b with
  | true=>exact .bad n1 n2 avV (by rw[aMO];omega)
  | false =>
   have h9:s.length+1000+PW l i<=PW l j:=by
    unfold bT at hr
    split at hr
    .rename_i e
     have:=fO e
     simp only[aY] at hr
     obtain⟨rfl,rfl,_⟩:=hr
     omega
    .simp only[aY] at hr
     exact absurd hr.2.2 aI
   obtain⟨m1,m2,m3⟩:=aqj (l:=l) (i:=j)
   exact .any aC (m2 n2) ((avR ..).2 ⟨i1,trivial,trivial,trivial⟩) (by rw[aEf];simp only[aaw,abM,cD];omega)
theorem apz:∀ (ws:List (List UInt8)) (i j:Nat) (b:Bool),dG l i ws=(j,b)->i<=l.length->i<=j/\j<=l.length/\PW l i+1000*(j-i)<=PW l j/\(b=false->i+ws.length<=j)
 | [],i,j,b,h,h1=>by
  simp only[dG,aY] at h
  obtain⟨rfl,rfl⟩:=h
  exact⟨ae _,h1,by omega,λ_=>ae _⟩
 | w::r,i,j,b,h,h1=>by
  unfold dG at h
  split at h
  .rename_i e
   obtain⟨e1,e2⟩:=isT_at e
   obtain⟨h2,h3,h4,h5⟩:=apz r (i+1) j b h e1
   exact⟨by omega,h3,by omega,λhb=>by have:=h5 hb;simp only[aN];omega⟩
  .simp only[aY] at h
   obtain⟨rfl,rfl⟩:=h
   exact⟨ae _,h1,by omega,λhb=>by cases hb⟩
theorem aX4{k:Int}{ws:List (List UInt8)}(h:acR l i=some (k,ws)):I64 k/\1<=ws.length:=by
 unfold acR at h
 split at h
 .cases h;exact⟨i3,by decide⟩
 split at h
 .cases h;exact⟨⟨by decide,by decide⟩,by decide⟩
 split at h
 .cases h;exact⟨⟨by decide,by decide⟩,by decide⟩
 split at h
 .cases h;exact⟨⟨by decide,by decide⟩,by decide⟩
 .cases h
theorem ajz{i0 c:Nat}(h:FOk l F (i0+1)):∀ n a i,l.length<n+i->i0<=i->i<=l.length->acY a->fmW a+PW l i0<=PW l i+c->FF l i0 c (acf F l n a i)
 | 0,a,i,hf,_,h2,_,_=>by omega
 | n+1,a,i,hf,h1,h2,h3,h4=>by
  unfold acf
  split
  .exact .go h1 h2 h3 h4
  .rename_i k ws e
   obtain⟨hk,hws⟩:=aX4 e
   unfold wantR
   split
   .rename_i j e2
    obtain⟨q1,q2,q3,q4⟩:=apz ws i j true e2 h2
    exact .bad aC q2 h3 aC
   .rename_i j e2
    obtain⟨q1,q2,q3,q4⟩:=apz ws i j false e2 h2
    have q4:=q4 rfl
    refine (atF (h.mono aC) q2).on aC (λy m hy h5 h6 h7=>⟨h3,by omega⟩) λb m hb h5 h6 h7=>?_
    have hk0:∀ y,dh y->acY (.mk k [] [] [] [a,b] y):=λy hy=>(avR ..).2 ⟨hk,trivial,⟨h3,hb,trivial⟩,hy⟩
    have hw0:∀ y,fmW (.mk k [] [] [] [a,b] y)=fmW a+fmW b+cD y+7:=λy=>by rw[aEf,aIb];simp only[aaw,aR];omega
    split
    .exact ajz h n _ m aC aC h6 (hk0 [] trivial) (by rw[hw0];simp only[cD];omega)
    split
    .rename_i g
     obtain⟨g1,g2⟩:=isT_at g
     refine (h.or0 (m+1) aC g1).on aC (λy p hy h8 h9 h10=>⟨hk0 _ (aa8 hy),by rw[hw0,abQ];omega⟩) λy p hy h8 h9 h10=>?_
     exact ajz h n _ p aC aC h9 (hk0 _ (aa8 hy)) (by rw[hw0,abQ];omega)
    .exact .bad aC h6 h3 aC
theorem arc(h:FOk l F (i+1))(h1:i<=l.length)(pre:List Fm)(hp:acS pre):FF l i (abM pre) (adx F l i pre):=by
 cases pre with
 | cons x r =>
  simp only[acS] at hp
  exact ajz h _ _ i aC (ae _) h1 hp.1 (by simp only[abM];omega)
 | nil =>
  simp only[adx,abM]
  exact (atF h h1).on (ae _) (λy j hy _ _ h=>⟨hy,h⟩) λy j hy h5 h6 h7=>ajz h _ _ j aC h5 h6 hy h7
theorem arr{i0 c:Nat}(h:FOk l F (i0+1)):∀ n a i,l.length<n+i->i0<=i->i<=l.length->acY a->fmW a+PW l i0<=PW l i+c->FF l i0 c (adR F l n a i)
 | 0,a,i,hf,_,h2,_,_=>by omega
 | n+1,a,i,hf,h1,h2,h3,h4=>by
  unfold adR
  split
  .rename_i e
   obtain⟨e1,e2⟩:=isT_at e
   have hw0:∀ b,fmW (.mk 3 [] [] [] [a,b] [])=fmW a+fmW b+7:=λb=>by rw[aEf,aIb];simp only[aaw,cD,aR];omega
   have hk0:∀ b,acY b->acY (.mk 3 [] [] [] [a,b] []):=λb hb=>(avR ..).2 ⟨i3,trivial,⟨h3,hb,trivial⟩,trivial⟩
   refine (arc (h.mono aC) e1 [] trivial).on aC (λy j hy h5 h6 h7=>⟨hk0 y hy,by simp only[abM] at h7;rw[hw0];omega⟩) λy j hy h5 h6 h7=>?_
   simp only[abM] at h7
   exact arr h n _ j aC aC h6 (hk0 y hy) (by rw[hw0];omega)
  .exact .go h1 h2 h3 h4
theorem aEe(h:FOk l F (i+1))(h1:i<=l.length)(pre:List Fm)(hp:acS pre):FF l i (abM pre) (agF F l i pre) :=
 (arc h h1 pre hp).on (ae _) (λy j hy _ _ h=>⟨hy,h⟩) λy j hy h5 h6 h7=>arr h _ _ j aC h5 h6 hy h7
theorem awO(h:FOk l F (i+1))(h1:i<=l.length)(hf:FF l i 0 (F.fr i []))(hq:dw l i 0 qyW fM (F.qy i [])):dw l i 50 (λt=>qyW t.y+fmW t.f) ajh (acO F l i):=by
 have wQ:∀ a,qyW (Th.ofQ a).y+fmW (Th.ofQ a).f=qyW a+7:=λa=>by rw[← aMO];rfl
 have wF:∀ a,qyW (Th.ofF a).y+fmW (Th.ofF a).f=fmW a+13:=λa=>by rw[ey,← aVC];rfl
 unfold acO
 split
 .exact hq.to (ae _) λa j d ha _ h5=>⟨aqW ha,by rw[wQ];omega⟩
 split
 .rename_i e
  obtain⟨e1,e2⟩:=isT_at e
  refine (arO h e1 e2 (c:=0)).on (ae _) (λt j ht h5 h6 h7=>⟨ht,by simp only[id];omega⟩) λt j ht h5 h6 h7=>?_
  have hj:i+1<=j:=by
   rcases aA i j with q|q
   .omega
   .exfalso
    have:j=i:=by omega
    subst this;omega
  split
  .exact .go h5 h6 ht aC
  split
  .exact (h.qy j [t.y] hj h6 (al5 ht.1)).to aC λa m d ha _ h8=>⟨aqW ha,by rw[anx] at h8;rw[wQ];omega⟩
  split
  .refine (apv (i0:=j) (c:=qyW t.y+20) ht.1 (ae _) h6 aC).on h5 (λf m hf h8 h9 h10=>⟨ht,by have:=ae6 (l:=l) h8;omega⟩) λf m hf h8 h9 h10=>?_
   have hm:i+1<=m:=by omega
   exact (h.fr m [f] hm h9 (atn hf)).to aC λa p d ha _ h11=>⟨axe ha,by rw[axR] at h11;rw[wF];omega⟩
  .exact (h.fr j [t.f] hj h6 (atn ht.2.2)).to aC λa p d ha _ h11=>⟨axe ha,by rw[axR] at h11;rw[wF];omega⟩
 .exact hf.to (ae _) λa j d ha _ h5=>⟨axe ha,by rw[wF];omega⟩
end
structure Ful (l:List Tn) (F:Fs) (m:Nat):Prop where
 lo:∀ i,i<=l.length->2*(l.length-i)+1<=m->(∀ pre,dh pre->FX l i (cD pre) (F.or i pre))/\FX l i 0 (F.no i)/\FX l i 0 (F.un i)/\(∀ pre,ab1 pre->FQ l i (aaw pre) (F.qy i pre))/\(∀ pre,acS pre->FF l i (abM pre) (F.fr i pre))
 hi:∀ i,i<=l.length->2*(l.length-i)+2<=m->dw l i 50 (λt=>xpW t.val) ajh (F.ins i)/\dw l i 50 (λt=>qyW t.y+fmW t.f) ajh (F.so i)
theorem Ful.from{l:List Tn}{F:Fs}{m i:Nat}(h:Ful l F m)(hm:2*(l.length-i)+2<=m):FOk l F i where
 or j p h1 h2:=(h.lo j h2 aC).1 p
 no j h1 h2:=(h.lo j h2 aC).2.1
 un j h1 h2:=(h.lo j h2 aC).2.2.1
 qy j p h1 h2:=(h.lo j h2 aC).2.2.2.1 p
 fr j p h1 h2:=(h.lo j h2 aC).2.2.2.2 p
 ins j h1 h2:=(h.hi j h2 aC).1
 so j h1 h2:=(h.hi j h2 aC).2
theorem ful{l:List Tn}(hl:∀ t∈l,I64 t.n):∀ m,Ful l (aac l m) m
 | 0=>⟨λi _ h=>by omega,λi _ h=>by omega⟩
 | m+1=>by
  have ih:=ful hl m
  have hF:∀ i,i<=l.length->2*(l.length-i)+1<=m+1->FOk l (aac l m) (i+1):=λi h1 h2=>by
   rcases aA i l.length with q|q
   .exact ih.from aC
   .exact⟨λj _ a b=>by omega,λj a b=>by omega,λj a b=>by omega,λj _ a b=>by omega,λj a b=>by omega,λj _ a b=>by omega,λj a b=>by omega⟩
  refine⟨λi h1 h2=>?_,λi h1 h2=>?_⟩
  .have h:=hF i h1 h2
   exact⟨λpre hp=>aKZ hl h h1 pre hp,anG hl h h1 [] trivial,ane hl h h1 [] trivial,λpre hp=>azA hl h h1 pre hp,λpre hp=>aEe h h1 pre hp⟩
  .have h:=hF i h1 aC
   have q:=ih.lo i h1 aC
   exact⟨aHW h h1 (q.1 [] trivial) (q.2.2.2.1 [] trivial),awO h h1 (q.2.2.2.2 [] trivial) (q.2.2.2.1 [] trivial)⟩

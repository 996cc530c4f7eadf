/- A part. Conditions: none. -/
import Derived.Test.YtghkmcffifpkeaaGreatPa10
set_option linter.all false
set_option maxRecDepth 100000
set_option maxHeartbeats 64000000
namespace Go.Proofs.YtghkmcffifpkeaaGreat
open Pe Tab
def aqO(l:List Tn)(e:Int)(r:Nat×Bool):An:=if r.2=true then ⟨true,[acT l r.1 e],[pT l r.1 e]⟩ else ⟨false,[],[pT l r.1 e]⟩
def fe{l:List Tn}{i:Nat}{w:List UInt8}(h:isT l i w=true):i<l.length:=by
 unfold isT at h
 rcases av i l.length with g|g
 .exact g
 .rw[bc g] at h;cases h
def avc:=hM @Tryz.f79.eq_1 @zq @cO @Q9 @zT0 (kf aSg)
def akB(l:List Tn)(i:Nat)(e:Int)(ws:List (List UInt8))(hl:l.length<LB)(hi:i<=l.length)(hn:ws.length<=64):aF Tryz.prog pr 79 [.ptr 0 0,.of (slC cM ws)] [pT l i e] (aqO l e (dU l i ws)):=by
 refine bB aSg ?_
 simp only[↓zA,sevalprocAttr,avc]
 refine ew ws.length (λk s=>s.fr 0=.ptr 0 0/\s.fr 6=.of (slC cM ws)/\s.fr 7=au ws.length/\s.fr 8=au k/\∃ j,s.objs=[pT l j e]/\j<=l.length/\dU l i ws=dU l j (ws.drop k)) ?_ ?_
 .simp only[↓zA,sevalprocAttr,avc]
  exact⟨i,rfl,hi,by first|rfl|rw[abE]⟩
 rintro k ⟨frk,obk,ckk⟩ hk ⟨f0,f6,f7,f8,j,fo,hj,E⟩
 dsimp only at f0 f6 f7 f8 fo
 rcases av k ws.length with dk|dk
 .have hw:=aW k aC
  have gx:=bu dk
  rw[bI dk] at E
  simp only[dU] at E
  generalize ws[k]=x at *
  have kt:=λK=>aF.k (adU l j e x hl hj) K
  unfold pT at kt
  have kg:=λK=>aF.k (ag7 l j e hl hj) K
  unfold pT at kg
  cases hc:isT l j x with
  | true =>
   have hj':=fe hc
   rw[hc] at kt E
   simp only[↓zA,sevalprocAttr,avc,f0,f6,f7,f8,fo,aK,dk,gx,hw,kt,pT]
   exact⟨j+1,rfl,hj',E⟩
  | false =>
   rw[hc] at kt E
   simp only[↓zA,sevalprocAttr,avc,f0,f6,f7,f8,fo,aK,dk,gx,kt,kg,pT,zP,aqO,E]
   try rfl
 have e:k=ws.length:=by omega
 subst e
 rw[bf] at E
 simp only[dU] at E
 simp only[↓zA,sevalprocAttr,avc,f7,f8,fo,aK,bg,aqO,E]
 try rfl
abbrev pTq(l:List Tn)(i:Nat)(e:Int):Ob:=.var 112 [.of (slC tnC l),.of (ci i),.of (ci e),.own (.cell 0 3) 28 9 [] 0,.top 1 38 12,.own (.cell 0 5) 140 6 [] 0]
abbrev pTe(l:List Tn)(i:Nat)(e:Int):Ob:=.var 112 [.of (slC tnC l),.of (ci i),.of (ci e),.top 1 28 9,.own (.cell 0 4) 38 12 [] 0,.own (.cell 0 5) 140 6 [] 0]
abbrev pTf(l:List Tn)(i:Nat)(e:Int):Ob:=.var 112 [.of (slC tnC l),.of (ci i),.of (ci e),.own (.cell 0 3) 28 9 [] 0,.own (.cell 0 4) 38 12 [] 0,.top 1 140 6]
def avg:IntKind.i64.wrap 0=0:=by rw[cj _ aC aC]
def aXM:=@aw9 _ _ _ _ _ _ _ _ _ T25 T28
def aXK:=@aw9 _ _ _ _ _ _ _ _ _ T26 T38
def aXL:=@aw9 _ _ _ _ _ _ _ _ _ T35 ai0
def aXC(ty:Nat)(q:Qy):al7 tP 38 0 (some (.row ty (qyC q)))=some (.of (.agg (qyC q))):=by
 rw[ep,ann,abE,Q38];rfl
def aXE(ty:Nat)(q:Xp):al7 tP 28 0 (some (.row ty (xpC q)))=some (.of (.agg (xpC q))):=by
 rw[ch,ann,abE,Q28];rfl
def aXD(ty:Nat)(q:Fm):al7 tP 140 0 (some (.row ty (fmC q)))=some (.of (.agg (fmC q))):=by
 rw[aba,ann,abE,aTz];rfl
def aXF(ty:Nat)(q:Qy):aw1 (some (.row ty (qyC q)))=true:=by rw[ep];rfl
def aXH(ty:Nat)(q:Xp):aw1 (some (.row ty (xpC q)))=true:=by rw[ch];rfl
def aXG(ty:Nat)(q:Fm):aw1 (some (.row ty (fmC q)))=true:=by rw[aba];rfl
def aXA(ty:Nat)(q:Xp):aej (some (.row ty (xpC q)))=true:=by rw[ch];rfl
def aSY:cJ (abK (Value.agg #[Value.int IntKind.i64 0,Value.bool false,Value.slice none 0 0,Value.bool false,Value.slice none 0 0,Value.slice none 0 0,Value.slice none 0 0,Value.slice none 0 0,Value.slice none 0 0,Value.slice none 0 0,Value.int IntKind.i64 0,Value.int IntKind.i64 0]))=some [X.of (C.lit (Value.int IntKind.i64 0)),X.of (C.lit (Value.bool false)),X.of (C.sl [] 0),X.of (C.lit (Value.bool false)),X.of (C.sl [] 0),X.of (C.sl [] 0),X.of (C.sl [] 0),X.of (C.sl [] 0),X.of (C.sl [] 0),X.of (C.sl [] 0),X.of (C.lit (Value.int IntKind.i64 0)),X.of (C.lit (Value.int IntKind.i64 0))]:=rfl
def aZh:cJ (abK (Value.agg #[Value.int IntKind.i64 0,Value.int IntKind.i64 0,Value.int IntKind.i64 0,Value.string {data:=#[]},Value.string {data:=#[]},Value.string {data:=#[]},Value.bool false,Value.slice none 0 0,Value.slice none 0 0]))=some [X.of (C.lit (Value.int IntKind.i64 0)),X.of (C.lit (Value.int IntKind.i64 0)),X.of (C.lit (Value.int IntKind.i64 0)),X.of (C.lit (Value.string {data:=#[]})),X.of (C.lit (Value.string {data:=#[]})),X.of (C.lit (Value.string {data:=#[]})),X.of (C.lit (Value.bool false)),X.of (C.sl [] 0),X.of (C.sl [] 0)]:=rfl
def aZg:cJ (abK (Value.agg #[Value.int IntKind.i64 0,Value.string {data:=#[]},Value.string {data:=#[]},Value.slice none 0 0,Value.slice none 0 0,Value.slice none 0 0]))=some [X.of (C.lit (Value.int IntKind.i64 0)),X.of (C.lit (Value.string {data:=#[]})),X.of (C.lit (Value.string {data:=#[]})),X.of (C.sl [] 0),X.of (C.sl [] 0),X.of (C.sl [] 0)]:=rfl
def aKE:=hM @zq @bi @dm @cO @zT0 (kf aCK)
def aHR(l:List Tn)(i:Nat)(e:Int)(q:Qy):aF Tryz.prog pr 172 [.ptr 0 0] [pTq l i e,.row 38 (qyC q)] ⟨false,[.of (.agg (qyC q))],[pT l i e,.row 38 []]⟩:=by
 refine bB aCK ?_
 simp only[Tryz.f172,↓zA,sevalprocAttr,aKE,pT,pTq,avg,aXK,aXC,aXF,E26]
 try rfl
def gl{l:List Tn}{i:Nat}{k:Int}(h:br l i k=true):i<l.length:=by
 unfold br at h
 rcases av i l.length with g|g
 .exact g
 .rw[bc g] at h;cases h
def bW{α:Type}(l:List Tn)(e:Int)(enc:α->X)(r:α×Nat×Bool)(d:List Ob):An:=⟨r.2.2,[if r.2.2=true then acT l r.2.1 e else enc r.1],pT l r.2.1 e::d⟩
def aUh:=hH @zq @cW @zT0 (kf aML)
def al6(l:List Tn)(i:Nat)(e:Int)(hl:l.length<LB)(hi:i<=l.length):aF Tryz.prog pr 174 [.ptr 0 0] [pT l i e] ⟨false,[aN (br l i 2)],[pT l i e]⟩:=by
 have kp:=λK=>aF.k (ajc l i e hl hi) K
 unfold pT at kp
 rw[afE l i 2 aI]
 generalize bN l i=t at kp
 refine bB aML ?_
 simp only[Tryz.f174,↓zA,sevalprocAttr,aUh,kp,pT]
 try rfl
def aPK:=ib @Tryz.f92.eq_1 @zq @cW @fH @P3 @Q3 @Q9 @zT0 (kf aJd)
def atm(l:List Tn)(i:Nat)(e:Int)(hl:l.length<LB)(hi:i<=l.length):aF Tryz.prog pr 92 [.ptr 0 0] [pT l i e] (bW l e (λs=>.of (aJ (aM s))) (eZ l i) []):=by
 have kp:=λK=>aF.k (al6 l i e hl hi) K
 unfold pT at kp
 have kg:=λK=>aF.k (ag7 l i e hl hi) K
 unfold pT at kg
 have hw:IntKind.i64.wrap ((i:Int)+1)=((i+1:Nat):Int):=aW i (by unfold LB at hl;omega)
 have hw2:IntKind.i64.wrap (((i+1:Nat):Int)-1)=(i:Int):=by
  unfold LB at hl
  rw[cj _ aC aC];omega
 unfold eZ bW
 cases hc:br l i 2 with
 | false =>
  rw[hc] at kp
  refine bB aJd ?_
  simp only[↓zA,sevalprocAttr,aPK,kp,kg,pT,zP]
  try rfl
 | true =>
  have gx:=gL (gl hc)
  have ht:txT l i=(bN l i).s:=by unfold txT;rw[ahU (gl hc)]
  rw[hc] at kp
  refine bB aJd ?_
  simp only[↓zA,sevalprocAttr,aPK,kp,pT,hw,hw2,gx,ht]
  try rfl
def ave:=hM @Tryz.f75.eq_1 @zq @cO @Q9 @zT0 (kf aSi)
def aJZ(l:List Tn)(i:Nat)(e:Int)(ws:List (List UInt8))(hl:l.length<LB)(hi:i<=l.length)(hn:ws.length<=64):aF Tryz.prog pr 75 [.ptr 0 0,.of (slC cM ws)] [pT l i e] ⟨false,[aN (bF l i ws)],[pT l i e]⟩:=by
 refine bB aSi ?_
 simp only[↓zA,sevalprocAttr,ave]
 refine ew ws.length (λk s=>s.fr 0=.ptr 0 0/\s.fr 7=.of (slC cM ws)/\s.fr 8=au ws.length/\s.fr 9=au k/\s.objs=[pT l i e]/\bF l i ws=bF l i (ws.drop k)) ?_ ?_
 .simp only[↓zA,sevalprocAttr,ave]
  try rfl
 rintro k ⟨frk,obk,ckk⟩ hk ⟨f0,f7,f8,f9,fo,E⟩
 dsimp only at f0 f7 f8 f9 fo
 rcases av k ws.length with dk|dk
 .have hw:=aW k aC
  have gx:=bu dk
  rw[bI dk] at E
  simp only[bF] at E
  generalize ws[k]=x at *
  have kt:=λK=>aF.k (alr l i e x hl hi) K
  unfold pT at kt
  cases hc:isT l i x with
  | true =>
   rw[hc,cf] at E
   rw[hc] at kt
   simp only[↓zA,sevalprocAttr,ave,f0,f7,f8,f9,fo,aK,dk,gx,kt,pT,E]
   try rfl
  | false =>
   rw[hc,fC] at E
   rw[hc] at kt
   simp only[↓zA,sevalprocAttr,ave,f0,f7,f8,f9,fo,aK,dk,gx,hw,kt,pT]
   exact E
 have ek:k=ws.length:=by omega
 subst ek
 rw[bf] at E
 simp only[bF] at E
 simp only[↓zA,sevalprocAttr,ave,f8,f9,fo,aK,bg,pT,E]
 try rfl
def aBI(x:Tn):dQ tP 3 (tnC x)=some (ci x.k)/\dQ tP 3 (List.drop 3 (tnC x))=some (ci x.n):=by
 rw[be]
 exact⟨Q3 _ _,Q3 _ _⟩
def aPN:=hZ @Tryz.f81.eq_1 @zq @cW @fH @P3 @Q3 @zT0 (kf aJi)
def ao0(l:List Tn)(i:Nat)(e:Int)(hl:l.length<LB)(hi:i<=l.length):aF Tryz.prog pr 81 [.ptr 0 0] [pT l i e] (bW l e (λn=>au n) (if br l i 3=true then (nuT l i,i+1,false) else (0,i,true)) []):=by
 have kp:=λK=>aF.k (ajc l i e hl hi) K
 have kg:=λK=>aF.k (ag7 l i e hl hi) K
 unfold pT at kp kg
 have hw:IntKind.i64.wrap ((i:Int)+1)=((i+1:Nat):Int):=aW i (by unfold LB at hl;omega)
 have hw2:IntKind.i64.wrap (((i+1:Nat):Int)-1)=(i:Int):=by
  unfold LB at hl
  rw[cj _ aC aC];omega
 unfold bW
 rw[afE l i 3 aI]
 by_cases hc:(bN l i).k=3
 .have hlt:i<l.length:=by
   rcases av i l.length with g|g
   .exact g
   .rw[agW g] at hc;cases hc
  have gx:=gL hlt
  have hc':=aa hc
  have ht:nuT l i=(bN l i).n:=by unfold nuT;rw[ahU hlt]
  refine bB aJi ?_
  simp only[↓zA,sevalprocAttr,aPN,kp,pT,hw,hw2,gx,ht,hc',aBI]
  try rfl
 .have hc':=aj hc
  refine bB aJi ?_
  simp only[↓zA,sevalprocAttr,aPN,kp,kg,pT,zP,hc',aBI]
  try rfl
def rdo(tk:Tk)(e z n:Nat)(o:Option (List C)):(match o with|some cs=>out (X.own tk e z cs n)|none=>none)=bX (o.map λcs=>.own tk e z cs n):=by cases o <;> rfl
def azz(tk:Tk)(a0 b0:X):dJ tk 2 (Pe.elemOf tP 43) (some [(0,[a0]),(1,[b0])])=bX ((X.rds [a0,b0]).map λcs=>.own tk 9 1 cs 2):=by rw[E43];exact rdo tk _ _ _ _
def azy(tk:Tk)(a0 b0 c0:X):dJ tk 3 (Pe.elemOf tP 43) (some [(0,[a0]),(1,[b0]),(2,[c0])])=bX ((X.rds [a0,b0,c0]).map λcs=>.own tk 9 1 cs 3):=by rw[E43];exact rdo tk _ _ _ _
def azx(tk:Tk)(a0 b0 c0 d0 e0 f0:X):dJ tk 6 (Pe.elemOf tP 43) (some [(0,[a0]),(1,[b0]),(2,[c0]),(3,[d0]),(4,[e0]),(5,[f0])])=bX ((X.rds [a0,b0,c0,d0,e0,f0]).map λcs=>.own tk 9 1 cs 6):=by rw[E43];exact rdo tk _ _ _ _
def aJT(tk:Tk)(a0 b0:X):dJ tk 2 (Pe.elemOf tP 66) (some [(0,[a0]),(1,[b0])])=bX ((X.rds [a0,b0]).map λcs=>.own tk 3 1 cs 2):=by rw[E66];exact rdo tk _ _ _ _
def aJS(tk:Tk)(a0 b0 c0:X):dJ tk 3 (Pe.elemOf tP 66) (some [(0,[a0]),(1,[b0]),(2,[c0])])=bX ((X.rds [a0,b0,c0]).map λcs=>.own tk 3 1 cs 3):=by rw[E66];exact rdo tk _ _ _ _
def aGj(tk:Tk)(a0 a1 a2 a3 a4 a5 a6 a7 a8 b0 b1 b2 b3 b4 b5 b6 b7 b8:X):dJ tk 2 (Pe.elemOf tP 25) (some [(0,[a0,a1,a2,a3,a4,a5,a6,a7,a8]),(1,[b0,b1,b2,b3,b4,b5,b6,b7,b8])])=bX ((X.rds [a0,a1,a2,a3,a4,a5,a6,a7,a8,b0,b1,b2,b3,b4,b5,b6,b7,b8]).map λcs=>.own tk 28 9 cs 2):=by rw[E25];exact rdo tk _ _ _ _
def aGh(tk:Tk)(a0 a1 a2 a3 a4 a5 a6 a7 a8 b0 b1 b2 b3 b4 b5 b6 b7 b8 c0 c1 c2 c3 c4 c5 c6 c7 c8:X):dJ tk 3 (Pe.elemOf tP 25) (some [(0,[a0,a1,a2,a3,a4,a5,a6,a7,a8]),(1,[b0,b1,b2,b3,b4,b5,b6,b7,b8]),(2,[c0,c1,c2,c3,c4,c5,c6,c7,c8])])=bX ((X.rds [a0,a1,a2,a3,a4,a5,a6,a7,a8,b0,b1,b2,b3,b4,b5,b6,b7,b8,c0,c1,c2,c3,c4,c5,c6,c7,c8]).map λcs=>.own tk 28 9 cs 3):=by rw[E25];exact rdo tk _ _ _ _
def azA(tk:Tk)(a0 a1 a2 a3 a4 a5 a6 a7 a8 a9 a10 a11 b0 b1 b2 b3 b4 b5 b6 b7 b8 b9 b10 b11:X):dJ tk 2 (Pe.elemOf tP 26) (some [(0,[a0,a1,a2,a3,a4,a5,a6,a7,a8,a9,a10,a11]),(1,[b0,b1,b2,b3,b4,b5,b6,b7,b8,b9,b10,b11])])=bX ((X.rds [a0,a1,a2,a3,a4,a5,a6,a7,a8,a9,a10,a11,b0,b1,b2,b3,b4,b5,b6,b7,b8,b9,b10,b11]).map λcs=>.own tk 38 12 cs 2):=by rw[E26];exact rdo tk _ _ _ _
def aGi(tk:Tk)(a0 a1 a2 a3 a4 a5 b0 b1 b2 b3 b4 b5:X):dJ tk 2 (Pe.elemOf tP 35) (some [(0,[a0,a1,a2,a3,a4,a5]),(1,[b0,b1,b2,b3,b4,b5])])=bX ((X.rds [a0,a1,a2,a3,a4,a5,b0,b1,b2,b3,b4,b5]).map λcs=>.own tk 140 6 cs 2):=by rw[E35];exact rdo tk _ _ _ _
def zBS:=ib @azz @azy @azx @aJT @aJS @aGj @aGh @azA @aGi
def aIo(op:Int)(v:V)(tb:List UInt8)(nm:List UInt8)(di:Bool)(ks:List Xp)(sb:List Qy):(Xp.mk op v tb nm di ks sb).op=op:=rfl
def aOv(op:Int)(v:V)(tb:List UInt8)(nm:List UInt8)(di:Bool)(ks:List Xp)(sb:List Qy):(Xp.mk op v tb nm di ks sb).v=v:=rfl
def aIm(op:Int)(v:V)(tb:List UInt8)(nm:List UInt8)(di:Bool)(ks:List Xp)(sb:List Qy):(Xp.mk op v tb nm di ks sb).tb=tb:=rfl
def aIp(op:Int)(v:V)(tb:List UInt8)(nm:List UInt8)(di:Bool)(ks:List Xp)(sb:List Qy):(Xp.mk op v tb nm di ks sb).nm=nm:=rfl
def aIr(op:Int)(v:V)(tb:List UInt8)(nm:List UInt8)(di:Bool)(ks:List Xp)(sb:List Qy):(Xp.mk op v tb nm di ks sb).di=di:=rfl
def aIq(op:Int)(v:V)(tb:List UInt8)(nm:List UInt8)(di:Bool)(ks:List Xp)(sb:List Qy):(Xp.mk op v tb nm di ks sb).ks=ks:=rfl
def aIn(op:Int)(v:V)(tb:List UInt8)(nm:List UInt8)(di:Bool)(ks:List Xp)(sb:List Qy):(Xp.mk op v tb nm di ks sb).sb=sb:=rfl
def aIu(op:Int)(al:Bool)(ks:List Qy)(di:Bool)(its:List Im)(fr:List Fm)(wh:List Xp)(gr:List Xp)(hv:List Xp)(od:List Od)(li:Int)(sk:Int):(Qy.mk op al ks di its fr wh gr hv od li sk).op=op:=rfl
def aIC(op:Int)(al:Bool)(ks:List Qy)(di:Bool)(its:List Im)(fr:List Fm)(wh:List Xp)(gr:List Xp)(hv:List Xp)(od:List Od)(li:Int)(sk:Int):(Qy.mk op al ks di its fr wh gr hv od li sk).al=al:=rfl
def aIx(op:Int)(al:Bool)(ks:List Qy)(di:Bool)(its:List Im)(fr:List Fm)(wh:List Xp)(gr:List Xp)(hv:List Xp)(od:List Od)(li:Int)(sk:Int):(Qy.mk op al ks di its fr wh gr hv od li sk).ks=ks:=rfl
def aIB(op:Int)(al:Bool)(ks:List Qy)(di:Bool)(its:List Im)(fr:List Fm)(wh:List Xp)(gr:List Xp)(hv:List Xp)(od:List Od)(li:Int)(sk:Int):(Qy.mk op al ks di its fr wh gr hv od li sk).di=di:=rfl
def aFe(op:Int)(al:Bool)(ks:List Qy)(di:Bool)(its:List Im)(fr:List Fm)(wh:List Xp)(gr:List Xp)(hv:List Xp)(od:List Od)(li:Int)(sk:Int):(Qy.mk op al ks di its fr wh gr hv od li sk).its=its:=rfl
def aIA(op:Int)(al:Bool)(ks:List Qy)(di:Bool)(its:List Im)(fr:List Fm)(wh:List Xp)(gr:List Xp)(hv:List Xp)(od:List Od)(li:Int)(sk:Int):(Qy.mk op al ks di its fr wh gr hv od li sk).fr=fr:=rfl
def aIs(op:Int)(al:Bool)(ks:List Qy)(di:Bool)(its:List Im)(fr:List Fm)(wh:List Xp)(gr:List Xp)(hv:List Xp)(od:List Od)(li:Int)(sk:Int):(Qy.mk op al ks di its fr wh gr hv od li sk).wh=wh:=rfl
def aIz(op:Int)(al:Bool)(ks:List Qy)(di:Bool)(its:List Im)(fr:List Fm)(wh:List Xp)(gr:List Xp)(hv:List Xp)(od:List Od)(li:Int)(sk:Int):(Qy.mk op al ks di its fr wh gr hv od li sk).gr=gr:=rfl
def aIy(op:Int)(al:Bool)(ks:List Qy)(di:Bool)(its:List Im)(fr:List Fm)(wh:List Xp)(gr:List Xp)(hv:List Xp)(od:List Od)(li:Int)(sk:Int):(Qy.mk op al ks di its fr wh gr hv od li sk).hv=hv:=rfl
def aIv(op:Int)(al:Bool)(ks:List Qy)(di:Bool)(its:List Im)(fr:List Fm)(wh:List Xp)(gr:List Xp)(hv:List Xp)(od:List Od)(li:Int)(sk:Int):(Qy.mk op al ks di its fr wh gr hv od li sk).od=od:=rfl
def aIw(op:Int)(al:Bool)(ks:List Qy)(di:Bool)(its:List Im)(fr:List Fm)(wh:List Xp)(gr:List Xp)(hv:List Xp)(od:List Od)(li:Int)(sk:Int):(Qy.mk op al ks di its fr wh gr hv od li sk).li=li:=rfl
def aIt(op:Int)(al:Bool)(ks:List Qy)(di:Bool)(its:List Im)(fr:List Fm)(wh:List Xp)(gr:List Xp)(hv:List Xp)(od:List Od)(li:Int)(sk:Int):(Qy.mk op al ks di its fr wh gr hv od li sk).sk=sk:=rfl
def aIE(st:Bool)(tb:List UInt8)(e:Xp)(az:List UInt8):(Im.mk st tb e az).st=st:=rfl
def aID(st:Bool)(tb:List UInt8)(e:Xp)(az:List UInt8):(Im.mk st tb e az).tb=tb:=rfl
def aOw(st:Bool)(tb:List UInt8)(e:Xp)(az:List UInt8):(Im.mk st tb e az).e=e:=rfl
def aIF(st:Bool)(tb:List UInt8)(e:Xp)(az:List UInt8):(Im.mk st tb e az).az=az:=rfl
def aIK(kd:Int)(nm:List UInt8)(az:List UInt8)(sb:List Qy)(ks:List Fm)(on:List Xp):(Fm.mk kd nm az sb ks on).kd=kd:=rfl
def aII(kd:Int)(nm:List UInt8)(az:List UInt8)(sb:List Qy)(ks:List Fm)(on:List Xp):(Fm.mk kd nm az sb ks on).nm=nm:=rfl
def aIL(kd:Int)(nm:List UInt8)(az:List UInt8)(sb:List Qy)(ks:List Fm)(on:List Xp):(Fm.mk kd nm az sb ks on).az=az:=rfl
def aIG(kd:Int)(nm:List UInt8)(az:List UInt8)(sb:List Qy)(ks:List Fm)(on:List Xp):(Fm.mk kd nm az sb ks on).sb=sb:=rfl
def aIJ(kd:Int)(nm:List UInt8)(az:List UInt8)(sb:List Qy)(ks:List Fm)(on:List Xp):(Fm.mk kd nm az sb ks on).ks=ks:=rfl
def aIH(kd:Int)(nm:List UInt8)(az:List UInt8)(sb:List Qy)(ks:List Fm)(on:List Xp):(Fm.mk kd nm az sb ks on).on=on:=rfl
def zMk:=hH (hZ @aIo @aOv @aIm @aIp @aIr @aIq @aIn @aIu) (hZ @aIC @aIx @aIB @aFe @aIA @aIs @aIz @aIy) (hZ @aIv @aIw @aIt @aIE @aID @aOw @aIF @aIK) (hJ @aII @aIL @aIG @aIJ @aIH)
end Go.Proofs.YtghkmcffifpkeaaGreat
namespace Go.Tab
open Pe
def aa5{l:List Tn}{i:Nat}{w:List UInt8}(h:isT l i w=true):i+1<=l.length:=by
 unfold isT at h
 rcases av i l.length with g|g
 .exact g
 .rw[bc g] at h;cases h
def adg{l:List Tn}{i:Nat}{k:Int}(h:br l i k=true):i+1<=l.length:=by
 unfold br at h
 rcases av i l.length with g|g
 .exact g
 .rw[bc g] at h;cases h
theorem alk{l:List Tn}{i:Nat}:∀ {so:List (List UInt8×Int)} {o:Int},opT l i so=some o->i+1<=l.length
 | [],_,h=>by cases h
 | (w,p)::r,o,h=>by
  unfold opT at h
  split at h
  .rename_i c;exact aa5 c
  .exact alk h
theorem axX{l:List Tn}{i:Nat}:∀ {ws:List (List UInt8)},bF l i ws=true->i+1<=l.length
 | [],h=>by cases h
 | w::r,h=>by
  unfold bF at h
  rw[bD] at h
  rcases h with h|h
  .exact aa5 h
  .exact axX h
def aC3{l:List Tn}{i:Nat}{v:V}(h:ab4 l i=some v):i+1<=l.length:=by
 unfold ab4 at h
 split at h
 .rename_i c;exact adg c
 split at h
 .rename_i c;exact adg c
 split at h
 .rename_i c;exact aa5 c
 split at h
 .rename_i c;exact aa5 c
 split at h
 .rename_i c;exact aa5 c
 .cases h
def Pl{α:Type}(l:List Tn)(i:Nat)(r:Rz α):Prop:=∀ a j b,r=some (a,j,b)->i<=j/\j<=l.length
section
variable {α β:Type} {l:List Tn} {i i' j:Nat} {r:Rz α} {g:α->β}
theorem Pl.at{r:α×Nat×Bool}{R:Rz α}(h:Pl l i R)(e:R=some r):i<=r.2.1/\r.2.1<=l.length:=h r.1 r.2.1 r.2.2 e
theorem Pl.nil:Pl l i (none:Rz α):=λ_ _ _ h=>by cases h
theorem Pl.so{a:α}{b:Bool}(h1:i<=j)(h2:j<=l.length):Pl l i (some (a,j,b)):=λ_ _ _ h=>by cases h;exact⟨h1,h2⟩
theorem Pl.on{f:α->Nat->Rz β}(h:Pl l i' r)(hi:i<=i')(hf:∀ a j,i'<=j->j<=l.length->Pl l i (f a j)):Pl l i (r.on g f):=by
 intro b j q e
 unfold Rz.on at e
 split at e
 .cases e
 .cases e;have:=h _ _ _ rfl;exact⟨by omega,this.2⟩
 .have:=h _ _ _ rfl;exact hf _ _ this.1 this.2 _ _ _ e
theorem Pl.to(h:Pl l i' r)(hi:i<=i'):Pl l i (r.to g):=by
 intro b j q e
 unfold Rz.to at e
 split at e
 .cases e
 .cases e;have:=h _ _ _ rfl;exact⟨by omega,this.2⟩
theorem Pl.wE{w:List UInt8}{x:α}(h1:i<=j)(h2:j<=l.length):Pl l i (wantE (eE l j w) x):=by
 unfold wantE eE
 split
 .rename_i c;have:=aa5 c;exact .so (by show i<=j+1;omega) this
 .exact .so h1 h2
theorem Pl.wR{w:List UInt8}{x:α}{f:Nat->Rz α}(h1:i<=j)(h2:j<=l.length)(hf:j+1<=l.length->Pl l i (f (j+1))):Pl l i (wantR (eE l j w) x f):=by
 unfold wantR eE
 cases c:isT l j w with
 | true=>exact hf (aa5 c)
 | false=>exact .so h1 h2
theorem amT:∀ (ws:List (List UInt8)) {j:Nat},j<=l.length->j<=(dU l j ws).1/\(dU l j ws).1<=l.length
 | [],j,h=>⟨am _,h⟩
 | w::r,j,h=>by
  unfold dU
  split
  .rename_i c;have:=aa5 c;have:=amT r this;omega
  .exact⟨am _,h⟩
theorem Pl.wsR{ws:List (List UInt8)}{x:α}{f:Nat->Rz α}(h1:i<=j)(h2:j<=l.length)(hf:∀ m,j<=m->m<=l.length->Pl l i (f m)):Pl l i (wantR (dU l j ws) x f):=by
 have h:=amT ws h2
 unfold wantR
 generalize dU l j ws=p at *
 obtain⟨m,b⟩:=p
 cases b with
 | true=>exact .so (by have:=h.1;dsimp only at this;omega) h.2
 | false=>exact hf m h.1 h.2
theorem Pl.nR{g:List UInt8->α}{f:List UInt8->Nat->Rz α}(h1:i<=j)(h2:j<=l.length)(hf:∀ s,j+1<=l.length->Pl l i (f s (j+1))):Pl l i (aot (eZ l j) g f):=by
 unfold aot eZ
 cases c:br l j 2 with
 | true=>exact hf _ (adg c)
 | false=>exact .so h1 h2
theorem Pl.fT{w:List UInt8}{A B:Rz α}(h1:j+1<=l.length->Pl l i A)(h2:Pl l i B):Pl l i (if isT l j w=true then A else B):=by
 split
 .rename_i c;exact h1 (aa5 c)
 .exact h2
theorem Pl.fK{k:Int}{A B:Rz α}(h1:j+1<=l.length->Pl l i A)(h2:Pl l i B):Pl l i (if br l j k=true then A else B):=by
 split
 .rename_i c;exact h1 (adg c)
 .exact h2
theorem Pl.fI{c:Prop}[Decidable c]{A B:Rz α}(h1:Pl l i A)(h2:Pl l i B):Pl l i (if c then A else B):=by
 split
 .exact h1
 .exact h2
theorem Pl.mono(h:Pl l i' r)(hi:i<=i'):Pl l i r:=λa j b e=>⟨by have:=h a j b e;omega,(h a j b e).2⟩
theorem ajR(h:j<=l.length):j<=(eZ l j).2.1/\(eZ l j).2.1<=l.length:=by
 unfold eZ
 split
 .rename_i c;have:=adg c;exact⟨by show j<=j+1;omega,this⟩
 .exact⟨am _,h⟩
theorem akM(h:j<=l.length):j<=(fq l j).2.1/\(fq l j).2.1<=l.length:=by
 unfold fq
 split
 .rename_i c;have:=ajR (aa5 c);omega
 split
 .rename_i c;have:=adg c;exact⟨by show j<=j+1;omega,this⟩
 .exact⟨am _,h⟩
end
structure FP (l:List Tn) (F:Fs):Prop where
 or:∀ {i p},i<=l.length->Pl l i (F.or i p)
 no:∀ {i},i<=l.length->Pl l i (F.no i)
 un:∀ {i},i<=l.length->Pl l i (F.un i)
 qy:∀ {i p},i<=l.length->Pl l i (F.qy i p)
 ins:∀ {i},i<=l.length->Pl l i (F.ins i)
 fr:∀ {i p},i<=l.length->Pl l i (F.fr i p)
 so:∀ {i},i<=l.length->Pl l i (F.so i)
section
variable {l:List Tn} {F:Fs}
theorem alh(H:FP l F){i:Nat}(hi:i+1<=l.length):Pl l i (ah9 F l i):=by
 unfold ah9
 repeat' first
  | exact .so aC aC
  | exact .nil
  | exact .wE aC aC
  | exact .to (H.ins aC) aC
  | refine .on (H.ins aC) aC λ_ _ _ _=>?_
  | exact .mono (H.ins aC) aC
  | refine .fT (λ_=>?_) ?_
  | refine .fK (λ_=>?_) ?_
  | refine .fI ?_ ?_
theorem apJ(H:FP l F):∀ (n:Nat) (ks:List Xp) {i:Nat},i<=l.length->Pl l i (ac0 F l n ks i):=by
 intro n
 induction n with
 | zero=>intro ks i hi _ _ _ h;cases h
 | succ n ih =>
 intro ks i hi
 unfold ac0
 repeat' first
  | exact .so aC aC
  | exact .nil
  | exact .to (ih _ aC) aC
  | refine .on (ih _ aC) aC λ_ _ _ _=>?_
  | exact .mono (ih _ aC) aC
  | exact .to (H.or aC) aC
  | refine .on (H.or aC) aC λ_ _ _ _=>?_
  | exact .mono (H.or aC) aC
  | refine .fT (λ_=>?_) ?_
  | refine .fK (λ_=>?_) ?_
  | refine .fI ?_ ?_
theorem ajV(H:FP l F){i:Nat}(hi:i<=l.length):Pl l i (aag F l i):=by
 unfold aag
 repeat' first
  | exact .so aC aC
  | exact .nil
  | exact .to (apJ H _ _ aC) aC
  | refine .on (apJ H _ _ aC) aC λ_ _ _ _=>?_
  | exact .mono (apJ H _ _ aC) aC
  | exact .to (H.or aC) aC
  | refine .on (H.or aC) aC λ_ _ _ _=>?_
  | exact .mono (H.or aC) aC
  | refine .fT (λ_=>?_) ?_
  | refine .fK (λ_=>?_) ?_
  | refine .fI ?_ ?_
theorem ap2{ks:List Xp}{i:Nat}(hi:i<=l.length):Pl l i (aeW l ks i):=by
 unfold aeW
 repeat' first
  | exact .so aC aC
  | exact .nil
  | exact .wE aC aC
  | refine .fT (λ_=>?_) ?_
  | refine .fK (λ_=>?_) ?_
  | refine .fI ?_ ?_
theorem ap1(H:FP l F){ks:List Xp}{i:Nat}(hi:i<=l.length):Pl l i (af8 F l ks i):=by
 unfold af8
 repeat' first
  | exact .so aC aC
  | exact .nil
  | exact .to (ap2 aC) aC
  | refine .on (ap2 aC) aC λ_ _ _ _=>?_
  | exact .mono (ap2 aC) aC
  | exact .to (H.or aC) aC
  | refine .on (H.or aC) aC λ_ _ _ _=>?_
  | exact .mono (H.or aC) aC
  | refine .fT (λ_=>?_) ?_
  | refine .fK (λ_=>?_) ?_
  | refine .fI ?_ ?_
theorem ap0(H:FP l F):∀ (n:Nat) (ks:List Xp) {i:Nat},i<=l.length->Pl l i (abM F l n ks i):=by
 intro n
 induction n with
 | zero=>intro ks i hi _ _ _ h;cases h
 | succ n ih =>
 intro ks i hi
 unfold abM
 repeat' first
  | exact .so aC aC
  | exact .nil
  | refine .wR aC aC λ_=>?_
  | exact .to (ih _ aC) aC
  | refine .on (ih _ aC) aC λ_ _ _ _=>?_
  | exact .mono (ih _ aC) aC
  | exact .to (ap1 H aC) aC
  | refine .on (ap1 H aC) aC λ_ _ _ _=>?_
  | exact .mono (ap1 H aC) aC
  | exact .to (H.or aC) aC
  | refine .on (H.or aC) aC λ_ _ _ _=>?_
  | exact .mono (H.or aC) aC
  | refine .fT (λ_=>?_) ?_
  | refine .fK (λ_=>?_) ?_
  | refine .fI ?_ ?_
theorem axJ(H:FP l F){i:Nat}(hi:i<=l.length):Pl l i (af7 F l i):=by
 unfold af7
 repeat' first
  | exact .so aC aC
  | exact .nil
  | exact .to (ap0 H _ _ aC) aC
  | refine .on (ap0 H _ _ aC) aC λ_ _ _ _=>?_
  | exact .mono (ap0 H _ _ aC) aC
  | refine .fT (λ_=>?_) ?_
  | refine .fK (λ_=>?_) ?_
  | refine .fI ?_ ?_
theorem aAG(H:FP l F){f:List UInt8}{di:Bool}{i:Nat}(hi:i<=l.length):Pl l i (ap8 F l i f di):=by
 unfold ap8
 repeat' first
  | exact .so aC aC
  | exact .nil
  | exact .wE aC aC
  | exact .to (H.or aC) aC
  | refine .on (H.or aC) aC λ_ _ _ _=>?_
  | exact .mono (H.or aC) aC
  | refine .fT (λ_=>?_) ?_
  | refine .fK (λ_=>?_) ?_
  | refine .fI ?_ ?_
theorem ap3(H:FP l F){f:List UInt8}{i:Nat}(hi:i<=l.length):Pl l i (callS F l i f):=by
 unfold callS
 split
 .split
  .rename_i c
   rw[ar] at c
   have:=aa5 c.2
   exact .wE aC this
  .exact .fT (λh=>.mono (aAG H h) aC) (aAG H hi)
 .exact .fT (λ_=>.so aC aC) (.on (ajV H hi) (am _) λ_ _ _ _=>.wE aC aC)
theorem aFP(H:FP l F){i:Nat}(hi:i+1<=l.length):Pl l i (aiH F l i):=by
 unfold aiH
 repeat' first
  | exact .so aC aC
  | exact .nil
  | exact .wE aC aC
  | refine .wR aC aC λ_=>?_
  | exact .to (H.qy aC) aC
  | refine .on (H.qy aC) aC λ_ _ _ _=>?_
  | exact .mono (H.qy aC) aC
  | refine .fT (λ_=>?_) ?_
  | refine .fK (λ_=>?_) ?_
  | refine .fI ?_ ?_
theorem apy(H:FP l F){i:Nat}(hi:i<=l.length):Pl l i (aei F l i):=by
 unfold aei
 split
 .rename_i c;have:=aC3 c;exact .so aC this
 refine .fT (λ_=>.to (alh H aC) aC) ?_
 refine .fT (λ_=>.mono (axJ H aC) aC) ?_
 refine .fT (λ_=>aFP H aC) ?_
 refine .fK (λ_=>?_) (.so aC aC)
 refine .fT (λ_=>.mono (ap3 H aC) aC) ?_
 refine .fT (λ_=>?_) (.so aC aC)
 have:=ajR (l:=l) (j:=i+2) aC
 exact .so aC this.2
theorem aob(H:FP l F){i:Nat}{p:List Xp}(hi:i<=l.length):Pl l i (agc F l i p):=by
 unfold agc
 cases p with
 | cons x r=>exact .so (am _) hi
 | nil=>exact .fT (λ_=>.to (H.un aC) aC) (apy H hi)
theorem awV{nx:Nat->List Xp->Rz Xp}(N:∀ {i},i<=l.length->Pl l i (nx i []))(so:List (List UInt8×Int)):∀ n a {i:Nat},i<=l.length->Pl l i (afj nx l so n a i):=by
 intro n
 induction n with
 | zero=>intro a i hi _ _ _ h;cases h
 | succ n ih =>
 intro a i hi
 unfold afj
 split
 .exact .so (am _) hi
 .rename_i c
  exact .on (N (alk c)) aC λ_ _ _ h=>.mono (ih _ h) aC
theorem alq{nx:Nat->List Xp->Rz Xp}(N:∀ {i p},i<=l.length->Pl l i (nx i p))(so:List (List UInt8×Int)){i:Nat}{p:List Xp}(hi:i<=l.length):Pl l i (agT nx l so i p):=by
 unfold agT
 exact .on (N hi) (am _) λ_ _ h1 h2=>.mono (awV (λh=>N h) so _ _ h2) aC
theorem aOt(H:FP l F){i:Nat}{p:List Xp}(hi:i<=l.length):Pl l i (ajS F l i p):=alq (λh=>aob H h) _ hi
theorem aPw(H:FP l F){i:Nat}{p:List Xp}(hi:i<=l.length):Pl l i (aj7 F l i p):=alq (λh=>aOt H h) _ hi
theorem af6(H:FP l F){i:Nat}{p:List Xp}(hi:i<=l.length):Pl l i (aaL F l i p):=alq (λh=>aPw H h) _ hi
theorem aw3(H:FP l F)(a:Xp):∀ (n:Nat) (ks:List Xp) {i:Nat},i<=l.length->Pl l i (inL F l a n ks i):=by
 intro n
 induction n with
 | zero=>intro ks i hi _ _ _ h;cases h
 | succ n ih =>
 intro ks i hi
 unfold inL
 repeat' first
  | exact .so aC aC
  | exact .nil
  | exact .wE aC aC
  | exact .to (ih _ aC) aC
  | refine .on (ih _ aC) aC λ_ _ _ _=>?_
  | exact .mono (ih _ aC) aC
  | exact .to (H.or aC) aC
  | refine .on (H.or aC) aC λ_ _ _ _=>?_
  | exact .mono (H.or aC) aC
  | refine .fT (λ_=>?_) ?_
  | refine .fK (λ_=>?_) ?_
  | refine .fI ?_ ?_
theorem anu(H:FP l F){a:Xp}{i:Nat}(hi:i<=l.length):Pl l i (inS F l i a):=by
 unfold inS
 repeat' first
  | exact .so aC aC
  | exact .nil
  | exact .wE aC aC
  | refine .wR aC aC λ_=>?_
  | exact .to (aw3 H _ _ _ aC) aC
  | refine .on (aw3 H _ _ _ aC) aC λ_ _ _ _=>?_
  | exact .mono (aw3 H _ _ _ aC) aC
  | exact .to (H.ins aC) aC
  | refine .on (H.ins aC) aC λ_ _ _ _=>?_
  | exact .mono (H.ins aC) aC
  | refine .fT (λ_=>?_) ?_
  | refine .fK (λ_=>?_) ?_
  | refine .fI ?_ ?_
theorem awU(H:FP l F){no:Bool}{a:Xp}{i:Nat}(hi:i<=l.length):Pl l i (ac1 F l no i a):=by
 unfold ac1
 repeat' first
  | exact .so aC aC
  | exact .nil
  | refine .wR aC aC λ_=>?_
  | exact .to (anu H aC) aC
  | refine .on (anu H aC) aC λ_ _ _ _=>?_
  | exact .mono (anu H aC) aC
  | exact .to (af6 H aC) aC
  | refine .on (af6 H aC) aC λ_ _ _ _=>?_
  | exact .mono (af6 H aC) aC
  | refine .fT (λ_=>?_) ?_
  | refine .fK (λ_=>?_) ?_
  | refine .fI ?_ ?_
theorem aFw{no:Bool}{a:Xp}{i:Nat}(hi:i<=l.length):Pl l i (isS l no i a):=.wE (am _) hi
theorem asw(H:FP l F){i:Nat}{a:Xp}(hi:i<=l.length):Pl l i (acU F l i a):=by
 unfold acU
 split
 .rename_i c;have:=alk c;exact .to (af6 H this) aC
 refine .fT (λ_=>.fT (λ_=>.mono (aFw aC) aC) (.mono (aFw aC) aC)) ?_
 exact .fT (λ_=>.mono (awU H aC) aC) (awU H hi)
theorem alm(H:FP l F){i:Nat}{p:List Xp}(hi:i<=l.length):Pl l i (adL F l i p):=by
 unfold adL
 split
 .rename_i c
  rw[ar] at c
  have:=aa5 c.2
  exact .to (H.no this) aC
 .exact .on (af6 H hi) (am _) λ_ _ _ h=>.mono (asw H h) aC
theorem aPv(H:FP l F){i:Nat}{p:List Xp}(hi:i<=l.length):Pl l i (aj5 F l i p):=alq (λh=>alm H h) _ hi
theorem aQJ(H:FP l F){i:Nat}{p:List Xp}(hi:i<=l.length):Pl l i (orS F l i p):=alq (λh=>aPv H h) _ hi
theorem asl(H:FP l F){i:Nat}(hi:i<=l.length):Pl l i (ami F l i):=by
 unfold ami
 repeat' first
  | exact .so aC aC
  | exact .nil
  | exact .to (alh H aC) aC
  | refine .on (alh H aC) aC λ_ _ _ _=>?_
  | exact .mono (alh H aC) aC
  | exact .to (H.or aC) aC
  | refine .on (H.or aC) aC λ_ _ _ _=>?_
  | exact .mono (H.or aC) aC
  | exact .to (H.qy aC) aC
  | refine .on (H.qy aC) aC λ_ _ _ _=>?_
  | exact .mono (H.qy aC) aC
  | refine .fT (λ_=>?_) ?_
  | refine .fK (λ_=>?_) ?_
  | refine .fI ?_ ?_
theorem ajY(H:FP l F){i:Nat}(hi:i<=l.length):Pl l i (adF F l i):=by
 unfold adF
 refine .fT (λ_=>.so aC aC) ?_
 split
 .rename_i c
  rw[ar,ar] at c
  have:=aa5 c.2.2
  exact .so aC aC
 refine .on (H.or hi) (am _) λ_ j h1 h2=>?_
 have:=akM h2
 exact .so aC this.2
theorem aeV(H:FP l F){w:List UInt8}{i:Nat}(hi:i<=l.length):Pl l i (eC F l i w):=by
 unfold eC
 repeat' first
  | exact .so aC aC
  | exact .nil
  | exact .to (H.or aC) aC
  | refine .on (H.or aC) aC λ_ _ _ _=>?_
  | exact .mono (H.or aC) aC
  | refine .fT (λ_=>?_) ?_
  | refine .fK (λ_=>?_) ?_
  | refine .fI ?_ ?_
theorem arT(H:FP l F){di:Bool}{its:List Im}{fr:List Fm}{wh gr:List Xp}{i:Nat}(hi:i<=l.length):Pl l i (ah2 F l di its fr wh gr i):=by
 unfold ah2
 repeat' first
  | exact .so aC aC
  | exact .nil
  | exact .to (aeV H aC) aC
  | refine .on (aeV H aC) aC λ_ _ _ _=>?_
  | exact .mono (aeV H aC) aC
  | refine .fT (λ_=>?_) ?_
  | refine .fK (λ_=>?_) ?_
  | refine .fI ?_ ?_
theorem arU(H:FP l F){di:Bool}{its:List Im}{fr:List Fm}{wh:List Xp}{i:Nat}(hi:i<=l.length):Pl l i (ah3 F l di its fr wh i):=by
 unfold ah3
 repeat' first
  | exact .so aC aC
  | exact .nil
  | refine .wR aC aC λ_=>?_
  | exact .to (arT H aC) aC
  | refine .on (arT H aC) aC λ_ _ _ _=>?_
  | exact .mono (arT H aC) aC
  | exact .to (ajV H aC) aC
  | refine .on (ajV H aC) aC λ_ _ _ _=>?_
  | exact .mono (ajV H aC) aC
  | refine .fT (λ_=>?_) ?_
  | refine .fK (λ_=>?_) ?_
  | refine .fI ?_ ?_
theorem arP(H:FP l F){di:Bool}{its:List Im}{fr:List Fm}{i:Nat}(hi:i<=l.length):Pl l i (ah0 F l di its fr i):=by
 unfold ah0
 repeat' first
  | exact .so aC aC
  | exact .nil
  | exact .to (arU H aC) aC
  | refine .on (arU H aC) aC λ_ _ _ _=>?_
  | exact .mono (arU H aC) aC
  | exact .to (aeV H aC) aC
  | refine .on (aeV H aC) aC λ_ _ _ _=>?_
  | exact .mono (aeV H aC) aC
  | refine .fT (λ_=>?_) ?_
  | refine .fK (λ_=>?_) ?_
  | refine .fI ?_ ?_
theorem arV(H:FP l F){di:Bool}{its:List Im}{i:Nat}(hi:i<=l.length):Pl l i (ahm F l di its i):=by
 unfold ahm
 repeat' first
  | exact .so aC aC
  | exact .nil
  | exact .to (arP H aC) aC
  | refine .on (arP H aC) aC λ_ _ _ _=>?_
  | exact .mono (arP H aC) aC
  | exact .to (H.fr aC) aC
  | refine .on (H.fr aC) aC λ_ _ _ _=>?_
  | exact .mono (H.fr aC) aC
  | refine .fT (λ_=>?_) ?_
  | refine .fK (λ_=>?_) ?_
  | refine .fI ?_ ?_
theorem arS(H:FP l F)(di:Bool):∀ (n:Nat) (its:List Im) {i:Nat},i<=l.length->Pl l i (aer F l di n its i):=by
 intro n
 induction n with
 | zero=>intro its i hi _ _ _ h;cases h
 | succ n ih =>
 intro its i hi
 unfold aer
 repeat' first
  | exact .so aC aC
  | exact .nil
  | exact .to (ih _ aC) aC
  | refine .on (ih _ aC) aC λ_ _ _ _=>?_
  | exact .mono (ih _ aC) aC
  | exact .to (arV H aC) aC
  | refine .on (arV H aC) aC λ_ _ _ _=>?_
  | exact .mono (arV H aC) aC
  | exact .to (ajY H aC) aC
  | refine .on (ajY H aC) aC λ_ _ _ _=>?_
  | exact .mono (ajY H aC) aC
  | refine .fT (λ_=>?_) ?_
  | refine .fK (λ_=>?_) ?_
  | refine .fI ?_ ?_
theorem arR(H:FP l F){i:Nat}(hi:i<=l.length):Pl l i (ajI F l i):=by
 unfold ajI
 repeat' first
  | exact .so aC aC
  | exact .nil
  | exact .to (arS H _ _ _ aC) aC
  | refine .on (arS H _ _ _ aC) aC λ_ _ _ _=>?_
  | exact .mono (arS H _ _ _ aC) aC
  | refine .fT (λ_=>?_) ?_
  | refine .fK (λ_=>?_) ?_
  | refine .fI ?_ ?_
theorem apC(H:FP l F){i:Nat}{p:List Qy}(hi:i<=l.length):Pl l i (acs F l i p):=by
 unfold acs
 cases p with
 | cons x r=>exact .so (am _) hi
 | nil=>exact .fT (λ_=>.on (H.qy aC) aC λ_ _ _ _=>.wE aC aC) (.wR aC aC λ_=>.mono (arR H aC) aC)
theorem apq{nx:Nat->List Qy->Rz Qy}(N:∀ {i},i<=l.length->Pl l i (nx i []))(so:List (List UInt8×Int)):∀ n a {i:Nat},i<=l.length->Pl l i (aai nx l so n a i):=by
 intro n
 induction n with
 | zero=>intro a i hi _ _ _ h;cases h
 | succ n ih =>
 intro a i hi
 unfold aai
 split
 .exact .so (am _) hi
 .rename_i c
  have h1:=alk c
  have h2:i<=(if isT l (i+1) [97,108,108]=true then i+2 else i+1)/\(if isT l (i+1) [97,108,108]=true then i+2 else i+1)<=l.length:=by
   split
   .rename_i c2;have:=aa5 c2;omega
   .omega
  exact .on (N h2.2) h2.1 λ_ _ _ h=>.mono (ih _ h) aC
theorem az7{nx:Nat->List Qy->Rz Qy}(N:∀ {i p},i<=l.length->Pl l i (nx i p))(so:List (List UInt8×Int)){i:Nat}{p:List Qy}(hi:i<=l.length):Pl l i (ahZ nx l so i p):=by
 unfold ahZ
 exact .on (N hi) (am _) λ_ _ h1 h2=>.mono (apq (λh=>N h) so _ _ h2) aC
theorem ant(H:FP l F){i:Nat}{p:List Qy}(hi:i<=l.length):Pl l i (aaq F l i p):=az7 (λh=>apC H h) _ hi
theorem aD2(H:FP l F){i:Nat}{p:List Qy}(hi:i<=l.length):Pl l i (ajC F l i p):=az7 (λh=>ant H h) _ hi
theorem aTk:∀ (n:Nat) (os:List Od) {i:Nat},i<=l.length->Pl l i (byL l n os i):=by
 intro n
 induction n with
 | zero=>intro os i hi _ _ _ h;cases h
 | succ n ih =>
 intro os i hi
 unfold byL
 split
 .rename_i c
  have h1:i+1<=l.length:=by
   rw[bD,ar] at c
   rcases c with c|c
   .exact adg c
   .exact adg c.1
  have h2:i<=(if bF l (i+1) [[97,115,99],[100,101,115,99]]=true then i+2 else i+1)/\(if bF l (i+1) [[97,115,99],[100,101,115,99]]=true then i+2 else i+1)<=l.length:=by
   split
   .rename_i c2;have:=axX c2;omega
   .omega
  dsimp only
  exact .fT (λh=>.mono (ih _ h) aC) (.so h2.1 h2.2)
 .exact .so (am _) hi
theorem aAD{i:Nat}(hi:i<=l.length):Pl l i (aii l i):=.wR (am _) hi λh=>.mono (aTk _ _ h) aC
theorem ar9{q:Qy}{od:List Od}{li:Int}{i:Nat}(hi:i<=l.length):Pl l i (agh l q od li i):=by
 unfold agh
 repeat' first
  | exact .so aC aC
  | exact .nil
  | refine .fT (λ_=>?_) ?_
  | refine .fK (λ_=>?_) ?_
  | refine .fI ?_ ?_
theorem aAi{q:Qy}{od:List Od}{i:Nat}(hi:i<=l.length):Pl l i (adM l q od i):=by
 unfold adM
 repeat' first
  | exact .so aC aC
  | exact .nil
  | exact .to (ar9 aC) aC
  | refine .on (ar9 aC) aC λ_ _ _ _=>?_
  | exact .mono (ar9 aC) aC
  | refine .fT (λ_=>?_) ?_
  | refine .fK (λ_=>?_) ?_
  | refine .fI ?_ ?_
theorem akv(H:FP l F){i:Nat}{p:List Qy}(hi:i<=l.length):Pl l i (adV F l i p):=by
 unfold adV
 refine .on (aD2 H hi) (am _) λ_ j h1 h2=>.fI (.so h1 h2) ?_
 exact .fT (λh=>.on (aAD h) aC λ_ _ _ h=>.mono (aAi h) aC) (.mono (aAi h2) h1)
theorem amx{i:Nat}{q:Qy}(hi:i<=l.length):Pl l i (acn l i q):=by
 unfold acn
 have h:=akM hi
 generalize fq l i=p at *
 obtain⟨s,j,b⟩:=p
 dsimp only at h ⊢
 exact .fI (.so h.1 h.2) (.so h.1 h.2)
theorem ap5(H:FP l F){i:Nat}(hi:i+1<=l.length):Pl l i (ahL F l i):=.on (H.so hi) aC λ_ _ _ _=>.wE aC aC
theorem aok(H:FP l F){i:Nat}(hi:i<=l.length):Pl l i (ad6 F l i):=by
 unfold ad6
 refine .fT (λh=>.on (ap5 H h) (am _) λ_ _ _ h=>.fI (.mono (amx h) aC) (.so aC aC)) ?_
 refine .nR (am _) hi λs h=>?_
 have:=akM h
 exact .so aC this.2
theorem awZ(H:FP l F):∀ (n:Nat) (a:Fm) {i:Nat},i<=l.length->Pl l i (acw F l n a i):=by
 intro n
 induction n with
 | zero=>intro a i hi _ _ _ h;cases h
 | succ n ih =>
 intro a i hi
 unfold acw
 split
 .exact .so (am _) hi
 .refine .wsR (am _) hi λm h1 h2=>?_
  refine .on (aok H h2) h1 λ_ p h3 h4=>?_
  refine .fI (.mono (ih _ h4) aC) ?_
  exact .fT (λh=>.on (H.or h) aC λ_ _ _ h=>.mono (ih _ h) aC) (.so aC h4)
theorem aid(H:FP l F){i:Nat}{p:List Fm}(hi:i<=l.length):Pl l i (acO F l i p):=by
 unfold acO
 cases p with
 | cons x r=>exact awZ H _ _ hi
 | nil=>exact .on (aok H hi) (am _) λ_ _ _ h=>.mono (awZ H _ _ h) aC
theorem aJa(H:FP l F):∀ (n:Nat) (a:Fm) {i:Nat},i<=l.length->Pl l i (ad2 F l n a i):=by
 intro n
 induction n with
 | zero=>intro a i hi _ _ _ h;cases h
 | succ n ih =>
 intro a i hi
 unfold ad2
 exact .fT (λh=>.on (aid H h) aC λ_ _ _ h=>.mono (ih _ h) aC) (.so (am _) hi)
theorem aml(H:FP l F){i:Nat}{p:List Fm}(hi:i<=l.length):Pl l i (ahE F l i p):=.on (aid H hi) (am _) λ_ _ _ h=>.mono (aJa H _ _ h) aC
theorem alP(H:FP l F){i:Nat}(hi:i<=l.length):Pl l i (adO F l i):=by
 unfold adO
 refine .fT (λ_=>.to (H.qy hi) (am _)) ?_
 refine .fT (λh=>.on (ap5 H h) (am _) λ_ _ _ h=>?_) (.to (H.fr hi) (am _))
 refine .fI (.so aC h) (.fI (.to (H.qy h) aC) (.fI (.on (amx h) aC λ_ _ _ h=>.to (H.fr h) aC) (.to (H.fr h) aC)))
end
def aAH{l:List Tn}{F:Fs}(H:FP l F):FP l (auJ l F) where
 or h:=aQJ H h
 un h:=aob (p:=[]) H h
 no h:=alm (p:=[]) H h
 qy h:=akv H h
 ins h:=asl H h
 fr h:=aml H h
 so h:=alP H h
def aAI(l:List Tn):FP l auQ where
 or _:=.nil
 no _:=.nil
 un _:=.nil
 qy _:=.nil
 ins _:=.nil
 fr _:=.nil
 so _:=.nil
def r0:Rd:=⟨[],[],[]⟩
structure Cr where
 cs:List Cd
 ks:List Kd
 rs:List Rd
 xs:List Xp
def Cr.sm(c:Cr)(t:List UInt8):Sm:=.mk 1 t [] c.cs [] false c.ks c.rs c.xs [] [] [] []
def smK(k:Int)(t n:List UInt8)(ns:List (List UInt8))(un:Bool):Sm:=.mk k t n [] ns un [] [] [] [] [] [] []
def c0:Cr:=⟨[],[],[],[]⟩
def aY8(t:List UInt8)(ns:List (List UInt8))(rw:List (List Xp))(q:List Qy):Sm:=.mk 4 t [] [] ns false [] [] [] rw [] [] q
def aYq(t:List UInt8)(ss:List As)(w:List Xp):Sm:=.mk 5 t [] [] [] false [] [] [] [] ss w []
def s0:Sm:=smK 0 [] [] [] false
def quX(k:Int)(q:Qy):Sm:=.mk k [] [] [] [] false [] [] [] [] [] [] [q]
end Go.Tab
namespace Go.Proofs.YtghkmcffifpkeaaGreat
open Pe Tab
def ae3{l:List Tn}{i:Nat}{w:List UInt8}(c:isT l i w=true)(v:List UInt8)(h:v≠w):isT l i v=false:=by
 rw[ajx] at c ⊢
 rw[ar,aR] at c
 rw[c.2,bK (bC h),cy]
def aq3{l:List Tn}{i:Nat}{w:List UInt8}(c:isT l i w=true)(k:Int)(h0:k≠0)(h1:k≠1)(h5:k≠5):br l i k=false:=by
 rw[ajx] at c
 rw[afE l i k h0]
 rw[ar,bD,aR,aR] at c
 refine bK λh=>?_
 rw[h] at c
 rcases c.1 with c|c
 .exact h1 c
 .exact h5 c
def awY{l:List Tn}{i:Nat}{k:Int}(h0:k≠0)(h1:k≠1)(h5:k≠5)(c:br l i k=true)(w:List UInt8):isT l i w=false:=by
 cases e:isT l i w with
 | false=>rfl
 | true=>rw[aq3 e k h0 h1 h5] at c;cases c
def aIW{l:List Tn}{i:Nat}{k:Int}(h0:k≠0)(c:br l i k=true)(k':Int)(h0':k'≠0)(h:k'≠k):br l i k'=false:=by
 rw[afE l i k h0,aR] at c
 rw[afE l i k' h0',c]
 exact bK λe=>h e.symm
def wT(l:List Tn)(i:Nat)(e:Int)(w:List UInt8)(hl:l.length<LB)(c:isT l i w=true) :
  (∀ K,cKp 78 [.ptr 0 0,.of (.lit (.string (ByteArray.mk (List.toArray w))))] [pT l i e] K↔K ⟨false,[aN true],[pT l (i+1) e]⟩) /\
  (∀ K,cKp 76 [.ptr 0 0,.of (.lit (.string (ByteArray.mk (List.toArray w))))] [pT l i e] K↔K ⟨false,[aN true],[pT l i e]⟩) /\
  (∀ K,cKp 79 [.ptr 0 0,.of (.sl [.lit (.string (ByteArray.mk (List.toArray w)))] 1)] [pT l i e] K↔K ⟨false,[],[pT l (i+1) e]⟩):=by
 have hi:=aau (fe c)
 refine⟨λK=>?_,λK=>?_,λK=>?_⟩
 .have:=aF.k (adU l i e w hl hi) K
  rw[c,aE rfl] at this
  exact this
 .have:=aF.k (alr l i e w hl hi) K
  rw[c] at this
  exact this
 .have:=aF.k (akB l i e [w] hl hi (by show 1<=64;decide)) K
  simp only[dU,c,ah,aqO,ab,ap] at this
  exact this
def wF(l:List Tn)(i:Nat)(e:Int)(w:List UInt8)(hl:l.length<LB)(hi:i<=l.length)(c:isT l i w=false) :
  (∀ K,cKp 78 [.ptr 0 0,.of (.lit (.string (ByteArray.mk (List.toArray w))))] [pT l i e] K↔K ⟨false,[aN false],[pT l i e]⟩) /\
  (∀ K,cKp 76 [.ptr 0 0,.of (.lit (.string (ByteArray.mk (List.toArray w))))] [pT l i e] K↔K ⟨false,[aN false],[pT l i e]⟩) /\
  (∀ K,cKp 79 [.ptr 0 0,.of (.sl [.lit (.string (ByteArray.mk (List.toArray w)))] 1)] [pT l i e] K↔K ⟨true,[acT l i e],[pT l i e]⟩):=by
 refine⟨λK=>?_,λK=>?_,λK=>?_⟩
 .have:=aF.k (adU l i e w hl hi) K
  rw[c] at this
  simp only[ab,ap] at this
  exact this
 .have:=aF.k (alr l i e w hl hi) K
  rw[c] at this
  exact this
 .have:=aF.k (akB l i e [w] hl hi (by show 1<=64;decide)) K
  simp only[dU,c,ab,ap,aqO,ah] at this
  exact this
def sK(l:List Tn)(i:Nat)(e:Int)(w:List UInt8)(hl:l.length<LB)(hi:i<=l.length)(K:An->Prop):cKp 76 [.ptr 0 0,.of (.lit (.string (ByteArray.mk (List.toArray w))))] [pT l i e] K↔K ⟨false,[aN (isT l i w)],[pT l i e]⟩:=aF.k (alr l i e w hl hi) K
def nT(l:List Tn)(i:Nat)(e:Int)(hl:l.length<LB)(c:br l i 2=true) :
  (∀ K,cKp 174 [.ptr 0 0] [pT l i e] K↔K ⟨false,[aN true],[pT l i e]⟩) /\
  (∀ K,cKp 92 [.ptr 0 0] [pT l i e] K↔K ⟨false,[.of (aJ (aM (txT l i)))],[pT l (i+1) e]⟩):=by
 have hi:=aau (gl c)
 refine⟨λK=>?_,λK=>?_⟩
 .have:=aF.k (al6 l i e hl hi) K
  rw[c] at this
  exact this
 .have:=aF.k (atm l i e hl hi) K
  simp only[eZ,c,ah,bW,ab,ap] at this
  exact this
def nF(l:List Tn)(i:Nat)(e:Int)(hl:l.length<LB)(hi:i<=l.length)(c:br l i 2=false) :
  (∀ K,cKp 174 [.ptr 0 0] [pT l i e] K↔K ⟨false,[aN false],[pT l i e]⟩) /\
  (∀ K,cKp 92 [.ptr 0 0] [pT l i e] K↔K ⟨true,[acT l i e],[pT l i e]⟩):=by
 refine⟨λK=>?_,λK=>?_⟩
 .have:=aF.k (al6 l i e hl hi) K
  rw[c] at this
  exact this
 .have:=aF.k (atm l i e hl hi) K
  simp only[eZ,c,ab,ap,bW,ah] at this
  exact this
def iT(l:List Tn)(i:Nat)(e:Int)(hl:l.length<LB)(c:br l i 3=true) :
  (∀ K,cKp 81 [.ptr 0 0] [pT l i e] K↔K ⟨false,[au (nuT l i)],[pT l (i+1) e]⟩):=by
 have hi:=aau (gl c)
 intro K
 have:=aF.k (ao0 l i e hl hi) K
 simp only[c,ah,bW,ab,ap] at this
 exact this
def iF(l:List Tn)(i:Nat)(e:Int)(hl:l.length<LB)(hi:i<=l.length)(c:br l i 3=false) :
  (∀ K,cKp 81 [.ptr 0 0] [pT l i e] K↔K ⟨true,[acT l i e],[pT l i e]⟩):=by
 intro K
 have:=aF.k (ao0 l i e hl hi) K
 simp only[c,ab,ap,bW,ah] at this
 exact this
def aB(l:List Tn)(i:Nat)(e:Int)(ws:List (List UInt8))(hl:l.length<LB)(hi:i<=l.length)(hn:ws.length<=64){b:Bool}(c:bF l i ws=b) :
  (∀ K,cKp 75 [.ptr 0 0,.of (slC cM ws)] [pT l i e] K↔K ⟨false,[aN b],[pT l i e]⟩):=by
 intro K
 have:=aF.k (aJZ l i e ws hl hi hn) K
 rw[c] at this
 exact this
def aB2(l:List Tn)(i:Nat)(e:Int)(w1 w2:List UInt8)(hl:l.length<LB)(hi:i<=l.length){b:Bool}(c:bF l i [w1,w2]=b)(K:An->Prop):cKp 75 [.ptr 0 0,.of (.sl [.lit (.string (ByteArray.mk (List.toArray w1))),.lit (.string (ByteArray.mk (List.toArray w2)))] 2)] [pT l i e] K↔K ⟨false,[aN b],[pT l i e]⟩:=aB l i e [w1,w2] hl hi (by show 2<=64;decide) c K
def aB3(l:List Tn)(i:Nat)(e:Int)(w1 w2 w3:List UInt8)(hl:l.length<LB)(hi:i<=l.length){b:Bool}(c:bF l i [w1,w2,w3]=b)(K:An->Prop):cKp 75 [.ptr 0 0,.of (.sl [.lit (.string (ByteArray.mk (List.toArray w1))),.lit (.string (ByteArray.mk (List.toArray w2))),.lit (.string (ByteArray.mk (List.toArray w3)))] 3)] [pT l i e] K↔K ⟨false,[aN b],[pT l i e]⟩:=aB l i e [w1,w2,w3] hl hi (by show 3<=64;decide) c K
def aB4(l:List Tn)(i:Nat)(e:Int)(w1 w2 w3 w4:List UInt8)(hl:l.length<LB)(hi:i<=l.length){b:Bool}(c:bF l i [w1,w2,w3,w4]=b)(K:An->Prop):cKp 75 [.ptr 0 0,.of (.sl [.lit (.string (ByteArray.mk (List.toArray w1))),.lit (.string (ByteArray.mk (List.toArray w2))),.lit (.string (ByteArray.mk (List.toArray w3))),.lit (.string (ByteArray.mk (List.toArray w4)))] 4)] [pT l i e] K↔K ⟨false,[aN b],[pT l i e]⟩:=aB l i e [w1,w2,w3,w4] hl hi (by show 4<=64;decide) c K
def aB6(l:List Tn)(i:Nat)(e:Int)(w1 w2 w3 w4 w5 w6:List UInt8)(hl:l.length<LB)(hi:i<=l.length){b:Bool}(c:bF l i [w1,w2,w3,w4,w5,w6]=b)(K:An->Prop):cKp 75 [.ptr 0 0,.of (.sl [.lit (.string (ByteArray.mk (List.toArray w1))),.lit (.string (ByteArray.mk (List.toArray w2))),.lit (.string (ByteArray.mk (List.toArray w3))),.lit (.string (ByteArray.mk (List.toArray w4))),.lit (.string (ByteArray.mk (List.toArray w5))),.lit (.string (ByteArray.mk (List.toArray w6)))] 6)] [pT l i e] K↔K ⟨false,[aN b],[pT l i e]⟩:=aB l i e [w1,w2,w3,w4,w5,w6] hl hi (by show 6<=64;decide) c K
def gK(l:List Tn)(i:Nat)(e:Int)(hl:l.length<LB)(hi:i<=l.length) :
  (∀ K,cKp 65 [.ptr 0 0] [pT l i e] K↔K ⟨true,[acT l i e],[pT l i e]⟩):=λK=>aF.k (ag7 l i e hl hi) K
def pK(l:List Tn)(i:Nat)(e:Int)(hl:l.length<LB)(hi:i<=l.length) :
  (∀ K,cKp 173 [.ptr 0 0,.of (.lit (.int .i64 0))] [pT l i e] K↔K ⟨false,[.of (.agg (tnC (bN l i)))],[pT l i e]⟩) /\
  (∀ K,cKp 173 [.ptr 0 0,.of (.lit (.int .i64 1))] [pT l i e] K↔K ⟨false,[.of (.agg (tnC (bN l (i+1))))],[pT l i e]⟩) /\
  (∀ K,cKp 173 [.ptr 0 0,.of (.lit (.int .i64 2))] [pT l i e] K↔K ⟨false,[.of (.agg (tnC (bN l (i+2))))],[pT l i e]⟩) :=
 ⟨λK=>aF.k (ajc l i e hl hi) K,λK=>aF.k (aBH l i e hl hi) K,λK=>aF.k (aBG l i e hl hi) K⟩
def mB(l:List Tn)(i:Nat)(e:Int)(ws:List (List UInt8))(hl:l.length<LB)(hi:i<=l.length)(hn:ws.length<=64){j:Nat}(c:dU l i ws=(j,false))(K:An->Prop):cKp 79 [.ptr 0 0,.of (slC cM ws)] [pT l i e] K↔K ⟨false,[],[pT l j e]⟩:=by
 have:=aF.k (akB l i e ws hl hi hn) K
 rw[c] at this
 exact this
def mBf(l:List Tn)(i:Nat)(e:Int)(ws:List (List UInt8))(hl:l.length<LB)(hi:i<=l.length)(hn:ws.length<=64){j:Nat}(c:dU l i ws=(j,true))(K:An->Prop):cKp 79 [.ptr 0 0,.of (slC cM ws)] [pT l i e] K↔K ⟨true,[acT l j e],[pT l j e]⟩:=by
 have:=aF.k (akB l i e ws hl hi hn) K
 rw[c] at this
 exact this
def mB2(l:List Tn)(i:Nat)(e:Int)(w1 w2:List UInt8)(hl:l.length<LB)(hi:i<=l.length){j:Nat}(c:dU l i [w1,w2]=(j,false))(K:An->Prop):cKp 79 [.ptr 0 0,.of (.sl [.lit (.string (ByteArray.mk (List.toArray w1))),.lit (.string (ByteArray.mk (List.toArray w2)))] 2)] [pT l i e] K↔K ⟨false,[],[pT l j e]⟩:=mB l i e [w1,w2] hl hi (by show 2<=64;decide) c K
def aRm(l:List Tn)(i:Nat)(e:Int)(w1 w2:List UInt8)(hl:l.length<LB)(hi:i<=l.length){j:Nat}(c:dU l i [w1,w2]=(j,true))(K:An->Prop):cKp 79 [.ptr 0 0,.of (.sl [.lit (.string (ByteArray.mk (List.toArray w1))),.lit (.string (ByteArray.mk (List.toArray w2)))] 2)] [pT l i e] K↔K ⟨true,[acT l j e],[pT l j e]⟩:=mBf l i e [w1,w2] hl hi (by show 2<=64;decide) c K
def acW(l:List Tn)(i:Nat):txT l i=(bN l i).s:=by
 unfold txT bN
 cases l[i]? <;> rfl
def abA(l:List Tn)(i:Nat):nuT l i=(bN l i).n:=by
 unfold nuT bN
 cases l[i]? <;> rfl
def kq{l:List Tn}{i:Nat}{k:Int}{b:Bool}(hk:k≠0)(c:br l i k=b):((bN l i).k=k)=(b=true):=by
 rw[← c,afE l i k hk,aR]
structure TL (l:List Tn):Prop where
 n:∀ t∈l,0<=t.n
 s:∀ t∈l,t.k=2->t.s≠[]
 w:∀ t∈l,t.k=1->t.s≠[46]/\t.s≠[42]
def akm{l:List Tn}{i:Nat}(h:i<l.length):bN l i∈l:=by
 have:=ahU h
 exact co this
def GP{α:Type}(f:Nat)(xs:List X)(obs:List Ob)(l:List Tn)(e:Int)(D:List Ob)(enc:α->X)(i:Nat)(r:α×Nat×Bool):Prop:=(i<=r.2.1/\r.2.1<=l.length)/\aF Tryz.prog pr f xs obs (bW l e enc r D)
section
variable {α:Type} {f:Nat} {xs:List X} {obs:List Ob} {l:List Tn} {e:Int} {D:List Ob} {enc:α->X} {i j:Nat} {a:α}
theorem GP.ok(h:GP f xs obs l e D enc i (a,j,false))(K:An->Prop):cKp f xs obs K↔K ⟨false,[enc a],pT l j e::D⟩:=aF.k h.2 K
theorem GP.bad(h:GP f xs obs l e D enc i (a,j,true))(K:An->Prop):cKp f xs obs K↔K ⟨true,[acT l j e],pT l j e::D⟩:=aF.k h.2 K
theorem GP.okA(h:GP f xs obs l e D enc i (a,j,false)):(i<=j/\j<=l.length)/\∀ K,cKp f xs obs K↔K ⟨false,[enc a],pT l j e::D⟩:=⟨h.1,h.ok⟩
theorem GP.badA(h:GP f xs obs l e D enc i (a,j,true)):(i<=j/\j<=l.length)/\∀ K,cKp f xs obs K↔K ⟨true,[acT l j e],pT l j e::D⟩:=⟨h.1,h.bad⟩
theorem eR(E:Rz α)(C:∀ r,E=some r->GP f xs obs l e D enc i r):E=none\/(∃ a j,E=some (a,j,true)/\(i<=j/\j<=l.length)/\∀ K,cKp f xs obs K↔K ⟨true,[acT l j e],pT l j e::D⟩)\/(∃ a j,E=some (a,j,false)/\(i<=j/\j<=l.length)/\∀ K,cKp f xs obs K↔K ⟨false,[enc a],pT l j e::D⟩) :=
 match E,C with
 | none,_=>.inl rfl
 | some (_,_,true),C=>.inr (.inl ⟨_,_,rfl,(C _ rfl).badA⟩)
 | some (_,_,false),C=>.inr (.inr ⟨_,_,rfl,(C _ rfl).okA⟩)
theorem GP.any(h:GP f xs obs l e D enc i (a,j,true))(b:α):GP f xs obs l e D enc i (b,j,true):=h
end
abbrev xpE(x:Xp):X:=.of (.agg (xpC x))
abbrev qyE(x:Qy):X:=.of (.agg (qyC x))
abbrev fmE(x:Fm):X:=.of (.agg (fmC x))
abbrev thE(x:Th):X:=.of (.agg (thC x))
abbrev imE(x:Im):X:=.of (.agg (imC x))
abbrev odE(x:Od):X:=.of (.agg (odC x))
abbrev smE(x:Sm):X:=.of (.agg (smC x))
abbrev xsE(x:List Xp):X:=.of (slC xpC x)
abbrev deE:List Ob:=[.row 28 []]
abbrev deQ:List Ob:=[.row 38 []]
abbrev deF:List Ob:=[.row 140 []]
def axQ{T:TT}{t e:Nat}{d:TD}(h:Pe.elemOf T t=some (e,d))(hz:0<d.size)(hd:d.size<=1000)(hl:d.zero.length=d.size)(tk:Tk)(xs:List X):dJ tk 1 (some (e,d)) (some [(0,xs)])=if xs.length=d.size then bX ((X.rds xs).map λcs=>.own tk e d.size cs 1) else none:=by
 rw[← h];exact ahK h hz hd hl tk xs
def aNB:=@axQ _ _ _ _ E26 aI aI rfl
def aX4:=@axQ _ _ _ _ E25 aI aI rfl
def aX3:=@axQ _ _ _ _ E35 aI aI rfl
def gO(clk:Nat)(af:List Edge)(r o:Nat):aaQ clk af (some (.cell r o))=!(o == 1099511627776):=rfl
def azX:(2<=LIM)=True:=aa aI
def aaS:(1<=LIM)=True:=aa aI
def an9(w:Bool)(y:Qy)(e:Xp)(f:Fm):(⟨true,w,y,e,f⟩ : Th).val=adK 26 [] y:=rfl
def aoa(w:Bool)(y:Qy)(e:Xp)(f:Fm):(⟨false,w,y,e,f⟩ : Th).val=e:=rfl
def aQ(n:Nat):n+1+1=n+2:=rfl
def zV0:=ai (hZ @ch @ep @aba @aeu @aeZ @ane @aQq @eA) (hZ @agu @fJ @alt @aS7 @aRs @aQy @aTn @acW)
def zLX:=hJ @List.all_cons.{0} @List.all_nil.{0} @List.contains_cons.{0} @List.contains_nil.{0} @List.flatten_cons.{0}
def zVW:=hM (hZ zV0 zMk @smK.eq_1 @aY8.eq_1 @aYq.eq_1 @quX.eq_1 @Cr.sm.eq_1 @s0.eq_1) (hZ @smE.eq_1 @xpE.eq_1 @qyE.eq_1 @fmE.eq_1 @thE.eq_1 @imE.eq_1 @odE.eq_1 @xsE.eq_1) (hZ @adK.eq_1 @eF.eq_1 @ak3.eq_1 @agP.eq_1 @aiW.eq_1 @x0.eq_1 @y0.eq_1 @f0.eq_1) (hZ @v0.eq_1 @im0.eq_1 @aYB.eq_1 @fv.eq_1 @ah1.eq_1 @Th.ofE.eq_1 @Th.ofQ.eq_1 @Th.ofF.eq_1) (hZ @Th.val.eq_1 @Qy.endQ.eq_1 @slC.eq_1 @List.cons_append.{0} @List.nil_append.{0} @List.append_nil.{0} @List.length_append.{0} @List.length_cons.{0}) (hM @List.length_nil.{0} @if_true.{1} @if_false.{1} @ab @dg @aaZ)
def fz{p:Prop}(h:p:=by first|rfl|(simp only[zVW] <;> rfl)):p:=h
def ajZ{l:List Tn}{i:Nat}{w:List UInt8}(c:isT l i w=true)(v:List UInt8)(h:(v=w)=False):isT l i v=false:=ae3 c v (of_eq_false h)
def anq{l:List Tn}{i:Nat}{w:List UInt8}(c:isT l i w=true):br l i 2=false/\br l i 3=false/\br l i 4=false :=
 ⟨aq3 c 2 aI aI aI,aq3 c 3 aI aI aI,aq3 c 4 aI aI aI⟩
def wX(l:List Tn)(i:Nat)(e:Int)(w:List UInt8)(hl:l.length<LB)(c:isT l i w=true) :
  ((∀ v,(v=w)=False->isT l i v=false)/\br l i 2=false/\br l i 3=false/\br l i 4=false) /\
  ((∀ v,(v=w)=False->∀ K,cKp 78 [.ptr 0 0,.of (.lit (.string (ByteArray.mk (List.toArray v))))] [pT l i e] K↔K ⟨false,[aN false],[pT l i e]⟩) /\
  (∀ v,(v=w)=False->∀ K,cKp 76 [.ptr 0 0,.of (.lit (.string (ByteArray.mk (List.toArray v))))] [pT l i e] K↔K ⟨false,[aN false],[pT l i e]⟩) /\
  (∀ v,(v=w)=False->∀ K,cKp 79 [.ptr 0 0,.of (.sl [.lit (.string (ByteArray.mk (List.toArray v)))] 1)] [pT l i e] K↔K ⟨true,[acT l i e],[pT l i e]⟩)) /\
  ((∀ K,cKp 174 [.ptr 0 0] [pT l i e] K↔K ⟨false,[aN false],[pT l i e]⟩) /\
  (∀ K,cKp 92 [.ptr 0 0] [pT l i e] K↔K ⟨true,[acT l i e],[pT l i e]⟩) /\
  (∀ K,cKp 81 [.ptr 0 0] [pT l i e] K↔K ⟨true,[acT l i e],[pT l i e]⟩)):=by
 have hi:=aau (fe c)
 have hk:=anq c
 exact⟨⟨ajZ c,hk⟩,⟨λv h=>(wF l i e v hl hi (ajZ c v h)).1,λv h=>(wF l i e v hl hi (ajZ c v h)).2.1,λv h=>(wF l i e v hl hi (ajZ c v h)).2.2⟩,
  (nF l i e hl hi hk.1).1,(nF l i e hl hi hk.1).2,iF l i e hl hi hk.2.1⟩
def wQ{l:List Tn}{i:Nat}{w:List UInt8}(c:isT l i w=true):((bN l i).k=2)=(false=true)/\((bN l i).k=3)=(false=true)/\((bN l i).k=4)=(false=true) :=
 ⟨kq aI (anq c).1,kq aI (anq c).2.1,kq aI (anq c).2.2⟩
section
variable (l:List Tn) (i:Nat) (e:Int) {k:Int}
theorem kW(h0:k≠0)(h1:k≠1)(h5:k≠5)(c:br l i k=true)(hl:l.length<LB) :
  (∀ v,isT l i v=false) /\
  ((∀ v K,cKp 78 [.ptr 0 0,.of (.lit (.string (ByteArray.mk (List.toArray v))))] [pT l i e] K↔K ⟨false,[aN false],[pT l i e]⟩) /\
  (∀ v K,cKp 76 [.ptr 0 0,.of (.lit (.string (ByteArray.mk (List.toArray v))))] [pT l i e] K↔K ⟨false,[aN false],[pT l i e]⟩) /\
  (∀ v K,cKp 79 [.ptr 0 0,.of (.sl [.lit (.string (ByteArray.mk (List.toArray v)))] 1)] [pT l i e] K↔K ⟨true,[acT l i e],[pT l i e]⟩)):=by
 have hi:=aau (gl c)
 have hn:=awY h0 h1 h5 c
 exact⟨hn,λv=>(wF l i e v hl hi (hn v)).1,λv=>(wF l i e v hl hi (hn v)).2.1,λv=>(wF l i e v hl hi (hn v)).2.2⟩
theorem kNo{k:Int}(hk:k≠0)(c:br l i k=true)(m:Int)(hm:m≠0)(h:m≠k):br l i m=false:=aIW hk c m hm h
def kX2(hl:l.length<LB)(c:br l i 2=true):=hH (kW l i e aI aI aI c hl) (kNo l i aI c 3 aI aI) (kNo l i aI c 4 aI aI) (iF l i e hl (aau (gl c)) (kNo l i aI c 3 aI aI))
def kX3(hl:l.length<LB)(c:br l i 3=true):=hH (kW l i e aI aI aI c hl) (kNo l i aI c 2 aI aI) (kNo l i aI c 4 aI aI) (nF l i e hl (aau (gl c)) (kNo l i aI c 2 aI aI))
def kX4(hl:l.length<LB)(c:br l i 4=true):=hJ (kW l i e aI aI aI c hl) (kNo l i aI c 2 aI aI) (kNo l i aI c 3 aI aI) (nF l i e hl (aau (gl c)) (kNo l i aI c 2 aI aI)) (iF l i e hl (aau (gl c)) (kNo l i aI c 3 aI aI))
end
def kQ2{l:List Tn}{i:Nat}(c:br l i 2=true):((bN l i).k=2)=(true=true)/\((bN l i).k=3)=(false=true)/\((bN l i).k=4)=(false=true) :=
 ⟨kq aI c,kq aI (kNo l i aI c 3 aI aI),kq aI (kNo l i aI c 4 aI aI)⟩
def kQ3{l:List Tn}{i:Nat}(c:br l i 3=true):((bN l i).k=2)=(false=true)/\((bN l i).k=3)=(true=true)/\((bN l i).k=4)=(false=true) :=
 ⟨kq aI (kNo l i aI c 2 aI aI),kq aI c,kq aI (kNo l i aI c 4 aI aI)⟩
def kQ4{l:List Tn}{i:Nat}(c:br l i 4=true):((bN l i).k=2)=(false=true)/\((bN l i).k=3)=(false=true)/\((bN l i).k=4)=(true=true) :=
 ⟨kq aI (kNo l i aI c 2 aI aI),kq aI (kNo l i aI c 3 aI aI),kq aI c⟩
def eP(p:Prop):(p/\p=True)\/(¬p/\p=False):=(Classical.em p).imp (λc=>⟨c,aa c⟩) λc=>⟨c,aj c⟩
section
variable (l:List Tn) (i:Nat) (e:Int) (w:List UInt8) (hl:l.length<LB) (hi:i<=l.length:=by omega)
def eW:=(bP (isT l i w)).imp (λc:isT l i w=true=>ai c (ai (fe c) (wT l i e w hl c))) (λc:isT l i w=false=>ai c (wF l i e w hl hi c))
def eWX:=(bP (isT l i w)).imp (λc:isT l i w=true=>ai c (ai (fe c) (ai (wT l i e w hl c) (wX l i e w hl c)))) (λc:isT l i w=false=>ai c (wF l i e w hl hi c))
def eWQ:=(bP (isT l i w)).imp (λc:isT l i w=true=>ai c (ai (fe c) (ai (wT l i e w hl c) (ai (wX l i e w hl c) (wQ c))))) (λc:isT l i w=false=>ai c (wF l i e w hl hi c))
def apY:=(bP (br l i 2)).imp (λc:br l i 2=true=>ai c (ai (gl c) (ai (nT l i e hl c) (kX2 l i e hl c)))) (λc:br l i 2=false=>ai c (nF l i e hl hi c))
def aiX:=(bP (br l i 3)).imp (λc:br l i 3=true=>ai c (ai (gl c) (ai (iT l i e hl c) (kX3 l i e hl c)))) (λc:br l i 3=false=>ai c (iF l i e hl hi c))
def aSU:=(bP (br l i 2)).imp (λc:br l i 2=true=>ai c (ai (gl c) (ai (nT l i e hl c) (ai (kX2 l i e hl c) (ai (kQ2 c) trivial))))) (λc:br l i 2=false=>ai c (ai (nF l i e hl hi c) (kq aI c)))
def aST:=(bP (br l i 3)).imp (λc:br l i 3=true=>ai c (ai (gl c) (ai (iT l i e hl c) (ai (kX3 l i e hl c) (ai (kQ3 c) trivial))))) (λc:br l i 3=false=>ai c (ai (iF l i e hl hi c) (kq aI c)))
def aZd(_:i<=l.length:=by omega):=(bP (br l i 4)).imp (λc:br l i 4=true=>ai c (ai (gl c) (ai trivial (ai (kX4 l i e hl c) (ai (kQ4 c) trivial))))) (λc:br l i 4=false=>ai c (ai trivial (kq aI c)))
end
def uL(a b:UInt8)(x y:List UInt8):(a::x=b::y)=(a=b/\x=y):=gp a x b y
section
variable {α β:Type}
theorem aYE(g:α->β)(f:α->Nat->Rz β):Rz.on none g f=none:=rfl
theorem aYD(a:α)(i:Nat)(g:α->β)(f:α->Nat->Rz β):Rz.on (some (a,i,true)) g f=some (g a,i,true):=rfl
theorem aYF(a:α)(i:Nat)(g:α->β)(f:α->Nat->Rz β):Rz.on (some (a,i,false)) g f=f a i:=rfl
theorem aYu(g:α->β):Rz.to none g=none:=rfl
theorem aYt(a:α)(i:Nat)(b:Bool)(g:α->β):Rz.to (some (a,i,b)) g=some (g a,i,b):=rfl
theorem wE(r:Nat×Bool)(x:β):wantE r x=some (x,r.1,r.2):=rfl
theorem aYn(i:Nat)(x:β)(f:Nat->Rz β):wantR (i,true) x f=some (x,i,true):=rfl
theorem aYo(i:Nat)(x:β)(f:Nat->Rz β):wantR (i,false) x f=f i:=rfl
theorem wTe(l:List Tn)(i:Nat)(w:List UInt8):eE l i w=if isT l i w then (i+1,false) else (i,true):=rfl
end
def zRZ:=hC (ib @aYE @aYD @aYF @aYu @aYt @wE @aYn @aYo @wTe) (ib @id_eq.{1} @if_true.{1} @if_false.{1} @bR @cm @cy @ff @aY @cf) (ib @aH @fC @Option.some.injEq.{0} @eu @ef @ab @uL @cY @fY)
structure PY (l:List Tn) (e:Int) (F:Fs):Prop where
 tl:TL l
 fp:FP l F
 or:∀ i r,i<=l.length->F.or i []=some r->GP 31 [.ptr 0 0] [pT l i e] l e [] xpE i r
 orp:∀ i x cs r,cs=xpC x->i<=l.length->F.or i [x]=some r->GP 31 [.ptr 0 0] [pTe l i e,.row 28 cs] l e deE xpE i r
 no:∀ i r,i<=l.length->F.no i=some r->GP 152 [.ptr 0 0] [pT l i e] l e [] xpE i r
 un:∀ i r,i<=l.length->F.un i=some r->GP 325 [.ptr 0 0] [pT l i e] l e [] xpE i r
 qy:∀ i r,i<=l.length->F.qy i []=some r->GP 39 [.ptr 0 0] [pT l i e] l e [] qyE i r
 qyp:∀ i x cs r,cs=qyC x->i<=l.length->F.qy i [x]=some r->GP 39 [.ptr 0 0] [pTq l i e,.row 38 cs] l e deQ qyE i r
 ins:∀ i r,i<=l.length->F.ins i=some r->GP 305 [.ptr 0 0] [pT l i e] l e [] thE i r
 fr:∀ i r,i<=l.length->F.fr i []=some r->GP 297 [.ptr 0 0] [pT l i e] l e [] fmE i r
 frp:∀ i x cs r,cs=fmC x->i<=l.length->F.fr i [x]=some r->GP 297 [.ptr 0 0] [pTf l i e,.row 140 cs] l e deF fmE i r
 so:∀ i r,i<=l.length->F.so i=some r->GP 326 [.ptr 0 0] [pT l i e] l e [] thE i r
end Go.Proofs.YtghkmcffifpkeaaGreat
namespace Go.Tab
open Pe
def abG(c:UInt8):Bool:=decide (65<=c.toNat)&&decide (c.toNat<=90)
def gD(c:UInt8):UInt8:=if abG c then c+32 else c
def abN(c:UInt8):Bool:=cG c||abG c
def ahM(c:UInt8):Bool:=decide (c=32)||(decide (c=9)||(decide (c=10)||decide (c=13)))
def dY:Bool->List UInt8->Nat
 | _,[]=>0
 | true,c::r=>if c=10 then dY false r+1 else dY true r+1
 | false,c::r=>if ahM c then dY false r+1 else if c=45/\r.head?=some 45 then dY true r+1 else 0
def aew(i:Nat):Tn:=⟨0,i,0,0,[]⟩
def ago:List UInt8->Bool
 | []=>false
 | c::r=>cG c&&r.all λc=>cG c||bz c
def lxW(i:Nat)(w:List UInt8):Tn×Int :=
 if afz (w.map gD) then (⟨1,i,w.length,0,w.map gD⟩,0) else if 20<w.length then (aew i,4) else (⟨2,i,w.length,0,w.map gD⟩,0)
def acF(l:List UInt8):Nat:=l.foldl (λn c=>min (10*n+(c.toNat-48)) 1000000000000001) 0
def aeK(i:Nat)(d:List UInt8):Tn×Int:=if 1000000000000000<acF d then (aew i,4) else (⟨3,i,d.length,acF d,[]⟩,0)
def ahp(i:Nat)(r:List UInt8):Tn×Int:=if r.contains 34 then
  (if !ago (r.takeWhile (·≠34)) then (aew i,2) else if 20<(r.takeWhile (·≠34)).length then (aew i,4) else (⟨2,i,(r.takeWhile (·≠34)).length+2,0,r.takeWhile (·≠34)⟩,0))
 else (aew i,3)
def afl:List UInt8->Option (List UInt8×Nat)
 | []=>none
 | [c]=>if c=39 then some ([],1) else none
 | c::d::r=>if c=39 then (if d=39 then (afl r).map λq=>(39::q.1,q.2+2) else some ([],1)) else (afl (d::r)).map λq=>(c::q.1,q.2+1)
def aa3(c:UInt8):Bool:=decide (32<=c.toNat)&&decide (c.toNat<=126)
def aiP(i:Nat)(r:List UInt8):Tn×Int:=match afl r with
 | none=>(aew i,3)
 | some (w,n)=>if !w.all aa3 then (aew i,2) else if 100<w.length then (aew i,4) else (⟨4,i,n+1,0,w⟩,0)
def lxG(i:Nat)(c:UInt8)(d:Option UInt8):Tn×Int :=
 if (c=124/\d=some 124)\/(c=60/\d=some 62)\/(c=60/\d=some 61)\/(c=62/\d=some 61) then (⟨5,i,2,0,[c,d.getD 0]⟩,0)
 else if c∈([40,41,44,46,59,43,45,42,47,37,61,60,62]:List UInt8) then (⟨5,i,1,0,[c]⟩,0)
 else (aew i,2)
def aiO(i:Nat):List UInt8->Tn×Int
 | []=>(aew i,0)
 | c::r=>if abN c then lxW i ((c::r).takeWhile λc=>abN c||bz c) else if bz c then aeK i ((c::r).takeWhile bz)
  else if c=34 then ahp i r else if c=39 then aiP i r else lxG i c r.head?
def abX(s:List UInt8)(i:Nat):Tn×Int:=aiO (i+dY false (s.drop i)) (s.drop (i+dY false (s.drop i)))
def ahT(s:List UInt8):Nat->List Tn->Nat->Option (List Tn×Int×Int)
 | 0,_,_=>none
 | n+1,o,i=>if (abX s i).2≠0 then some ([],(abX s i).1.pl,(abX s i).2) else if (abX s i).1.k=0 then some (o,0,0)
  else ahT s n (o++[(abX s i).1]) ((abX s i).1.pl+(abX s i).1.sz).toNat
def acq(s:List UInt8):Option (List Tn×Int×Int):=if 2000<s.length then some ([],0,4) else ahT s (s.length+2) [] 0
theorem ahW:∀ (b:Bool) (l:List UInt8),dY b l<=l.length
 | _,[]=>by simp[dY]
 | true,c::r=>by have:=ahW true r;have:=ahW false r;simp only[dY,aX];split <;> omega
 | false,c::r=>by
  have:=ahW true r;have:=ahW false r
  simp only[dY,aX]
  split
  .omega
  .split <;> omega
theorem afR{α:Type}(p:α->Bool):∀ l:List α,(l.takeWhile p).length<=l.length
 | []=>am _
 | c::r=>by have:=afR p r;rw[dV];split <;> simp <;> omega
theorem arF:∀ (l:List UInt8) (w:List UInt8) (n:Nat),afl l=some (w,n)->w.length<n/\n<=l.length
 | [],w,n,h=>by cases h
 | [c],w,n,h=>by
  simp only[afl] at h
  split at h
  .cases h;simp
  .cases h
 | c::d::r,w,n,h=>by
  simp only[afl] at h
  split at h
  .split at h
   .simp only[ay,bh] at h
    obtain⟨⟨w',n'⟩,h1,rfl,rfl⟩:=h
    have:=arF r w' n' h1
    simp only[aX];omega
   .cases h;simp
  .simp only[ay,bh] at h
   obtain⟨⟨w',n'⟩,h1,rfl,rfl⟩:=h
   have:=arF (d::r) w' n' h1
   simp only[aX] at this ⊢;omega
theorem aE6:∀ (l:List UInt8) (a:Nat),a<=1000000000000001->l.foldl (λn c=>min (10*n+(c.toNat-48)) 1000000000000001) a<=1000000000000001
 | [],a,h=>h
 | c::r,a,h=>by rw[adE];exact aE6 r _ (Nat.min_le_right _ _)
structure TnOk9 (i m:Nat) (t:Tn):Prop where
 pl:t.pl=i
 sz:1<=t.sz/\t.sz<=m
 n:0<=t.n/\t.n<=1000000000000000
 s:t.s.length<=m
 k:t.k=1\/t.k=2\/t.k=3\/t.k=4\/t.k=5
 nm:t.k=2->t.s≠[]
def aHo{l:List UInt8}(h:ago l=true):l≠[]:=by rintro rfl;cases h
def aP8{i:Nat}{l:List UInt8}{t:Tn}(h:aiO i l=(t,0)):(t=aew i/\l=[])\/TnOk9 i l.length t:=by
 cases l with
 | nil=>simp only[aiO,bh] at h;exact .inl ⟨h.1.symm,rfl⟩
 | cons c r =>
  refine .inr ?_
  simp only[aiO] at h
  split at h
  .rename_i e
   have hw:=afR (λc=>abN c||bz c) (c::r)
   have hp:1<=((c::r).takeWhile λc=>abN c||bz c).length:=by rw[dV,aE (by simp[e])];simp
   generalize ((c::r).takeWhile λc=>abN c||bz c)=w at *
   simp only[lxW] at h
   split at h
   .cases h;exact⟨rfl,by dsimp only;omega,by simp,by simpa using hw,by simp,by simp⟩
   split at h
   .simp at h
   .cases h
    refine⟨rfl,by dsimp only;omega,by simp,by simpa using hw,by simp,λ_ e=>?_⟩
    simp only[List.map_eq_nil_iff] at e
    rw[e] at hp;simp at hp
  split at h
  .rename_i e
   have hw:=afR bz (c::r)
   have hp:1<=((c::r).takeWhile bz).length:=by rw[dV,aE e];simp
   generalize ((c::r).takeWhile bz)=w at *
   simp only[aeK] at h
   split at h
   .simp at h
   .cases h;exact⟨rfl,by dsimp only;omega,by dsimp only;omega,by simp,by simp,by simp⟩
  split at h
  .have hw:=afR (λx:UInt8=>decide (x≠34)) r
   simp only[ahp] at h
   split at h
   .rename_i hc
    have h2:(r.takeWhile (λx:UInt8=>decide (x≠34))).length<r.length:=by
     clear h hw
     induction r with
     | nil=>simp at hc
     | cons a q ih =>
      rw[dV]
      split
      .rename_i ha
       simp only[aX]
       have:=ih (by
        simp only[aea,bD,dL] at hc
        rcases hc with hc|hc
        .simp[← hc] at ha
        .exact hc)
       omega
      .simp
    split at h
    .simp at h
    .rename_i hpl
     split at h
     .simp at h
     .cases h
      exact⟨rfl,by dsimp only;simp only[aX];omega,by simp,by simp only[aX];omega,by simp,λ_=>aHo (by simpa using hpl)⟩
   .simp at h
  split at h
  .simp only[aiP] at h
   split at h
   .simp at h
   .rename_i w n e
    have:=arF r w n e
    split at h
    .simp at h
    split at h
    .simp at h
    .cases h;exact⟨rfl,by dsimp only;simp only[aX];omega,by simp,by simp only[aX];omega,by simp,by simp⟩
  .simp only[lxG] at h
   split at h
   .rename_i e
    cases h
    have:1<=r.length:=by
     cases r with
     | nil=>simp at e
     | cons d q=>simp
    exact⟨rfl,by dsimp only;simp only[aX];omega,by simp,by simp;omega,by simp,by simp⟩
   split at h
   .cases h;exact⟨rfl,by dsimp only;simp only[aX];omega,by simp,by simp,by simp,by simp⟩
   .simp at h
def asc{s:List UInt8}{i:Nat}(hi:i<=s.length){t:Tn}(h:abX s i=(t,0)):t.k=0\/∃ j,i<=j/\TnOk9 j (s.length-j) t:=by
 have hs:=ahW false (s.drop i)
 rcases aP8 h with ⟨rfl,_⟩|h
 .exact .inl rfl
 .exact .inr ⟨_,aeM _ _,by rw[← cU];exact h⟩
structure ToksOk (s:List UInt8) (l:List Tn):Prop where
 all:∀ t∈l,∃ j,TnOk9 j (s.length-j) t
 len:l.length<=s.length
theorem az0{s:List UInt8}:∀ (n:Nat) (o:List Tn) (i:Nat),i<=s.length->s.length<n+i->(∀ t∈o,∃ j,TnOk9 j (s.length-j) t)->o.length<=i ->
  ∃ l p e,ahT s n o i=some (l,p,e)/\ToksOk s l/\(e=0->p=0)
 | 0,_,i,h1,h2,_,_=>by omega
 | n+1,o,i,h1,h2,h3,h4=>by
  unfold ahT
  split
  .rename_i h
   exact⟨_,_,_,rfl,⟨by simp,by simp⟩,λe=>absurd e h⟩
  .rename_i h
   have h:(abX s i).2=0:=by simpa using h
   split
   .exact⟨_,_,_,rfl,⟨h3,by omega⟩,λ_=>rfl⟩
   .rename_i hk
    rcases asc h1 (t:=(abX s i).1) (by rw[← h]) with q|⟨j,hj,q⟩
    .exact absurd q hk
    .have:=q.pl;have:=q.sz
     refine az0 n _ _ aC aC (λt ht=>?_) (by simp only[bp,ft];omega)
     rcases bS.1 ht with ht|ht
     .exact h3 t ht
     .rw[dt.1 ht];exact⟨j,q⟩
def azZ(s:List UInt8):∃ l p e,acq s=some (l,p,e)/\ToksOk s l/\(e=0->p=0)/\s.length<=2000\/acq s=some ([],0,4):=by
 unfold acq
 split
 .exact⟨[],0,0,.inr rfl⟩
 .obtain⟨l,p,e,h1,h2,h3⟩:=az0 (s:=s) (s.length+2) [] 0 (bn _) aC aT (am _)
  exact⟨l,p,e,.inl ⟨h1,h2,h3,by omega⟩⟩
def ayl:aaN.all (λc=>decide (c=32)||(decide (97<=c.toNat)&&decide (c.toNat<=122)))=true:=by decide
def aDZ:aaN.length=379:=rfl
def awm{p l:List UInt8}:p.isPrefixOf l=true↔l.take p.length=p:=by
 rw[List.isPrefixOf_iff_prefix,List.prefix_iff_eq_take]
 exact⟨λh=>h.symm,λh=>h.symm⟩
def ajH(s:List UInt8):List UInt8:=32::(s++[32])
def aNT(s:List UInt8):(ajH s).length=s.length+2:=by simp[ajH]
def aNZ{s:List UInt8}{k:Nat}(h:(aaN.drop k).take (s.length+2)=ajH s):afz s=true:=by
 unfold afz Lib.contains
 rw[aR]
 rcases Lib.index_spec aaN (32::(s++[32])) with ⟨h1,h2⟩|⟨i,h1,_⟩
 .by_cases hk:k<=aaN.length
  .have h3:=h2 k hk
   unfold Lib.occAt at h3
   have h4:(ajH s).isPrefixOf (aaN.drop k)=true:=awm.2 (by rw[aNT];exact h)
   unfold ajH at h4
   rw[h3] at h4
   cases h4
  .rw[bv aC] at h
   simp[ajH] at h
 .omega
def avO{s:List UInt8}(h:∀ k,k+(s.length+2)<=aaN.length->(aaN.drop k).take (s.length+2)≠ajH s):afz s=false:=by
 unfold afz Lib.contains
 rw[gz]
 rcases Lib.index_spec aaN (32::(s++[32])) with ⟨h1,_⟩|⟨i,h1,h2,h3,_⟩
 .omega
 .unfold Lib.occAt at h3
  have h4:=awm.1 h3
  have e:(32::(s++[32])).length=s.length+2:=by simp
  rw[e] at h4
  have h5:=congrArg List.length h4
  rw[e,abZ,cU] at h5
  exact absurd h4 (h i aC)
def aqv{s:List UInt8}{c:UInt8}(hc:c∈s)(h:¬(97<=c.toNat/\c.toNat<=122))(h32:c≠32):afz s=false:=by
 refine avO λk _ e=>?_
 have h1:c∈(aaN.drop k).take (s.length+2):=by rw[e];simp[ajH,hc]
 have h2:=bo.1 ayl c (eH (aa0 h1))
 simp only[bD,ar,aR] at h2
 rcases h2 with h2|h2
 .exact h32 h2
 .exact h h2
def afI(c:UInt8):abG c=true↔65<=c.toNat/\c.toNat<=90:=by simp[abG]
def aov{c:UInt8}(h:abG c=true):(gD c).toNat=c.toNat+32:=by
 have:=(afI c).1 h
 unfold gD
 rw[aE h,UInt8.toNat_add]
 show (c.toNat+32) % 256=_
 omega
def anl{c:UInt8}(h:abG c=false):gD c=c:=by unfold gD;rw[h];rfl
def aOB(c:UInt8):abN c=(decide (97<=(gD c).toNat/\(gD c).toNat<=122)||decide (c=95)):=by
 cases h:abG c with
 | true =>
  have h1:=(afI c).1 h
  rw[aov h]
  unfold abN
  rw[h,aY,cS aC,cf]
 | false =>
  rw[anl h]
  unfold abN
  rw[h,aH]
  unfold cG
  rw[Bool.decide_and]
def fV(c:UInt8):Bool:=abN c||bz c
def aRn{c:UInt8}(h:fV c=true):(cG (gD c)||bz (gD c))=true:=by
 cases hg:abG c with
 | true =>
  have h1:=(afI c).1 hg
  have h2:=aov hg
  have:cG (gD c)=true:=by unfold cG;rw[cS aC,cS aC];rfl
  rw[this];rfl
 | false =>
  rw[anl hg]
  unfold fV abN at h
  rwa [hg,aH] at h
def az8{c:UInt8}(h:(cG c||bz c)=true):c≠32:=by
 rintro rfl
 revert h
 decide
def alR{c:UInt8}(r:List UInt8)(h:ahM c=true):dY false (c::r)=dY false r+1:=by rw[dY,aE h]
def aiD{c:UInt8}(r:List UInt8)(h:ahM c=false)(h':c=45->r.head?≠some 45):dY false (c::r)=0:=by
 rw[dY,aA (by simp[h]),aA (λq=>h' q.1 q.2)]
theorem asW:∀ l:List UInt8,(Lib.indexByte l 10=-1->dY true l=l.length)/\(∀ k:Nat,Lib.indexByte l 10=k->k<l.length/\dY true l=k+dY false (l.drop k))
 | []=>⟨λ_=>rfl,λk h=>by simp only[Lib.indexByte] at h;omega⟩
 | c::r=>by
  obtain⟨h1,h2⟩:=asW r
  have hge:=Lib.indexByte_ge r 10
  by_cases hc:c=10
  .subst hc
   refine⟨λh=>?_,λk h=>?_⟩
   .simp[Lib.indexByte] at h
   .simp only[Lib.indexByte,beq_self_eq_true,ah] at h
    have:k=0:=by omega
    subst this
    refine⟨by simp,?_⟩
    rw[abE,dY,aE rfl,dY,aE aI,cB]
  .have hb:(c == 10)=false:=by simpa using hc
   refine⟨λh=>?_,λk h=>?_⟩
   .simp only[Lib.indexByte,hb,ab,ap] at h
    split at h
    .rename_i e
     rw[dY,aA hc,h1 (by simpa using e),aX]
    .omega
   .simp only[Lib.indexByte,hb,ab,ap] at h
    split at h
    .omega
    .rename_i e
     have e:Lib.indexByte r 10≠-1:=by simpa using e
     obtain⟨q,hq⟩:=abg (show 0<=Lib.indexByte r 10 by omega)
     have hk:k=q+1:=by omega
     subst hk
     obtain⟨g1,g2⟩:=h2 q hq
     refine⟨by simp;omega,?_⟩
     rw[dY,aA hc,g2,aga]
     omega
def ayy(r:List UInt8):dY false (45::45::r)=dY true (45::45::r):=by simp[dY,ahM]
def aAb(l:List UInt8):Lib.hasPrefix l [45,45]=true↔∃ r,l=45::45::r:=by
 unfold Lib.hasPrefix
 rw[List.isPrefixOf_iff_prefix]
 constructor
 .rintro⟨r,h⟩;exact⟨r,h.symm⟩
 .rintro⟨r,h⟩;exact⟨r,h.symm⟩
def atJ(c:UInt8):ahM c=true↔c=32\/c=9\/c=10\/c=13:=by simp[ahM]
def azi(l:List UInt8)(c:UInt8):Lib.indexByte l c=-1\/∃ k:Nat,Lib.indexByte l c=k:=by
 have:=Lib.indexByte_ge l c
 by_cases h:Lib.indexByte l c<0
 .left;omega
 .right;exact abg aC
def fu{α:Type}{l:List α}{i:Nat}(h:i<l.length):l.drop i=l[i]::l.drop (i+1):=bI h
end Go.Tab
namespace Go.Proofs.YtghkmcffifpkeaaGreat
open Pe Tab
abbrev u8X(c:UInt8):X:=.of (.lit (.int .u8 (c.toNat:Nat)))
def afT(s:List UInt8)(a b:Nat)(h1:a<=b)(h2:b<=s.length):adq tP 9 (.of (.lit (.string (aM s)))) (some (.of (.lit (.int .i64 a)))) (some (.of (.lit (.int .i64 b))))=out (ahQ (aM ((s.take b).drop a))):=by
 have hs:(aM s).size=s.length:=aez s
 simp only[adq,T9,aP,afF,ah,aeX,aa8,hs]
 rw[aE ⟨by omega,by omega,by omega⟩,aaT,aaT]
 congr 4
 apply alM.1
 simp only[ByteArray.data_extract,Array.toList_extract,ab9,aM,aa9]
 rw[fX]
def az6(s:List UInt8)(a:Nat)(h1:a<=s.length):adq tP 9 (.of (.lit (.string (aM s)))) (some (.of (.lit (.int .i64 a)))) none=out (ahQ (aM (s.drop a))):=by
 have hs:(aM s).size=s.length:=aez s
 simp only[adq,T9,aP,afF,ah,aeX,aa8,hs]
 rw[aE ⟨by omega,by omega,by omega⟩,aaT,aaT]
 congr 4
 apply alM.1
 simp only[ByteArray.data_extract,Array.toList_extract,ab9,aM,aa9]
 rw[aaA aT]
def aof(k:Nat)(c:UInt8):((k:Int)<=((c.toNat:Nat):Int))=(k<=c.toNat):=propext aC
def aoe(k:Nat)(c:UInt8):(((c.toNat:Nat):Int)<=(k:Int))=(c.toNat<=k):=propext aC
def dS(c:UInt8)(n:Nat)(d:UInt8)(h:d.toNat=n):(((c.toNat:Nat):Int)=(n:Int))=(c=d):=propext ⟨λq=>UInt8.toNat_inj.1 aC,λq=>by rw[q,h]⟩
def aAW:=hH @Tryz.f240.eq_1 @zq @zT0 (kf aCG)
def awM(c:UInt8):G1 240 [u8X c] (u8X (gD c)):=by
 have e1:((65:Int)<=((c.toNat:Nat):Int))=(65<=c.toNat):=aof 65 c
 have e2:(((c.toNat:Nat):Int)<=90)=(c.toNat<=90):=aoe 90 c
 cases h:abG c with
 | true =>
  have hn:=aov h
  have h1:=(afI c).1 h
  have w1:IntKind.u8.wrap (((c.toNat:Nat):Int)+97)=((c.toNat+97:Nat):Int):=by rw[IntWalk.u8_in _ aC];rfl
  have w2:IntKind.u8.wrap (((c.toNat+97:Nat):Int)-65)=(((gD c).toNat:Nat):Int):=by rw[hn,IntWalk.u8_in _ aC];omega
  have a1:=aa h1.1
  have a2:=aa h1.2
  refine bB aCG ?_
  simp only[↓zA,sevalprocAttr,aAW,e1,e2,a1,a2,w1,w2]
 | false =>
  have hn:=anl h
  rw[hn]
  refine bB aCG ?_
  by_cases a1:65<=c.toNat
  .have a2:(c.toNat<=90)=False:=aj λq=>by rw[(afI c).2 ⟨a1,q⟩] at h;cases h
   simp only[↓zA,sevalprocAttr,aAW,e1,e2,a1,a2]
  .simp only[↓zA,sevalprocAttr,aAW,e1,a1]
def afB(c:UInt8)(K:An->Prop):cKp 240 [.of (.lit (.int .u8 (c.toNat:Nat)))] [] K↔K ⟨false,[u8X (gD c)],[]⟩:=aF.k (awM c) K
def aA1:=hH @Tryz.f145.eq_1 @zq @zT0 (kf aM6)
def auq(c:UInt8):G1 145 [u8X c] (aN (abN c)):=by
 have e1:((97:Int)<=(((gD c).toNat:Nat):Int))=(97<=(gD c).toNat):=aof 97 _
 have e2:((((gD c).toNat:Nat):Int)<=122)=((gD c).toNat<=122):=aoe 122 _
 have e3:(((c.toNat:Nat):Int)=95)=(c=95):=dS c 95 95 rfl
 rw[aOB]
 refine bB aM6 ?_
 by_cases a1:97<=(gD c).toNat
 .by_cases a2:(gD c).toNat<=122
  .simp only[↓zA,sevalprocAttr,aA1,afB,e1,e2,a1,a2]
   try rfl
  .simp only[↓zA,sevalprocAttr,aA1,afB,e1,e2,e3,a1,a2]
   try rfl
 .simp only[↓zA,sevalprocAttr,aA1,afB,e1,e3,a1]
  try rfl
def abt(c:UInt8)(K:An->Prop):cKp 145 [.of (.lit (.int .u8 (c.toNat:Nat)))] [] K↔K ⟨false,[aN (abN c)],[]⟩:=aF.k (auq c) K
def aKJ:=hH @Tryz.f147.eq_1 @zq @zT0 (kf aM4)
def awN(c:UInt8):G1 147 [u8X c] (aN (bz c)):=by
 have e1:((48:Int)<=((c.toNat:Nat):Int))=(48<=c.toNat):=aof 48 c
 have e2:(((c.toNat:Nat):Int)<=57)=(c.toNat<=57):=aoe 57 c
 refine bB aM4 ?_
 by_cases a1:48<=c.toNat
 .simp only[↓zA,sevalprocAttr,aKJ,e1,e2,a1,bz]
  try rfl
 .simp only[↓zA,sevalprocAttr,aKJ,e1,a1,bz]
  try rfl
def ab6(c:UInt8)(K:An->Prop):cKp 147 [.of (.lit (.int .u8 (c.toNat:Nat)))] [] K↔K ⟨false,[aN (bz c)],[]⟩:=aF.k (awN c) K
def hpE(xs:List X)(obs:List Ob):pr.prim 238 xs obs=hpP xs obs:=rfl
def ibE(xs:List X)(obs:List Ob):pr.prim 239 xs obs=ibP xs obs:=rfl
def aI7(s p:List UInt8)(K:An->Prop):cKp 238 [.of (.lit (.string (aM s))),.of (.lit (.string (ByteArray.mk (List.toArray p))))] [] K↔K ⟨false,[aN (Lib.hasPrefix s p)],[]⟩ :=
 aF.k (aF.of_prim (by rw[hpE];simp[hpP,aM])) K
def aRC(s:List UInt8)(n:Int)(K:An->Prop):cKp 239 [.of (.lit (.string (aM s))),.of (.lit (.int .u8 n))] [] K↔K ⟨false,[au (Lib.indexByte s n.toNat.toUInt8)],[]⟩ :=
 aF.k (aF.of_prim (by rw[ibE];simp[ibP,aM])) K
def aFA(s:List UInt8)(K:An->Prop):cKp 239 [.of (.lit (.string (aM s))),.of (.lit (.int .u8 10))] [] K↔K ⟨false,[au (Lib.indexByte s 10)],[]⟩:=aRC s 10 K
def aq7(s:List UInt8)(K:An->Prop):cKp 239 [.of (.lit (.string (aM s))),.of (.lit (.int .u8 34))] [] K↔K ⟨false,[au (Lib.indexByte s 34)],[]⟩:=aRC s 34 K
def aki:=hH @Tryz.f144.eq_1 @zq @zT0 (kf aM7)
def ay7(s:List UInt8)(i:Nat)(hl:s.length<LB)(hi:i<=s.length):G1 144 [.of (aJ (aM s)),au i] (au (i+dY false (s.drop i):Nat)):=by
 refine bB aM7 ?_
 simp only[↓zA,sevalprocAttr,aki]
 refine eT _ _ (λn t=>∃ j:Nat,t.fr 0=.of (aJ (aM s))/\t.fr 1=au j/\t.objs=[]/\j+n=s.length+1/\j<=s.length/\i+dY false (s.drop i)=j+dY false (s.drop j)) ?_ (s.length+1-i) _ ?_
 .rintro n ⟨frn,obn,ckn⟩ ⟨j,f0,f1,fo,hn,hj,E⟩
  dsimp only at f0 f1 fo
  rcases av j s.length with dk|dk
  .have hw:=aW j (by unfold LB at hl;omega)
   have gx:=bu dk
   have hd:=fu dk
   generalize s[j]=c at *
   have e32:(((c.toNat:Nat):Int)=32)=(c=32):=dS c 32 32 rfl
   have e9:(((c.toNat:Nat):Int)=9)=(c=9):=dS c 9 9 rfl
   have e10:(((c.toNat:Nat):Int)=10)=(c=10):=dS c 10 10 rfl
   have e13:(((c.toNat:Nat):Int)=13)=(c=13):=dS c 13 13 rfl
   have e45:(((c.toNat:Nat):Int)=45)=(c=45):=dS c 45 45 rfl
   cases hb:ahM c with
   | true =>
    rw[hd,alR _ hb] at E
    have g:∃ m,m<n/\∃ q:Nat,au (j+1:Nat)=au q/\q+m=s.length+1/\q<=s.length/\i+dY false (s.drop i)=q+dY false (s.drop q):=⟨n-1,by omega,j+1,rfl,by omega,by omega,by omega⟩
    obtain⟨m,g1,q,g2,g3,g4,g5⟩:=g
    rcases (atJ c).1 hb with h|h|h|h
    all_goals
     subst h
     simp only[↓zA,sevalprocAttr,aki,f0,f1,fo,aK,dk,gx,hw]
     exact⟨m,g1,q,g2,g3,g4,g5⟩
   | false =>
    have n32:(c=32)=False:=aj λh=>by rw[h] at hb;cases hb
    have n9:(c=9)=False:=aj λh=>by rw[h] at hb;cases hb
    have n10:(c=10)=False:=aj λh=>by rw[h] at hb;cases hb
    have n13:(c=13)=False:=aj λh=>by rw[h] at hb;cases hb
    by_cases h45:c=45
    .subst h45
     have sf:=az6 s j hj
     rw[hd] at sf
     cases hp:Lib.hasPrefix (45::s.drop (j+1)) [45,45] with
     | false =>
      have E0:dY false (s.drop j)=0:=by
       rw[hd]
       refine aiD _ hb λ_ h=>?_
       have:Lib.hasPrefix (45::s.drop (j+1)) [45,45]=true:=(aAb _).2 (by
        cases hr:s.drop (j+1) with
        | nil=>rw[hr] at h;cases h
        | cons x r=>rw[hr] at h;simp only[List.head?_cons,ae] at h;exact⟨r,by rw[h]⟩)
       rw[hp] at this;cases this
      rw[E0] at E
      simp only[↓zA,sevalprocAttr,aki,f0,f1,fo,aK,dk,gx,sf,aI7,hp]
      try rw[E];rfl
     | true =>
      obtain⟨r,hr⟩:=(aAb _).1 hp
      have sk:=asW (45::s.drop (j+1))
      rw[hr,← ayy,← hr,← hd] at sk
      rcases azi (s.drop j) 10 with h|⟨k,h⟩
      .have e1:=sk.1 h
       have E1:i+dY false (s.drop i)=s.length:=by rw[E,e1,cU];omega
       rw[hd] at h
       have h0:((-1:Int)<0)=True:=aa aI
       simp only[↓zA,sevalprocAttr,aki,f0,f1,fo,aK,dk,gx,sf,aI7,hp,aFA,h,h0,E1]
      .obtain⟨e1,e2⟩:=sk.2 k h
       rw[cU] at e1
       rw[e2,ad0] at E
       have hk0:0<k:=by
        rcases aaE k with q|q
        .subst q
         rw[hd] at h
         simp only[Lib.indexByte] at h
         revert h
         rw[aA aI]
         split
         .intro h;omega
         .intro h
          have:=Lib.indexByte_ge (s.drop (j+1)) 10
          rename_i q2
          have q2:Lib.indexByte (s.drop (j+1)) 10≠-1:=by simpa using q2
          omega
        .exact q
       rw[hd] at h
       have h0:((k:Int)<0)=False:=aj aC
       have hw2:IntKind.i64.wrap ((j:Int)+(k:Int))=((j+k:Nat):Int):=by
        unfold LB at hl
        rw[cj _ aC aC];rfl
       simp only[↓zA,sevalprocAttr,aki,f0,f1,fo,aK,dk,gx,sf,aI7,hp,aFA,h,h0,hw2]
       exact⟨n-k,by omega,j+k,rfl,by omega,by omega,by rw[E,cE]⟩
    .have h45':(c=45)=False:=aj h45
     have E0:dY false (s.drop j)=0:=by rw[hd];exact aiD _ hb λh=>absurd h h45
     rw[E0] at E
     simp only[↓zA,sevalprocAttr,aki,f0,f1,fo,aK,dk,gx,e32,e9,e10,e13,e45,n32,n9,n10,n13,h45']
     try rw[E];rfl
  .have e:j=s.length:=by omega
   subst e
   have E0:dY false (s.drop s.length)=0:=by rw[bf];rfl
   rw[E0] at E
   simp only[↓zA,sevalprocAttr,aki,f0,f1,fo,aK,bg]
   try rw[E];rfl
 .simp only[↓zA,sevalprocAttr,aki]
  exact⟨i,rfl,by omega,hi,rfl⟩
def aIP(s:List UInt8)(i:Nat)(hl:s.length<LB)(hi:i<=s.length)(K:An->Prop):cKp 144 [.of (aJ (aM s)),au i] [] K↔K ⟨false,[au (i+dY false (s.drop i):Nat)],[]⟩:=aF.k (ay7 s i hl hi) K
end Go.Proofs.YtghkmcffifpkeaaGreat
namespace Go.Tab
open Pe
def arE(s:List UInt8)(i:Nat){c:UInt8}{r:List UInt8}(h:s.drop i=c::r):(s.drop i).takeWhile fV=if fV c=true then c::r.takeWhile fV else []:=by
 rw[h,dV]
def ao2{w:List UInt8}(h:∀ c∈w,fV c=true):∀ c∈w.map gD,(cG c||bz c)=true:=by
 intro c hc
 obtain⟨x,hx,rfl⟩:=List.mem_map.1 hc
 exact aRn (h x hx)
theorem aD4(p:UInt8->Bool):∀ l:List UInt8,∀ c∈l.takeWhile p,p c=true
 | [],c,h=>by simp at h
 | x::r,c,h=>by
  rw[dV] at h
  split at h
  .rename_i hx
   rcases bQ.1 h with rfl|h
   .exact hx
   .exact aD4 p r c h
  .simp at h
def axE{s p:List UInt8}(h:Lib.contains s p=true):∀ c∈p,c∈s:=by
 unfold Lib.contains at h
 rw[aR] at h
 rcases Lib.index_spec s p with ⟨h1,_⟩|⟨i,h1,h2,h3,_⟩
 .omega
 .intro c hc
  unfold Lib.occAt at h3
  obtain⟨t,ht⟩:=List.isPrefixOf_iff_prefix.1 h3
  have:c∈s.drop i:=by rw[← ht];exact adw _ hc
  exact eH this
def aIi{s:List UInt8}(h:∀ c∈s,(cG c||bz c)=true):Lib.contains s [32]=false:=by
 cases hc:Lib.contains s [32] with
 | false=>rfl
 | true=>exact absurd rfl (az8 (h 32 (axE hc 32 aT)))
end Go.Tab
namespace Go.Proofs.YtghkmcffifpkeaaGreat
open Pe Tab
def aFY(w p:ByteArray)(h:w.size<4294967281):G1 283 [.of (.lit (.string w)),.of (.lit (.string p))] (aN (Lib.contains w.data.toList p.data.toList)):=aF.of_prim (by
 show arn [.of (.lit (.string w)),.of (.lit (.string p))] []=_
 unfold arn
 simp only
 rw[aE h])
def aSZ(w p:ByteArray)(K:An->Prop):cKp 283 [.of (.lit (.string w)),.of (.lit (.string p))] [] K↔ifP (w.size<4294967281) (K ⟨false,[aN (Lib.contains w.data.toList p.data.toList)],[]⟩) (aDW Tryz.prog pr 283 [.of (.lit (.string w)),.of (.lit (.string p))] [] K):=aK8 (λh=>aFY w p h) K
def aT3:=hC @zq @zT0 (kf aMl)
def aqQ(s:List UInt8)(h0:s≠[])(hl:s.length<=4000)(h:∀ c∈s,(cG c||bz c)=true):G1 243 [.of (aJ (aM s))] (aN (afz s)):=by
 have hne:(s=[])=False:=aj h0
 have l1:(s.length<4294967281)=True:=aa aC
 have hb:=aIi h
 have l2:1+s.length<=afM:=by unfold afM;omega
 have l3:1+s.length+1<=afM:=by unfold afM;omega
 have l4:s.length+1+1<=afM:=by unfold afM;omega
 have e:∀ s:List UInt8,(aM s).data.toList=s:=λs=>by simp[aM]
 have e32:=awR [32]
 refine bB aMl ?_
 simp only[Tryz.f243,↓zA,sevalprocAttr,aT3,hne,aSZ,l1,hb,e,e32,au6,l2,l4]
 refine aRA aI ?_
 rfl
def awO(s:List UInt8)(h0:s≠[])(hl:s.length<=4000)(h:∀ c∈s,(cG c||bz c)=true)(K:An->Prop):cKp 243 [.of (aJ (aM s))] [] K↔K ⟨false,[aN (afz s)],[]⟩:=aF.k (aqQ s h0 hl h) K
abbrev tkZ:Ob:=.var 63 [.of (ci 0),.of (ci 0),.of (ci 0),.of (ci 0),.of (aJ {data:=#[]})]
abbrev bZ:Ob:=.var 245 [.of (.lit (.pointer none)),.nil]
abbrev bV(l:List UInt8):Ob:=.var 245 [.ptr 0 0,.own (.cell 0 1) 5 1 (byC l) l.length]
abbrev bL(l:List UInt8):Ob:=.var 245 [.ptr 1 0,.own (.cell 1 1) 5 1 (byC l) l.length]
def wbE(xs:List X)(obs:List Ob):pr.prim 241 xs obs=wbP xs obs:=rfl
def bsE(xs:List X)(obs:List Ob):pr.prim 242 xs obs=bsP xs obs:=rfl
def aKR(c:UInt8):UInt8.ofNat (((c.toNat:Nat):Int)).toNat=c:=by simp
def aKP(c:UInt8)(K:An->Prop):cKp 241 [.ptr 0 0,.of (.lit (.int .u8 (c.toNat:Nat)))] [.var 245 [.of (.lit (.pointer none)),.nil]] K↔K ⟨false,[.of (.lit .nilIface)],[bV [c]]⟩ :=
 aF.k (aF.of_prim (by
  rw[wbE]
  have h1:0<=((c.toNat:Nat):Int)/\((c.toNat:Nat):Int)<256:=⟨by omega,by have:=c.toNat_lt;omega⟩
  have h2:([]:List UInt8).length+1<=LIM:=by decide
  simp only[wbP,akK,dE,h1,h2,cz,ah,bld,aKR,db])) K
def aAF(l:List UInt8)(n:Nat):akK [.var 245 [.ptr 0 0,.own (.cell 0 1) 5 1 (byC l) n]]=some l:=avr l
def aKQ(l:List UInt8)(n:Nat)(c:UInt8)(K:An->Prop):cKp 241 [.ptr 0 0,.of (.lit (.int .u8 (c.toNat:Nat)))] [.var 245 [.ptr 0 0,.own (.cell 0 1) 5 1 (byC l) n]] K↔ifP (l.length+1<=LIM) (K ⟨false,[.of (.lit .nilIface)],[bV (l++[c])]⟩) (aDW Tryz.prog pr 241 [.ptr 0 0,.of (.lit (.int .u8 (c.toNat:Nat)))] [.var 245 [.ptr 0 0,.own (.cell 0 1) 5 1 (byC l) n]] K) :=
 aK8 (λh=>aF.of_prim (by
  rw[wbE]
  have h1:0<=((c.toNat:Nat):Int)/\((c.toNat:Nat):Int)<256:=⟨by omega,by have:=c.toNat_lt;omega⟩
  simp only[wbP,aAF,dE,h,h1,cz,ah,bld,aKR])) K
def aoI(l:List UInt8)(n:Nat)(K:An->Prop):cKp 242 [.ptr 0 0] [.var 245 [.ptr 0 0,.own (.cell 0 1) 5 1 (byC l) n]] K↔K ⟨false,[.of (aJ (aM l))],[.var 245 [.of .any,.of .any]]⟩ :=
 aF.k (aF.of_prim (by rw[bsE];simp only[bsP,aAF,aP];rfl)) K
def agF:=hM @Tryz.f146.eq_1 @zq @cW @Q9 @zT0 (kf aM5)
def ay5(s:List UInt8)(i:Nat)(hl:s.length<=4000)(hi:i<s.length)(h0:abN s[i]=true):GN 146 [.of (aJ (aM s)),au i] [.of (.agg (tnC (lxW i ((s.drop i).takeWhile fV)).1)),au (lxW i ((s.drop i).takeWhile fV)).2]:=by
 have hall:=aD4 fV (s.drop i)
 have hlen:=afR fV (s.drop i)
 rw[cU] at hlen
 have hne:(s.drop i).takeWhile fV≠[]:=by
  rw[arE s i (fu hi),aE (by unfold fV;rw[h0];rfl)]
  exact ac5 _ _
 generalize hw:(s.drop i).takeWhile fV=w at *
 have kr:=awO (w.map gD) (by simpa using hne) (by simp;omega) (ao2 hall)
 have lw:(w.map gD).length=w.length:=bM _
 have hsub:IntKind.i64.wrap (((i+w.length:Nat):Int)-(i:Int))=(w.length:Int):=by rw[cj _ aC aC];omega
 have l20:((20:Int)<(w.length:Int))=(20<w.length):=propext aC
 refine bB aM5 ?_
 simp only[↓zA,sevalprocAttr,agF]
 refine eT _ _ (λn t=>∃ d:List UInt8,t.fr 0=.of (aJ (aM s))/\t.fr 1=au i/\t.fr 4=.ptr 0 0/\t.fr 7=.ptr 1 0/\t.fr 6=au (i+d.length:Nat)/\((d=[]/\t.objs=[tkZ,bZ])\/(d≠[]/\t.objs=[tkZ,bL (d.map gD)]))/\i+d.length+n=s.length+1/\i+d.length<=s.length/\w=d++(s.drop (i+d.length)).takeWhile fV) ?_ (s.length+1-i) _ ?_
 .rintro n ⟨frn,obn,ckn⟩ ⟨d,f0,f1,f4,f7,f6,fo,hn,hj,E⟩
  dsimp only at f0 f1 f4 f7 f6 fo
  have hwj:=aW (i+d.length) aC
  have out:w=d->(d≠[]/\obn=[tkZ,bL (d.map gD)]):=λh=>by
   rcases fo with fo|fo
   .rw[fo.1] at h;exact absurd h hne
   .exact fo
  rcases av (i+d.length) s.length with dk|dk
  .have gx:=bu dk
   have dk':=aa dk
   rw[arE s _ (fu dk)] at E
   generalize s[i+d.length]=c at *
   cases hc:fV c with
   | true =>
    have hd1:(abN c=true\/(abN c=false/\bz c=true)):=by
     unfold fV at hc
     cases h1:abN c with
     | true=>exact .inl rfl
     | false=>rw[h1] at hc;exact .inr ⟨rfl,by simpa using hc⟩
    rw[hc,aE rfl] at E
    have lL:(d.length+1<=LIM)=True:=aa (by unfold LIM;omega)
    have hlen2:(d++[c]).length=d.length+1:=by simp
    have E2:w=(d++[c])++(s.drop (i+(d++[c]).length)).takeWhile fV:=by rw[hlen2,E,eO];rfl
    have hm:(d++[c]).map gD=d.map gD++[gD c]:=by simp
    rcases hd1 with h1|⟨h1,h2⟩
    .rcases fo with ⟨hd,fo⟩|⟨hd,fo⟩
     .subst hd
      simp only[cq,gV] at dk' gx hwj f6
      simp only[↓zA,sevalprocAttr,agF,f0,f1,f4,f7,f6,fo,aK,dk',gx,hwj,abt,afB,h1,aKP]
      exact⟨n-1,by omega,[c],rfl,.inr ⟨ac5 _ _,rfl⟩,by simp only[fZ] at *;omega,by simp only[fZ] at *;omega,E2⟩
     .simp only[↓zA,sevalprocAttr,agF,f0,f1,f4,f7,f6,fo,aK,dk',gx,hwj,abt,afB,h1,aKQ,lL,bV]
      exact⟨n-1,by omega,d++[c],by rw[hlen2,cE],.inr ⟨by simp,by rw[hm];simp only[bL,bp,bM,fZ]⟩,by rw[hlen2];omega,by rw[hlen2];omega,E2⟩
    .rcases fo with ⟨hd,fo⟩|⟨hd,fo⟩
     .subst hd
      simp only[cq,gV] at dk' gx hwj f6
      simp only[↓zA,sevalprocAttr,agF,f0,f1,f4,f7,f6,fo,aK,dk',gx,hwj,abt,ab6,afB,h1,h2,aKP]
      exact⟨n-1,by omega,[c],rfl,.inr ⟨ac5 _ _,rfl⟩,by simp only[fZ] at *;omega,by simp only[fZ] at *;omega,E2⟩
     .simp only[↓zA,sevalprocAttr,agF,f0,f1,f4,f7,f6,fo,aK,dk',gx,hwj,abt,ab6,afB,h1,h2,aKQ,lL,bV]
      exact⟨n-1,by omega,d++[c],by rw[hlen2,cE],.inr ⟨by simp,by rw[hm];simp only[bL,bp,bM,fZ]⟩,by rw[hlen2];omega,by rw[hlen2];omega,E2⟩
   | false =>
    have h1:abN c=false:=by unfold fV at hc;cases h:abN c with|true=>rw[h] at hc;cases hc|false=>rfl
    have h2:bz c=false:=by unfold fV at hc;rw[h1] at hc;simpa using hc
    rw[hc,aA aI,aU] at E
    obtain⟨hd,fo⟩:=out E
    subst E
    cases hr:afz (w.map gD) with
    | true =>
     rw[hr] at kr
     simp only[lxW,hr,ah]
     simp only[↓zA,sevalprocAttr,agF,f0,f1,f4,f7,f6,fo,aK,dk',gx,abt,ab6,h1,h2,aoI,hsub,kr,be]
     try rfl
    | false =>
     rw[hr] at kr
     by_cases h20:20<w.length
     .simp only[lxW,hr,ab,ap,h20,ah]
      simp only[↓zA,sevalprocAttr,agF,f0,f1,f4,f7,f6,fo,aK,dk',gx,abt,ab6,h1,h2,aoI,hsub,kr,be,lw,l20,h20]
      try rfl
     .simp only[lxW,hr,ab,ap,h20]
      simp only[↓zA,sevalprocAttr,agF,f0,f1,f4,f7,f6,fo,aK,dk',gx,abt,ab6,h1,h2,aoI,hsub,kr,be,lw,l20,h20]
      try rfl
  .have dk':(i+d.length<s.length)=False:=aj aC
   rw[bv dk,abo,aU] at E
   obtain⟨hd,fo⟩:=out E
   subst E
   cases hr:afz (w.map gD) with
   | true =>
    rw[hr] at kr
    simp only[lxW,hr,ah]
    simp only[↓zA,sevalprocAttr,agF,f0,f1,f4,f7,f6,fo,aK,dk',aoI,hsub,kr,be]
    try rfl
   | false =>
    rw[hr] at kr
    by_cases h20:20<w.length
    .simp only[lxW,hr,ab,ap,h20,ah]
     simp only[↓zA,sevalprocAttr,agF,f0,f1,f4,f7,f6,fo,aK,dk',aoI,hsub,kr,be,lw,l20,h20]
     try rfl
    .simp only[lxW,hr,ab,ap,h20]
     simp only[↓zA,sevalprocAttr,agF,f0,f1,f4,f7,f6,fo,aK,dk',aoI,hsub,kr,be,lw,l20,h20]
     try rfl
 .simp only[↓zA,sevalprocAttr,agF]
  first|exact⟨[],rfl,.inl rfl,by simp;omega,by simp;omega,hw.symm⟩|exact⟨[],rfl,rfl,by simp;omega,by simp;omega,hw.symm⟩

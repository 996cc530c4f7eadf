/- A part. Conditions: none. -/
import Derived.Test.YtghkmcffifpkeaaGreatPa16
set_option linter.all false
set_option maxRecDepth 100000
set_option maxHeartbeats 64000000
namespace Go.Proofs.YtghkmcffifpkeaaGreat
open Pe Tab
abbrev tkX(l:List Tn):X:=.of (slC tnC l)
def adC(l:List Tn)(i:Nat):Int:=if l.length<=i then 3 else 2
def adz(l:List Tn)(i:Nat)(b:Bool):Int:=if b=true then adC l i else 0
def bx(l:List Tn)(i:Nat):adz l i false=0:=rfl
def ce(l:List Tn)(i:Nat):adz l i true=adC l i:=rfl
def cR(l:List Tn)(i:Nat):(adC l i=0)=False:=by
 refine aj λh=>?_
 unfold adC at h
 split at h <;> omega
def aAK:=ib @Tryz.f84.eq_1 @zq @cW @fH @P3 @Q3 @Q9 @zT0 (kf aJh)
def afX(l:List Tn)(i:Nat)(w:List UInt8):G1 84 [tkX l,au i,.of (aJ (aM w))] (aN (isT l i w)):=by
 rcases av i l.length with h|h
 .have h1:((i:Int)<(l.length:Int))=True:=aa aC
  have h2:=gL h
  rw[ajx]
  generalize bN l i=t at h2
  refine bB aJh ?_
  by_cases c1:t.k=1
  .have c1:=aa c1
   simp only[↓zA,sevalprocAttr,aAK,h1,h2,c1,cQ]
   try rfl
  .have c1:=aj c1
   by_cases c2:t.k=5
   .have c2:=aa c2
    simp only[↓zA,sevalprocAttr,aAK,h1,h2,c1,c2,cQ]
    try rfl
   .have c2:=aj c2
    simp only[↓zA,sevalprocAttr,aAK,h1,h2,c1,c2]
    try rfl
 .have h1:((i:Int)<(l.length:Int))=False:=aj aC
  have e:isT l i w=false:=by unfold isT;rw[bc h]
  rw[e]
  refine bB aJh ?_
  simp only[↓zA,sevalprocAttr,aAK,h1]
  try rfl
def aPM:=hZ @Tryz.f86.eq_1 @zq @cW @fH @P3 @Q3 @zT0 (kf aJf)
def am7(l:List Tn)(i:Nat)(k:Int):G1 86 [tkX l,au i,au k] (aN (br l i k)):=by
 rcases av i l.length with h|h
 .have h1:((i:Int)<(l.length:Int))=True:=aa aC
  have h2:=gL h
  have e:br l i k=decide ((bN l i).k=k):=by unfold br;rw[ahU h]
  rw[e]
  refine bB aJf ?_
  simp only[↓zA,sevalprocAttr,aPM,h1,h2]
  try rfl
 .have h1:((i:Int)<(l.length:Int))=False:=aj aC
  have e:br l i k=false:=by unfold br;rw[bc h]
  rw[e]
  refine bB aJf ?_
  simp only[↓zA,sevalprocAttr,aPM,h1]
  try rfl
def aPL:=hM @Tryz.f87.eq_1 @zq @cW @fH @zT0 (kf aJe)
def awa(l:List Tn)(i:Nat):G1 87 [tkX l,au i] (au (adC l i)):=by
 unfold adC
 by_cases h:l.length<=i
 .have h1:((l.length:Int)<=(i:Int))=True:=aa aC
  refine bB aJe ?_
  simp only[↓zA,sevalprocAttr,aPL,h1,h]
  try rfl
 .have h1:((l.length:Int)<=(i:Int))=False:=aj aC
  refine bB aJe ?_
  simp only[↓zA,sevalprocAttr,aPL,h1,h]
  try rfl
def acD(l:List Tn)(i:Nat)(K:An->Prop):cKp 87 [tkX l,au i] [] K↔K ⟨false,[au (adC l i)],[]⟩:=aF.k (awa l i) K
def aPU:=hJ @Tryz.f54.eq_1 @zq @cW @zT0 (kf aJo)
def ajL(l:List Tn)(i:Nat)(w:List UInt8)(hi:i<=LB+8):GN 54 [tkX l,au i,.of (aJ (aM w))] (if isT l i w=true then [au (i+1:Nat),au 0] else [au i,au (adC l i)]):=by
 have hw:IntKind.i64.wrap ((i:Int)+1)=((i+1:Nat):Int):=aW i (by unfold LB at hi;omega)
 have k:=λK=>aF.k (afX l i w) K
 cases c:isT l i w with
 | true =>
  rw[c] at k
  refine bB aJo ?_
  simp only[↓zA,sevalprocAttr,aPU,k,hw]
  try rfl
 | false =>
  rw[c] at k
  refine bB aJo ?_
  simp only[↓zA,sevalprocAttr,aPU,k,acD]
  try rfl
def aKO:=hU @Tryz.f100.eq_1 @zq @cW @fH @Q9 @zT0 (kf aCS)
def av8(l:List Tn)(i:Nat)(hi:i<=LB+8):GN 100 [tkX l,au i] [.of (aJ (aM (eZ l i).1)),au (eZ l i).2.1,au (adz l (eZ l i).2.1 (eZ l i).2.2)]:=by
 have hw:IntKind.i64.wrap ((i:Int)+1)=((i+1:Nat):Int):=aW i (by unfold LB at hi;omega)
 have k:=λK=>aF.k (am7 l i 2) K
 unfold eZ
 cases c:br l i 2 with
 | true =>
  have h:i<l.length:=by
   rcases av i l.length with g|g
   .exact g
   .unfold br at c;rw[bc g] at c;cases c
  have h2:=gL h
  have ht:txT l i=(bN l i).s:=by unfold txT;rw[ahU h]
  rw[c] at k
  refine bB aCS ?_
  simp only[↓zA,sevalprocAttr,aKO,k,hw,h2,ht,bx]
  try rfl
 | false =>
  rw[c] at k
  refine bB aCS ?_
  simp only[↓zA,sevalprocAttr,aKO,k,acD,ce]
  try rfl
def avb:=hU @Tryz.f83.eq_1 @zq @cW @cO @Q9 @zT0 (kf aSe)
def aud(l:List Tn)(i:Nat)(ws:List (List UInt8))(hn:ws.length<=64):G1 83 [tkX l,au i,.of (slC cM ws)] (aN (bF l i ws)):=by
 refine bB aSe ?_
 simp only[↓zA,sevalprocAttr,avb]
 refine ew ws.length (λk s=>s.fr 0=tkX l/\s.fr 1=au i/\s.fr 2=.of (slC cM ws)/\s.fr 7=au k/\s.objs=[]/\bF l i ws=bF l i (ws.drop k)) ?_ ?_
 .simp only[↓zA,sevalprocAttr,avb]
  try rfl
 rintro k ⟨frk,obk,ckk⟩ hk ⟨f0,f1,f2,f4,fo,E⟩
 dsimp only at f0 f1 f2 f4 fo
 rcases av k ws.length with dk|dk
 .have hw:=aW k aC
  have gx:=bu dk
  rw[bI dk] at E
  simp only[bF] at E
  generalize ws[k]=x at *
  have kt:=λK=>aF.k (afX l i x) K
  cases hc:isT l i x with
  | true =>
   rw[hc,cf] at E
   rw[hc] at kt
   simp only[↓zA,sevalprocAttr,avb,f0,f1,f2,f4,fo,aK,dk,gx,kt,E]
   try rfl
  | false =>
   rw[hc,fC] at E
   rw[hc] at kt
   simp only[↓zA,sevalprocAttr,avb,f0,f1,f2,f4,fo,aK,dk,gx,hw,kt]
   exact E
 have ek:k=ws.length:=by omega
 subst ek
 rw[bf] at E
 simp only[bF] at E
 simp only[↓zA,sevalprocAttr,avb,f2,f4,fo,aK,bg,E]
 try rfl
def dT(l:List Tn)(i:Nat)(w:List UInt8)(hl:l.length<LB)(c:isT l i w=true) :
  (∀ K,cKp 84 [tkX l,au i,.of (.lit (.string (ByteArray.mk (List.toArray w))))] [] K↔K ⟨false,[aN true],[]⟩) /\
  (∀ K,cKp 54 [tkX l,au i,.of (.lit (.string (ByteArray.mk (List.toArray w))))] [] K↔K ⟨false,[au (i+1:Nat),au 0],[]⟩):=by
 have hi:i<=l.length:=by
  rcases av i l.length with g|g
  .omega
  .unfold isT at c;rw[bc g] at c;cases c
 refine⟨λK=>?_,λK=>?_⟩
 .have:=aF.k (afX l i w) K
  rw[c] at this
  exact this
 .have:=aF.k (ajL l i w aC) K
  rw[c,aE rfl] at this
  exact this
def dF(l:List Tn)(i:Nat)(w:List UInt8)(hl:l.length<LB)(hi:i<=l.length+2)(c:isT l i w=false) :
  (∀ K,cKp 84 [tkX l,au i,.of (.lit (.string (ByteArray.mk (List.toArray w))))] [] K↔K ⟨false,[aN false],[]⟩) /\
  (∀ K,cKp 54 [tkX l,au i,.of (.lit (.string (ByteArray.mk (List.toArray w))))] [] K↔K ⟨false,[au i,au (adC l i)],[]⟩):=by
 refine⟨λK=>?_,λK=>?_⟩
 .have:=aF.k (afX l i w) K
  rw[c] at this
  exact this
 .have:=aF.k (ajL l i w aC) K
  rw[c,aA aI] at this
  exact this
def dkT(l:List Tn)(i:Nat)(k:Int)(hl:l.length<LB){b:Bool}(c:br l i k=b)(K:An->Prop):cKp 86 [tkX l,au i,au k] [] K↔K ⟨false,[aN b],[]⟩:=by
 have:=aF.k (am7 l i k) K
 rw[c] at this
 exact this
def dkF(l:List Tn)(i:Nat)(k:Int)(hl:l.length<LB)(_:i<=l.length+2){b:Bool}(c:br l i k=b)(K:An->Prop):cKp 86 [tkX l,au i,au k] [] K↔K ⟨false,[aN b],[]⟩:=dkT l i k hl c K
def dN(l:List Tn)(i:Nat)(hl:l.length<LB)(hi:i<=l.length+2)(K:An->Prop):cKp 100 [tkX l,au i] [] K↔K ⟨false,[.of (aJ (aM (eZ l i).1)),au (eZ l i).2.1,au (adz l (eZ l i).2.1 (eZ l i).2.2)],[]⟩:=aF.k (av8 l i aC) K
def dO(l:List Tn)(i:Nat)(ws:List (List UInt8))(hl:l.length<LB)(_:i<=l.length+2)(hn:ws.length<=64){b:Bool}(c:bF l i ws=b)(K:An->Prop):cKp 83 [tkX l,au i,.of (slC cM ws)] [] K↔K ⟨false,[aN b],[]⟩:=by
 have:=aF.k (aud l i ws hn) K
 rw[c] at this
 exact this
def ca{α:Type}(l:List Tn)(enc:α->X)(r:α×Nat×Bool):An:=⟨false,[enc r.1,au r.2.1,au (adz l r.2.1 r.2.2)],[]⟩
def GD{α:Type}(f:Nat)(xs:List X)(l:List Tn)(enc:α->X)(i:Nat)(r:α×Nat×Bool):Prop:=(i<=r.2.1/\r.2.1<=l.length)/\aF Tryz.prog pr f xs [] (ca l enc r)
section
variable {α:Type} {f:Nat} {xs:List X} {l:List Tn} {enc:α->X} {i j:Nat} {a:α}
theorem GD.ok(h:GD f xs l enc i (a,j,false))(K:An->Prop):cKp f xs [] K↔K ⟨false,[enc a,au j,au 0],[]⟩:=aF.k h.2 K
theorem GD.bad(h:GD f xs l enc i (a,j,true))(K:An->Prop):cKp f xs [] K↔K ⟨false,[enc a,au j,au (adC l j)],[]⟩:=aF.k h.2 K
theorem gR(E:Rz α)(C:∀ r,E=some r->GD f xs l enc i r):E=none\/(∃ a j,E=some (a,j,true)/\(i<=j/\j<=l.length)/\∀ K,cKp f xs [] K↔K ⟨false,[enc a,au j,au (adC l j)],[]⟩)\/(∃ a j,E=some (a,j,false)/\(i<=j/\j<=l.length)/\∀ K,cKp f xs [] K↔K ⟨false,[enc a,au j,au 0],[]⟩) :=
 match E,C with
 | none,_=>.inl rfl
 | some (_,_,true),C=>.inr (.inl ⟨_,_,rfl,(C _ rfl).1,(C _ rfl).bad⟩)
 | some (_,_,false),C=>.inr (.inr ⟨_,_,rfl,(C _ rfl).1,(C _ rfl).ok⟩)
theorem GD.okA(h:GD f xs l enc i (a,j,false)):(i<=j/\j<=l.length)/\∀ K,cKp f xs [] K↔K ⟨false,[enc a,au j,au 0],[]⟩:=⟨h.1,h.ok⟩
theorem GD.badA(h:GD f xs l enc i (a,j,true)):(i<=j/\j<=l.length)/\∀ K,cKp f xs [] K↔K ⟨false,[enc a,au j,au (adC l j)],[]⟩:=⟨h.1,h.bad⟩
end
def dO2(l:List Tn)(i:Nat)(w1 w2:List UInt8)(hl:l.length<LB)(h:i<=l.length+2){b:Bool}(c:bF l i [w1,w2]=b)(K:An->Prop):cKp 83 [tkX l,au i,.of (.sl [.lit (.string (ByteArray.mk (List.toArray w1))),.lit (.string (ByteArray.mk (List.toArray w2)))] 2)] [] K↔K ⟨false,[aN b],[]⟩:=dO l i [w1,w2] hl h (by show 2<=64;decide) c K
def dO3(l:List Tn)(i:Nat)(w1 w2 w3:List UInt8)(hl:l.length<LB)(h:i<=l.length+2){b:Bool}(c:bF l i [w1,w2,w3]=b)(K:An->Prop):cKp 83 [tkX l,au i,.of (.sl [.lit (.string (ByteArray.mk (List.toArray w1))),.lit (.string (ByteArray.mk (List.toArray w2))),.lit (.string (ByteArray.mk (List.toArray w3)))] 3)] [] K↔K ⟨false,[aN b],[]⟩:=dO l i [w1,w2,w3] hl h (by show 3<=64;decide) c K
def dO6(l:List Tn)(i:Nat)(w1 w2 w3 w4 w5 w6:List UInt8)(hl:l.length<LB)(h:i<=l.length+2){b:Bool}(c:bF l i [w1,w2,w3,w4,w5,w6]=b)(K:An->Prop):cKp 83 [tkX l,au i,.of (.sl [.lit (.string (ByteArray.mk (List.toArray w1))),.lit (.string (ByteArray.mk (List.toArray w2))),.lit (.string (ByteArray.mk (List.toArray w3))),.lit (.string (ByteArray.mk (List.toArray w4))),.lit (.string (ByteArray.mk (List.toArray w5))),.lit (.string (ByteArray.mk (List.toArray w6)))] 6)] [] K↔K ⟨false,[aN b],[]⟩:=dO l i [w1,w2,w3,w4,w5,w6] hl h (by show 6<=64;decide) c K
def dX(l:List Tn)(i:Nat)(w:List UInt8)(hl:l.length<LB)(c:isT l i w=true) :
  ((∀ v,(v=w)=False->isT l i v=false)/\br l i 2=false/\br l i 3=false/\br l i 4=false) /\
  ((∀ v,(v=w)=False->∀ K,cKp 84 [tkX l,au i,.of (.lit (.string (ByteArray.mk (List.toArray v))))] [] K↔K ⟨false,[aN false],[]⟩) /\
  (∀ v,(v=w)=False->∀ K,cKp 54 [tkX l,au i,.of (.lit (.string (ByteArray.mk (List.toArray v))))] [] K↔K ⟨false,[au i,au (adC l i)],[]⟩)) /\
  ((∀ K,cKp 86 [tkX l,au i,au 2] [] K↔K ⟨false,[aN false],[]⟩) /\
  (∀ K,cKp 86 [tkX l,au i,au 3] [] K↔K ⟨false,[aN false],[]⟩) /\
  (∀ K,cKp 86 [tkX l,au i,au 4] [] K↔K ⟨false,[aN false],[]⟩)):=by
 have hi:i<=l.length+2:=by have:=fe c;omega
 have hk:=anq c
 exact⟨⟨ajZ c,hk⟩,⟨λv h=>(dF l i v hl hi (ajZ c v h)).1,λv h=>(dF l i v hl hi (ajZ c v h)).2⟩,dkT l i 2 hl hk.1,dkT l i 3 hl hk.2.1,dkT l i 4 hl hk.2.2⟩
section
variable (l:List Tn) (i:Nat)
theorem dkW{k:Int}(h0:k≠0)(h1:k≠1)(h5:k≠5)(c:br l i k=true)(hl:l.length<LB) :
  (∀ v,isT l i v=false) /\
  ((∀ v K,cKp 84 [tkX l,au i,.of (.lit (.string (ByteArray.mk (List.toArray v))))] [] K↔K ⟨false,[aN false],[]⟩) /\
  (∀ v K,cKp 54 [tkX l,au i,.of (.lit (.string (ByteArray.mk (List.toArray v))))] [] K↔K ⟨false,[au i,au (adC l i)],[]⟩)):=by
 have hi:i<=l.length+2:=by have:=gl c;omega
 have hn:=awY h0 h1 h5 c
 exact⟨hn,λv=>(dF l i v hl hi (hn v)).1,λv=>(dF l i v hl hi (hn v)).2⟩
theorem dkX{k:Int}(hk:k≠0)(c:br l i k=true)(hl:l.length<LB)(m:Int)(hm:m≠0)(h:m≠k):br l i m=false/\(∀ K,cKp 86 [tkX l,au i,au m] [] K↔K ⟨false,[aN false],[]⟩) :=
 ⟨kNo l i hk c m hm h,dkT l i m hl (kNo l i hk c m hm h)⟩
def dX2(hl:l.length<LB)(c:br l i 2=true):=hC (dkW l i aI aI aI c hl) (dkX l i aI c hl 3 aI aI) (dkX l i aI c hl 4 aI aI)
def dX3(hl:l.length<LB)(c:br l i 3=true):=hC (dkW l i aI aI aI c hl) (dkX l i aI c hl 2 aI aI) (dkX l i aI c hl 4 aI aI)
def dX4(hl:l.length<LB)(c:br l i 4=true):=hC (dkW l i aI aI aI c hl) (dkX l i aI c hl 2 aI aI) (dkX l i aI c hl 3 aI aI)
end
section
variable (l:List Tn) (i:Nat) (w:List UInt8) (hl:l.length<LB) (hi:i<=l.length+2:=by omega)
def gW:=(bP (isT l i w)).imp (λc:isT l i w=true=>ai c (ai (fe c) (dT l i w hl c))) (λc:isT l i w=false=>ai c (dF l i w hl hi c))
def gWX:=(bP (isT l i w)).imp (λc:isT l i w=true=>ai c (ai (fe c) (ai (dT l i w hl c) (dX l i w hl c)))) (λc:isT l i w=false=>ai c (dF l i w hl hi c))
def gK2:=(bP (br l i 2)).imp (λc:br l i 2=true=>ai c (ai (gl c) (dkT l i 2 hl c))) (λc:br l i 2=false=>ai c (dkF l i 2 hl hi c))
def aCj:=(bP (br l i 2)).imp (λc:br l i 2=true=>ai c (ai (gl c) (ai (dkT l i 2 hl c) (dX2 l i hl c)))) (λc:br l i 2=false=>ai c (dkF l i 2 hl hi c))
def gK3:=(bP (br l i 3)).imp (λc:br l i 3=true=>ai c (ai (gl c) (dkT l i 3 hl c))) (λc:br l i 3=false=>ai c (dkF l i 3 hl hi c))
def aZa:=(bP (br l i 3)).imp (λc:br l i 3=true=>ai c (ai (gl c) (ai (dkT l i 3 hl c) (dX3 l i hl c)))) (λc:br l i 3=false=>ai c (dkF l i 3 hl hi c))
def aY9:=(bP (br l i 4)).imp (λc:br l i 4=true=>ai c (ai (gl c) (ai (dkT l i 4 hl c) (dX4 l i hl c)))) (λc:br l i 4=false=>ai c (dkF l i 4 hl hi c))
end
def aTJ:=hJ @zq @cW @cO @zT0 (kf aLM)
def awb(l:List Tn)(i:Nat)(hl:l.length<LB)(hi:i<=l.length+2):G1 318 [tkX l,au i] (aN (afo l i)):=by
 have k:=λK=>dO6 l i [117,110,105,111,110] [101,120,99,101,112,116] [105,110,116,101,114,115,101,99,116] [111,114,100,101,114] [108,105,109,105,116] [111,102,102,115,101,116] hl hi rfl K
 unfold afo
 refine bB aLM ?_
 simp only[Tryz.f318,↓zA,sevalprocAttr,aTJ,k,zBS]
 all_goals exact fz
def dG(l:List Tn)(i:Nat)(hl:l.length<LB)(hi:i<=l.length+2){b:Bool}(c:afo l i=b)(K:An->Prop):cKp 318 [tkX l,au i] [] K↔K ⟨false,[aN b],[]⟩:=by
 have:=aF.k (awb l i hl hi) K
 rw[c] at this
 exact this
def aUk:=hZ @zq @aVE @aVD @aVC @aZ @cX @zT0 (kf aMS)
def aHe(op:Int)(a1 a2 a3 a4 a5 a6 a7 a8 a9 b1 b2 b3 b4 b5 b6 b7 b8 b9:C):G1 165 [au op,.of (.agg [a1,a2,a3,a4,a5,a6,a7,a8,a9]),.of (.agg [b1,b2,b3,b4,b5,b6,b7,b8,b9])] (.of (.agg [ci op,ci 0,ci 0,aJ {data:=#[]},aJ {data:=#[]},aJ {data:=#[]},cb false,.sl [a1,a2,a3,a4,a5,a6,a7,a8,a9,b1,b2,b3,b4,b5,b6,b7,b8,b9] 2,.sl [] 0])):=by
 refine bB aMS ?_
 simp only[Tryz.f165,↓zA,sevalprocAttr,aUk,zBS]
 all_goals exact fz
def aKS(op:Int)(a1 a2 a3 a4 a5 a6 a7 a8 a9 b1 b2 b3 b4 b5 b6 b7 b8 b9:C)(K:An->Prop):cKp 165 [.of (.lit (.int .i64 op)),.of (.agg [a1,a2,a3,a4,a5,a6,a7,a8,a9]),.of (.agg [b1,b2,b3,b4,b5,b6,b7,b8,b9])] [] K↔K ⟨false,[.of (.agg [ci op,ci 0,ci 0,aJ {data:=#[]},aJ {data:=#[]},aJ {data:=#[]},cb false,.sl [a1,a2,a3,a4,a5,a6,a7,a8,a9,b1,b2,b3,b4,b5,b6,b7,b8,b9] 2,.sl [] 0])],[]⟩:=aF.k (aHe op a1 a2 a3 a4 a5 a6 a7 a8 a9 b1 b2 b3 b4 b5 b6 b7 b8 b9) K
def aKT(op:Int)(a b:Xp)(K:An->Prop):cKp 165 [.of (.lit (.int .i64 op)),.of (.agg (xpC a)),.of (.agg (xpC b))] [] K↔K ⟨false,[xpE (eF op [a,b])],[]⟩:=by
 have e:xpE (eF op [a,b])=.of (.agg [ci op,ci 0,ci 0,aJ {data:=#[]},aJ {data:=#[]},aJ {data:=#[]},cb false,.sl [ci a.op,ci a.v.k,ci a.v.n,aJ a.v.s,aJ (aM a.tb),aJ (aM a.nm),cb a.di,slC xpC a.ks,slC qyC a.sb,ci b.op,ci b.v.k,ci b.v.n,aJ b.v.s,aJ (aM b.tb),aJ (aM b.nm),cb b.di,slC xpC b.ks,slC qyC b.sb] 2,.sl [] 0]):=by simp only[zVW];rfl
 rw[e,ch a,ch b]
 exact aKS op _ _ _ _ _ _ _ _ _ _ _ _ _ _ _ _ _ _ K
def zTw:=ai @aKS @aKT
def aT1:=hU @zq @aVw @aVv @aZ @cX @zT0 (kf aMh)
def aHf(op:Int)(a1 a2 a3 a4 a5 a6 a7 a8 a9:C):G1 250 [au op,.of (.agg [a1,a2,a3,a4,a5,a6,a7,a8,a9])] (.of (.agg [ci op,ci 0,ci 0,aJ {data:=#[]},aJ {data:=#[]},aJ {data:=#[]},cb false,.sl [a1,a2,a3,a4,a5,a6,a7,a8,a9] 1,.sl [] 0])):=by
 refine bB aMh ?_
 simp only[Tryz.f250,↓zA,sevalprocAttr,aT1]
 all_goals exact fz
def aLk(op:Int)(a1 a2 a3 a4 a5 a6 a7 a8 a9:C)(K:An->Prop):cKp 250 [.of (.lit (.int .i64 op)),.of (.agg [a1,a2,a3,a4,a5,a6,a7,a8,a9])] [] K↔K ⟨false,[.of (.agg [ci op,ci 0,ci 0,aJ {data:=#[]},aJ {data:=#[]},aJ {data:=#[]},cb false,.sl [a1,a2,a3,a4,a5,a6,a7,a8,a9] 1,.sl [] 0])],[]⟩:=aF.k (aHf op a1 a2 a3 a4 a5 a6 a7 a8 a9) K
def aBO(op:Int)(a:Xp)(K:An->Prop):cKp 250 [.of (.lit (.int .i64 op)),.of (.agg (xpC a))] [] K↔K ⟨false,[xpE (eF op [a])],[]⟩:=by
 have e:xpE (eF op [a])=.of (.agg [ci op,ci 0,ci 0,aJ {data:=#[]},aJ {data:=#[]},aJ {data:=#[]},cb false,.sl [ci a.op,ci a.v.k,ci a.v.n,aJ a.v.s,aJ (aM a.tb),aJ (aM a.nm),cb a.di,slC xpC a.ks,slC qyC a.sb] 1,.sl [] 0]):=by simp only[zVW];rfl
 rw[e,ch a]
 exact aLk op _ _ _ _ _ _ _ _ _ K
def aKw:=hU @Tryz.f287.eq_1 @zq @aW5 @aW4 @aZ @zT0 (kf aCB)
def aD5(c1 c2 c3 c4 c5 c6 c7 c8 c9:C):G1 287 [aN true,.of (.agg [c1,c2,c3,c4,c5,c6,c7,c8,c9])] (.of (.agg [ci 4,ci 0,ci 0,aJ {data:=#[]},aJ {data:=#[]},aJ {data:=#[]},cb false,.sl [c1,c2,c3,c4,c5,c6,c7,c8,c9] 1,.sl [] 0])):=by
 refine bB aCB ?_
 simp only[↓zA,sevalprocAttr,aKw,aLk]
 all_goals exact fz
def aD6(c1 c2 c3 c4 c5 c6 c7 c8 c9:C):G1 287 [aN false,.of (.agg [c1,c2,c3,c4,c5,c6,c7,c8,c9])] (.of (.agg [c1,c2,c3,c4,c5,c6,c7,c8,c9])):=by
 refine bB aCB ?_
 simp only[↓zA,sevalprocAttr,aKw]
 all_goals exact fz
def asO(c1 c2 c3 c4 c5 c6 c7 c8 c9:C)(K:An->Prop):cKp 287 [.of (.lit (.bool true)),.of (.agg [c1,c2,c3,c4,c5,c6,c7,c8,c9])] [] K↔K ⟨false,[.of (.agg [ci 4,ci 0,ci 0,aJ {data:=#[]},aJ {data:=#[]},aJ {data:=#[]},cb false,.sl [c1,c2,c3,c4,c5,c6,c7,c8,c9] 1,.sl [] 0])],[]⟩:=aF.k (aD5 c1 c2 c3 c4 c5 c6 c7 c8 c9) K
def asP(c1 c2 c3 c4 c5 c6 c7 c8 c9:C)(K:An->Prop):cKp 287 [.of (.lit (.bool false)),.of (.agg [c1,c2,c3,c4,c5,c6,c7,c8,c9])] [] K↔K ⟨false,[.of (.agg [c1,c2,c3,c4,c5,c6,c7,c8,c9])],[]⟩:=aF.k (aD6 c1 c2 c3 c4 c5 c6 c7 c8 c9) K
def aGV(no:Bool)(a:Xp)(K:An->Prop):cKp 287 [.of (.lit (.bool no)),.of (.agg (xpC a))] [] K↔K ⟨false,[xpE (agP no a)],[]⟩:=by
 cases no with
 | true =>
  have e:xpE (agP true a)=.of (.agg [ci 4,ci 0,ci 0,aJ {data:=#[]},aJ {data:=#[]},aJ {data:=#[]},cb false,.sl [ci a.op,ci a.v.k,ci a.v.n,aJ a.v.s,aJ (aM a.tb),aJ (aM a.nm),cb a.di,slC xpC a.ks,slC qyC a.sb] 1,.sl [] 0]):=by simp only[zVW];rfl
  rw[e,ch a]
  exact asO _ _ _ _ _ _ _ _ _ K
 | false =>
  have e:xpE (agP false a)=.of (.agg (xpC a)):=rfl
  rw[e,ch a]
  exact asP _ _ _ _ _ _ _ _ _ K
def ahP:=hH @aK9 @aNC @aNw @aNz
def aKv:=hC (hZ @Tryz.f291.eq_1 @zq @aWW @aWV @aZ @bi @afk @anR) (hZ @anQ @ahf @ahc @ahe @ahb @ahd @aha @ag9) (hM @ag8 @dm @P4 @Q4 @zT0 (kf aLZ))
def at9(t:Th):G1 291 [.of (.agg (thC t))] (xpE t.val):=by
 refine bB aLZ ?_
 cases c:t.q with
 | true =>
  rw[show t.val=adK 26 [] t.y from by unfold Th.val;rw[c];rfl]
  simp only[↓zA,sevalprocAttr,aKv,c,ahP]
  all_goals exact fz
 | false =>
  rw[show t.val=t.e from by unfold Th.val;rw[c];rfl]
  simp only[↓zA,sevalprocAttr,aKv,c,ahP]
  all_goals exact fz
def ajq(t:Th)(K:An->Prop):cKp 291 [.of (.agg (thC t))] [] K↔K ⟨false,[xpE t.val],[]⟩:=aF.k (at9 t) K
def aqf:=hM @Tryz.f164.eq_1 @zq @cO @afQ @zT0 (kf aoF)
def aAn:GN 164 [.of (.lit (.int .i64 0))] [.of (slC cM [[111,114]]),.of (slC aaB [18])]:=by
 refine bB aoF ?_
 simp only[↓zA,sevalprocAttr,aqf]
 all_goals exact fz
def aAm:GN 164 [.of (.lit (.int .i64 1))] [.of (slC cM [[97,110,100]]),.of (slC aaB [17])]:=by
 refine bB aoF ?_
 simp only[↓zA,sevalprocAttr,aqf]
 all_goals exact fz
def aAl:GN 164 [.of (.lit (.int .i64 3))] [.of (slC cM [[124,124]]),.of (slC aaB [10])]:=by
 refine bB aoF ?_
 simp only[↓zA,sevalprocAttr,aqf]
 all_goals exact fz
def aAk:GN 164 [.of (.lit (.int .i64 4))] [.of (slC cM [[43],[45]]),.of (slC aaB [5,6])]:=by
 refine bB aoF ?_
 simp only[↓zA,sevalprocAttr,aqf,zBS]
 all_goals exact fz
def aAj:GN 164 [.of (.lit (.int .i64 5))] [.of (slC cM [[42],[47],[37]]),.of (slC aaB [7,8,9])]:=by
 refine bB aoF ?_
 simp only[↓zA,sevalprocAttr,aqf,zBS]
 all_goals exact fz
abbrev abs:X:=.of (.sl [] 0)
abbrev aP2(a:Xp):List X:=[.of (ci a.op),.of (ci a.v.k),.of (ci a.v.n),.of (aJ a.v.s),.of (aJ (aM a.tb)),.of (aJ (aM a.nm)),.of (cb a.di),.of (slC xpC a.ks),.of (slC qyC a.sb)]
abbrev aA4:List X:=[.of (ci 0),.of (ci 0),.of (ci 0),.of (aJ {data:=#[]}),.of (aJ {data:=#[]}),.of (aJ {data:=#[]}),.of (cb false),.nil,.nil]
structure PD (l:List Tn) (F:Fs):Prop where
 tl:TL l
 fp:FP l F
 or:∀ i r,i<=l.length->F.or i []=some r->GD 33 [tkX l,au i,abs] l xpE i r
 orp:∀ i x cs r,cs=xpC x->i<=l.length->F.or i [x]=some r->GD 33 [tkX l,au i,.of (.sl cs 1)] l xpE i r
 no:∀ i r,i<=l.length->F.no i=some r->GD 162 [tkX l,au i,abs] l xpE i r
 un:∀ i r,i<=l.length->F.un i=some r->GD 163 [tkX l,au i,abs] l xpE i r
 qy:∀ i r,i<=l.length->F.qy i []=some r->GD 40 [tkX l,au i,abs] l qyE i r
 qyp:∀ i x cs r,cs=qyC x->i<=l.length->F.qy i [x]=some r->GD 40 [tkX l,au i,.of (.sl cs 1)] l qyE i r
 ins:∀ i r,i<=l.length->F.ins i=some r->GD 307 [tkX l,au i] l thE i r
 fr:∀ i r,i<=l.length->F.fr i []=some r->GD 299 [tkX l,au i,abs] l fmE i r
 frp:∀ i x cs r,cs=fmC x->i<=l.length->F.fr i [x]=some r->GD 299 [tkX l,au i,.of (.sl cs 1)] l fmE i r
 so:∀ i r,i<=l.length->F.so i=some r->GD 331 [tkX l,au i] l thE i r
def opV(l:List Tn)(i:Nat)(a:Int):List (List UInt8×Int)->Int
 | []=>a
 | (w,o)::r=>opV l i (if isT l i w=true then o else a) r
theorem aAd(l:List Tn)(i:Nat):∀ (so:List (List UInt8×Int)) (a:Int) (p:List UInt8×Int),opV l i a (so++[p])=if isT l i p.1=true then p.2 else opV l i a so
 | [],a,(w,o)=>rfl
 | (v,k)::r,a,p=>by
  show opV l i _ (r++[p])=_
  rw[aAd l i r]
  rfl
def aHX(l:List Tn)(i:Nat)(a:Int){so:List (List UInt8×Int)}{k:Nat}(h:k<so.length):opV l i a (so.take (k+1))=if isT l i so[k].1=true then so[k].2 else opV l i a (so.take k):=by
 rw[acM,aO h,ad9,aAd]
theorem awq{l:List Tn}{i:Nat}{o:Int}:∀ {so:List (List UInt8×Int)},(∀ p∈so,isT l i p.1=true->p.2=o)->opV l i o so=o
 | [],_=>rfl
 | (w,k)::r,h=>by
  unfold opV
  have h2:=awq (so:=r) λp hp=>h p (dR _ hp)
  split
  .rename_i c;have e:k=o:=h (w,k) abp c;rw[e];exact h2
  .exact h2
theorem aET{l:List Tn}{i:Nat}:∀ {so:List (List UInt8×Int)} {o a:Int},(∀ p∈so,∀ q∈so,p.1=q.1->p.2=q.2)->opT l i so=some o->opV l i a so=o
 | [],_,_,_,h=>by cases h
 | (w,k)::r,o,a,hu,h=>by
  unfold opT at h
  unfold opV
  split at h
  .rename_i c
   cases h
   rw[aE c]
   refine awq λp hp hi=>?_
   refine hu p (dR _ hp) (w,k) abp ?_
   rcases Decidable.em (p.1=w) with e|e
   .exact e
   .rw[ae3 c _ e] at hi;cases hi
  .rename_i c
   rw[aA c]
   exact aET (λp hp q hq=>hu p (dR _ hp) q (dR _ hq)) h
theorem asB{l:List Tn}{i:Nat}:∀ {so:List (List UInt8×Int)},bF l i (so.map (·.1))=(opT l i so).isSome
 | []=>rfl
 | (w,k)::r=>by
  unfold opT
  show (isT l i w||bF l i (r.map (·.1)))=_
  rw[asB]
  cases isT l i w <;> rfl
def agb:=ai (hU @Tryz.f69.eq_1 @zq @aVo @aVn @aXs @aZ @cW) (hU @cO @afQ @Q9 @P3 @Q3 @zT0 (kf apU))
def abP{l:List Tn}(hl:l.length<LB)(n m:Int)(h2:(n=2)=False)(h6:(n=6)=False)(hm:IntKind.i64.wrap (n+1)=m)(nx:Nat->List Xp->Rz Xp)(so:List (List UInt8×Int))(hn:so.length<=8)(hu:∀ p∈so,∀ q∈so,p.1=q.1->p.2=q.2)
  (hlev:GN 164 [au n] [.of (slC cM (so.map (·.1))),.of (slC aaB (so.map (·.2)))])
  (N:∀ i r,i<=l.length->nx i []=some r->GD 69 [tkX l,au i,au m,abs] l xpE i r) (i:Nat) (pre:List Xp) (pc:C) (r:Xp×Nat×Bool) (hi:i<=l.length)
  (Np:∀ r,nx i pre=some r->GD 69 [tkX l,au i,au m,.of pc] l xpE i r) (hr:agT nx l so i pre=some r):GD 69 [tkX l,au i,au n,.of pc] l xpE i r:=by
 have kl:=λK=>aF.k hlev K
 unfold agT at hr
 cases e1:nx i pre with
 | none=>rw[e1] at hr;cases hr
 | some q =>
 have g:=Np _ e1
 obtain⟨a,j,q⟩:=q
 obtain⟨u,v⟩:=g.1
 dsimp only at u v
 rw[e1] at hr
 have hls:((so.map (·.1)).length:Int)=(so.length:Int):=by rw[bM]
 cases q with
 | true =>
  have k:=g.bad
  cases hr
  refine⟨⟨u,v⟩,?_⟩
  refine bB apU ?_
  simp only[↓zA,sevalprocAttr,agb,ca,h2,h6,hm,k,kl]
  rw[ajA]
  simp only[↓zA,sevalprocAttr,agb,cR,ce]
  all_goals exact fz
 | false =>
 have k:=g.ok
 simp only[Rz.on] at hr
 have P:j<=r.2.1/\r.2.1<=l.length:=Pl.at (awV (nx:=nx) (λ{i} h a j b e=>(N i (a,j,b) h e).1) so _ _ v) hr
 refine⟨⟨by omega,P.2⟩,?_⟩
 refine bB apU ?_
 simp only[↓zA,sevalprocAttr,agb,ca,h2,h6,hm,k,kl]
 have hlm:(so.map (·.1)).length<=64:=by rw[bM];omega
 refine eT _ _ (λk s=>∃ (a:Xp) (j:Nat) (q:Bool),s.fr 0=tkX l/\s.fr 1=au j/\s.fr 2=au n/\s.fr 8=.ptr 0 0/\s.fr 11=.ptr 1 0/\s.fr 12=au (adz l j q)/\s.fr 13=.of (slC cM (so.map (·.1)))/\s.fr 14=.of (slC aaB (so.map (·.2)))/\s.objs=[.var 28 aA4,.var 28 (aP2 a)]/\(if q=true then r=(a,j,true) else afj nx l so k a j=some r)/\j<=l.length) ?_ (l.length+1) _ ?_
 .rintro k ⟨frn,obn,ckn⟩ ⟨a,j,q,f0,f1,f2,f8,f11,f12,f13,f14,fo,E,hj⟩
  dsimp only at f0 f1 f2 f8 f11 f12 f13 f14 fo
  cases q with
  | true =>
   simp only[ah] at E
   subst E
   simp only[↓zA,sevalprocAttr,agb,f1,f8,f11,f12,fo,ce,cR]
   all_goals exact fz
  | false =>
  simp only[ab,ap] at E
  cases k with
  | zero=>simp only[afj] at E;cases E
  | succ k =>
  unfold afj at E
  cases c:opT l j so with
  | none =>
   have kO:=dO l j (so.map (·.1)) hl aC hlm (b:=false) (by rw[asB,c];rfl)
   rw[c] at E
   cases E
   simp only[↓zA,sevalprocAttr,agb,f0,f1,f8,f11,f12,f13,fo,bx,kO]
   all_goals exact fz
  | some o =>
   have kO:=dO l j (so.map (·.1)) hl aC hlm (b:=true) (by rw[asB,c];rfl)
   have hj1:=alk c
   have hw:=aW j (by unfold LB at hl;omega)
   have hop:=aET (a:=0) hu c
   rw[c] at E
   simp only[↓zA,sevalprocAttr,agb,f0,f1,f12,f13,fo,bx,kO]
   refine ew so.length (λk s=>s.fr 0=tkX l/\s.fr 1=au j/\s.fr 2=au n/\s.fr 8=.ptr 0 0/\s.fr 11=.ptr 1 0/\s.fr 13=.of (slC cM (so.map (·.1)))/\s.fr 14=.of (slC aaB (so.map (·.2)))/\s.fr 15=au (opV l j 0 (so.take k))/\s.fr 16=au k/\s.objs=[.var 28 aA4,.var 28 (aP2 a)]) ?_ ?_
   .simp only[↓zA,sevalprocAttr,agb,f0,f1,f2,f8,f11,f13,f14]
    try exact⟨rfl,rfl⟩
    try rfl
   rintro k' ⟨frk,obk,ckk⟩ hk' ⟨g0,g1,g2,g8,g11,g13,g14,g15,g16,go⟩
   dsimp only at g0 g1 g2 g8 g11 g13 g14 g15 g16 go
   rcases av k' so.length with dk|dk
   .have hw':=aW k' aC
    have gx:aaJ (so.map (·.1)) (k':Int)=some so[k'].1:=by rw[bu (by rw[bM];exact dk),aaw]
    have gy:aaJ (so.map (·.2)) (k':Int)=some so[k'].2:=by rw[bu (by rw[bM];exact dk),aaw]
    have ht:=aHX l j 0 dk
    generalize so[k']=p at gx gy ht
    obtain⟨w,oo⟩:=p
    dsimp only at gx gy ht
    have kt:=λK=>aF.k (afX l j w) K
    cases c2:isT l j w with
    | true =>
     rw[c2] at kt ht
     simp only[ah] at ht
     simp only[↓zA,sevalprocAttr,agb,aK,g0,g1,g2,g8,g11,g13,g14,g16,go,dk,gx,gy,hw',kt]
     first|exact⟨dk,by rw[ht]⟩|(rw[ht])
    | false =>
     rw[c2] at kt ht
     simp only[ab,ap] at ht
     simp only[↓zA,sevalprocAttr,agb,aK,g0,g1,g2,g8,g11,g13,g14,g15,g16,go,dk,gx,hw',kt]
     first|exact⟨dk,by rw[ht]⟩|(rw[ht])
   have ek:k'=so.length:=by omega
   subst ek
   rw[aeN,hop] at g15
   cases e2:nx (j+1) [] with
   | none=>rw[e2] at E;cases E
   | some r2 =>
   have g':=N (j+1) _ hj1 e2
   obtain⟨y,j2,q2⟩:=r2
   obtain⟨u2,v2⟩:=g'.1
   dsimp only at u2 v2
   rw[e2] at E
   cases q2 with
   | true =>
    have k2:=g'.bad
    cases E
    simp only[↓zA,sevalprocAttr,agb,aK,bg,g0,g1,g2,g8,g11,g13,g14,g15,g16,go,hw,hm,k2,zTw]
    all_goals refine⟨k,aD k,eF o [a,y],j2,true,rfl,rfl,?_,by simp only[ah],v2⟩
    all_goals exact fz
   | false =>
    have k2:=g'.ok
    simp only[Rz.on] at E
    simp only[↓zA,sevalprocAttr,agb,aK,bg,g0,g1,g2,g8,g11,g13,g14,g15,g16,go,hw,hm,k2,zTw]
    refine⟨k,aD k,eF o [a,y],j2,false,rfl,rfl,?_,by simp only[ab,ap];exact E,v2⟩
    all_goals exact fz
 .simp only[↓zA,sevalprocAttr,agb]
  exact⟨a,j,false,rfl,rfl,rfl,by simp only[ab,ap];exact hr,v⟩
def aTM:=hJ @zq @aXw @adS @zT0 (kf aLP)
def aN6(n:Int)(K:An->Prop):cKp 308 [.of (.lit (.int .i64 n))] [] K↔K ⟨false,[.of (.agg [ci 2,ci n,aJ {data:=#[]}])],[]⟩:=by
 refine aF.k ?_ K
 refine bB aLP ?_
 simp only[Tryz.f308,↓zA,sevalprocAttr,aTM]
 all_goals exact fz
def aTL:=hJ @zq @aXj @adS @zT0 (kf aLO)
def aN5(s:ByteArray)(K:An->Prop):cKp 309 [.of (.lit (.string s))] [] K↔K ⟨false,[.of (.agg [ci 3,ci 0,aJ s])],[]⟩:=by
 refine aF.k ?_ K
 refine bB aLO ?_
 simp only[Tryz.f309,↓zA,sevalprocAttr,aTL]
 all_goals exact fz
def aKr:=hM @Tryz.f310.eq_1 @zq @aXd @adS @zT0 (kf aCy)
def agZ(K:An->Prop):cKp 310 [.of (.lit (.bool true))] [] K↔K ⟨false,[.of (.agg [ci 1,ci 1,aJ {data:=#[]}])],[]⟩:=by
 refine aF.k ?_ K
 refine bB aCy ?_
 simp only[↓zA,sevalprocAttr,aKr]
 all_goals exact fz
def ag0(K:An->Prop):cKp 310 [.of (.lit (.bool false))] [] K↔K ⟨false,[.of (.agg [ci 1,ci 0,aJ {data:=#[]}])],[]⟩:=by
 refine aF.k ?_ K
 refine bB aCy ?_
 simp only[↓zA,sevalprocAttr,aKr]
 all_goals exact fz
def adG(l:List Tn)(i:Nat):V×Bool:=match ab4 l i with
 | some v=>(v,true)
 | none=>(v0,false)
def anX:=ai (hM @Tryz.f289.eq_1 @zq @aWK @adS @cW @fH) (hJ @P3 @Q3 @Q9 @zT0 (kf amp))
def apx(l:List Tn)(hl:l.length<LB)(i:Nat)(hi:i<=l.length):GN 289 [tkX l,au i] [.of (.agg (aeG (adG l i).1)),aN (adG l i).2]:=by
 have hw_i:IntKind.i64.wrap (((i:Nat):Int)+1)=((i+1:Nat):Int):=aW (i) (by unfold LB at hl;omega)
 rcases aZa l (i) hl with ⟨c1,b1,t1,x1⟩|⟨c1,t1⟩
 .have gx:=gL (l:=l) (i:=i) aC
  have ec:adG l i=(⟨2,nuT l i,ByteArray.empty⟩,true):=by simp only[adG,ab4,c1,sevalprocAttr]
  rw[ec]
  refine bB amp ?_
  simp only[↓zA,sevalprocAttr,anX,aQ,aZ,aN6,agZ,ag0,t1,gx,abA]
  all_goals exact fz
 rcases aY9 l (i) hl with ⟨c2,b2,t2,x2⟩|⟨c2,t2⟩
 .have gx:=gL (l:=l) (i:=i) aC
  have ec:adG l i=(⟨3,0,aM (txT l i)⟩,true):=by simp only[adG,ab4,c1,c2,sevalprocAttr,ab]
  rw[ec]
  refine bB amp ?_
  simp only[↓zA,sevalprocAttr,anX,aQ,aZ,aN5,agZ,ag0,t1,t2,gx,acW]
  all_goals exact fz
 rcases gWX l (i) [116,114,117,101] hl with ⟨c3,b3,t3,x3⟩|⟨c3,t3⟩
 .have ec:adG l i=(⟨1,1,ByteArray.empty⟩,true):=by simp only[adG,ab4,c1,c2,c3,sevalprocAttr,ab]
  rw[ec]
  refine bB amp ?_
  simp only[↓zA,sevalprocAttr,anX,aQ,aZ,agZ,ag0,t1,t2,t3]
  all_goals exact fz
 rcases gWX l (i) [102,97,108,115,101] hl with ⟨c4,b4,t4,x4⟩|⟨c4,t4⟩
 .have ec:adG l i=(⟨1,0,ByteArray.empty⟩,true):=by simp only[adG,ab4,c1,c2,c3,c4,sevalprocAttr,ab]
  rw[ec]
  refine bB amp ?_
  simp only[↓zA,sevalprocAttr,anX,aQ,aZ,agZ,ag0,t1,t2,t3,t4]
  all_goals exact fz
 rcases gWX l (i) [110,117,108,108] hl with ⟨c5,b5,t5,x5⟩|⟨c5,t5⟩
 .have ec:adG l i=(v0,true):=by simp only[adG,ab4,c1,c2,c3,c4,c5,sevalprocAttr,ab]
  rw[ec]
  refine bB amp ?_
  simp only[↓zA,sevalprocAttr,anX,aQ,aZ,agZ,ag0,t1,t2,t3,t4,t5]
  all_goals exact fz
 .have ec:adG l i=(v0,false):=by simp only[adG,ab4,c1,c2,c3,c4,c5,sevalprocAttr,ab]
  rw[ec]
  refine bB amp ?_
  simp only[↓zA,sevalprocAttr,anX,aQ,aZ,agZ,ag0,t1,t2,t3,t4,t5]
  all_goals exact fz
def aTS:=ai (ib @zq @aWO @aWN @afk @anR @anQ @ahf @ahc @ahe) (hZ @ahb @ahd @aha @ag9 @ag8 @cW @zT0 (kf aL0))
def amH{l:List Tn}{F:Fs}(hl:l.length<LB)(H:PD l F)(i:Nat)(r:Th×Nat×Bool)(hi:i<=l.length)(h1:i+1<=l.length)(hr:ah9 F l i=some r):GD 290 [tkX l,au i] l thE i r:=by
 refine⟨Pl.at (alh H.fp h1) hr,?_⟩
 have hw_i:IntKind.i64.wrap (((i:Nat):Int)+1)=((i+1:Nat):Int):=aW (i) (by unfold LB at hl;omega)
 rcases gR (F.ins (i+1)) λ_=>H.ins _ _ aC with e1|⟨a1,j1,e1,⟨u1,v1⟩,k1⟩|⟨a1,j1,e1,⟨u1,v1⟩,k1⟩
 rotate_left 2
 have hw_j1:IntKind.i64.wrap (((j1:Nat):Int)+1)=((j1+1:Nat):Int):=aW (j1) (by unfold LB at hl;omega)
 rcases gW l (j1) [41] hl with ⟨c2,b2,t2⟩|⟨c2,t2⟩
 rotate_left 2
 all_goals (simp only[ah9,zRZ,sevalprocAttr,↓reduceIte, *] at hr <;> cases hr <;> (refine bB aL0 ?_;simp only[Tryz.f290,↓zA,sevalprocAttr,aTS,ca,cR,bx,ce,aQ,aZ,bi,bG,ahP, *];all_goals exact fz))
def akg:=ib @Tryz.f189.eq_1 @zq @aWj @aWi @aZ @cW @cX @zT0 (kf aCH)
def abU{l:List Tn}{F:Fs}(hl:l.length<LB)(H:PD l F)(i:Nat)(r:List Xp×Nat×Bool)(hi:i<=l.length)(hr:aag F l i=some r):GD 189 [tkX l,au i] l xsE i r:=by
 refine⟨Pl.at (ajV H.fp hi) hr,?_⟩
 unfold aag at hr
 cases e1:F.or i [] with
 | none=>rw[e1] at hr;cases hr
 | some q =>
 have g:=H.or i _ hi e1
 obtain⟨a,j,q⟩:=q
 obtain⟨u,v⟩:=g.1
 dsimp only at u v
 rw[e1] at hr
 cases q with
 | true =>
  have k:=g.bad
  cases hr
  refine bB aCH ?_
  simp only[↓zA,sevalprocAttr,akg,ca,k]
  rw[ajA]
  simp only[↓zA,sevalprocAttr,akg,cR,ce]
  all_goals exact fz
 | false =>
 have k:=g.ok
 simp only[Rz.on] at hr
 refine bB aCH ?_
 simp only[↓zA,sevalprocAttr,akg,ca,k]
 refine eT _ _ (λn s=>∃ (ks:List Xp) (j:Nat) (q:Bool),s.fr 0=tkX l/\s.fr 1=au j/\s.fr 8=au (adz l j q)/\(∃ c x i,c<s.clk/\s.fr 9=.own (.nm c x i) 28 9 (fl xpC ks) ks.length)/\s.objs=[]/\(if q=true then r=(ks,j,true) else ac0 F l n ks j=some r)/\j<=l.length/\(q=false->ks.length<=j+1)) ?_ (l.length+1) _ ?_
 .rintro n ⟨frn,obn,ckn⟩ ⟨ks,j,q,f0,f1,f8,⟨c,x,i',hc,f9⟩,fo,E,hj,hk⟩
  dsimp only at f0 f1 f8 hc f9 fo
  cases q with
  | true =>
   simp only[ah] at E
   subst E
   simp only[↓zA,sevalprocAttr,akg,f1,f8,f9,fo,ce,cR]
   all_goals exact fz
  | false =>
  simp only[ab,ap] at E
  have hk:=hk rfl
  cases n with
  | zero=>simp only[ac0] at E;cases E
  | succ n =>
  unfold ac0 at E
  have hne:(c=ckn+1)=False:=aj aC
  cases c1:isT l j [44] with
  | false =>
   have t1:=dF l j [44] hl aC c1
   rw[c1] at E
   cases E
   simp only[↓zA,sevalprocAttr,akg,f0,f1,f8,f9,fo,bx,t1]
   all_goals exact fz
  | true =>
   have hj1:=aa5 c1
   have t1:=dT l j [44] hl c1
   have hw:=aW j (by unfold LB at hl;omega)
   rw[c1] at E
   simp only[ah] at E
   cases e2:F.or (j+1) [] with
   | none=>rw[e2] at E;cases E
   | some r2 =>
   have g':=H.or (j+1) _ hj1 e2
   obtain⟨y,j2,q2⟩:=r2
   obtain⟨u2,v2⟩:=g'.1
   dsimp only at u2 v2
   rw[e2] at E
   cases q2 with
   | true =>
    have k2:=g'.bad
    cases E
    simp only[↓zA,sevalprocAttr,akg,f0,f1,f8,f9,fo,bx,t1,hw,k2,hne]
    and_intros
    all_goals first|exact okN _ _ aC _|exact⟨n,aD n,ks++[y],j2,true,rfl,rfl,akY (by rw[ch]) rfl aC,by simp only[ah],v2,λh=>by cases h⟩|(unfold LIM;unfold LB at hl;omega)|rfl
   | false =>
    have k2:=g'.ok
    simp only[Rz.on] at E
    simp only[↓zA,sevalprocAttr,akg,f0,f1,f8,f9,fo,bx,t1,hw,k2,hne]
    and_intros
    all_goals first|exact okN _ _ aC _|exact⟨n,aD n,ks++[y],j2,false,rfl,rfl,akY (by rw[ch]) rfl aC,by simp only[ab,ap];exact E,v2,λ_=>by rw[bp];simp only[fZ];omega⟩|(unfold LIM;unfold LB at hl;omega)|rfl
 .simp only[↓zA,sevalprocAttr,akg]
  exact⟨[a],j,false,rfl,rfl,anb (by rw[agu,ch]) rfl aC,by simp only[ab,ap];exact hr,v,λ_=>by simp only[fZ];omega⟩
def aTR:=ib @zq @aWm @aWl @aWk @aZ @cW @cX @zT0 (kf aLY)
def awe{l:List Tn}{F:Fs}(hl:l.length<LB)(H:PD l F)(f:List UInt8)(i:Nat)(r:Xp×Nat×Bool)(hi:i<=l.length)(hr:callS F l i f=some r):GD 293 [tkX l,au i,.of (aJ (aM f))] l xpE i r:=by
 refine⟨Pl.at (ap3 H.fp hi) hr,?_⟩
 have hcount:(aM f=({data:=#[99,111,117,110,116]}:ByteArray))=(f=[99,111,117,110,116]):=cQ _ _
 have hsum:(aM f=({data:=#[115,117,109]}:ByteArray))=(f=[115,117,109]):=cQ _ _
 have hmin:(aM f=({data:=#[109,105,110]}:ByteArray))=(f=[109,105,110]):=cQ _ _
 have hmax:(aM f=({data:=#[109,97,120]}:ByteArray))=(f=[109,97,120]):=cQ _ _
 rcases bk (f=[99,111,117,110,116]) with d1|d1
 have hw_i:IntKind.i64.wrap (((i:Nat):Int)+1)=((i+1:Nat):Int):=aW (i) (by unfold LB at hl;omega)
 rcases gWX l (i) [42] hl with ⟨c2,b2,t2,x2⟩|⟨c2,t2⟩
 have hw_i_1:IntKind.i64.wrap (((i+1:Nat):Int)+1)=((i+2:Nat):Int):=aW (i+1) (by unfold LB at hl;omega)
 rcases gWX l (i+1) [41] hl with ⟨c3,b3,t3,x3⟩|⟨c3,t3⟩
 rotate_left 2
 rcases gWX l (i) [100,105,115,116,105,110,99,116] hl with ⟨c4,b4,t4,x4⟩|⟨c4,t4⟩
 rcases gR (F.or (i+1) []) λ_=>H.or _ _ aC with e5|⟨a5,j5,e5,⟨u5,v5⟩,k5⟩|⟨a5,j5,e5,⟨u5,v5⟩,k5⟩
 rotate_left 2
 have hw_j5:IntKind.i64.wrap (((j5:Nat):Int)+1)=((j5+1:Nat):Int):=aW (j5) (by unfold LB at hl;omega)
 rcases gWX l (j5) [41] hl with ⟨c6,b6,t6,x6⟩|⟨c6,t6⟩
 rotate_left 2
 rcases gR (F.or i []) λ_=>H.or _ _ aC with e7|⟨a7,j7,e7,⟨u7,v7⟩,k7⟩|⟨a7,j7,e7,⟨u7,v7⟩,k7⟩
 rotate_left 2
 have hw_j7:IntKind.i64.wrap (((j7:Nat):Int)+1)=((j7+1:Nat):Int):=aW (j7) (by unfold LB at hl;omega)
 rcases gWX l (j7) [41] hl with ⟨c8,b8,t8,x8⟩|⟨c8,t8⟩
 rotate_left 2
 rcases bk (f=[115,117,109]) with d9|d9
 have hw_i:IntKind.i64.wrap (((i:Nat):Int)+1)=((i+1:Nat):Int):=aW (i) (by unfold LB at hl;omega)
 rcases gWX l (i) [100,105,115,116,105,110,99,116] hl with ⟨c10,b10,t10,x10⟩|⟨c10,t10⟩
 rcases gR (F.or (i+1) []) λ_=>H.or _ _ aC with e11|⟨a11,j11,e11,⟨u11,v11⟩,k11⟩|⟨a11,j11,e11,⟨u11,v11⟩,k11⟩
 rotate_left 2
 have hw_j11:IntKind.i64.wrap (((j11:Nat):Int)+1)=((j11+1:Nat):Int):=aW (j11) (by unfold LB at hl;omega)
 rcases gWX l (j11) [41] hl with ⟨c12,b12,t12,x12⟩|⟨c12,t12⟩
 rotate_left 2
 rcases gR (F.or i []) λ_=>H.or _ _ aC with e13|⟨a13,j13,e13,⟨u13,v13⟩,k13⟩|⟨a13,j13,e13,⟨u13,v13⟩,k13⟩
 rotate_left 2
 have hw_j13:IntKind.i64.wrap (((j13:Nat):Int)+1)=((j13+1:Nat):Int):=aW (j13) (by unfold LB at hl;omega)
 rcases gWX l (j13) [41] hl with ⟨c14,b14,t14,x14⟩|⟨c14,t14⟩
 rotate_left 2
 rcases bk (f=[109,105,110]) with d15|d15
 have hw_i:IntKind.i64.wrap (((i:Nat):Int)+1)=((i+1:Nat):Int):=aW (i) (by unfold LB at hl;omega)
 rcases gWX l (i) [100,105,115,116,105,110,99,116] hl with ⟨c16,b16,t16,x16⟩|⟨c16,t16⟩
 rcases gR (F.or (i+1) []) λ_=>H.or _ _ aC with e17|⟨a17,j17,e17,⟨u17,v17⟩,k17⟩|⟨a17,j17,e17,⟨u17,v17⟩,k17⟩
 rotate_left 2
 have hw_j17:IntKind.i64.wrap (((j17:Nat):Int)+1)=((j17+1:Nat):Int):=aW (j17) (by unfold LB at hl;omega)
 rcases gWX l (j17) [41] hl with ⟨c18,b18,t18,x18⟩|⟨c18,t18⟩
 rotate_left 2
 rcases gR (F.or i []) λ_=>H.or _ _ aC with e19|⟨a19,j19,e19,⟨u19,v19⟩,k19⟩|⟨a19,j19,e19,⟨u19,v19⟩,k19⟩
 rotate_left 2
 have hw_j19:IntKind.i64.wrap (((j19:Nat):Int)+1)=((j19+1:Nat):Int):=aW (j19) (by unfold LB at hl;omega)
 rcases gWX l (j19) [41] hl with ⟨c20,b20,t20,x20⟩|⟨c20,t20⟩
 rotate_left 2
 rcases bk (f=[109,97,120]) with d21|d21
 have hw_i:IntKind.i64.wrap (((i:Nat):Int)+1)=((i+1:Nat):Int):=aW (i) (by unfold LB at hl;omega)
 rcases gWX l (i) [100,105,115,116,105,110,99,116] hl with ⟨c22,b22,t22,x22⟩|⟨c22,t22⟩
 rcases gR (F.or (i+1) []) λ_=>H.or _ _ aC with e23|⟨a23,j23,e23,⟨u23,v23⟩,k23⟩|⟨a23,j23,e23,⟨u23,v23⟩,k23⟩
 rotate_left 2
 have hw_j23:IntKind.i64.wrap (((j23:Nat):Int)+1)=((j23+1:Nat):Int):=aW (j23) (by unfold LB at hl;omega)
 rcases gWX l (j23) [41] hl with ⟨c24,b24,t24,x24⟩|⟨c24,t24⟩
 rotate_left 2
 rcases gR (F.or i []) λ_=>H.or _ _ aC with e25|⟨a25,j25,e25,⟨u25,v25⟩,k25⟩|⟨a25,j25,e25,⟨u25,v25⟩,k25⟩
 rotate_left 2
 have hw_j25:IntKind.i64.wrap (((j25:Nat):Int)+1)=((j25+1:Nat):Int):=aW (j25) (by unfold LB at hl;omega)
 rcases gWX l (j25) [41] hl with ⟨c26,b26,t26,x26⟩|⟨c26,t26⟩
 rotate_left 2
 have hw_i:IntKind.i64.wrap (((i:Nat):Int)+1)=((i+1:Nat):Int):=aW (i) (by unfold LB at hl;omega)
 rcases gWX l (i) [41] hl with ⟨c27,b27,t27,x27⟩|⟨c27,t27⟩
 rotate_left
 rcases gR (aag F l i) λ_=>abU hl H _ _ aC with e28|⟨a28,j28,e28,⟨u28,v28⟩,k28⟩|⟨a28,j28,e28,⟨u28,v28⟩,k28⟩
 rotate_left 2
 have hw_j28:IntKind.i64.wrap (((j28:Nat):Int)+1)=((j28+1:Nat):Int):=aW (j28) (by unfold LB at hl;omega)
 rcases gWX l (j28) [41] hl with ⟨c29,b29,t29,x29⟩|⟨c29,t29⟩
 rotate_left 2
 all_goals (simp only[Go.Tab.callS,ap8,aJ2,aY,cf,aH,zRZ,sevalprocAttr,↓reduceIte, *] at hr <;> cases hr <;> (refine bB aLY ?_;simp only[Tryz.f293,↓zA,sevalprocAttr,aTR,ca,cR,bx,ce,aQ,aZ, *];all_goals exact fz))
def CaD(K:X)(ks:List Xp):Prop:=(K=.nil/\ks=[])\/K=.own (.cell 0 7) 28 9 (fl xpC ks) ks.length
abbrev aJO(K:X):List X:=[.of (ci 23),.of (ci 0),.of (ci 0),.of (aJ {data:=#[]}),.of (aJ {data:=#[]}),.of (aJ {data:=#[]}),.of (cb false),K,.nil]
def acp:=ai (hU @Tryz.f292.eq_1 @zq @aWv @aWu @aYW @aWr @aWo) (hM @aWn @aZ @cW @cX @zT0 (kf aCA))
def aug{l:List Tn}{F:Fs}(hl:l.length<LB)(H:PD l F)(i:Nat)(r:Xp×Nat×Bool)(hi:i<=l.length)(hr:af7 F l i=some r):GD 292 [tkX l,au i] l xpE i r:=by
 refine⟨Pl.at (axJ H.fp hi) hr,?_⟩
 unfold af7 at hr
 cases c0:isT l i [119,104,101,110] with
 | false =>
  have t0:=dF l i [119,104,101,110] hl aC c0
  simp only[c0,ab,ap] at hr
  cases hr
  refine bB aCA ?_
  simp only[↓zA,sevalprocAttr,acp,ca,t0,acD,ce,aQ,aZ]
  all_goals exact fz
 | true =>
 have t0:=dT l i [119,104,101,110] hl c0
 simp only[c0,ah] at hr
 refine bB aCA ?_
 simp only[↓zA,sevalprocAttr,acp,t0]
 refine eT _ _ (λn s=>∃ (ks:List Xp) (j:Nat) (K:X),CaD K ks/\1<s.clk/\s.fr 0=tkX l/\s.fr 1=au j/\s.fr 4=.nw (some (.nm 1 0 0)) 28 9/\s.fr 7=.ptr 0 0/\s.objs=[.var 28 (aJO K)]/\abM F l n ks j=some r/\j<=l.length/\ks.length<=j) ?_ (l.length+1) _ ?_
 .rintro n ⟨frn,obn,ckn⟩ ⟨ks,j,K,hK,hc,f0,f1,f4,f7,fo,E,hj,hk⟩
  dsimp only at hc f0 f1 f4 f7 fo
  have hz0:(1=ckn)=False:=aj aC
  have hz1:(1=ckn+1)=False:=aj aC
  have hz2:(1=ckn+1+1)=False:=aj aC
  have hz3:(ckn=0)=False:=aj aC
  cases n with
  | zero=>simp only[abM] at E;cases E
  | succ n =>
  have hk1:(ks.length+1<=LIM)=True:=aa (by unfold LIM;unfold LB at hl;omega)
  have hw_j:IntKind.i64.wrap (((j:Nat):Int)+1)=((j+1:Nat):Int):=aW (j) (by unfold LB at hl;omega)
  rcases gWX l (j) [119,104,101,110] hl with ⟨c1,b1,t1,x1⟩|⟨c1,t1⟩
  rcases gR (F.or (j+1) []) λ_=>H.or _ _ aC with e2|⟨a2,j2,e2,⟨u2,v2⟩,k2⟩|⟨a2,j2,e2,⟨u2,v2⟩,k2⟩
  rotate_left
  .simp only[abM,zRZ,sevalprocAttr,↓reduceIte, *] at E
   cases E
   rcases hK with ⟨hK,hK'⟩|hK
   .subst hK hK'
    simp only[↓zA,sevalprocAttr,acp,ca,cR,ce,aQ,aZ,f0,f1,f4,f7,fo,ch,hz1,hw_j,t1,k2]
    all_goals exact fz
   .subst hK
    simp only[↓zA,sevalprocAttr,acp,ca,cR,ce,aQ,aZ,f0,f1,f4,f7,fo,ch,hz1,hw_j,t1,k2]
    all_goals exact fz
  have hw_j2:IntKind.i64.wrap (((j2:Nat):Int)+1)=((j2+1:Nat):Int):=aW (j2) (by unfold LB at hl;omega)
  rcases gWX l (j2) [116,104,101,110] hl with ⟨c3,b3,t3,x3⟩|⟨c3,t3⟩
  rcases gR (F.or (j2+1) []) λ_=>H.or _ _ aC with e4|⟨a4,j4,e4,⟨u4,v4⟩,k4⟩|⟨a4,j4,e4,⟨u4,v4⟩,k4⟩
  rotate_left
  .simp only[abM,zRZ,sevalprocAttr,↓reduceIte, *] at E
   cases E
   rcases hK with ⟨hK,hK'⟩|hK
   .subst hK hK'
    simp only[↓zA,sevalprocAttr,acp,ca,cR,ce,aQ,aZ,f0,f1,f4,f7,fo,ch,hz1,hw_j,t1,k2,t3,k4]
    all_goals exact fz
   .subst hK
    simp only[↓zA,sevalprocAttr,acp,ca,cR,ce,aQ,aZ,f0,f1,f4,f7,fo,ch,hz1,hw_j,t1,k2,t3,k4]
    all_goals exact fz
  .simp only[Rz.on,wantR,eE,ah,abM,c1,e2,c3,e4] at E
   have hk2:(ks.length+1+1<=LIM)=True:=aa (by unfold LIM;unfold LB at hl;omega)
   rcases hK with ⟨hK,hK'⟩|hK
   .subst hK hK'
    simp only[↓zA,sevalprocAttr,acp,zBS,aQ,aZ,f0,f1,f4,f7,fo,azX,ch,hz1,hw_j,t1,k2,t3,k4]
    refine⟨n,aD n,[a2,a4],j4,.own (.cell 0 7) 28 9 (fl xpC ([a2,a4])) ([a2,a4]).length,.inr rfl,by first|omega|(simp;done),rfl,?_,E,v4,by simp only[fZ];omega⟩
    simp only[aJO,eA,fJ,ch,fZ,aaW,aU]
    try rfl
   .subst hK
    simp only[↓zA,sevalprocAttr,acp,zBS,aQ,aZ,f0,f1,f4,f7,fo,gO,ch,hz1,hw_j,t1,k2,t3,k4,hk2]
    refine⟨n,aD n,ks++[a2,a4],j4,.own (.cell 0 7) 28 9 (fl xpC (ks++[a2,a4])) (ks++[a2,a4]).length,.inr rfl,by first|omega|(simp;done),rfl,?_,E,v4,by simp only[abQ];omega⟩
    simp only[aJO,alt,eA,fJ,ch,abQ,aaW,aU]
    try rfl
  .simp only[abM,zRZ,sevalprocAttr,↓reduceIte, *] at E
   cases E
   rcases hK with ⟨hK,hK'⟩|hK
   .subst hK hK'
    simp only[↓zA,sevalprocAttr,acp,ca,cR,ce,aQ,aZ,f0,f1,f4,f7,fo,ch,hz1,hw_j,t1,k2,t3]
    all_goals exact fz
   .subst hK
    simp only[↓zA,sevalprocAttr,acp,ca,cR,ce,aQ,aZ,f0,f1,f4,f7,fo,ch,hz1,hw_j,t1,k2,t3]
    all_goals exact fz
  rcases gWX l (j) [101,108,115,101] hl with ⟨c5,b5,t5,x5⟩|⟨c5,t5⟩
  rcases gR (F.or (j+1) []) λ_=>H.or _ _ aC with e6|⟨a6,j6,e6,⟨u6,v6⟩,k6⟩|⟨a6,j6,e6,⟨u6,v6⟩,k6⟩
  rotate_left
  .simp only[abM,af8,aeW,zRZ,sevalprocAttr,↓reduceIte, *] at E
   cases E
   rcases hK with ⟨hK,hK'⟩|hK
   .subst hK hK'
    simp only[↓zA,sevalprocAttr,acp,ca,cR,ce,aQ,aZ,f0,f1,f4,f7,fo,ch,hz2,hw_j,t1,t5,k6]
    all_goals exact fz
   .subst hK
    simp only[↓zA,sevalprocAttr,acp,ca,cR,ce,aQ,aZ,f0,f1,f4,f7,fo,ch,hz2,hw_j,t1,t5,k6]
    all_goals exact fz
  have hw_j6:IntKind.i64.wrap (((j6:Nat):Int)+1)=((j6+1:Nat):Int):=aW (j6) (by unfold LB at hl;omega)
  rcases gWX l (j6) [101,110,100] hl with ⟨c7,b7,t7,x7⟩|⟨c7,t7⟩
  .simp only[abM,af8,aeW,zRZ,sevalprocAttr,↓reduceIte, *] at E
   cases E
   rcases hK with ⟨hK,hK'⟩|hK
   .subst hK hK'
    simp only[↓zA,sevalprocAttr,acp,ca,bx,aQ,aZ,f0,f1,f4,f7,fo,aaS,ch,hz2,hw_j,t1,t5,k6,t7]
    all_goals exact fz
   .subst hK
    simp only[↓zA,sevalprocAttr,acp,ca,bx,aQ,aZ,f0,f1,f4,f7,fo,gO,hk1,ch,hz2,hw_j,t1,t5,k6,t7]
    all_goals exact fz
  .simp only[abM,af8,aeW,zRZ,sevalprocAttr,↓reduceIte, *] at E
   cases E
   rcases hK with ⟨hK,hK'⟩|hK
   .subst hK hK'
    simp only[↓zA,sevalprocAttr,acp,ca,ce,aQ,aZ,f0,f1,f4,f7,fo,aaS,ch,hz2,hw_j,t1,t5,k6,t7]
    all_goals exact fz
   .subst hK
    simp only[↓zA,sevalprocAttr,acp,ca,ce,aQ,aZ,f0,f1,f4,f7,fo,gO,hk1,ch,hz2,hw_j,t1,t5,k6,t7]
    all_goals exact fz
  rcases gWX l (j) [101,110,100] hl with ⟨c8,b8,t8,x8⟩|⟨c8,t8⟩
  .simp only[abM,af8,aeW,zRZ,sevalprocAttr,↓reduceIte, *] at E
   cases E
   rcases hK with ⟨hK,hK'⟩|hK
   .subst hK hK'
    simp only[↓zA,sevalprocAttr,acp,ca,bx,aQ,aZ,f0,f1,f4,f7,fo,t1,t5,t8]
    all_goals exact fz
   .subst hK
    simp only[↓zA,sevalprocAttr,acp,ca,bx,aQ,aZ,f0,f1,f4,f7,fo,t1,t5,t8]
    all_goals exact fz
  .simp only[abM,af8,aeW,zRZ,sevalprocAttr,↓reduceIte, *] at E
   cases E
   rcases hK with ⟨hK,hK'⟩|hK
   .subst hK hK'
    simp only[↓zA,sevalprocAttr,acp,ca,ce,aQ,aZ,f0,f1,f4,f7,fo,t1,t5,t8]
    all_goals exact fz
   .subst hK
    simp only[↓zA,sevalprocAttr,acp,ca,ce,aQ,aZ,f0,f1,f4,f7,fo,t1,t5,t8]
    all_goals exact fz
  all_goals (simp only[abM,af8,aeW,zRZ,sevalprocAttr,↓reduceIte, *] at E <;> cases E)
 .simp only[↓zA,sevalprocAttr,acp]
  exact⟨[],i,_,.inl ⟨rfl,rfl⟩,rfl,rfl,hr,hi,bn _⟩
def aBy{F:Fs}{l:List Tn}{i:Nat}(h:ab4 l i=none):aei F l i=if isT l i [40] then (ah9 F l i).to Th.val
  else if isT l i [99,97,115,101] then af7 F l (i+1)
  else if isT l i [101,120,105,115,116,115] then aiH F l i
  else if br l i 2 then
   if isT l (i+1) [40] then callS F l (i+2) (txT l i)
   else if isT l (i+1) [46] then some (ak3 (txT l i) (eZ l (i+2)).1,(eZ l (i+2)).2.1,(eZ l (i+2)).2.2)
   else some (ak3 [] (txT l i),i+1,false)
  else some (x0,i,true):=by unfold aei;rw[h]
def aBx{F:Fs}{l:List Tn}{i:Nat}{v:V}(h:ab4 l i=some v):aei F l i=some (.mk 1 v [] [] false [] [],i+1,false):=by unfold aei;rw[h]
def aC9{l:List Tn}{i:Nat}{v:V}(h:ab4 l i=some v):adG l i=(v,true):=by unfold adG;rw[h]
def aDa{l:List Tn}{i:Nat}(h:ab4 l i=none):adG l i=(v0,false):=by unfold adG;rw[h]
def azT(v:V):aeG v=[ci v.k,ci v.n,aJ v.s]:=rfl
def aKz:=hC (ib @Tryz.f252.eq_1 @zq @aWJ @aWI @aWH @aWD @adS @aZ @bi) (ib @cW @afk @anR @anQ @ahf @ahc @ahe @ahb @ahd) (hZ @aha @ag9 @ag8 @dm @fH @Q9 @zT0 (kf aCE))
def av5{l:List Tn}{F:Fs}(hl:l.length<LB)(H:PD l F)(i:Nat)(r:Xp×Nat×Bool)(hi:i<=l.length)(hr:aei F l i=some r):GD 252 [tkX l,au i] l xpE i r:=by
 refine⟨Pl.at (apy H.fp hi) hr,?_⟩
 have hw_i:IntKind.i64.wrap (((i:Nat):Int)+1)=((i+1:Nat):Int):=aW (i) (by unfold LB at hl;omega)
 have hw_i_1:IntKind.i64.wrap (((i+1:Nat):Int)+1)=((i+2:Nat):Int):=aW (i+1) (by unfold LB at hl;omega)
 have hw2:IntKind.i64.wrap ((i:Int)+2)=((i+2:Nat):Int):=by rw[cj _ aC (by unfold LB at hl;omega)];rfl
 have kc:=λK=>aF.k (apx l hl i hi) K
 cases cc:ab4 l i with
 | some v =>
  rw[aC9 cc] at kc
  rw[aBx cc] at hr
  cases hr
  refine bB aCE ?_
  simp only[↓zA,sevalprocAttr,aKz,ca,bx,aQ,aZ,bi,azT, *]
  all_goals exact fz
 | none =>
  rw[aDa cc] at kc
  rw[aBy cc] at hr
  rcases gWX l (i) [40] hl with ⟨c1,b1,t1,x1⟩|⟨c1,t1⟩
  rcases gR (ah9 F l i) λ_=>amH hl H _ _ aC aC with e2|⟨a2,j2,e2,⟨u2,v2⟩,k2⟩|⟨a2,j2,e2,⟨u2,v2⟩,k2⟩
  rotate_left 3
  rcases gWX l (i) [99,97,115,101] hl with ⟨c3,b3,t3,x3⟩|⟨c3,t3⟩
  rcases gR (af7 F l (i+1)) λ_=>aug hl H _ _ aC with e4|⟨a4,j4,e4,⟨u4,v4⟩,k4⟩|⟨a4,j4,e4,⟨u4,v4⟩,k4⟩
  rotate_left 3
  rcases gWX l (i) [101,120,105,115,116,115] hl with ⟨c5,b5,t5,x5⟩|⟨c5,t5⟩
  rcases gWX l (i+1) [40] hl with ⟨c6,b6,t6,x6⟩|⟨c6,t6⟩
  rcases gR (F.qy (i+2) []) λ_=>H.qy _ _ aC with e7|⟨a7,j7,e7,⟨u7,v7⟩,k7⟩|⟨a7,j7,e7,⟨u7,v7⟩,k7⟩
  rotate_left 2
  have hw_j7:IntKind.i64.wrap (((j7:Nat):Int)+1)=((j7+1:Nat):Int):=aW (j7) (by unfold LB at hl;omega)
  rcases gWX l (j7) [41] hl with ⟨c8,b8,t8,x8⟩|⟨c8,t8⟩
  rotate_left 3
  rcases aCj l (i) hl with ⟨c9,b9,t9,x9⟩|⟨c9,t9⟩
  have gx:=gL (l:=l) (i:=i) aC
  have hs:=(acW l i).symm
  rcases gWX l (i+1) [40] hl with ⟨c10,b10,t10,x10⟩|⟨c10,t10⟩
  rcases gR (callS F l (i+2) (txT l i)) λ_=>awe hl H _ _ _ aC with e11|⟨a11,j11,e11,⟨u11,v11⟩,k11⟩|⟨a11,j11,e11,⟨u11,v11⟩,k11⟩
  rotate_left 3
  rcases gWX l (i+1) [46] hl with ⟨c12,b12,t12,x12⟩|⟨c12,t12⟩
  have dn13:=dN l (i+2) hl aC
  rotate_left 3
  all_goals (simp only[aiH,zRZ,sevalprocAttr,↓reduceIte, *] at hr <;> cases hr <;> (refine bB aCE ?_;simp only[↓zA,sevalprocAttr,aKz,ca,acD,cR,bx,ce,aQ,aZ,bi,bG,ahP,ajq,azT,eZ, *];all_goals exact fz))
def aGT(F:Fs)(l:List Tn)(i:Nat):agc F l i []=if isT l i [45] then (F.un (i+1)).to (λa=>eF 3 [a]) else aei F l i:=rfl
def aKF:=ib @Tryz.f163.eq_1 @zq @aWM @aWL @aZ @cW @cX @zT0 (kf aCM)
def air{l:List Tn}{F:Fs}(hl:l.length<LB)(H:PD l F)(i:Nat)(r:Xp×Nat×Bool)(hi:i<=l.length)(hr:agc F l i []=some r):GD 163 [tkX l,au i,abs] l xpE i r:=by
 refine⟨Pl.at (aob H.fp hi) hr,?_⟩
 have hw_i:IntKind.i64.wrap (((i:Nat):Int)+1)=((i+1:Nat):Int):=aW (i) (by unfold LB at hl;omega)
 rcases gW l (i) [45] hl with ⟨c1,b1,t1⟩|⟨c1,t1⟩
 rcases gR (F.un (i+1)) λ_=>H.un _ _ aC with e2|⟨a2,j2,e2,⟨u2,v2⟩,k2⟩|⟨a2,j2,e2,⟨u2,v2⟩,k2⟩
 rotate_left 3
 rcases gR (aei F l i) λ_=>av5 hl H _ _ aC with e3|⟨a3,j3,e3,⟨u3,v3⟩,k3⟩|⟨a3,j3,e3,⟨u3,v3⟩,k3⟩
 rotate_left 3
 all_goals (simp only[aGT,zRZ,sevalprocAttr,↓reduceIte, *] at hr <;> cases hr <;> (refine bB aCM ?_;simp only[↓zA,sevalprocAttr,aKF,ca,bx,ce,aQ,aBO,aZ, *];all_goals exact fz))
def av4{l:List Tn}{F:Fs}(i:Nat)(x:Xp)(cs:List C)(hx:cs=xpC x)(r:Xp×Nat×Bool)(hi:i<=l.length)(hr:agc F l i [x]=some r):GD 163 [tkX l,au i,.of (.sl cs 1)] l xpE i r:=by
 cases hr
 subst hx
 refine⟨⟨am _,hi⟩,?_⟩
 rw[ch]
 refine bB aCM ?_
 simp only[↓zA,sevalprocAttr,aKF,ca,bx,bx,aZ]
 all_goals exact fz
def aoJ{l:List Tn}(i:Nat)(pc:C)(r:Xp×Nat×Bool)(g:GD 163 [tkX l,au i,.of pc] l xpE i r):GD 69 [tkX l,au i,au 6,.of pc] l xpE i r:=by
 refine⟨g.1,?_⟩
 obtain⟨a,j,b⟩:=r
 cases b with
 | true =>
  have k:=g.bad
  refine bB apU ?_
  simp only[↓zA,sevalprocAttr,agb,ca,k,ce,aQ,aZ]
  all_goals exact fz
 | false =>
  have k:=g.ok
  refine bB apU ?_
  simp only[↓zA,sevalprocAttr,agb,ca,k,bx,aQ,aZ]
  all_goals exact fz
def akT{l:List Tn}{F:Fs}(hl:l.length<LB)(H:PD l F)(i:Nat)(r:Xp×Nat×Bool)(hi:i<=l.length)(hr:ajS F l i []=some r):GD 69 [tkX l,au i,au 5,abs] l xpE i r :=
 abP hl 5 6 (aj aI) (aj aI) aI (agc F l) [([42],7),([47],8),([37],9)] aI aI aAj (λi r h1 h2=>aoJ _ _ _ (air hl H _ _ h1 h2)) i [] (.sl [] 0) r hi (λr h=>aoJ _ _ _ (air hl H _ _ hi h)) hr
def av9{l:List Tn}{F:Fs}(hl:l.length<LB)(H:PD l F)(i:Nat)(x:Xp)(cs:List C)(hx:cs=xpC x)(r:Xp×Nat×Bool)(hi:i<=l.length)(hr:ajS F l i [x]=some r):GD 69 [tkX l,au i,au 5,.of (.sl cs 1)] l xpE i r :=
 abP hl 5 6 (aj aI) (aj aI) aI (agc F l) [([42],7),([47],8),([37],9)] aI aI aAj (λi r h1 h2=>aoJ _ _ _ (air hl H _ _ h1 h2)) i [x] (.sl cs 1) r hi (λr h=>aoJ _ _ _ (av4 _ x cs hx _ hi h)) hr
def akV{l:List Tn}{F:Fs}(hl:l.length<LB)(H:PD l F)(i:Nat)(r:Xp×Nat×Bool)(hi:i<=l.length)(hr:aj7 F l i []=some r):GD 69 [tkX l,au i,au 4,abs] l xpE i r :=
 abP hl 4 5 (aj aI) (aj aI) aI (ajS F l) [([43],5),([45],6)] aI aI aAk (λi r h1 h2=>akT hl H _ _ h1 h2) i [] (.sl [] 0) r hi (λr h=>akT hl H _ _ hi h) hr
def awg{l:List Tn}{F:Fs}(hl:l.length<LB)(H:PD l F)(i:Nat)(x:Xp)(cs:List C)(hx:cs=xpC x)(r:Xp×Nat×Bool)(hi:i<=l.length)(hr:aj7 F l i [x]=some r):GD 69 [tkX l,au i,au 4,.of (.sl cs 1)] l xpE i r :=
 abP hl 4 5 (aj aI) (aj aI) aI (ajS F l) [([43],5),([45],6)] aI aI aAk (λi r h1 h2=>akT hl H _ _ h1 h2) i [x] (.sl cs 1) r hi (λr h=>av9 hl H _ x cs hx _ hi h) hr
def adf{l:List Tn}{F:Fs}(hl:l.length<LB)(H:PD l F)(i:Nat)(r:Xp×Nat×Bool)(hi:i<=l.length)(hr:aaL F l i []=some r):GD 69 [tkX l,au i,au 3,abs] l xpE i r :=
 abP hl 3 4 (aj aI) (aj aI) aI (aj7 F l) [([124,124],10)] aI aI aAl (λi r h1 h2=>akV hl H _ _ h1 h2) i [] (.sl [] 0) r hi (λr h=>akV hl H _ _ hi h) hr
def awd{l:List Tn}{F:Fs}(hl:l.length<LB)(H:PD l F)(i:Nat)(x:Xp)(cs:List C)(hx:cs=xpC x)(r:Xp×Nat×Bool)(hi:i<=l.length)(hr:aaL F l i [x]=some r):GD 69 [tkX l,au i,au 3,.of (.sl cs 1)] l xpE i r :=
 abP hl 3 4 (aj aI) (aj aI) aI (aj7 F l) [([124,124],10)] aI aI aAl (λi r h1 h2=>akV hl H _ _ h1 h2) i [x] (.sl cs 1) r hi (λr h=>awg hl H _ x cs hx _ hi h) hr
def aPa{k:Nat}(h:k<aec.length):aec[k].2=11+(k:Int):=by
 match k,h with
 | 0,_=>rfl
 | 1,_=>rfl
 | 2,_=>rfl
 | 3,_=>rfl
 | 4,_=>rfl
 | 5,_=>rfl
 | n+6,h=>exact absurd (show n+6<6 from h) aC
theorem ar7{l:List Tn}{i:Nat}:∀ {so so':List (List UInt8×Int)},opT l i (so++so')=match opT l i so with|some o=>some o|none=>opT l i so'
 | [],_=>rfl
 | (w,k)::r,so'=>by
  show (if isT l i w=true then some k else opT l i (r++so'))=match (if isT l i w=true then some k else opT l i r) with|some o=>some o|none=>opT l i so'
  split
  .rfl
  .exact ar7
def aHZ{l:List Tn}{i k:Nat}{so:List (List UInt8×Int)}(h:k<so.length)(h0:opT l i (so.take k)=none)(c:isT l i so[k].1=false):opT l i (so.take (k+1))=none:=by
 rw[acM,aO h,ad9,ar7,h0]
 show (if isT l i so[k].1=true then _ else _)=none
 rw[c];rfl
def aHY{l:List Tn}{i k:Nat}{so:List (List UInt8×Int)}(h:k<so.length)(h0:opT l i (so.take k)=none)(c:isT l i so[k].1=true):opT l i so=some so[k].2:=by
 have e:so=so.take k++so[k]::so.drop (k+1):=by rw[← bI h,ac3]
 have g:opT l i (so.take k++so[k]::so.drop (k+1))=some so[k].2:=by
  rw[ar7,h0]
  show (if isT l i so[k].1=true then _ else _)=_
  rw[c];rfl
 rw[← e] at g
 exact g
def ai3:=hC (ib @Tryz.f288.eq_1 @zq @aW2 @aW1 @aWZ @aY0 @aWX @aZ @bi) (ib @afk @anR @anQ @ahf @ahc @ahe @ahb @ahd @aha) (ib @ag9 @ag8 @cW @cX @dm @P4 @Q4 @zT0 (kf au1))
def aqC{l:List Tn}{F:Fs}(hl:l.length<LB)(H:PD l F)(i:Nat)(a:Xp)(r:Xp×Nat×Bool)(hi:i<=l.length)(hr:inS F l i a=some r):GD 288 [tkX l,au i,xpE a] l xpE i r:=by
 refine⟨Pl.at (anu H.fp hi) hr,?_⟩
 have hw_i:IntKind.i64.wrap (((i:Nat):Int)+1)=((i+1:Nat):Int):=aW (i) (by unfold LB at hl;omega)
 rcases gW l (i) [40] hl with ⟨c1,b1,t1⟩|⟨c1,t1⟩
 rcases gR (F.ins (i+1)) λ_=>H.ins _ _ aC with e2|⟨a2,j2,e2,⟨u2,v2⟩,k2⟩|⟨a2,j2,e2,⟨u2,v2⟩,k2⟩
 rotate_left 2
 rcases c3:a2.q with _|_
 .simp only[inS,zRZ,sevalprocAttr,↓reduceIte,c1,e2,c3] at hr
  refine bB au1 ?_
  simp only[↓zA,sevalprocAttr,ai3,zBS,aQ,aZ,bi,bG,ahP,ajq,aoa,ajr,t1,k2,c3]
  refine eT _ _ (λn s=>∃ (ks:List Xp) (j:Nat),s.fr 0=tkX l/\s.fr 1=au j/\s.fr 5=.of (.ref (xpC a))/\s.fr 6=.ptr 0 0/\(∃ c x i,c<s.clk/\s.fr 11=.own (.nm c x i) 28 9 (fl xpC ks) ks.length)/\s.objs=[.var 28 aA4]/\inL F l a n ks j=some r/\j<=l.length/\ks.length<=j+1) ?_ (l.length+1) _ ?_
  .rintro n ⟨frn,obn,ckn⟩ ⟨ks,j,f0,f1,f5,f6,⟨c,x,i',hc,f11⟩,fo,E,hj,hk⟩
   dsimp only at f0 f1 f5 f6 hc f11 fo
   have hne:(c=ckn+1)=False:=aj aC
   cases n with
   | zero=>simp only[inL] at E;cases E
   | succ n =>
   have hw_j:IntKind.i64.wrap (((j:Nat):Int)+1)=((j+1:Nat):Int):=aW (j) (by unfold LB at hl;omega)
   rcases gW l (j) [44] hl with ⟨c4,b4,t4⟩|⟨c4,t4⟩
   rcases gR (F.or (j+1) []) λ_=>H.or _ _ aC with e5|⟨a5,j5,e5,⟨u5,v5⟩,k5⟩|⟨a5,j5,e5,⟨u5,v5⟩,k5⟩
   rotate_left 2
   .have hL:(ks.length+1<=LIM)=True:=aa (by unfold LIM;unfold LB at hl;omega)
    simp only[inL,zRZ,sevalprocAttr,↓reduceIte,c4,e5] at E
    simp only[↓zA,sevalprocAttr,ai3,aQ,aZ,f0,f1,f5,f6,f11,fo,hne,hw_j,t4,k5,hL]
    and_intros
    all_goals first|exact okN _ _ aC _|exact⟨n,aD n,ks++[a5],j5,rfl,akY (by rw[ch]) rfl aC,E,v5,by rw[bp];simp only[fZ];omega⟩|(unfold LIM;unfold LB at hl;omega)|rfl
   rcases gW l (j) [41] hl with ⟨c6,b6,t6⟩|⟨c6,t6⟩
   rotate_left 2
   all_goals (simp only[inL,zRZ,sevalprocAttr,↓reduceIte, *] at E <;> cases E <;> (simp only[↓zA,sevalprocAttr,ai3,ca,cR,bx,ce,aQ,aZ, *];all_goals exact fz))
  .simp only[↓zA,sevalprocAttr,ai3]
   exact⟨[a,a2.val],j2,rfl,anb (by simp only[eA,fJ,ch,aU,aaW,Th.val,c3,ap,ab];try rfl) rfl aC,hr,by omega,by simp only[fZ];omega⟩
 rcases c7:a2.w with _|_
 have hw_j2:IntKind.i64.wrap (((j2:Nat):Int)+1)=((j2+1:Nat):Int):=aW (j2) (by unfold LB at hl;omega)
 rcases gW l (j2) [41] hl with ⟨c8,b8,t8⟩|⟨c8,t8⟩
 rotate_left 2
 .simp only[inS,zRZ,sevalprocAttr,↓reduceIte,c1,e2,c3,c7] at hr
  refine bB au1 ?_
  simp only[↓zA,sevalprocAttr,ai3,zBS,aQ,aZ,bi,bG,ahP,ajq,an9,ajr,t1,k2,c3,c7]
  refine eT _ _ (λn s=>∃ (ks:List Xp) (j:Nat),s.fr 0=tkX l/\s.fr 1=au j/\s.fr 5=.of (.ref (xpC a))/\s.fr 6=.ptr 0 0/\(∃ c x i,c<s.clk/\s.fr 11=.own (.nm c x i) 28 9 (fl xpC ks) ks.length)/\s.objs=[.var 28 aA4]/\inL F l a n ks j=some r/\j<=l.length/\ks.length<=j+1) ?_ (l.length+1) _ ?_
  .rintro n ⟨frn,obn,ckn⟩ ⟨ks,j,f0,f1,f5,f6,⟨c,x,i',hc,f11⟩,fo,E,hj,hk⟩
   dsimp only at f0 f1 f5 f6 hc f11 fo
   have hne:(c=ckn+1)=False:=aj aC
   cases n with
   | zero=>simp only[inL] at E;cases E
   | succ n =>
   have hw_j:IntKind.i64.wrap (((j:Nat):Int)+1)=((j+1:Nat):Int):=aW (j) (by unfold LB at hl;omega)
   rcases gW l (j) [44] hl with ⟨c9,b9,t9⟩|⟨c9,t9⟩
   rcases gR (F.or (j+1) []) λ_=>H.or _ _ aC with e10|⟨a10,j10,e10,⟨u10,v10⟩,k10⟩|⟨a10,j10,e10,⟨u10,v10⟩,k10⟩
   rotate_left 2
   .have hL:(ks.length+1<=LIM)=True:=aa (by unfold LIM;unfold LB at hl;omega)
    simp only[inL,zRZ,sevalprocAttr,↓reduceIte,c9,e10] at E
    simp only[↓zA,sevalprocAttr,ai3,aQ,aZ,f0,f1,f5,f6,f11,fo,hne,hw_j,t9,k10,hL]
    and_intros
    all_goals first|exact okN _ _ aC _|exact⟨n,aD n,ks++[a10],j10,rfl,akY (by rw[ch]) rfl aC,E,v10,by rw[bp];simp only[fZ];omega⟩|(unfold LIM;unfold LB at hl;omega)|rfl
   rcases gW l (j) [41] hl with ⟨c11,b11,t11⟩|⟨c11,t11⟩
   rotate_left 2
   all_goals (simp only[inL,zRZ,sevalprocAttr,↓reduceIte, *] at E <;> cases E <;> (simp only[↓zA,sevalprocAttr,ai3,ca,cR,bx,ce,aQ,aZ, *];all_goals exact fz))
  .simp only[↓zA,sevalprocAttr,ai3]
   exact⟨[a,a2.val],j2,rfl,anb (by simp only[eA,fJ,ch,aU,aaW,Th.val,c3,ah];try rfl) rfl aC,hr,by omega,by simp only[fZ];omega⟩
 rotate_left
 all_goals (simp only[inS,zRZ,sevalprocAttr,↓reduceIte, *] at hr <;> cases hr <;> (refine bB au1 ?_;simp only[↓zA,sevalprocAttr,ai3,ca,cR,bx,ce,aQ,aZ,bi,ahP,ajr, *];all_goals exact fz))
def ao1:mtF "ref.go:132" (some 6)=false:=by decide
def ay4:mtF "ref.go:141" (some 6)=false:=by decide
def ay3:mtF "ref.go:149" (some 6)=false:=by decide
def ay2:mtF "ref.go:157" (some 6)=false:=by decide
def ay1:mtF "ref.go:160" (some 6)=false:=by decide
def ay0:mtF "ref.go:164" (some 6)=false:=by decide
def ayZ:mtF "ref.go:167" (some 6)=false:=by decide
def ayY:mtF "ref.go:169" (some 6)=false:=by decide
def anZ:=ai (ib @Tryz.f251.eq_1 @zq @aXh @aXg @aXf @aXa @aW9 @aW8 @aW6) (hZ @aY1 @aZ @cW @cX @cO @Q9 @zT0 (kf aMg))
def aoZ{l:List Tn}{F:Fs}(hl:l.length<LB)(H:PD l F)(i:Nat)(a:Xp)(r:Xp×Nat×Bool)(hi:i<=l.length)(hr:acU F l i a=some r):GD 251 [tkX l,au i,xpE a] l xpE i r:=by
 refine⟨Pl.at (asw H.fp hi) hr,?_⟩
 have hw_i:IntKind.i64.wrap (((i:Nat):Int)+1)=((i+1:Nat):Int):=aW (i) (by unfold LB at hl;omega)
 obtain⟨L,hL⟩ : ∃ L,L=aec.map (·.1):=⟨_,rfl⟩
 have hLL:L.length=6:=by rw[hL];rfl
 refine bB aMg ?_
 simp only[↓zA,sevalprocAttr,anZ,zBS,aQ,aZ]
 refine ew 6 (λk s=>s.fr 0=tkX l/\s.fr 1=au i/\s.fr 5=.of (.ref (xpC a))/\s.fr 10=au k/\s.objs=[]/\opT l i (aec.take k)=none/\(∃ c x i,c<s.clk/\s.fr 6=.nw (some (.nm c x i)) 28 9)/\(∃ c x i,c<s.clk/\s.fr 9=.own (.nm c x i) 9 1 (fl cM L) 6)) ?_ ?_
 .simp only[↓zA,sevalprocAttr,anZ]
  and_intros
  all_goals first|rfl|exact⟨_,_,_,by omega,rfl⟩|exact⟨_,_,_,by omega,by subst hL;rfl⟩|(subst hL;exact⟨_,_,_,by omega,rfl⟩)|trace_state
 rintro k ⟨frk,obk,ckk⟩ hk ⟨f0,f1,f5,f10,fo,hn,⟨c6,x6,i6,h6,f6⟩,⟨c9,x9,i9,h9,f9⟩⟩
 dsimp only at f0 f1 f5 h6 h9 f6 f9 f10 fo
 have hz0:(c6=ckk)=False:=aj aC
 have hz1:∀ n,(c6=ckk+n)=False:=λn=>aj aC
 have hz2:∀ n m,(c6=ckk+n+m)=False:=λn m=>aj aC
 have hz3:∀ n m p,(c6=ckk+n+m+p)=False:=λn m p=>aj aC
 have hz10:(c9=ckk)=False:=aj aC
 have hz11:∀ n,(c9=ckk+n)=False:=λn=>aj aC
 have hz12:∀ n m,(c9=ckk+n+m)=False:=λn m=>aj aC
 have hz13:∀ n m p,(c9=ckk+n+m+p)=False:=λn m p=>aj aC
 have ia:∀ i:Int,cn tP 43 (.own (.nm c9 x9 i9) 9 1 (fl cM L) 6) (.of (.lit (.int .i64 i)))=age (aaJ L i) λx=>.of (.ref (cM x++fl cM (L.drop (i.toNat+1)))):=λi=>by
  have e:cn tP 43 (.own (.nm c9 x9 i9) 9 1 (fl cM L) 6) (.of (.lit (.int .i64 i)))=cn tP 43 (.of (slC cM L)) (.of (.lit (.int .i64 i))):=by simp only[cn,aaR,slC,hLL,T43,T9]
  rw[e]
  exact amk L i
 rcases av k 6 with dk|dk
 .have dk':k<aec.length:=dk
  have hlt:((k:Int)<6)=True:=aa aC
  have hlt':((k:Int)<((6:Nat):Int))=True:=aa aC
  have hw:=aW k aC
  have h11:IntKind.i64.wrap (11+(k:Int))=11+(k:Int):=cj _ aC aC
  have gx:aaJ L (k:Int)=some aec[k].1:=by rw[hL,bu (by rw[bM];exact dk'),aaw]
  have ho:=aPa dk'
  have kt:=λK=>aF.k (afX l i aec[k].1) K
  cases c:isT l i aec[k].1 with
  | true =>
   have hs:=aHY dk' hn c
   have b1:=fe c
   rw[ho] at hs
   rw[c] at kt
   generalize aec[k].1=w at gx kt
   unfold acU at hr
   rw[hs] at hr
   try simp only at hr
   cases e1:aaL F l (i+1) [] with
   | none=>rw[e1] at hr;cases hr
   | some q =>
   have g:=adf hl H _ _ aC e1
   obtain⟨b,j,q⟩:=q
   rw[e1] at hr
   cases hr
   cases q with
   | true =>
    have k1:=g.bad
    simp only[↓zA,sevalprocAttr,anZ,ca,f0,f1,f5,f6,f9,f10,fo,hz1,ia,hlt,hw_i,h11,gx,kt,k1,ce,aQ,zTw,aZ,ao1]
    and_intros
    all_goals first|exact okN _ _ aC _|rfl|(simp only[zVW];done)|(simp only[zVW];rfl)
   | false =>
    have k1:=g.ok
    simp only[↓zA,sevalprocAttr,anZ,ca,f0,f1,f5,f6,f9,f10,fo,hz1,ia,hlt,hw_i,h11,gx,kt,k1,bx,aQ,zTw,aZ,ao1]
    and_intros
    all_goals first|exact okN _ _ aC _|rfl|(simp only[zVW];done)|(simp only[zVW];rfl)
  | false =>
   have hn':=aHZ dk' hn c
   rw[c] at kt
   generalize aec[k].1=w at gx kt
   simp only[↓zA,sevalprocAttr,anZ,f0,f1,f5,f6,f9,f10,fo,ia,hlt,hw,gx,kt]
   and_intros
   all_goals first|exact hn'|exact dk|rfl|exact⟨_,_,_,by omega,rfl⟩|trace_state
 have ek:k=6:=by omega
 subst ek
 have hn:opT l i aec=none:=hn
 have hlt:((6:Int)<6)=False:=aj aC
 have hlt':((6:Int)<((6:Nat):Int))=False:=aj aC
 have f10:frk 10=au 6:=f10
 unfold acU at hr
 rw[hn] at hr
 try simp only at hr
 rcases gWX l (i) [105,115] hl with ⟨c1,b1,t1,x1⟩|⟨c1,t1⟩
 have hw_i_1:IntKind.i64.wrap (((i+1:Nat):Int)+1)=((i+2:Nat):Int):=aW (i+1) (by unfold LB at hl;omega)
 rcases gWX l (i+1) [110,111,116] hl with ⟨c2,b2,t2,x2⟩|⟨c2,t2⟩
 have hw_i_2:IntKind.i64.wrap (((i+2:Nat):Int)+1)=((i+3:Nat):Int):=aW (i+2) (by unfold LB at hl;omega)
 rcases gWX l (i+2) [110,117,108,108] hl with ⟨c3,b3,t3,x3⟩|⟨c3,t3⟩
 rotate_left 2
 rcases gWX l (i+1) [110,117,108,108] hl with ⟨c4,b4,t4,x4⟩|⟨c4,t4⟩
 rotate_left 2
 rcases gWX l (i) [110,111,116] hl with ⟨c5,b5,t5,x5⟩|⟨c5,t5⟩
 have hw_i_1:IntKind.i64.wrap (((i+1:Nat):Int)+1)=((i+2:Nat):Int):=aW (i+1) (by unfold LB at hl;omega)
 rcases gWX l (i+1) [108,105,107,101] hl with ⟨c6,b6,t6,x6⟩|⟨c6,t6⟩
 rcases gR (aaL F l (i+2) []) λ_=>adf hl H _ _ aC with e7|⟨a7,j7,e7,⟨u7,v7⟩,k7⟩|⟨a7,j7,e7,⟨u7,v7⟩,k7⟩
 rotate_left 3
 rcases gWX l (i+1) [98,101,116,119,101,101,110] hl with ⟨c8,b8,t8,x8⟩|⟨c8,t8⟩
 rcases gR (aaL F l (i+2) []) λ_=>adf hl H _ _ aC with e9|⟨a9,j9,e9,⟨u9,v9⟩,k9⟩|⟨a9,j9,e9,⟨u9,v9⟩,k9⟩
 rotate_left 2
 have hw_j9:IntKind.i64.wrap (((j9:Nat):Int)+1)=((j9+1:Nat):Int):=aW (j9) (by unfold LB at hl;omega)
 rcases gWX l (j9) [97,110,100] hl with ⟨c10,b10,t10,x10⟩|⟨c10,t10⟩
 rcases gR (aaL F l (j9+1) []) λ_=>adf hl H _ _ aC with e11|⟨a11,j11,e11,⟨u11,v11⟩,k11⟩|⟨a11,j11,e11,⟨u11,v11⟩,k11⟩
 rotate_left 4
 rcases gWX l (i+1) [105,110] hl with ⟨c12,b12,t12,x12⟩|⟨c12,t12⟩
 rcases gR (inS F l (i+2) a) λ_=>aqC hl H _ _ _ aC with e13|⟨a13,j13,e13,⟨u13,v13⟩,k13⟩|⟨a13,j13,e13,⟨u13,v13⟩,k13⟩
 rotate_left 4
 rcases gWX l (i) [108,105,107,101] hl with ⟨c14,b14,t14,x14⟩|⟨c14,t14⟩
 rcases gR (aaL F l (i+1) []) λ_=>adf hl H _ _ aC with e15|⟨a15,j15,e15,⟨u15,v15⟩,k15⟩|⟨a15,j15,e15,⟨u15,v15⟩,k15⟩
 rotate_left 3
 rcases gWX l (i) [98,101,116,119,101,101,110] hl with ⟨c16,b16,t16,x16⟩|⟨c16,t16⟩
 rcases gR (aaL F l (i+1) []) λ_=>adf hl H _ _ aC with e17|⟨a17,j17,e17,⟨u17,v17⟩,k17⟩|⟨a17,j17,e17,⟨u17,v17⟩,k17⟩
 rotate_left 2
 have hw_j17:IntKind.i64.wrap (((j17:Nat):Int)+1)=((j17+1:Nat):Int):=aW (j17) (by unfold LB at hl;omega)
 rcases gWX l (j17) [97,110,100] hl with ⟨c18,b18,t18,x18⟩|⟨c18,t18⟩
 rcases gR (aaL F l (j17+1) []) λ_=>adf hl H _ _ aC with e19|⟨a19,j19,e19,⟨u19,v19⟩,k19⟩|⟨a19,j19,e19,⟨u19,v19⟩,k19⟩
 rotate_left 4
 rcases gWX l (i) [105,110] hl with ⟨c20,b20,t20,x20⟩|⟨c20,t20⟩
 rcases gR (inS F l (i+1) a) λ_=>aqC hl H _ _ _ aC with e21|⟨a21,j21,e21,⟨u21,v21⟩,k21⟩|⟨a21,j21,e21,⟨u21,v21⟩,k21⟩
 rotate_left 4
 all_goals (simp only[isS,ac1,zRZ,sevalprocAttr,↓reduceIte, *] at hr <;> cases hr <;> (simp only[↓zA,sevalprocAttr,anZ,ca,acD,cR,bx,ce,zBS,aQ,aBO,aZ,ay4,ay3,ay2,ay1,ay0,ayZ,ayY,aKT,aGV,asO,asP, *];and_intros;all_goals first|exact okN _ _ aC _|rfl|(simp only[zVW];done)|(simp only[zVW];rfl)))
def aIg(F:Fs)(l:List Tn)(i:Nat):adL F l i []=if isT l i [110,111,116] then (F.no (i+1)).to (λa=>eF 4 [a]) else (aaL F l i []).on id λa j=>acU F l j a:=by unfold adL;simp
def aIf(F:Fs)(l:List Tn)(i:Nat)(x:Xp):adL F l i [x]=(aaL F l i [x]).on id λa j=>acU F l j a:=by unfold adL;simp
def aKG:=ai (hJ @Tryz.f162.eq_1 @zq @aXo @aXn @aXk) (hJ @aZ @cW @cX @zT0 (kf aCN))
def ais{l:List Tn}{F:Fs}(hl:l.length<LB)(H:PD l F)(i:Nat)(r:Xp×Nat×Bool)(hi:i<=l.length)(hr:adL F l i []=some r):GD 162 [tkX l,au i,abs] l xpE i r:=by
 refine⟨Pl.at (alm H.fp hi) hr,?_⟩
 have hw_i:IntKind.i64.wrap (((i:Nat):Int)+1)=((i+1:Nat):Int):=aW (i) (by unfold LB at hl;omega)
 rcases gW l (i) [110,111,116] hl with ⟨c1,b1,t1⟩|⟨c1,t1⟩
 rcases gR (F.no (i+1)) λ_=>H.no _ _ aC with e2|⟨a2,j2,e2,⟨u2,v2⟩,k2⟩|⟨a2,j2,e2,⟨u2,v2⟩,k2⟩
 rotate_left 3
 rcases gR (aaL F l i []) λ_=>adf hl H _ _ aC with e3|⟨a3,j3,e3,⟨u3,v3⟩,k3⟩|⟨a3,j3,e3,⟨u3,v3⟩,k3⟩
 rotate_left 2
 rcases gR (acU F l j3 a3) λ_=>aoZ hl H _ _ _ aC with e4|⟨a4,j4,e4,⟨u4,v4⟩,k4⟩|⟨a4,j4,e4,⟨u4,v4⟩,k4⟩
 rotate_left 3
 all_goals (simp only[aIg,zRZ,sevalprocAttr,↓reduceIte, *] at hr <;> cases hr <;> (refine bB aCN ?_;simp only[↓zA,sevalprocAttr,aKG,ca,cR,bx,ce,aQ,aBO,aZ, *];all_goals exact fz))
def av7{l:List Tn}{F:Fs}(hl:l.length<LB)(H:PD l F)(i:Nat)(x:Xp)(cs:List C)(hx:cs=xpC x)(r:Xp×Nat×Bool)(hi:i<=l.length)(hr:adL F l i [x]=some r):GD 162 [tkX l,au i,.of (.sl cs 1)] l xpE i r:=by
 refine⟨Pl.at (alm H.fp hi) hr,?_⟩
 rcases gR (aaL F l i [x]) λ_=>awd hl H _ x cs hx _ aC with e1|⟨a1,j1,e1,⟨u1,v1⟩,k1⟩|⟨a1,j1,e1,⟨u1,v1⟩,k1⟩
 rotate_left 2
 rcases gR (acU F l j1 a1) λ_=>aoZ hl H _ _ _ aC with e2|⟨a2,j2,e2,⟨u2,v2⟩,k2⟩|⟨a2,j2,e2,⟨u2,v2⟩,k2⟩
 rotate_left 3
 all_goals (simp only[aIf,zRZ,sevalprocAttr, *] at hr <;> cases hr <;> (clear hx;all_goals (refine bB aCN ?_;simp only[↓zA,sevalprocAttr,aKG,ca,cR,bx,ce,aQ,aZ, *];all_goals exact fz)))
def aoK{l:List Tn}(i:Nat)(pc:C)(r:Xp×Nat×Bool)(g:GD 162 [tkX l,au i,.of pc] l xpE i r):GD 69 [tkX l,au i,au 2,.of pc] l xpE i r:=by
 refine⟨g.1,?_⟩
 obtain⟨a,j,b⟩:=r
 cases b with
 | true =>
  have k:=g.bad
  refine bB apU ?_
  simp only[↓zA,sevalprocAttr,agb,ca,k,ce,aQ,aZ]
  all_goals exact fz
 | false =>
  have k:=g.ok
  refine bB apU ?_
  simp only[↓zA,sevalprocAttr,agb,ca,k,bx,aQ,aZ]
  all_goals exact fz
def akU{l:List Tn}{F:Fs}(hl:l.length<LB)(H:PD l F)(i:Nat)(r:Xp×Nat×Bool)(hi:i<=l.length)(hr:aj5 F l i []=some r):GD 69 [tkX l,au i,au 1,abs] l xpE i r :=
 abP hl 1 2 (aj aI) (aj aI) aI (adL F l) [([97,110,100],17)] aI aI aAm (λi r h1 h2=>aoK _ _ _ (ais hl H _ _ h1 h2)) i [] (.sl [] 0) r hi (λr h=>aoK _ _ _ (ais hl H _ _ hi h)) hr
def awf{l:List Tn}{F:Fs}(hl:l.length<LB)(H:PD l F)(i:Nat)(x:Xp)(cs:List C)(hx:cs=xpC x)(r:Xp×Nat×Bool)(hi:i<=l.length)(hr:aj5 F l i [x]=some r):GD 69 [tkX l,au i,au 1,.of (.sl cs 1)] l xpE i r :=
 abP hl 1 2 (aj aI) (aj aI) aI (adL F l) [([97,110,100],17)] aI aI aAm (λi r h1 h2=>aoK _ _ _ (ais hl H _ _ h1 h2)) i [x] (.sl cs 1) r hi (λr h=>aoK _ _ _ (av7 hl H _ x cs hx _ hi h)) hr
def ayN{l:List Tn}{F:Fs}(hl:l.length<LB)(H:PD l F)(i:Nat)(r:Xp×Nat×Bool)(hi:i<=l.length)(hr:orS F l i []=some r):GD 69 [tkX l,au i,au 0,abs] l xpE i r :=
 abP hl 0 1 (aj aI) (aj aI) aI (aj5 F l) [([111,114],18)] aI aI aAn (λi r h1 h2=>akU hl H _ _ h1 h2) i [] (.sl [] 0) r hi (λr h=>akU hl H _ _ hi h) hr
def av6{l:List Tn}{F:Fs}(hl:l.length<LB)(H:PD l F)(i:Nat)(x:Xp)(cs:List C)(hx:cs=xpC x)(r:Xp×Nat×Bool)(hi:i<=l.length)(hr:orS F l i [x]=some r):GD 69 [tkX l,au i,au 0,.of (.sl cs 1)] l xpE i r :=
 abP hl 0 1 (aj aI) (aj aI) aI (aj5 F l) [([111,114],18)] aI aI aAn (λi r h1 h2=>akU hl H _ _ h1 h2) i [x] (.sl cs 1) r hi (λr h=>awf hl H _ x cs hx _ hi h) hr
def aPX:=hU @Tryz.f33.eq_1 @zq @aXp @aZ @cW @zT0 (kf aJr)
def aES{l:List Tn}(i:Nat)(pc:C)(r:Xp×Nat×Bool)(g:GD 69 [tkX l,au i,au 0,.of pc] l xpE i r):GD 33 [tkX l,au i,.of pc] l xpE i r:=by
 refine⟨g.1,?_⟩
 obtain⟨a,j,b⟩:=r
 cases b with
 | true =>
  have k:=g.bad
  refine bB aJr ?_
  simp only[↓zA,sevalprocAttr,aPX,ca,k,ce,aQ,aZ]
  all_goals exact fz
 | false =>
  have k:=g.ok
  refine bB aJr ?_
  simp only[↓zA,sevalprocAttr,aPX,ca,k,bx,aQ,aZ]
  all_goals exact fz
def aBr{l:List Tn}{F:Fs}(hl:l.length<LB)(H:PD l F)(i:Nat)(r:Xp×Nat×Bool)(hi:i<=l.length)(hr:orS F l i []=some r):GD 33 [tkX l,au i,abs] l xpE i r:=aES _ _ _ (ayN hl H _ _ hi hr)
def ayM{l:List Tn}{F:Fs}(hl:l.length<LB)(H:PD l F)(i:Nat)(x:Xp)(cs:List C)(hx:cs=xpC x)(r:Xp×Nat×Bool)(hi:i<=l.length)(hr:orS F l i [x]=some r):GD 33 [tkX l,au i,.of (.sl cs 1)] l xpE i r:=aES _ _ _ (av6 hl H _ x cs hx _ hi hr)
def aTN:=hC (ib @zq @aWU @aWT @aWS @aWR @aWQ @aWP @aZ @bi) (ib @afk @anR @anQ @ahf @ahc @ahe @ahb @ahd @aha) (ib @ag9 @ag8 @cW @cX @dm @P4 @Q4 @zT0 (kf aLQ))
def ar2{l:List Tn}{F:Fs}(hl:l.length<LB)(H:PD l F)(i:Nat)(r:Th×Nat×Bool)(hi:i<=l.length)(hr:ami F l i=some r):GD 307 [tkX l,au i] l thE i r:=by
 refine⟨Pl.at (asl H.fp hi) hr,?_⟩
 have hw_i:IntKind.i64.wrap (((i:Nat):Int)+1)=((i+1:Nat):Int):=aW (i) (by unfold LB at hl;omega)
 rcases gWX l (i) [115,101,108,101,99,116] hl with ⟨c1,b1,t1,x1⟩|⟨c1,t1⟩
 rcases gR (F.qy i []) λ_=>H.qy _ _ aC with e2|⟨a2,j2,e2,⟨u2,v2⟩,k2⟩|⟨a2,j2,e2,⟨u2,v2⟩,k2⟩
 rotate_left 3
 rcases gWX l (i) [40] hl with ⟨c3,b3,t3,x3⟩|⟨c3,t3⟩
 rcases gR (ah9 F l i) λ_=>amH hl H _ _ aC aC with e4|⟨a4,j4,e4,⟨u4,v4⟩,k4⟩|⟨a4,j4,e4,⟨u4,v4⟩,k4⟩
 rotate_left 2
 rcases c5:a4.q with _|_
 have vk:=λK=>ajq a4 K
 simp only[aeZ,c5] at vk
 rcases e6:F.or j4 [a4.e] with _|⟨a6,j6,_|_⟩
 rotate_left
 obtain⟨⟨u6,v6⟩,k6⟩:=(H.orp _ (a4.e) _ _ rfl aC e6).okA
 have l6:=(H.orp _ (a4.e) _ _ (ch _).symm aC e6).ok
 rotate_left
 obtain⟨⟨u6,v6⟩,k6⟩:=(H.orp _ (a4.e) _ _ rfl aC e6).badA
 have l6:=(H.orp _ (a4.e) _ _ (ch _).symm aC e6).bad
 rotate_left
 rcases c7:afo l (j4) with _|_
 have t7:=dG l (j4) hl aC c7
 have hw_j4:IntKind.i64.wrap (((j4:Nat):Int)+1)=((j4+1:Nat):Int):=aW (j4) (by unfold LB at hl;omega)
 rcases gWX l (j4) [41] hl with ⟨c8,b8,t8,x8⟩|⟨c8,t8⟩
 rotate_left
 have vk:=λK=>ajq a4 K
 simp only[aeZ,c5] at vk
 rcases e9:F.or j4 [adK 26 [] a4.y] with _|⟨a9,j9,_|_⟩
 rotate_left
 obtain⟨⟨u9,v9⟩,k9⟩:=(H.orp _ (adK 26 [] a4.y) _ _ rfl aC e9).okA
 have l9:=(H.orp _ (adK 26 [] a4.y) _ _ (ch _).symm aC e9).ok
 rotate_left
 obtain⟨⟨u9,v9⟩,k9⟩:=(H.orp _ (adK 26 [] a4.y) _ _ rfl aC e9).badA
 have l9:=(H.orp _ (adK 26 [] a4.y) _ _ (ch _).symm aC e9).bad
 rotate_left
 have t7:=dG l (j4) hl aC c7
 rcases e10:F.qy j4 [a4.y] with _|⟨a10,j10,_|_⟩
 rotate_left
 obtain⟨⟨u10,v10⟩,k10⟩:=(H.qyp _ (a4.y) _ _ rfl aC e10).okA
 have l10:=(H.qyp _ (a4.y) _ _ (ep _).symm aC e10).ok
 rotate_left
 obtain⟨⟨u10,v10⟩,k10⟩:=(H.qyp _ (a4.y) _ _ rfl aC e10).badA
 have l10:=(H.qyp _ (a4.y) _ _ (ep _).symm aC e10).bad
 rotate_left
 rcases gR (F.or i []) λ_=>H.or _ _ aC with e11|⟨a11,j11,e11,⟨u11,v11⟩,k11⟩|⟨a11,j11,e11,⟨u11,v11⟩,k11⟩
 rotate_left 3
 all_goals (simp only[ami,Th.val,zRZ,sevalprocAttr,↓reduceIte, *] at hr <;> cases hr <;> (refine bB aLQ ?_;simp only[Tryz.f307,↓zA,sevalprocAttr,aTN,ca,cR,bx,ce,aQ,aZ,bi,bG,ahP,ajq,an9,aoa, *];all_goals exact fz))
def aAV:=hU @Tryz.f313.eq_1 @zq @cW @fH @Q9 @zT0 (kf auZ)
def auh(l:List Tn)(i:Nat)(hl:l.length<LB)(hi:i<=l.length):GN 313 [tkX l,au i] [.of (aJ (aM (fq l i).1)),au (fq l i).2.1,au (adz l (fq l i).2.1 (fq l i).2.2)]:=by
 unfold fq
 have hw_i:IntKind.i64.wrap (((i:Nat):Int)+1)=((i+1:Nat):Int):=aW (i) (by unfold LB at hl;omega)
 rcases gWX l (i) [97,115] hl with ⟨c1,b1,t1,x1⟩|⟨c1,t1⟩
 .have dn2:=dN l (i+1) hl aC
  simp only[c1,x1,ah,ap,ab]
  refine bB auZ ?_
  simp only[↓zA,sevalprocAttr,aAV,aQ,hw_i,t1,dn2,eZ]
  all_goals exact fz
 rcases aCj l (i) hl with ⟨c3,b3,t3,x3⟩|⟨c3,t3⟩
 .have gx:=gL (l:=l) (i:=i) aC
  simp only[c1,c3,ah,ap,ab]
  refine bB auZ ?_
  simp only[↓zA,sevalprocAttr,aAV,bx,aQ,hw_i,t1,t3,gx,acW]
  all_goals exact fz
 .simp only[c1,c3,ap,ab]
  refine bB auZ ?_
  simp only[↓zA,sevalprocAttr,aAV,bx,aQ,t1,t3]
  all_goals exact fz
def dA(l:List Tn)(i:Nat)(hl:l.length<LB)(hi:i<=l.length)(K:An->Prop):cKp 313 [tkX l,au i] [] K↔K ⟨false,[.of (aJ (aM (fq l i).1)),au (fq l i).2.1,au (adz l (fq l i).2.1 (fq l i).2.2)],[]⟩:=aF.k (auh l i hl hi) K
def aTP:=ai (hJ @zq @aVY @aVX @aZ @cW) (hJ @gF @fH @Q9 @zT0 (kf aLU))
def aho{l:List Tn}{F:Fs}(hl:l.length<LB)(H:PD l F)(i:Nat)(r:Im×Nat×Bool)(hi:i<=l.length)(hr:adF F l i=some r):GD 298 [tkX l,au i] l imE i r:=by
 refine⟨Pl.at (ajY H.fp hi) hr,?_⟩
 have hw_i:IntKind.i64.wrap (((i:Nat):Int)+1)=((i+1:Nat):Int):=aW (i) (by unfold LB at hl;omega)
 have hw_i_1:IntKind.i64.wrap (((i+1:Nat):Int)+1)=((i+2:Nat):Int):=aW (i+1) (by unfold LB at hl;omega)
 have hw_i_2:IntKind.i64.wrap (((i+2:Nat):Int)+1)=((i+3:Nat):Int):=aW (i+2) (by unfold LB at hl;omega)
 have hw2:IntKind.i64.wrap ((i:Int)+2)=((i+2:Nat):Int):=by rw[cj _ aC (by unfold LB at hl;omega)];rfl
 have hw3:IntKind.i64.wrap ((i:Int)+3)=((i+3:Nat):Int):=by rw[cj _ aC (by unfold LB at hl;omega)];rfl
 rcases gWX l (i) [42] hl with ⟨c1,b1,t1,x1⟩|⟨c1,t1⟩
 rotate_left
 rcases aCj l (i) hl with ⟨c2,b2,t2,x2⟩|⟨c2,t2⟩
 rcases gWX l (i+1) [46] hl with ⟨c3,b3,t3,x3⟩|⟨c3,t3⟩
 rcases gWX l (i+2) [42] hl with ⟨c4,b4,t4,x4⟩|⟨c4,t4⟩
 have gx:=gL (l:=l) (i:=i) aC
 rotate_left
 rcases gR (F.or i []) λ_=>H.or _ _ aC with e5|⟨a5,j5,e5,⟨u5,v5⟩,k5⟩|⟨a5,j5,e5,⟨u5,v5⟩,k5⟩
 rotate_left 2
 have da:=dA l j5 hl aC
 rotate_left
 rcases gR (F.or i []) λ_=>H.or _ _ aC with e6|⟨a6,j6,e6,⟨u6,v6⟩,k6⟩|⟨a6,j6,e6,⟨u6,v6⟩,k6⟩
 rotate_left 2
 have da:=dA l j6 hl aC
 rotate_left
 rcases gR (F.or i []) λ_=>H.or _ _ aC with e7|⟨a7,j7,e7,⟨u7,v7⟩,k7⟩|⟨a7,j7,e7,⟨u7,v7⟩,k7⟩
 rotate_left 2
 have da:=dA l j7 hl aC
 rotate_left
 all_goals (simp only[adF,zRZ,sevalprocAttr,↓reduceIte, *] at hr <;> cases hr <;> (refine bB aLU ?_;simp only[Tryz.f298,↓zA,sevalprocAttr,aTP,ca,cR,bx,ce,aQ,aZ,acW, *];all_goals exact fz))
def aKN:=hZ @Tryz.f101.eq_1 @zq @aVW @aZ @cW @cX @zT0 (kf aCR)
def cL{l:List Tn}{F:Fs}(hl:l.length<LB)(H:PD l F)(w:List UInt8)(i:Nat)(r:List Xp×Nat×Bool)(hi:i<=l.length)(hr:eC F l i w=some r):GD 101 [tkX l,au i,.of (.lit (.string (ByteArray.mk (List.toArray w))))] l xsE i r:=by
 refine⟨Pl.at (aeV H.fp hi) hr,?_⟩
 have hw_i:IntKind.i64.wrap (((i:Nat):Int)+1)=((i+1:Nat):Int):=aW (i) (by unfold LB at hl;omega)
 unfold eC at hr
 cases cw:isT l i w with
 | true =>
  have kt:=dT l i w hl cw
  have bw:=fe cw
  rcases gR (F.or (i+1) []) λ_=>H.or _ _ aC with e1|⟨a1,j1,e1,⟨u1,v1⟩,k1⟩|⟨a1,j1,e1,⟨u1,v1⟩,k1⟩
  rotate_left 3
  all_goals (simp only[zRZ,sevalprocAttr,↓reduceIte, *] at hr <;> cases hr <;> (refine bB aCR ?_;simp only[↓zA,sevalprocAttr,aKN,ca,bx,ce,aQ,aZ, *];all_goals exact fz))
 | false =>
  have kt:=dF l i w hl aC cw
  simp only[zRZ,sevalprocAttr,↓reduceIte, *] at hr
  cases hr
  refine bB aCR ?_
  simp only[↓zA,sevalprocAttr,aKN,ca,bx,aQ,aZ, *]
  all_goals exact fz
abbrev ai9(di:Bool)(its:List Im):List X:=[.of (ci 1),.of (cb false),.nil,.of (cb di),.own (.cell 1 4) 138 12 (fl imC its) its.length,.nil,.nil,.nil,.nil,.nil,.of (ci (-1)),.of (ci 0)]
abbrev aBs:List X:=[.of (ci 0),.of (cb false),.nil,.of (cb false),.nil,.nil,.nil,.nil,.nil,.nil,.of (ci 0),.of (ci 0)]
abbrev aUF(di:Bool):List X:=[.of (ci 1),.of (cb false),.nil,.of (cb di),.nil,.nil,.nil,.nil,.nil,.nil,.of (ci (-1)),.of (ci 0)]
def SeD(di:Bool)(K:List X)(its:List Im):Prop:=(K=aUF di/\its=[])\/K=ai9 di its
def agC:=ai (hU @zq @aVV @aVU @aVT @aVS @bi @gF) (hM @bG @cW @ado @gH @zT0 (kf aCD))

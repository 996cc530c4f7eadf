/-
  Data of any type made of numbers, texts, bools, slices and structs: what a reading says of it. Conditions: none.
-/
import Derived.Test.YtemdljoideegeaaGreatDoorPa9
import Derived.Lib.Replace
import Derived.Lib.AppendIntMem
import Derived.Lib.AppendStr
import Derived.WalkKit
import Derived.Test.YtemdljoideegeaaGreatDoorRows
import Derived.Deep.Slices
import Derived.Carry
import Derived.ReadAgain
set_option linter.defProp false
set_option linter.unusedSectionVars false
set_option maxRecDepth 100000
set_option maxHeartbeats 64000000
namespace Go.Pe
section
variable (s:S) (d j:Nat) (x:X) (t:Tk)
theorem Z6w:(s.put (some d) x).fr j=if j=d then x else s.fr j:=rfl
theorem Z6y (d:Option Nat):(s.put d x).objs=s.objs:=by cases d <;> rfl
theorem Z6v (d:Option Nat):(s.put d x).clk=s.clk:=by cases d <;> rfl
theorem Z6x:s.put none x=s:=rfl
theorem Z31:(s.drop (some t)).fr j=(s.fr j).drop t:=rfl
theorem Z32:(s.drop (some t)).objs=s.objs.map (Ob.drop t):=rfl
theorem Z30:(s.drop (some t)).clk=s.clk:=rfl
theorem Z3i (n:Nat):s.ev (.tmp n)=s.fr n:=rfl
theorem Z3g (v:Value):s.ev (.const v)=abR v:=rfl
theorem Z3h (f:Nat):s.ev (.func f)=.of (.fn f []):=rfl
end
def Z63 (k:IntKind) (n:Int):abR (.int k n)=.of (.lit (.int k n)):=rfl
def Z62 (b:Bool):abR (.bool b)=.of (.lit (.bool b)):=rfl
def Z67 (b:ByteArray):abR (.string b)=.of (.lit (.string b)):=rfl
def Z65:abR (.slice none 0 0)=.nil:=rfl
def Z66:abR (.pointer none)=.of (.lit (.pointer none)):=rfl
def Z64:abR (.map none)=.of (.lit (.map none)):=rfl
def ane:List X→Nat→X
 | [],_=>.of .undef
 | c::_,0=>c
 | _::cs,j+1=>ane cs j
theorem Z42 (obs:List Ob):∀ (xs:List X) (j:Nat),(agF xs obs).fr j=ane xs j
 | [],j=>rfl
 | c::cs,0=>rfl
 | c::cs,j+1=>by have:=Z42 obs cs j;simpa [agF,ane] using this
def Z43 (xs:List X) (obs:List Ob):(agF xs obs).objs=obs:=rfl
def Z41 (xs:List X) (obs:List Ob):(agF xs obs).clk=1:=rfl
def Z40 (x:X) (xs:List X):ane (x::xs) 0=x:=rfl
def Z3z (x:X) (xs:List X) (j:Nat):ane (x::xs) (j+1)=ane xs j:=rfl
def Z8q (P:Program) (pr:Pr) (b:Code) (Q:Ex→S→Prop) (s:S):aoI P pr b Q .normal s↔WC P pr b s Q:=cZ
def Z8p (P:Program) (pr:Pr) (b:Code) (Q:Ex→S→Prop) (i:Nat) (s:S):aoI P pr b Q (.exit i) s↔Q (.exit i) s:=cZ
def Z8s (P:Program) (pr:Pr) (b:Code) (Q:Ex→S→Prop) (s:S):aoI P pr b Q .ret s↔Q .ret s:=cZ
def Z23 (i:Nat) (Q:Ex→S→Prop) (s:S):akb i Q .normal s↔Q .normal s:=cZ
def Z22 (i j:Nat) (Q:Ex→S→Prop) (s:S):akb i Q (.exit j) s↔if j=i then Q .normal s else Q (.exit j) s:=cZ
def Z25 (i:Nat) (Q:Ex→S→Prop) (s:S):akb i Q .ret s↔Q .ret s:=cZ
def S.tk (s:S):S:={s with clk:=s.clk+1}
def Z8u (s:S) (j:Nat):s.tk.fr j=s.fr j:=rfl
def Z8v (s:S):s.tk.objs=s.objs:=rfl
def Z8t (s:S):s.tk.clk=s.clk+1:=rfl
def Z7g (Q:Ex→S→Prop) (s:S):agp Q none s↔Q .normal s.tk:=cZ
def Z5j (F:S→Prop) (Q:Option X→S→Prop) (s:S):ai5 F Q none s↔F s:=cZ
def Z2t (b:Bool) (p q:Prop):atv (some b) p q↔if b=true then p else q:=cZ
def Z3s (ops:Array Oper) (s:S) (d:Option Nat) (op:Op) (ty:Nat) (pos:String) (af:Array Edge):fI ops s ⟨d,op,ty,pos,af,none⟩=some true:=rfl
def apJ (want:Bool):X→Option Bool
 | .of (.lit (.bool b))=>some (b == want)
 | .of .undef=>some false
 | _=>none
def aID (s:S) (want:Bool):Option Nat→Option Bool
 | some d=>apJ want (s.fr d)
 | none=>some false
def Z3t (ops:Array Oper) (s:S) (d:Option Nat) (op:Op) (ty:Nat) (pos:String) (af:Array Edge) (j:Nat) (want:Bool) :
  fI ops s ⟨d,op,ty,pos,af,some (j,want)⟩=aID s want ((ops[j]?).bind (·.dst)):=by
 simp only[fI]
 cases (ops[j]?).bind (·.dst) with
 | none=>rfl
 | some d=>rfl
def Z3r (s:S) (want:Bool) (d:Nat):aID s want (some d)=apJ want (s.fr d):=rfl
def Z3u (want b:Bool):apJ want (.of (.lit (.bool b)))=some (b == want):=rfl
def Z3v (want:Bool):apJ want (.of .undef)=some false:=rfl
def Z6g (s:S) (d:Option Nat) (af:Array Edge) (K:S→Prop) (x:X):aaQ s d af K (out x)↔K (s.put d x):=cZ
def Z6i (s:S) (d:Option Nat) (af:Array Edge) (K:S→Prop) (x:X) (t:Tk):aaQ s d af K (some (x,some t))↔abf s.clk af.toList (some t)=true∧K ((s.drop (some t)).put d x):=cZ
def Z6f (s:S) (d:Option Nat) (af:Array Edge) (K:S→Prop) (x:X):aaQ s d af K (some (x,none))↔K (s.put d x):=cZ
def Z3w (b:Bool) (p q:Prop):acG (some b) p q↔if b=true then p else q:=by cases b <;> simp[acG]
def Zw (P:Program) (pr:Pr) (id:Nat) (l:List Oper) (s:S) (Q:Ex→S→Prop):WC P pr (.region id l.toArray false) s Q↔WO P pr false l.toArray 0 l s (agp Q):=aEI id l.toArray s Q
def Zx (P:Program) (pr:Pr) (id:Nat) (l:List Oper) (s:S) (Q:Ex→S→Prop):WC P pr (.region id l.toArray true) s Q↔if tlB l=true then WOT P pr l.toArray 0 l s (agp Q) else tlQ (abQ pr.obj l) (fun n=>WD P pr l.toArray n 0 false l s (agp Q)) (if jr l=true then WOB P pr l.toArray 0 l s (agp Q) else if agZ pr.obj l=true then WS P pr l.toArray l s (agp Q) else WO P pr true l.toArray 0 l s (agp Q)):=aEH id l.toArray s Q
def aMl (P:Program) (pr:Pr) (ops:Array Oper) (n k:Nat) (b:Bool) (d:Option Nat) (op:Op) (ty:Nat) (po:String) (af:Array Edge) (g:Option (Nat×Bool)) (l:List Oper) (s:S) (Q:Option X→S→Prop) :
  WD P pr ops n k b (⟨d,op,ty,po,af,g⟩::l) s Q↔ahd (decide (l.length<n)) (acG (fI ops s ⟨d,op,ty,po,af,g⟩) (SO P pr false k ⟨d,op,ty,po,af,g⟩ s (ai5 (fun s'=>WD P pr ops n (k+1) b l s' Q) fun _ _=>False)) (WD P pr ops n (k+1) b l (s.put d (.of .undef)) Q))
   (ahd (ik pr.obj op&&g.isNone) (b=false∧mkQ P pr (fun es=>WD P pr ops n (k+1) true l ({s with objs:=s.objs++[Ob.map es]}.put d (.mp s.objs.length)) Q) op)
    (acG (fI ops s ⟨d,op,ty,po,af,g⟩) (SO P pr true k ⟨d,op,ty,po,af,g⟩ s (ai5 (fun s'=>WD P pr ops n (k+1) b l s' Q) fun _ _=>False)) (WD P pr ops n (k+1) b l (s.put d (.of .undef)) Q))):=aTw ops n k b ⟨d,op,ty,po,af,g⟩ l s Q
def aM0 (A:Nat→Prop) (B:Prop):tlQ 0 A B↔B:=cZ
def aMZ (A:Nat→Prop) (B:Prop):tlQ 1 A B↔A 1:=cZ
def aMY (A:Nat→Prop) (B:Prop):tlQ 2 A B↔A 2:=cZ
def aT2 {n n':Nat} (A:Nat→Prop) (B:Prop) (h:Unit→n=n'):tlQ n A B=tlQ n' A B:=by rw[h ()]
def ax6 (A B:Prop):ahd true A B↔A:=cZ
def ax7 (A B:Prop):ahd false A B↔B:=cZ
def aKh {b b':Bool} (A B:Prop) (h:Unit→b=b'):ahd b A B=ahd b' A B:=by rw[h ()]
attribute [congr] aT2 aKh
def aWq (P:Program) (pr:Pr) (K:List (Value×C)→Prop) (g:Nat) (a:Array Operand) (t:Array Nat):mkQ P pr K (.call {callee:=.value (.func g),args:=a,argTypes:=t})↔ak P g=true∧bp P pr g [] [] (mkK K):=cZ
def aG3 (K:List (Value×C)→Prop) (es:List (Value×C)):mkK K ⟨false,[.mp 0],[.map es]⟩↔K es:=cZ
def aQg (obj:Nat→Bool) (a b c:Oper) (l:List Oper):abQ obj (a::b::c::l)=abQ obj (b::c::l):=rfl
def aT1 (obj:Nat→Bool) (d:Option Nat) (o:Op) (ty:Nat) (po:String) (af:Array Edge) (g:Option (Nat×Bool)) (d':Option Nat) (o':Op) (ty':Nat) (po':String) (af':Array Edge) (g':Option (Nat×Bool)):abQ obj [⟨d,o,ty,po,af,g⟩,⟨d',o',ty',po',af',g'⟩]=if (acF obj o'&&g'.isNone)=true then 1 else if (acF obj o&&g.isNone&&(opK o' == 2&&g'.isNone))=true then 2 else 0:=rfl
def aRh (obj:Nat→Bool) (g:Nat) (a:Array Operand) (t:Array Nat):acF obj (.call {callee:=.value (.func g),args:=a,argTypes:=t})=obj g:=rfl
def a2X (obj:Nat→Bool) (g:Builtin) (a:Array Operand) (t:Array Nat):acF obj (.call {callee:=.builtin g,args:=a,argTypes:=t})=false:=rfl
def aGU (obj:Nat→Bool):∀ x0,acF obj (.assign x0)=false:=fun _=>rfl
def aRe (obj:Nat→Bool):∀ x0 x1 x2,acF obj (.pick x0 x1 x2)=false:=fun _ _ _=>rfl
def aK8 (obj:Nat→Bool):∀ x0 x1 x2 x3 x4,acF obj (.binOp x0 x1 x2 x3 x4)=false:=fun _ _ _ _ _=>rfl
def aRf (obj:Nat→Bool):∀ x0 x1,acF obj (.load x0 x1)=false:=fun _ _=>rfl
def asv (obj:Nat→Bool):∀ x0 x1 x2,acF obj (.buildSlice x0 x1 x2)=false:=fun _ _ _=>rfl
def aK9 (obj:Nat→Bool):∀ x0,acF obj (.alloc x0)=false:=fun _=>rfl
def aK7 (obj:Nat→Bool):∀ x0 x1 x2,acF obj (.store x0 x1 x2)=false:=fun _ _ _=>rfl
def Z6k (Q:Option X→S→Prop) (s:S):aUR Q none s=Q none s:=rfl
def Z4q (obj:Nat→Bool) (d:Option Nat) (o:Op) (ty:Nat) (po:String) (af:Array Edge) (g:Option (Nat×Bool)) (r:List Oper):agZ obj (⟨d,o,ty,po,af,g⟩::r)=(ik obj o&&g.isNone):=rfl
def Z7y (a b:Oper) (l:List Oper):jr (a::b::l)=jr (b::l):=rfl
def Z7z (d:Option Nat) (o:Op) (ty:Nat) (po:String) (af:Array Edge) (g:Option (Nat×Bool)):jr [⟨d,o,ty,po,af,g⟩]=(eU o&&g.isNone):=rfl
def Z8i (t:Nat) (a x:Operand):eU (.store t a x)=true:=rfl
def Z84 (c:Call):eU (.call c)=false:=rfl
def Z4v (obj:Nat→Bool) (g:Nat) (tys:Array Nat):ik obj (.call {callee:=.value (.func g),args:=#[],argTypes:=tys})=obj g:=rfl
def Z4w (obj:Nat→Bool) (c:Callee) (a:Operand) (l:List Operand) (tys:Array Nat):ik obj (.call {callee:=c,args:=(a::l).toArray,argTypes:=tys})=false:=by
 unfold ik
 split
 .rename_i h
  cases h
  rfl
 .rfl
def Z56 (obj:Nat→Bool):∀ x0,ik obj (.move x0)=false:=fun _=>rfl
def Z80:∀ x0,eU (.assign x0)=false:=fun _=>rfl
def Z8g:∀ x0 x1 x2,eU (.pick x0 x1 x2)=false:=fun _ _ _=>rfl
def Z58 (obj:Nat→Bool):∀ x0 x1 x2,ik obj (.pick x0 x1 x2)=false:=fun _ _ _=>rfl
def Z81:∀ x0 x1 x2 x3 x4,eU (.binOp x0 x1 x2 x3 x4)=false:=fun _ _ _ _ _=>rfl
def Z4s (obj:Nat→Bool):∀ x0 x1 x2 x3 x4,ik obj (.binOp x0 x1 x2 x3 x4)=false:=fun _ _ _ _ _=>rfl
def Z8b:∀ x0 x1,eU (.load x0 x1)=false:=fun _ _=>rfl
def Z53 (obj:Nat→Bool):∀ x0 x1,ik obj (.load x0 x1)=false:=fun _ _=>rfl
def Z50 (obj:Nat→Bool):∀ x0 x1 x2,ik obj (.fieldAddr x0 x1 x2)=false:=fun _ _ _=>rfl
def Z52 (obj:Nat→Bool):∀ x0 x1 x2,ik obj (.indexAddr x0 x1 x2)=false:=fun _ _ _=>rfl
def Z51 (obj:Nat→Bool):∀ x0 x1 x2,ik obj (.index x0 x1 x2)=false:=fun _ _ _=>rfl
def Z4t (obj:Nat→Bool):∀ x0 x1,ik obj (.build x0 x1)=false:=fun _ _=>rfl
def Z83:∀ x0 x1 x2,eU (.buildSlice x0 x1 x2)=false:=fun _ _ _=>rfl
def Z4u (obj:Nat→Bool):∀ x0 x1 x2,ik obj (.buildSlice x0 x1 x2)=false:=fun _ _ _=>rfl
def Z54 (obj:Nat→Bool):∀ x0 x1 x2 x3,ik obj (.lookup x0 x1 x2 x3)=false:=fun _ _ _ _=>rfl
def aRa:∀ x0,opK (.move x0)=0:=fun _=>rfl
def aF9:∀ x0,opK (.assign x0)=2:=fun _=>rfl
def aK3:∀ x0,opK (.alloc x0)=3:=fun _=>rfl
def aRb:∀ x0 x1,opK (.load x0 x1)=4:=fun _ _=>rfl
def aK2:∀ x0 x1 x2 x3 x4,opK (.binOp x0 x1 x2 x3 x4)=0:=fun _ _ _ _ _=>rfl
def awL:∀ x0 x1 x2,eU (.makeFunc x0 x1 x2)=false:=fun _ _ _=>rfl
def auF:∀ x0 x1 x2,opK (.fieldAddr x0 x1 x2)=0:=fun _ _ _=>rfl
def aF8:∀ x0 x1 x2 x3,opK (.lookup x0 x1 x2 x3)=0:=fun _ _ _ _=>rfl
def aCR:∀ x0 x1,opK (.extract x0 x1)=0:=fun _ _=>rfl
def aRc:∀ x0,opK (.call x0)=0:=fun _=>rfl
def aK1:∀ x0 x1 x2,opK (.store x0 x1 x2)=1:=fun _ _ _=>rfl
def aT4 (l:List Oper):tlB l=tlM l (aiW l):=rfl
def aJ2 (l:List Oper):tlM l none=false:=rfl
def aJ1 (l:List Oper) (d:Nat):tlM l (some d)=!ajT d l:=rfl
def aJ3 (a b c:Oper) (l:List Oper):aiW (a::b::c::l)=aiW (b::c::l):=rfl
def aQh (d:Option Nat) (o:Op) (ty:Nat) (po:String) (af:Array Edge) (g:Option (Nat×Bool)) (d':Option Nat) (o':Op) (ty':Nat) (po':String) (af':Array Edge) (g':Option (Nat×Bool)):aiW [⟨d,o,ty,po,af,g⟩,⟨d',o',ty',po',af',g'⟩]=if (eU o&&g.isNone&&(g'.isNone&&(eU o'||opK o' == 2)))=true then aMg o else none:=rfl
def aZ2 (t d:Nat) (x:Operand):aMg (.store t (.tmp d) x)=some d:=rfl
def aLf (d:Nat):ajT d []=false:=rfl
def aG9 (j:Nat) (d:Option Nat) (o:Op) (ty:Nat) (po:String) (af:Array Edge) (g:Option (Nat×Bool)) (l:List Oper):ajT j (⟨d,o,ty,po,af,g⟩::l)=((opK o == 3&&eqD d j)||ajT j l):=rfl
def aLU (a d:Nat):eqD (some a) d=(a == d):=rfl
def aLV (d:Nat):eqD none d=false:=rfl
def aRD {b b':Bool} (p:Prop) (h:Unit→b=b'):aWL b p=aWL b' p:=by rw[h ()]
def aT3 (l:List Oper) {x x':Option Nat} (h:Unit→x=x'):tlM l x=tlM l x':=by rw[h ()]
def aIC {g g':Option Bool} (p q:Prop) (h:Unit→g=g'):acG g p q=acG g' p q:=by rw[h ()]
def aLZ {g g':Option Bool} (p q:Prop) (h:Unit→g=g'):atv g p q=atv g' p q:=by rw[h ()]
def aQ4 (s:S) (d:Option Nat) (af:Array Edge) (K:S→Prop) {v v':Out} (h:Unit→v=v'):aaQ s d af K v=aaQ s d af K v':=by rw[h ()]
def aQ6 (Q:S→Prop) {v v':Option S} (h:Unit→v=v'):abX Q v=abX Q v':=by rw[h ()]
def aMG (P:Program) (pr:Pr) (f:Nat) {xs xs':List X} {obs obs':List Ob} (K:An→Prop) (h:Unit→xs=xs') (h':Unit→obs=obs'):bp P pr f xs obs K=bp P pr f xs' obs' K:=by rw[h (),h' ()]
def aL7 (P:Program) (pr:Pr) (dr:Bool) (s:S) (k:Nat) (d:Option Nat) (Q:Option X→S→Prop) (f:Nat) {us us':List X} (caps:List C) {cs cs':Option (List C)} {b b':Bool} (h1:Unit→us=us') (h2:Unit→cs=cs') (h3:Unit→b=b') :
  aib P pr dr s k d Q f us caps cs b=aib P pr dr s k d Q f us' caps cs' b':=by rw[h1 (),h2 (),h3 ()]
def aL6 (P:Program) (pr:Pr) (dr:Bool) (s:S) (k:Nat) (d:Option Nat) (Q:Option X→S→Prop) {us us':List X} {cs cs':Option (List C)} {x x':X} (h1:Unit→us=us') (h2:Unit→cs=cs') (h3:Unit→x=x') :
  agL P pr dr s k d Q us cs x=agL P pr dr s k d Q us' cs' x':=by rw[h1 (),h2 (),h3 ()]
def aF1 (P:Program) (pr:Pr) (s:S) (k:Nat) (d:Option Nat) (Q:Option X→S→Prop) (f:Nat) (caps:List C) {cs cs':Option (List C)} (h:Unit→cs=cs'):ajN P pr s k d Q f caps cs=ajN P pr s k d Q f caps cs':=by rw[h ()]
def aK6 (P:Program) (pr:Pr) (s:S) (k:Nat) (d:Option Nat) (Q:Option X→S→Prop) (f:Nat) {us us':List X} {refs refs':List Nat} {ts ts':List Tk} (h1:Unit→us=us') (h2:Unit→refs=refs') (h3:Unit→ts=ts') :
  agu P pr s k d Q f us refs ts=agu P pr s k d Q f us' refs' ts':=by rw[h1 (),h2 (),h3 ()]
def aK5 (P:Program) (pr:Pr) (s:S) (k:Nat) (d:Option Nat) (refs:List Nat) (ts:List Tk) (Q:Option X→S→Prop) (f:Nat) (us:List X) {obs obs':Option (List Ob)} (h1:Unit→obs=obs') :
  apc P pr s k d refs ts Q f us obs=apc P pr s k d refs ts Q f us obs':=by rw[h1 ()]
def aQ3 (Q:Option X→S→Prop) (s:S) {c c':Option C} (h:Unit→c=c'):aUQ Q s c=aUQ Q s c':=by rw[h ()]
attribute [congr] aIC aLZ aQ4 aQ6 aMG aL7 aL6 aF1 aK6 aK5 aQ3
section
variable (P:Program) (T:TT) (t:Nat) (u:Option TypeDesc) (k:IntKind) (a b:Int)
theorem Z1r:gY P T t u .lss (.of (.lit (.int k a))) (.of (.lit (.int k b)))=out (aG (decide (a<b))):=by simp[gY,gk,aaK,adj,dE,out]
theorem Z1q:gY P T t u .leq (.of (.lit (.int k a))) (.of (.lit (.int k b)))=out (aG (decide (a≤b))):=by simp[gY,gk,aaK,adj,dE,out]
theorem Z1p:gY P T t u .gtr (.of (.lit (.int k a))) (.of (.lit (.int k b)))=out (aG (decide (b<a))):=by simp[gY,gk,aaK,adj,dE,out]
theorem Z1o:gY P T t u .geq (.of (.lit (.int k a))) (.of (.lit (.int k b)))=out (aG (decide (b≤a))):=by simp[gY,gk,aaK,adj,dE,out]
theorem Z1n:gY P T t u .eql (.of (.lit (.int k a))) (.of (.lit (.int k b)))=out (aG (decide (a=b))):=by simp[gY,gk,aaK,adj,dE,out]
theorem Z1t:gY P T t u .neq (.of (.lit (.int k a))) (.of (.lit (.int k b)))=out (aG (!decide (a=b))):=by simp[gY,gk,aaK,adj,dE,out]
theorem Z1k:gY P T t u .add (.of (.lit (.int k a))) (.of (.lit (.int k b)))=out (.of (.lit (.int k (k.wrap (a+b))))):=by simp[gY,gk,aaK,adj,dE,out]
theorem Z1x:gY P T t u .sub (.of (.lit (.int k a))) (.of (.lit (.int k b)))=out (.of (.lit (.int k (k.wrap (a-b))))):=by simp[gY,gk,aaK,adj,dE,out]
theorem Z1v (x y:ByteArray):gY P T t u .eql (.of (.lit (.string x))) (.of (.lit (.string y)))=out (aG (decide (x=y))):=by simp[gY,gk,aaK,amw,dE,out]
theorem Z1w (x y:ByteArray):gY P T t u .neq (.of (.lit (.string x))) (.of (.lit (.string y)))=out (aG (!decide (x=y))):=by simp[gY,gk,aaK,amw,dE,out]
theorem Z1u (x y:ByteArray):gY P T t u .add (.of (.lit (.string x))) (.of (.lit (.string y)))=if x.size+y.size≤gN then out (dy (x++y)) else none:=by
 simp only[gY,gk,aaK,amw]
 split <;> rfl
theorem Z1l (x y:Bool):gY P T t (some .bool) .eql (.of (.lit (.bool x))) (.of (.lit (.bool y)))=out (aG (x == y)):=by simp[gY,gk,aaK,anr,ajW,dE,out]
theorem Z1m (x y:Bool):gY P T t (some .bool) .neq (.of (.lit (.bool x))) (.of (.lit (.bool y)))=out (aG (!(x == y))):=by simp[gY,gk,aaK,anr,ajW,dE,out]
theorem Z9n (b:Bool):unX .not (.of (.lit (.bool b)))=out (aG (!b)):=rfl
end
def Z4h (b:Bool):acZ (.of (.lit (.bool b)))=some b:=rfl
def aWr (m n:Int):an9 (.of (.lit (.int .i64 m))) (.of (.lit (.int .i64 n)))=out (aU (if m<n then n else m)):=rfl
def Z4j (v:Value):gk (.of (.lit v))=some v:=rfl
def Z6q (s:S) (x y:Operand) (b:Bool):aCK s x y (some b)=out (if b=true then s.ev x else s.ev y):=rfl
def Z4f (s:ByteArray):abw (some .string) (.of (.lit (.string s)))=out (aU s.size):=rfl
def Z4d (e:Nat) (t:Tk) (e' z:Nat) (cs:List C) (n:Nat):abw (some (.slice e)) (.own t e' z cs n)=out (aU n):=rfl
def Z4c (e:Nat):abw (some (.slice e)) .nil=out (aU 0):=rfl
def Z6e (s:S) (d:Option Nat) (af:Array Edge) (K:S→Prop) (c:Prop) [Decidable c] (v:Out):aaQ s d af K (if c then v else none)↔c∧aaQ s d af K v:=by
 split
 .simp[*]
 .simp[*,aaQ]
def Z72 (c:C):X.rd (.of c)=some c:=rfl
def Z73 (t:Tk) (e z:Nat) (cs:List C) (n:Nat):X.rd (.own t e z cs n)=some (.sl cs n):=rfl
def Z71:X.rd .nil=some (.sl [] 0):=rfl
def Z70 (f:Operand→X):aay f []=some []:=rfl
def atu (c:Option C) (cs:Option (List C)):Option (List C):=match c,cs with
 | some c,some cs=>some (c::cs)
 | _,_=>none
def Z6z (f:Operand→X) (x:Operand) (r:List Operand):aay f (x::r)=atu (f x).rd (aay f r):=by
 simp only[aay,atu]
 cases (f x).rd <;> cases aay f r <;> rfl
def Z2u (c:C) (cs:List C):atu (some c) (some cs)=some (c::cs):=rfl
def Z26 (P:Program) (pr:Pr) (dr:Bool) (s:S) (k:Nat) (d:Option Nat) (Q:Option X→S→Prop) (f:Nat) (us:List X) (caps:List C) (cs:Option (List C)):aib P pr dr s k d Q f us caps cs false↔ajN P pr s k d Q f caps cs:=cZ
def Z27 (P:Program) (pr:Pr) (dr:Bool) (s:S) (k:Nat) (d:Option Nat) (Q:Option X→S→Prop) (f:Nat) (us:List X) (caps:List C) (cs:Option (List C)):aib P pr dr s k d Q f us caps cs true↔dr=false∧agu P pr s k d Q f us (aah s.objs 999 (X.refsL us) []) (aeW (pr.tk f) us):=cZ
def Z29 (P:Program) (pr:Pr) (dr:Bool) (s:S) (k:Nat) (d:Option Nat) (Q:Option X→S→Prop) (args:List X) (cs:Option (List C)) (f:Nat) (caps:List C):agL P pr dr s k d Q args cs (.of (.fn f caps))↔aib P pr dr s k d Q f (args++caps.map .of) caps cs (pr.obj f):=cZ
def Z28 (P:Program) (pr:Pr) (dr:Bool) (s:S) (k:Nat) (d:Option Nat) (Q:Option X→S→Prop) (args:List X) (cs:Option (List C)) (f:Nat) (caps:List X):agL P pr dr s k d Q args cs (.clo f caps)↔pr.obj (ahV f)=true∧dr=false∧agu P pr s k d Q (ahV f) (alj f caps args) (aah s.objs 999 (X.refsL (alj f caps args)) []) (aeW (pr.tk (ahV f)) (alj f caps args)):=cZ
def aRj (r o:Nat):aWo (.ptr r o)=out (.ptr r o):=rfl
def aR1 (f:Nat):ahV f=f / 2:=rfl
def aR2 (f:Nat) (caps args:List X):alj f caps args=if f % 2=0 then args++caps else caps++args:=rfl
def aR3 (c:C):afo (.of c)=some (.of c):=rfl
def aL5 (r o:Nat):afo (.ptr r o)=some (.ptr r o):=rfl
def avO:Option X→Option (List X)→Option (List X)
 | some y,some r=>some (y::r)
 | _,_=>none
def aI2:abE []=some []:=rfl
def aEk (x:X) (l:List X):abE (x::l)=avO (afo x) (abE l):=by
 simp only[abE,avO]
 cases afo x <;> cases abE l <;> rfl
def axA (y:X) (r:List X):avO (some y) (some r)=some (y::r):=rfl
def aI1 (f:Nat) (xs:List X):ajB f (some xs)=out (.clo f xs):=rfl
def aLE (f:Nat) (xs:List X):fnX f xs none=ajB (2*f) (abE xs):=rfl
def aUK (r o:Nat):X.rd (.ptr r o)=none:=rfl
def aEf (cs:Option (List C)):atu none cs=none:=rfl
def Z6s (P:Program) (pr:Pr) (s:S) (k:Nat) (d:Option Nat) (Q:Option X→S→Prop) (f:Nat) (caps cs:List C):ajN P pr s k d Q f caps (some cs)↔ak P f=true∧bp P pr f ((cs++caps).map .of) [] (auy s k d Q):=cZ
def aqK {α:Type} (v:α) (K:α→Prop):Prop:=K v
def aRs {α:Type} {v v':α} (K:α→Prop) (h:Unit→v=v'):aqK v K=aqK v' K:=by rw[h ()]
attribute [congr] aRs
def Z4g {α:Type} (v:α) (K:α→Prop):aqK v K↔K v:=cZ
def Z6r (s:S) (k:Nat) (d:Option Nat) (Q:Option X→S→Prop) (rs:List X):auy s k d Q ⟨false,rs,[]⟩↔aqK (aek (agB s.clk k rs)) fun x=>Q none (s.put d x):=cZ
def Z5w (P:Program) (pr:Pr) (s:S) (k:Nat) (d:Option Nat) (Q:Option X→S→Prop) (f:Nat) (us:List X) (refs:List Nat) (ts:List Tk):agu P pr s k d Q f us refs ts↔apc P pr s k d refs ts Q f us (jj (pos refs) (aa5 refs ts) (aeM ts s.objs) refs):=cZ
def Z5x (P:Program) (pr:Pr) (s:S) (k:Nat) (d:Option Nat) (refs:List Nat) (ts:List Tk) (Q:Option X→S→Prop) (f:Nat) (us:List X) (obs:List Ob):apc P pr s k d refs ts Q f us (some obs)↔ak P f=true∧bp P pr f (X.trs (pos refs) (aa5 refs ts) us) obs (anu s k d refs ts Q):=cZ
def S.bfr (s:S) (refs:List Nat) (ts:List Tk):S:={s with fr:=fun j=>(s.fr j).tr some (aar refs ts)}
def S.withO (s:S) (objs:List Ob):S:={s with objs:=objs}
def aP9 (refs:List Nat) (ts:List Tk) (clk k:Nat) (objs obs:List Ob):List Ob:=jB (fun i=>some (fS refs objs.length i)) (fH refs objs.length clk k) (objs.map (Ob.tr some (aar refs ts))) refs obs++(obs.drop refs.length).map (Ob.tr (fun i=>some (fS refs objs.length i)) (fH refs objs.length clk k))
def Z1e (refs:List Nat) (ts:List Tk) (clk k:Nat) (objs obs:List Ob):aP9 refs ts clk k objs obs=jB (fun i=>some (fS refs objs.length i)) (fH refs objs.length clk k) (objs.map (Ob.tr some (aar refs ts))) refs obs++(obs.drop refs.length).map (Ob.tr (fun i=>some (fS refs objs.length i)) (fH refs objs.length clk k)):=rfl
def Z1f (s:S) (k:Nat) (d:Option Nat) (refs:List Nat) (ts:List Tk) (Q:Option X→S→Prop) (rs:List X) (obs:List Ob) (h:refs.length≤obs.length) :
  anu s k d refs ts Q ⟨false,rs,obs⟩↔aqK (aP9 refs ts s.clk k s.objs obs) fun o=>aqK (aek (X.trs (fun i=>some (fS refs s.objs.length i)) (fH refs s.objs.length s.clk k) rs)) fun x=>Q none (((s.bfr refs ts).withO o).put d x):=by
 unfold anu ant
 rw[aE h]
 rfl
def Z1i (s:S) (refs:List Nat) (ts:List Tk) (j:Nat):(s.bfr refs ts).fr j=(s.fr j).tr some (aar refs ts):=rfl
def Z1h (s:S) (refs:List Nat) (ts:List Tk):(s.bfr refs ts).clk=s.clk:=rfl
section
variable (σ:Nat→Option Nat) (ρ:Tk→Option Tk)
theorem Z9g (c:C):(X.of c).tr σ ρ=.of c:=rfl
theorem Z9f:X.nil.tr σ ρ=.nil:=rfl
theorem Z9d (f:Nat) (xs:List X):(X.clo f xs).tr σ ρ=.clo f (X.trs σ ρ xs):=rfl
def trP (off:Nat):Option Nat→X
 | some r=>.ptr r off
 | none=>.of .any
def trM:Option Nat→X
 | some r=>.mp r
 | none=>.of .any
def trO (e z:Nat) (cs:List C) (n:Nat):Option Tk→X
 | some t=>.own t e z cs n
 | none=>.of (.sl cs n)
theorem Z9i (r off:Nat):(X.ptr r off).tr σ ρ=trP off (σ r):=by simp only[X.tr,trP];cases σ r <;> rfl
theorem Z9e (r:Nat):(X.mp r).tr σ ρ=trM (σ r):=by simp only[X.tr,trM];cases σ r <;> rfl
theorem Z9h (t:Tk) (e z:Nat) (cs:List C) (n:Nat):(X.own t e z cs n).tr σ ρ=trO e z cs n (ρ t):=by simp only[X.tr,trO];cases ρ t <;> rfl
theorem Z9l:X.trs σ ρ []=[]:=rfl
theorem Z9k (x:X) (xs:List X):X.trs σ ρ (x::xs)=x.tr σ ρ::X.trs σ ρ xs:=rfl
theorem Z61 (ty:Nat) (xs:List X):(Ob.var ty xs).tr σ ρ=.var ty (X.trs σ ρ xs):=rfl
theorem Z60 (es:List (Value×C)):(Ob.map es).tr σ ρ=.map es:=rfl
end
def Z9b (off r:Nat):trP off (some r)=.ptr r off:=rfl
def Z98 (r:Nat):trM (some r)=.mp r:=rfl
def Z9a (e z:Nat) (cs:List C) (n:Nat) (t:Tk):trO e z cs n (some t)=.own t e z cs n:=rfl
def Z99 (e z:Nat) (cs:List C) (n:Nat):trO e z cs n none=.of (.sl cs n):=rfl
def Z5i (c k:Nat):agB c k []=[]:=rfl
def Z5h (c k:Nat) (x:X) (xs:List X):agB c k (x::xs)=x.tr (fun _=>none) (acd c k)::agB c k xs:=rfl
def Z5g (c k i:Nat):acd c k (.nm 0 0 i)=some (.nm c k i):=rfl
def Z6u {α:Type} [DecidableEq α] (a:α):pos [] a=none:=rfl
def Z6t {α:Type} [DecidableEq α] (b:α) (l:List α) (a:α):pos (b::l) a=if b=a then some 0 else (pos l a).map (·+1):=rfl
def aUH (refs:List Nat):Tk→Option Tk
 | .cell r off=>(pos refs r).map fun r'=>.cell r' off
 | .nm ..=>none
def aua (refs:List Nat) (t:Tk):Option Nat→Option Tk
 | some i=>some (.nm 0 0 i)
 | none=>aUH refs t
def Z7n (refs:List Nat) (ts:List Tk) (t:Tk):aa5 refs ts t=aua refs t (pos ts t):=by
 unfold aa5 aua aUH
 cases pos ts t <;> rfl
def Z7q (refs:List Nat) (t:Tk) (i:Nat):aua refs t (some i)=some (.nm 0 0 i):=rfl
def Z7o (refs:List Nat) (r off:Nat):aua refs (.cell r off) none=(pos refs r).map fun r'=>.cell r' off:=rfl
def Z7p (refs:List Nat) (a b c:Nat):aua refs (.nm a b c) none=none:=rfl
def Z44 (refs:List Nat) (ts:List Tk) (r off:Nat):aar refs ts (.cell r off)=if Tk.cell r off∈ts then none else if r∈refs then none else some (.cell r off):=rfl
def Z45 (refs:List Nat) (ts:List Tk) (a b c:Nat):aar refs ts (.nm a b c)=if Tk.nm a b c∈ts then none else some (.nm a b c):=rfl
def Z7w (r:Nat) (refs:List Nat) (L:Nat):fS (r::refs) L 0=r:=rfl
def Z7u (L i:Nat):fS [] L i=L+i:=rfl
def Z7v (r:Nat) (refs:List Nat) (L i:Nat):fS (r::refs) L (i+1)=fS refs L i:=by
 simp only[fS,dK,aB]
 cases refs[i]? with
 | some r=>rfl
 | none=>simp only;congr 1;omega
def Z7m (refs:List Nat) (L c k i:Nat):fH refs L c k (.nm 0 0 i)=some (.nm c k i):=rfl
def Z7l (refs:List Nat) (L c k r off:Nat):fH refs L c k (.cell r off)=some (.cell (fS refs L r) off):=rfl
def Z2z (objs:List Ob):aeM [] objs=objs:=rfl
def Z2y (t:Tk) (ts:List Tk) (objs:List Ob):aeM (t::ts) objs=objs.map (Ob.tr some fun t'=>if t'∈t::ts then none else some t'):=rfl
def avP:Option Ob→Option (List Ob)→Option (List Ob)
 | some a,some b=>some (a::b)
 | _,_=>none
def Z6p (σ:Nat→Option Nat) (ρ:Tk→Option Tk) (objs:List Ob):jj σ ρ objs []=some []:=rfl
def Z6o (σ:Nat→Option Nat) (ρ:Tk→Option Tk) (objs:List Ob) (r:Nat) (l:List Nat):jj σ ρ objs (r::l)=avP ((objs[r]?).map (Ob.tr σ ρ)) (jj σ ρ objs l):=by
 simp only[jj,avP]
 cases objs[r]? <;> cases jj σ ρ objs l <;> rfl
def Z2v (a:Ob) (b:List Ob):avP (some a) (some b)=some (a::b):=rfl
def Z7t (σ:Nat→Option Nat) (ρ:Tk→Option Tk) (objs obs:List Ob):jB σ ρ objs [] obs=objs:=by cases obs <;> rfl
def Z7s (σ:Nat→Option Nat) (ρ:Tk→Option Tk) (objs:List Ob) (r:Nat) (l:List Nat) (ob:Ob) (q:List Ob):jB σ ρ objs (r::l) (ob::q)=jB σ ρ (objs.set r (ob.tr σ ρ)) l q:=rfl
def Z75 (objs:List Ob) (n:Nat) (seen:List Nat):aah objs n [] seen=seen:=by cases n <;> rfl
def Z74 (objs:List Ob) (n r:Nat) (todo seen:List Nat):aah objs (n+1) (r::todo) seen=if r∈seen then aah objs n todo seen else aah objs n (((objs[r]?).map Ob.refs).getD []++todo) (seen++[r]):=rfl
def Z7c (c:C):(X.of c).refs=[]:=rfl
def Z7b:X.nil.refs=[]:=rfl
def Z7d (t:Tk) (e z:Nat) (cs:List C) (n:Nat):(X.own t e z cs n).refs=[]:=rfl
def Z7e (r o:Nat):(X.ptr r o).refs=[r]:=rfl
def Z7a (r:Nat):(X.mp r).refs=[r]:=rfl
def Z79 (f:Nat) (xs:List X):(X.clo f xs).refs=X.refsL xs:=rfl
def Z77:X.refsL []=[]:=rfl
def Z76 (x:X) (xs:List X):X.refsL (x::xs)=x.refs++X.refsL xs:=rfl
def Z5z (ty:Nat) (xs:List X):(Ob.var ty xs).refs=X.refsL xs:=rfl
def Z5y (es:List (Value×C)):(Ob.map es).refs=[]:=rfl
def Z94 (c:C):(X.of c).toks=[]:=rfl
def Z93:X.nil.toks=[]:=rfl
def Z95 (t:Tk) (e z:Nat) (cs:List C) (n:Nat):(X.own t e z cs n).toks=[t]:=rfl
def Z92 (r:Nat):(X.mp r).toks=[]:=rfl
def Z8z:X.toksL []=[]:=rfl
def Z8y (x:X) (xs:List X):X.toksL (x::xs)=x.toks++X.toksL xs:=rfl
def Z8w (us:List X):aeW false us=[]:=rfl
def Z8x (us:List X):aeW true us=nub (X.toksL us) []:=rfl
def Z5v {α:Type} [DecidableEq α] (seen:List α):nub [] seen=seen:=rfl
def Z5u {α:Type} [DecidableEq α] (a:α) (l seen:List α):nub (a::l) seen=if a∈seen then nub l seen else nub l (seen++[a]):=rfl
def Z6d (Q:S→Prop) (s:S):abX Q (some s)↔Q s:=cZ
def Z15 (s:S) (d:Option Nat) (ty:Nat) (xs:List X):ap7 s d ty (some xs)=some (akf s d ty xs):=rfl
def Z5p:abA []=true:=rfl
def Z5q (c:C) (xs:List X):abA (.of c::xs)=abA xs:=rfl
def Z5o (xs:List X):abA (.nil::xs)=abA xs:=rfl
def Z5s (r o:Nat) (xs:List X):abA (.ptr r o::xs)=abA xs:=rfl
def Z5r (t:Tk) (e z:Nat) (cs:List C) (n:Nat) (xs:List X):abA (.own t e z cs n::xs)=false:=rfl
def Z9p (s:S) (objs:List Ob) (j:Nat):(s.withO objs).fr j=s.fr j:=rfl
def Z9q (s:S) (objs:List Ob):(s.withO objs).objs=objs:=rfl
def Z9o (s:S) (objs:List Ob):(s.withO objs).clk=s.clk:=rfl
def Z8n (ρ:Tk→Option Tk) (s:S) (j:Nat):(s.tr ρ).fr j=(s.fr j).tr some ρ:=rfl
def Z8o (ρ:Tk→Option Tk) (s:S):(s.tr ρ).objs=s.objs.map (Ob.tr some ρ):=rfl
def aof (r off:Nat) (xs:List X) (s:S):Bool→S
 | true=>s
 | false=>s.tr (adE r off xs.length (gf r off xs))
def Z16 (s:S) (d:Option Nat) (ty:Nat) (xs:List X):akf s d ty xs=(aof s.objs.length 0 xs (s.withO (s.objs++[Ob.var ty xs])) (abA xs)).put d (.ptr s.objs.length 0):=by
 unfold akf aoe aof S.withO
 cases abA xs <;> simp[abA]
def aoW (s:S) (d:Option Nat) (n r off:Nat) (xs:List X):Option Ob→Option S
 | some (.var ty ys)=>if xs.length=n∧off+xs.length≤ys.length then some ((aof r off xs (s.withO (s.objs.set r (Ob.var ty (ys.take off++xs++ys.drop (off+xs.length))))) (abA xs&&abA ((ys.drop off).take xs.length))).put d (.of .undef)) else none
 | _=>none
def Z8k (s:S) (d:Option Nat) (td:TD) (r off:Nat) (xs:List X):alP s d (some td) (.ptr r off) (some xs)=aoW s d td.size r off xs (s.objs[r]?):=by
 simp only[alP,agm,aoW]
 cases s.objs[r]? with
 | none=>rfl
 | some ob =>
  cases ob with
  | map es=>rfl
  | var ty ys =>
   simp only
   split
   .simp only[ae]
    unfold aoe aof S.withO
    cases abA xs <;> cases abA ((ys.drop off).take xs.length) <;> rfl
   .rfl
def Z47 (r off:Nat) (xs:List X) (s:S):aof r off xs s true=s:=rfl
def Z46 (r off:Nat) (xs:List X) (s:S):aof r off xs s false=s.tr (adE r off xs.length (gf r off xs)):=rfl
def aDc (r off n:Nat) (t:Tk):Option Tk→Option Tk
 | some t'=>some t'
 | none=>match t with
  | .cell r' o'=>if r'=r∧off≤o'∧o'<off+n then none else some t
  | .nm ..=>some t
def Z5f (r off n:Nat) (mv:List (Tk×Tk)) (t:Tk):adE r off n mv t=aDc r off n t (adx mv t):=by
 unfold adE aDc
 cases adx mv t <;> rfl
def Z5e (r off n:Nat) (t t':Tk):aDc r off n t (some t')=some t':=rfl
def Z1c (a b:Tk) (l:List (Tk×Tk)) (t:Tk):adx ((a,b)::l) t=if a=t then some b else adx l t:=rfl
def Z2d (r off:Nat):gf r off []=[]:=rfl
def Z2f (r off:Nat) (t:Tk) (e z:Nat) (cs:List C) (n:Nat) (xs:List X):gf r off (.own t e z cs n::xs)=(t,.cell r off)::gf r (off+1) xs:=rfl
def Z2e (r off:Nat) (c:C) (xs:List X):gf r off (.of c::xs)=gf r (off+1) xs:=rfl
def Z2c (r off:Nat) (xs:List X):gf r off (.nil::xs)=gf r (off+1) xs:=rfl
def aWp {b b':Bool} (p q:Prop) (h:Unit→b=b'):mtQ b p q=mtQ b' p q:=by rw[h ()]
def aLb (p q:Prop):mtQ true p q↔p:=cZ
def aGZ (p q:Prop):mtQ false p q↔q:=cZ
def stQ (dr mt:Bool) (s:S) (j t:Nat) (af:Array Edge) (Q:S→Prop) (td:Option TD) (xs:Option (List X)) (cs:Option (List C)) (ax:X):Prop:=abX Q (stO dr mt s j t af td xs cs ax)
def aUy (dr:Bool) {mt mt':Bool} (s:S) (j t:Nat) (af:Array Edge) (Q:S→Prop) {td td':Option TD} {xs xs':Option (List X)} {cs cs':Option (List C)} {ax ax':X} (h1:Unit→mt=mt') (h2:Unit→td=td') (h3:Unit→xs=xs') (h4:Unit→cs=cs') (h5:Unit→ax=ax') :
  stQ dr mt s j t af Q td xs cs ax=stQ dr mt' s j t af Q td' xs' cs' ax':=by rw[h1 (),h2 (),h3 (),h4 (),h5 ()]
def a4X (P:Program) (pr:Pr) (dr:Bool) (k:Nat) (ty:Nat) (po:String) (af:Array Edge) (s:S) (Q:Option X→S→Prop) (t j:Nat) (x:Operand):SO P pr dr k ⟨none,.store t (.tmp j) x,ty,po,af,none⟩ s Q↔stQ dr (pr.mt po (some j)) s j t af (Q none) (TT.of P t) (eu (s.ev x)) (gH (s.ev x)) (s.fr j):=Zr dr k ty po af s Q t j x
def aqs (s:S) (td:TD) (r off:Nat) (xs:List X) (Q:S→Prop) (o:Option Ob):Prop:=abX Q (aoW s none td.size r off xs o)
def aQm (s:S) (td:TD) (r off:Nat) (xs:List X) (Q:S→Prop) {o o':Option Ob} (h:Unit→o=o'):aqs s td r off xs Q o=aqs s td r off xs Q o':=by rw[h ()]
def aya (s:S) (j t:Nat) (af:Array Edge) (Q:S→Prop) (td:TD) (cs:List C) (tk:Tk) (ty z:Nat):abX Q (aug s j t tk ty z af (some td) (some cs))↔(ty=t∧z=td.size∧cs.length=z∧abf s.clk af.toList (some tk)=true)∧Q ((s.drop (some tk)).put (some j) (.of (.ref cs))):=by
 unfold aug
 simp only
 split
 .rename_i h;simp only[abX];exact⟨fun q=>⟨h,q⟩,fun q=>q.2⟩
 .rename_i h;simp only[abX];exact⟨fun q=>q.elim,fun q=>h q.1⟩
def aQF (mt:Bool) (s:S) (j t:Nat) (af:Array Edge) (Q:S→Prop) (td:TD) (xs:Option (List X)) (cs:List C) (tk:Tk) (ty z:Nat):stQ true mt s j t af Q (some td) xs (some cs) (.nw (some tk) ty z)↔(ty=t∧z=td.size∧cs.length=z∧abf s.clk af.toList (some tk)=true)∧Q ((s.drop (some tk)).put (some j) (.of (.ref cs))):=aya s j t af Q td cs tk ty z
def aKw (s:S) (j t:Nat) (af:Array Edge) (Q:S→Prop) (td:TD) (xs:Option (List X)) (cs:List C) (tk:Tk) (ty z:Nat):stQ false false s j t af Q (some td) xs (some cs) (.nw (some tk) ty z)↔(ty=t∧z=td.size∧cs.length=z∧abf s.clk af.toList (some tk)=true)∧Q ((s.drop (some tk)).put (some j) (.of (.ref cs))):=aya s j t af Q td cs tk ty z
def aKx (s:S) (j t:Nat) (af:Array Edge) (Q:S→Prop) (td:TD) (xs:List X) (cs:Option (List C)) (tk:Tk) (ty z:Nat):stQ false true s j t af Q (some td) (some xs) cs (.nw (some tk) ty z)↔(ty=t∧z=td.size∧xs.length=z∧abf s.clk af.toList (some tk)=true)∧Q (((s.drop (some tk)).withO ((s.drop (some tk)).objs++[Ob.var t (X.drops tk xs)])).put (some j) (.ptr (s.drop (some tk)).objs.length 0)):=by
 show abX Q (atm s j t tk ty z af (some td) (some xs))↔_
 unfold atm
 simp only
 split
 .rename_i h;simp only[abX];exact⟨fun q=>⟨h,q⟩,fun q=>q.2⟩
 .rename_i h;simp only[abX];exact⟨fun q=>q.elim,fun q=>h q.1⟩
def aQG (mt:Bool) (s:S) (j t:Nat) (af:Array Edge) (Q:S→Prop) (td:TD) (xs:List X) (cs:Option (List C)) (r off:Nat):stQ false mt s j t af Q (some td) (some xs) cs (.ptr r off)↔aqs s td r off xs Q (s.objs[r]?):=by
 unfold aqs
 rw[← Z8k]
 exact cZ
def aQn (s:S) (td:TD) (r off:Nat) (xs:List X) (Q:S→Prop) (ty:Nat) (ys:List X):aqs s td r off xs Q (some (.var ty ys))↔(xs.length=td.size∧off+xs.length≤ys.length)∧Q ((aof r off xs (s.withO (s.objs.set r (Ob.var ty (ys.take off++xs++ys.drop (off+xs.length))))) (abA xs&&abA ((ys.drop off).take xs.length))).put none (.of .undef)):=by
 unfold aqs
 simp only[aoW]
 split
 .rename_i h;simp only[abX];exact⟨fun q=>⟨h,q⟩,fun q=>q.2⟩
 .rename_i h;simp only[abX];exact⟨fun q=>q.elim,fun q=>h q.1⟩
def av8 (s:S) (d:Option Nat) (Q:S→Prop) (td:Option TD) (cs:Option (List C)):Prop:=abX Q (aEr s d td cs)
def aTq (s:S) (d:Option Nat) (Q:S→Prop) {td td':Option TD} {cs cs':Option (List C)} (h:Unit→td=td') (h':Unit→cs=cs'):av8 s d Q td cs=av8 s d Q td' cs':=by rw[h (),h' ()]
def a4Y (P:Program) (pr:Pr) (k:Nat) (d:Option Nat) (ty:Nat) (po:String) (af:Array Edge) (g:Option (Nat×Bool)) (s:S) (Q:Option X→S→Prop) (t:Nat) (x:Operand):SO P pr false k ⟨d,.box t x,ty,po,af,g⟩ s Q↔mtQ (pr.mt po d) (abX (Q none) (ap7 s d t (aEs (TT.of P t) (eu (s.ev x))))) (av8 s d (Q none) (TT.of P t) (gH (s.ev x))):=Z4 k d ty po af g s Q t x
def aTr (s:S) (d:Option Nat) (Q:S→Prop) (td:TD) (cs:List C):av8 s d Q (some td) (some cs)↔(cs.length=td.size∧0<td.size)∧Q (s.put d (.of (.ref cs))):=by
 unfold av8 aEr
 simp only
 split
 .rename_i h;simp only[abX];exact⟨fun q=>⟨h,q⟩,fun q=>q.2⟩
 .rename_i h;simp only[abX];exact⟨fun q=>q.elim,fun q=>h q.1⟩
def aWn (tk:Tk) (t:Nat) (td:TD):nwX tk t (some td)=if 0<td.size then out (.nw (some tk) t td.size) else none:=rfl
def aKF (cs:List C):gH (.of (.agg cs))=some cs:=by
 show ((some (cs.map X.of)).bind X.rds)=some cs
 rw[dG]
 induction cs with
 | nil=>rfl
 | cons c r ih=>rw[aV,X.rds,ih,X.rd]
def aQS (v:Value):gH (.of (.lit v))=some [.lit v]:=rfl
def aUJ (f:Nat) (cs:List C):gH (.of (.fn f cs))=some [.fn f cs]:=rfl
def aQR:gH .nil=some [.sl [] 0]:=rfl
def aQQ (t:Tk) (e z:Nat) (cs:List C) (n:Nat):gH (.own t e z cs n)=some [.sl cs n]:=rfl
def aQT (xs:List X):gH (.agg xs)=X.rds xs:=rfl
def aQP:X.rds []=some []:=rfl
def aEd (x:Option C) (l:Option (List C)):Option (List C):=match x,l with
 | some c,some cs=>some (c::cs)
 | _,_=>none
def aKE (x:X) (r:List X):X.rds (x::r)=aEd x.rd (X.rds r):=by
 unfold aEd
 rw[X.rds]
 cases x.rd <;> cases X.rds r <;> rfl
def aEc (c:C) (cs:List C):aEd (some c) (some cs)=some (c::cs):=rfl
def aUL (xs:List X):X.rd (.agg xs)=(X.rds xs).map .agg:=by rw[X.rd]
def aLW (t:Tk) (o:Option Tk) (ty z:Nat):(X.nw o ty z).drop t=.nw (afe t o) ty z:=by rw[X.drop]
def aD4 (t t':Tk):afe t (some t')=if t'=t then none else some t':=rfl
def aIW (t:Tk):X.drops t []=[]:=by rw[X.drops]
def aD2 (t:Tk) (x:X) (r:List X):X.drops t (x::r)=x.drop t::X.drops t r:=by rw[X.drops]
def atZ:∀ t,eU (.alloc t)=false:=fun _=>rfl
attribute [congr] aWp aUy aQm aTq aRD aT3
def aEb (x:Option X) (l:Option (List X)):Option (List X):=match x,l with
 | some x,some l=>some (x::l)
 | _,_=>none
def Z7j (T:TT) (s:S):ab4 T s []=some []:=rfl
def Z7k (T:TT) (s:S) (t:Nat) (r:List ResultVar):ab4 T s (.tmp t::r)=(ab4 T s r).map (s.fr t::·):=rfl
def Z7i (T:TT) (s:S) (a t:Nat) (r:List ResultVar):ab4 T s (.cell a t::r)=aEb ((acO T s.objs t (s.fr a)).map (·.1)) (ab4 T s r):=by
 simp only[ab4,aEb]
 cases acO T s.objs t (s.fr a) with
 | none=>rfl
 | some p=>cases ab4 T s r <;> rfl
def Z2x (x:X) (l:List X):aEb (some x) (some l)=some (x::l):=rfl
def apA (refs:List Nat) (rs:List X):List Tk:=(nub (X.toksL rs) []).filter fun t=>match t with
  | .nm ..=>true
  | .cell r _=>!decide (r∈refs)
def au5 (refs:List Nat) (ts:List Tk) (pan:Bool) (rs:List X) (objs:List Ob):Option An:=(jj (pos refs) (aa5 refs ts) objs refs).map fun obs=>⟨pan,X.trs (pos refs) (aa5 refs ts) rs,obs⟩
def aHh (refs:List Nat) (pan:Bool) (rs:List X) (objs:List Ob):Option An:=au5 refs (apA refs rs) pan rs objs
def Z4b (m:Nat) (pan:Bool) (rs:List X) (objs:List Ob):aev m pan rs objs=aHh (aah objs 999 (X.refsL rs++((objs.take m).map Ob.refs).flatten) (List.range m)) pan rs objs:=rfl
def Z48 (refs:List Nat) (pan:Bool) (rs:List X) (objs:List Ob):aHh refs pan rs objs=au5 refs (apA refs rs) pan rs objs:=rfl
def Z49 (refs:List Nat) (ts:List Tk) (pan:Bool) (rs:List X) (objs:List Ob):au5 refs ts pan rs objs=(jj (pos refs) (aa5 refs ts) objs refs).map fun obs=>⟨pan,X.trs (pos refs) (aa5 refs ts) rs,obs⟩:=rfl
def ajc (refs:List Nat):List Tk→List Tk
 | []=>[]
 | .nm a b c::l=>.nm a b c::ajc refs l
 | .cell r o::l=>if r∈refs then ajc refs l else .cell r o::ajc refs l
def Z4a (refs:List Nat) (rs:List X):apA refs rs=ajc refs (nub (X.toksL rs) []):=by
 unfold apA
 generalize nub (X.toksL rs) []=l
 induction l with
 | nil=>rfl
 | cons t l ih =>
  cases t with
  | nm a b c=>rw[List.filter_cons_of_pos (by rfl),ih];rfl
  | cell r o =>
   simp only[ajc]
   split
   .rename_i h;rw[List.filter_cons_of_neg (by simp[h]),ih]
   .rename_i h;rw[List.filter_cons_of_pos (by simp[h]),ih]
def Z3o (refs:List Nat):ajc refs []=[]:=rfl
def Z3p (refs:List Nat) (a b c:Nat) (l:List Tk):ajc refs (.nm a b c::l)=.nm a b c::ajc refs l:=rfl
def Z1z (i:Nat):Region.binds .any ⟨i,.data⟩=true:=rfl
def Z1y (i:Nat):Region.binds .any ⟨i,.chain⟩=true:=rfl
def Z21 (i:Nat):Region.binds .any ⟨i,.phase⟩=true:=rfl
def Z6b (x:X):aek [x]=x:=rfl
def Z6a:aek []=.tup []:=rfl
def Z6c (x y:X) (r:List X):aek (x::y::r)=.tup (x::y::r):=rfl
def Z3j (xs:List X) (i:Nat):avB i (.tup xs)=dE (xs[i]?):=rfl
def Z3d (P:Program) (b:Bool) (f m:Nat) (an:An) (s:S):aDY P b f m an .normal s↔((ab4 (TT.of P) s (aed P f)).bind fun rs=>aev m false (afN b rs) s.objs)=some an:=cZ
def Z3f (P:Program) (b:Bool) (f m:Nat) (an:An) (s:S):aDY P b f m an .ret s↔((ab4 (TT.of P) s (aed P f)).bind fun rs=>aev m false (afN b rs) s.objs)=some an:=cZ
def Z5t (p:Prop) [Decidable p]:((!decide p)=true)=¬ p:=by simp
def at8 (s:ByteArray) (k:Nat):Nat:=(s.data.toList.getD k 0).toNat
def arN {T:TT} {t:Nat} (hT:(T t).map (·.und)=some .string) (s:ByteArray) (n:Int):ac9 T t (.of (.lit (.string s))) (.of (.lit (.int .i64 n)))=if 0≤n∧n.toNat<s.size then out (.of (.lit (.int .u8 (at8 s n.toNat)))) else none:=by
 have hs:ac8 ((T t).map (·.und))=true:=by rw[hT];rfl
 simp only[ac9,ace]
 by_cases h:0≤n∧n.toNat<s.size
 .rw[ahk ⟨hs,h.1,h.2⟩,aE h]
  congr 5
  unfold at8
  have:s.data.toList.getD n.toNat 0=s[n.toNat]:=by
   rw[dW]
   have hl:n.toNat<s.data.toList.length:=by simpa using h.2
   rw[bK hl]
   rfl
  rw[this]
 .rw[aj h,ajs (fun g=>h g.2)]
def abj {T:TT} {t e:Nat} {d:TD} (h:elemOf T t=some (e,d)) (cs:List C) (n:Nat) (i:Int) (x:X) (hx:acJ x=some (cs,n)):dL T t x (.of (.lit (.int .i64 i)))=if 0≤i∧i<(n:Int)∧cs.length=n*d.size∧0<d.size then out (.of (.ref (cs.drop (i.toNat*d.size)))) else none:=by
 unfold elemOf at h
 split at h
 .rename_i e' _ _ _ _ _ hT
  simp only[aP,bf] at h
  obtain⟨d',hd,rfl,rfl⟩:=h
  simp only[dL,ace,hT,hd,hx]
 .cases h
def eX (n:Int) (h1:-9223372036854775808≤n) (h2:n≤9223372036854775807):IntKind.i64.wrap n=n:=IntWalk.i64_in n ⟨h1,h2⟩
def aDk (T:TT) (t off:Nat):Option Ob→Option X
 | some (.var _ xs)=>gX T t (xs.drop off)
 | _=>none
def Z4l (T:TT) (objs:List Ob) (t r off:Nat):acO T objs t (.ptr r off)=dE (aDk T t off (objs[r]?)):=by
 simp only[acO,aDk]
 cases objs[r]? with
 | none=>rfl
 | some ob=>cases ob <;> rfl
def Z4k (T:TT) (t off ty:Nat) (xs:List X):aDk T t off (some (.var ty xs))=gX T t (xs.drop off):=rfl
def Z6j (x:X):dE (some x)=out x:=rfl
def Z4m (T:TT) (objs:List Ob) (t:Nat) (cs:List C):acO T objs t (.of (.ref cs))=dE ((cC T t cs).map .of):=rfl
def aR0 {T:TT} {a b e:Nat} (ha:ac8 ((T a).map (·.und))=true) (hb:(T b).map (·.und)=some (.slice e)) (he:ah8 (T e)=true) (s:ByteArray):afL T a b (.of (.lit (.string s)))=out (.of (.sl (aea s) s.size)):=by
 simp only[afL,hb,att,ha,he,afk,aA]
def Z39 (t:Tk) (c:C):(X.of c).drop t=.of c:=rfl
def Z38 (t:Tk):X.nil.drop t=.nil:=rfl
def Z3b (t:Tk) (r o:Nat):(X.ptr r o).drop t=.ptr r o:=rfl
def Z3a (t t':Tk) (e z:Nat) (cs:List C) (n:Nat):(X.own t' e z cs n).drop t=if t'=t then .of (.sl cs n) else .own t' e z cs n:=rfl
def Z35 (t:Tk) (xs:List X):(X.agg xs).drop t=.agg (xs.map (X.drop t)):=by simp[X.drop,aat]
def Z36 (t:Tk) (f:Nat) (xs:List X):(X.clo f xs).drop t=.clo f (xs.map (X.drop t)):=by simp[X.drop,aat]
def Z34 (t:Tk) (ty:Nat) (xs:List X):(Ob.var ty xs).drop t=.var ty (xs.map (X.drop t)):=by simp[Ob.drop,aat]
def Z33 (t:Tk) (es:List (Value×C)):(Ob.map es).drop t=.map es:=rfl
def Old (clk:Nat) (t:Tk):Prop:=t.older clk fun _=>False
def Z68 (clk c ix i:Nat):Old clk (.nm c ix i)↔c<clk:=by simp[Old,Tk.older]
def Z69 {clk:Nat} {t:Tk} (h:Old clk t) (af:List Edge):abf clk af (some t)=true:=by
 cases t with
 | nm c ix i=>rw[Z68] at h;simp[abf,h]
 | cell r o=>rfl
def Z7r (clk ix i:Nat) (af:List Edge):abf clk af (some (.nm clk ix i))=af.any fun e=>Region.binds .any e&&e.on == ix:=by simp[abf]
def Z2s (s:S) (n:Nat):s.clk+n+1=s.clk+(n+1):=rfl
def Z4n (n k:Nat):n<n+(k+1):=by omega
def a7o {T:TT} {t e:Nat} {d:TD} (h:elemOf T t=some (e,d)) (hz:0<d.size) (hl:d.zero.length=d.size) (tk:Tk):ef tk 0 (elemOf T t) (some [])=out (.own tk e d.size [] 0):=by
 simp only[ef,h,afY,fj,hz,hl,db,aA,List.replicate_zero,abh,jb,X.rds]
def Z6n (f:Operand→X):js f []=some []:=rfl
def aEe (i:Nat) (l:Option (List X)) (q:Option (List (Nat×List X))):Option (List (Nat×List X)):=match l,q with
 | some l,some q=>some ((i,l)::q)
 | _,_=>none
def Z6m (f:Operand→X) (i:Nat) (x:Operand) (r:List (Nat×Operand)):js f ((i,x)::r)=aEe i (eu (f x)) (js f r):=by
 simp only[js,aEe]
 cases eu (f x) <;> cases js f r <;> rfl
def Z2w (i:Nat) (l:List X) (q:List (Nat×List X)):aEe i (some l) (some q)=some ((i,l)::q):=rfl
def aZ1 {T:TT} {t u e:Nat} {d:TD} (h:elemOf T t=some (e,d)) (hne:¬ t=u) (hu:ac8 ((T u).map (·.und))=true) (h8:ah8 (T e)=true) (hd:d.size=1) (hb:d.bytes≤32768) (tk tk':Tk) (cs0:List C) (n:Nat) (y:ByteArray) :
  jy T tk t u (.own tk' e 1 cs0 n) (.of (.lit (.string y)))=if n+y.size≤LIM then some (.own tk e 1 (cs0++aea y) (n+y.size),some tk') else none:=by
 have hl:(aea y).length=y.size:=by simp[aea]
 simp only[jy,agO,h,hne,aQ,hu,h8,db,aA,hl,hd,jt,acP,hb,gz,cX]
theorem aoG:∀ l:List UInt8,aec (l.map fun b=>C.lit (.int .u8 b.toNat))=some l
 | []=>rfl
 | b::l=>by
  rw[aV,aec,aoG l]
  simp
def asy {T:TT} {a b e:Nat} {sz by_:Nat} {ag:Bool} {ze:List Value} {fi:List (Nat×Nat)} (ha:T a=some ⟨.slice e,sz,by_,ag,ze,fi⟩) (hb:(T b).map (·.und)=some .string) (h8:ah8 (T e)=true) (tk:Tk) (z n:Nat) (l:List UInt8) (hn:l.length=n) :
  afL T a b (.own tk e z (l.map fun b=>C.lit (.int .u8 b.toNat)) n)=out (dy ⟨l.toArray⟩):=by
 simp only[afL,ad1,ajf,ha,hb,acJ,h8,gP,hn,db,aA,aoG,bH,dE]
 rfl
def Z17 {α:Type} {A:List α} {n:Nat} (h:A.length=n) (x:α):(A++[x])[n]?=some x:=by subst h;simp
def Z18 {α:Type} {A:List α} {n:Nat} (h:A.length=n) (x y:α):(A++[x]).set n y=A++[y]:=by subst h;simp
def Z2m (v:Value):eu (.of (.lit v))=some [.of (.lit v)]:=rfl
def Z2o:eu .nil=some [.nil]:=rfl
def Z2p (t:Tk) (e z:Nat) (cs:List C) (n:Nat):eu (.own t e z cs n)=some [.own t e z cs n]:=rfl
def Z2q (r o:Nat):eu (.ptr r o)=some [.ptr r o]:=rfl
def Z2h (xs:List X):eu (.agg xs)=some xs:=rfl
def Z2i (cs:List C):eu (.of (.agg cs))=some (cs.map .of):=rfl
def aDN (place:Nat→Option (Nat×Nat)) (cells xs:List X) (r:List (Nat×List X)):Option (Nat×Nat)→Option (List X)
 | some (off,size)=>if xs.length=size∧off+size≤cells.length then jb place (cells.take off++xs++cells.drop (off+size)) r else none
 | none=>none
def Z3m (place:Nat→Option (Nat×Nat)) (cells:List X):jb place cells []=some cells:=rfl
def Z3l (place:Nat→Option (Nat×Nat)) (cells xs:List X) (i:Nat) (r:List (Nat×List X)):jb place cells ((i,xs)::r)=aDN place cells xs r (place i):=by
 simp only[jb,aDN]
 cases place i <;> rfl
def Z3k (place:Nat→Option (Nat×Nat)) (cells xs:List X) (r:List (Nat×List X)) (off size:Nat) (h:xs.length=size∧off+size≤cells.length):aDN place cells xs r (some (off,size))=jb place (cells.take off++xs++cells.drop (off+size)) r:=aE h
def axL (rs:List X):afN false rs=rs.map aiZ:=rfl
def aEv (rs:List X):afN true rs=rs:=rfl
def aKi (c:C):aiZ (.of c)=.of c:=rfl
def aFz (xs:List X):aiZ (.agg xs)=aoV (.agg xs) ((X.rds xs).map .agg):=by unfold aiZ;rw[X.rd]
def aCo (x:X) (c:C):aoV x (some c)=.of c:=rfl
def aKj (r:Nat):aiZ (.mp r)=.mp r:=rfl
def zD:=ai (ai (ai (ai (ai (ai @Zz @Zt) (ai @Zu (ai @Zy @Z10))) (ai (ai @Zv (ai @Zw @Zx)) (ai @Z12 (ai @Z11 @Z13)))) (ai (ai (ai @Z14 (ai @Zm @Z2)) (ai @Zp (ai @Z3 @Zs))) (ai (ai @Zg (ai @Zc @Ze)) (ai @Zd (ai @Zq @Z9))))) (ai (ai (ai (ai @Za @Zn) (ai @Zi (ai @Z5 @Z6))) (ai (ai @Zf (ai @Z1 @a0n)) (ai @Z7 (ai @Z8 @Z0)))) (ai (ai (ai @Zh (ai @Zk @Z6w)) (ai @Z6y (ai @Z6v @Z6x))) (ai (ai @Z8u (ai @Z8v @Z8t)) (ai @Z31 (ai @Z32 @Z30)))))) (ai (ai (ai (ai (ai @Z1i @Z1h) (ai @Z9p (ai @Z9q @Z9o))) (ai (ai @Z8n (ai @Z8o @Z3i)) (ai @Z3g (ai @Z3h @Z42)))) (ai (ai (ai @Z43 (ai @Z41 @Z8q)) (ai @Z8p (ai @Z8s @Z23))) (ai (ai @Z22 (ai @Z25 @Z7g)) (ai @Z5j (ai @Z3s @Z3t))))) (ai (ai (ai (ai @Z70 @Z6z) (ai @Z1f (ai @Z7k @Z7i))) (ai (ai @Z3d (ai @Z3f @aJz)) (ai @a4X (ai @a4Y @aTr)))) (ai (ai (ai @aQF (ai @aKw @aKx)) (ai @aQG (ai @aQn @aLb))) (ai (ai @aGZ (ai @aT4 @aJ3)) (ai @aQh (ai @aLf @aG9))))))
def zU:=ai (ai (ai (ai (ai (ai (ai @Z2m (ai @Z2o @Z2p)) (ai (ai @Z2q @Z2h) (ai @Z2i @Z3m))) (ai (ai @Z3l (ai @Z3k @Z17)) (ai (ai @Z18 @Z39) (ai @Z38 @Z3b)))) (ai (ai (ai @Z3a (ai @Z35 @Z36)) (ai (ai @Z34 @Z33) (ai @Z2s @Z4n))) (ai (ai (ai @Z68 @Z69) (ai @Z7r @Z6n)) (ai (ai @Z6m @Z2w) (ai @Z4q @Z7y))))) (ai (ai (ai (ai @Z7z (ai @Z8i @Z84)) (ai (ai @Z4v @Z4w) (ai @Z56 @Z80))) (ai (ai (ai @Z8g @Z58) (ai @Z81 @Z4s)) (ai (ai @Z8b @Z53) (ai @Z50 @Z52)))) (ai (ai (ai @Z51 (ai @Z4t @Z83)) (ai (ai @Z4u @Z54) (ai @Z6k @Z4g))) (ai (ai (ai @Z1e @Z63) (ai @Z62 @Z67)) (ai (ai @Z65 @Z66) (ai @Z64 @Z40)))))) (ai (ai (ai (ai (ai @Z3z (ai @Z2t @Z3w)) (ai (ai @Z3r @Z3u) (ai @Z3v @Z6g))) (ai (ai @Z6f (ai @Z6e @Z6i)) (ai (ai @Z1r @Z1q) (ai @Z1p @Z1o)))) (ai (ai (ai @Z1n (ai @Z1t @Z1k)) (ai (ai @Z1x @Z1v) (ai @Z1w @Z1l))) (ai (ai (ai @Z1m @Z9n) (ai @Z4h @aWr)) (ai (ai @Z4j @Z6q) (ai @Z4f @Z4d))))) (ai (ai (ai (ai @Z4c (ai @Z72 @Z73)) (ai (ai @Z71 @Z2u) (ai @Z26 @Z27))) (ai (ai (ai @Z29 @Z28) (ai @Z6s @Z6r)) (ai (ai @Z5w @Z5x) (ai @Z9g @Z9f)))) (ai (ai (ai @Z9d (ai @Z9i @Z9e)) (ai (ai @Z9h @Z9l) (ai @Z9k @Z61))) (ai (ai (ai @Z60 @Z9b) (ai @Z98 @Z9a)) (ai (ai @Z99 @Z5i) (ai @Z5h @Z5g))))))) (ai (ai (ai (ai (ai (ai @Z6u (ai @Z6t @Z7n)) (ai (ai @Z7q @Z7o) (ai @Z7p @Z44))) (ai (ai @Z45 (ai @Z7w @Z7u)) (ai (ai @Z7v @Z7m) (ai @Z7l @Z2z)))) (ai (ai (ai @Z2y (ai @Z6p @Z6o)) (ai (ai @Z2v @Z7t) (ai @Z7s @Z75))) (ai (ai (ai @Z74 @Z7c) (ai @Z7b @Z7d)) (ai (ai @Z7e @Z7a) (ai @Z79 @Z77))))) (ai (ai (ai (ai @Z76 (ai @Z5z @Z5y)) (ai (ai @Z94 @Z93) (ai @Z95 @Z92))) (ai (ai (ai @Z8z @Z8y) (ai @Z8w @Z8x)) (ai (ai @Z5v @Z5u) (ai @Z6d @Z15)))) (ai (ai (ai @Z5p (ai @Z5q @Z5o)) (ai (ai @Z5s @Z5r) (ai @Z16 @Z8k))) (ai (ai (ai @Z47 @Z46) (ai @Z5f @Z5e)) (ai (ai @Z1c @Z2d) (ai @Z2f @Z2e)))))) (ai (ai (ai (ai (ai @Z2c (ai @Z7j @Z2x)) (ai (ai @Z4b @Z48) (ai @Z49 @Z4a))) (ai (ai (ai @Z3o @Z3p) (ai @Z1z @Z1y)) (ai (ai @Z21 @Z6b) (ai @Z6a @Z6c)))) (ai (ai (ai @Z3j (ai @Z4m @Z4l)) (ai (ai @Z4k @Z6j) (ai @Z5t @aWn))) (ai (ai (ai @aKF @aQS) (ai @aUJ @aQR)) (ai (ai @aQQ @aQT) (ai @aQP @aKE))))) (ai (ai (ai (ai @aEc (ai @aUL @aLW)) (ai (ai @aD4 @aIW) (ai @aD2 @atZ))) (ai (ai (ai @axL @aEv) (ai @aKi @aFz)) (ai (ai @aCo @aKj) (ai @aRa @aF9)))) (ai (ai (ai @aK3 (ai @atZ @aRb)) (ai (ai @aK2 @awL) (ai @auF @aF8))) (ai (ai (ai @aCR @aRc) (ai @aK1 @aJ2)) (ai (ai @aJ1 @aZ2) (ai @aLU @aLV)))))))
def zD2:=ai (ai (ai @aMl @aZ8) (ai @aJy (ai @aM0 @aMZ))) (ai (ai @aMY @ax6) (ai @ax7 (ai @aWq @aG3)))
def zU2:=ai (ai (ai (ai @aM0 (ai @aMZ @aMY)) (ai (ai @ax6 @ax7) (ai @aG3 @aQg))) (ai (ai @aT1 (ai @aRh @a2X)) (ai (ai @aGU @aRe) (ai @aK8 @aRf)))) (ai (ai (ai @asv (ai @aK9 @aK7)) (ai (ai @aR1 @aR2) (ai @aR3 @aL5))) (ai (ai (ai @aI2 @aEk) (ai @axA @aI1)) (ai (ai @aLE @aUK) (ai @aEf @aRj))))
end Go.Pe
namespace Go.Proofs.YtemdljoideegeaaGreatDoor
open Go Go.Pe Go.Tab
def byC (l:List UInt8):List C:=l.map fun b=>.lit (.int .u8 b.toNat)
def anT:List C→Option (List UInt8)
 | []=>some []
 | .lit (.int .u8 n)::r=>if n=(UInt8.ofNat n.toNat).toNat then (anT r).map (UInt8.ofNat n.toNat::·) else none
 | _=>none
theorem atH:∀ l:List UInt8,anT (byC l)=some l
 | []=>rfl
 | b::l=>by
  have h:=atH l
  simp only[byC,aV,anT] at h ⊢
  rw[h]
  simp
theorem ax4:∀ (cs:List C) (l:List UInt8),anT cs=some l→cs=byC l
 | [],l,h=>by simp only[anT,ae] at h;subst h;rfl
 | c::cs,l,h=>by
  unfold anT at h
  split at h
  .rename_i e;cases e
  .rename_i n r e
   cases e
   split at h
   .rename_i hn
    simp only[aP] at h
    obtain⟨l',h',rfl⟩:=h
    rw[ax4 _ l' h']
    simp only[byC,aV]
    rw[← hn]
   .cases h
  .cases h
def ap1 (l:List UInt8):(byC l).length=l.length:=by simp[byC]
def ap2 (l q:List UInt8):byC (l++q)=byC l++byC q:=by simp[byC]
def str (l:List UInt8):ByteArray:=⟨l.toArray⟩
def bld (l:List UInt8):List X:=[.ptr 0 0,.own (.cell 0 1) 5 1 (byC l) l.length]
def aic:List Ob→Option (List UInt8)
 | [.var 93 [.of (.lit (.pointer none)),.nil]]=>some []
 | [.var 93 [.ptr 0 0,.own (.cell 0 1) 5 1 cs _]]=>anT cs
 | _=>none
def ji (n:Int):Bool:=decide (-9223372036854775808≤n∧n≤9223372036854775807)
def amv (l:List UInt8):aic [.var 93 [.ptr 0 0,.own (.cell 0 1) 5 1 (byC l) l.length]]=some l:=atH l
def atq (xs:List X) (obs:List Ob):Option An:=match xs,obs with
 | [.of (.lit (.int .i64 n))],[]=>if ji n then some ⟨false,[dy (str (Lib.itoa n))],[]⟩ else none
 | _,_=>none
def ixP (xs:List X) (obs:List Ob):Option An:=match xs,obs with
 | [.of (.lit (.string s)),.of (.fn f [])],[]=>if f=224 then some ⟨false,[aU (Lib.idxFunc agY true s)],[]⟩ else none
 | _,_=>none
def raP (xs:List X) (obs:List Ob):Option An:=match xs,obs with
 | [.of (.lit (.string s)),.of (.lit (.string a)),.of (.lit (.string b))],[] =>
  if s.size<4294967281∧1≤a.size∧s.size+Lib.countB s a*b.size≤140737488355328 then some ⟨false,[dy (str (Lib.replaceAll s.data.toList a.data.toList b.data.toList))],[]⟩ else none
 | _,_=>none
def apU (xs:List X) (obs:List Ob):Option An:=match xs,obs with
 | [.of (.lit (.string s)),.of (.lit (.string sub))],[]=>if s.size<4294967281 then some ⟨false,[aG (Lib.contains s.data.toList sub.data.toList)],[]⟩ else none
 | _,_=>none
def wsP (xs:List X) (obs:List Ob):Option An:=match xs with
 | [.ptr 0 0,.of (.lit (.string s))]=>(aic obs).bind fun l=>if l.length+s.size≤LIM then some ⟨false,[aU s.size,.of (.lit .nilIface)],[.var 93 (bld (l++s.data.toList))]⟩ else none
 | _=>none
def wbP (xs:List X) (obs:List Ob):Option An:=match xs with
 | [.ptr 0 0,.of (.lit (.int .u8 n))]=>(aic obs).bind fun l=>if l.length+1≤LIM∧0≤n∧n<256 then some ⟨false,[.of (.lit .nilIface)],[.var 93 (bld (l++[UInt8.ofNat n.toNat]))]⟩ else none
 | _=>none
def bsP (xs:List X) (obs:List Ob):Option An:=match xs with
 | [.ptr 0 0]=>(aic obs).map fun l=>⟨false,[dy (str l)],[.var 93 [.of .any,.of .any]]⟩
 | _=>none
def lxP (xs:List X) (obs:List Ob):Option An:=match xs,obs with
 | [.of (.lit (.string s))],[]=>if s.data.toList.all (fun c=>decide (c.toNat<128))=true∧s.size<4294967281 then some ⟨false,[aG (am9 s.data.toList)],[]⟩ else none
 | _,_=>none
def ao8:Orc:=fun f xs obs =>
 if f=227 then atq xs obs
 else if f=223 then ixP xs obs
 else if f=173 then raP xs obs
 else if f=246 then apU xs obs
 else if f=47 then wsP xs obs
 else if f=46 then wbP xs obs
 else if f=49 then bsP xs obs
 else if f=207 then lxP xs obs
 else none
def pr:Pr:=⟨ao8,bh,tkF,aY,mtF⟩
def aUO (f:Nat):pr.obj f=bh f:=rfl
def a2e (f:Nat):pr.tk f=tkF f:=rfl
def aye (f:Nat):pr.keep f=aY f:=rfl
def a2f (p:String) (d:Option Nat):pr.mt p d=mtF p d:=rfl
abbrev G1 (f:Nat) (xs:List X) (x:X):Prop:=aN Tryz.prog pr f xs [] ⟨false,[x],[]⟩
abbrev GN (f:Nat) (xs:List X) (rs:List X):Prop:=aN Tryz.prog pr f xs [] ⟨false,rs,[]⟩
def ba {P:Program} {f:Nat} {fn:Func} (h:FnI P f fn):aed P f=fn.results.toList:=by unfold aed;rw[h.2]
def ah {f:Nat} {fn:Func} {xs:List X} {obs:List Ob} {an:An} {kp:Bool} (hp:ao8 f xs obs=none) (hi:FnI Tryz.prog f fn) (hk:aY f=kp) (hl:Nat.ble xs.length fn.ntmps=true)
  (h:WC Tryz.prog pr (fn.body.getD .skip) (agF xs obs) (aDY Tryz.prog kp f obs.length an)):aN Tryz.prog pr f xs obs an :=
 aN.of_body hp hi.1 (by unfold ap4;rw[hi.2];exact cT hl) (by unfold amu;rw[hi.2,aye,hk];exact h)
end Go.Proofs.YtemdljoideegeaaGreatDoor
namespace Go.Proofs.YtemdljoideegeaaGreatDoor
open Go Go.Pe Go.Tab Go.RowKit
def adA:String:= "internal/strconv.uint64pow10"
theorem aud (m:Mem):∀ (l:List UInt8) (vs:List Value),cM m (byC l) vs→vs=Lib.byteCells l
 | [],vs,h=>by simpa [byC,cM,Lib.byteCells] using h
 | b::l,vs,h=>by
  simp only[byC,aV,cM,Rep] at h
  obtain⟨v,r,rfl,⟨rfl,_⟩,h2⟩:=h
  rw[aud m l r h2]
  rfl
theorem av7 (m:Mem):∀ l:List UInt8,cM m (byC l) (Lib.byteCells l)
 | []=>rfl
 | b::l=>⟨_,_,rfl,⟨rfl,rfl⟩,av7 m l⟩
def aJl (l:List UInt8) (u:Value) (h:u∈Lib.byteCells l):u.oneCell'=true:=by
 simp only[Lib.byteCells,List.mem_map] at h
 obtain⟨b,_,rfl⟩:=h
 rfl
def av9 {G:GP} {k:Know} {ow:Own} {w:World} {xs0:List X} {l:List UInt8} (hp:Hp ⟨G,k.m,abo k ow⟩ k ow w w [.var 93 xs0]) (hl:aic [.var 93 xs0]=some l) :
  ∃ b p v,k.μ 0=some b∧(p=.pointer none∨p=.pointer (some ⟨b,0,none⟩))∧BAt b p v (Lib.byteCells l) w∧(v.ownBlock=none∨ow (.cell 0 1)=some (v,5,1,l.length)):=by
 obtain⟨b,hb,_,_,hbm,vs,hh,_,hvs⟩:=hp.obj 0 _ rfl
 unfold aic at hl
 split at hl
 .rename_i e
  simp only[abF,Ob.var.injEq,cX,gz] at e
  subst e
  simp only[ae] at hl
  subst hl
  simp only[bz,bj,Rep] at hvs
  obtain⟨v1,r1,rfl,⟨rfl,_⟩,v2,r2,rfl,rfl,rfl⟩:=hvs
  exact⟨b,_,_,hb,.inl rfl,⟨hh,World.ownsRow_nil w 0 _ 1,by simp[Value.ownBlock]⟩,.inl rfl⟩
 .rename_i cs n e
  simp only[abF,Ob.var.injEq,cX,gz] at e
  subst e
  obtain rfl:=ax4 cs l hl
  simp only[bz,bj] at hvs
  obtain⟨v1,r1,rfl,⟨b',hb',rfl⟩,v2,r2,rfl,⟨ho,hcl,hrep⟩,rfl⟩:=hvs
  obtain rfl:=bn (hb.symm.trans hb')
  obtain rfl:n=l.length:=by rw[ap1] at hcl;omega
  obtain⟨⟨xs,hown⟩,htok⟩:=hp.tok _ _ _ _ _ ho
  have hxs:xs=Lib.byteCells l:=by
   simp only[Rep] at hrep
   obtain⟨a,cp,us,rfl,_,hul,hum⟩:=hrep
   rw[← aud _ _ _ hul]
   have e1:us.length=xs.length:=by rw[hul.length,hown.1,hcl]
   apply ab6
   intro i
   by_cases hi:i<us.length
   .have hne:us≠[]:=by rintro rfl;simp at hi
    obtain⟨b1,o,rfl,hc⟩:=hum hne
    rcases hown.2 with ⟨h0,_⟩|⟨g,cap2,cur,hv,_⟩
    .cases h0
    .simp only[Value.slice.injEq,ae,Addr.mk.injEq] at hv
     obtain⟨⟨rfl,rfl,_⟩,_,rfl⟩:=hv
     have hu:us[i]?=some us[i]:=by simp[hi]
     have hc1:=(hp.mem _ _ _ (hc i _ hu)).1
     have hx2:xs[i]?=some (xs[i]'(by omega)):=by simp[show i<xs.length by omega]
     have hc2:=hown.cells (g:=b1) rfl i _ hx2
     rw[Addr.add_lit] at hc2
     rw[hu,hx2,bn (hc2.symm.trans hc1)]
   .rw[dB (by omega),dB (by omega)]
  subst hxs
  refine⟨b,_,_,hb,.inr rfl,⟨hh,by rw[Lib.byteCells_length];exact hown,fun e=>(htok b e).2.2 0 hb⟩,.inr ho⟩
 .cases hl
def owB (ow:Own) (v:Value) (n:Nat):Own:=fun t=>if t=.cell 0 1 then some (v,5,1,n) else ow t
def ar0 {G:GP} {k:Know} {ow:Own} {w w':World} {xs0:List X} {l l':List UInt8} {b:Nat} {v v':Value} {p:Value} (hp:Hp ⟨G,k.m,abo k ow⟩ k ow w w [.var 93 xs0]) (hb:k.μ 0=some b)
  (hB:BAt b p v (Lib.byteCells l) w) (hv:v.ownBlock=none∨ow (.cell 0 1)=some (v,5,1,l.length)) (h:BPost b v w w' v' (Lib.byteCells (l++l'))) :
  ∃ k',Hp ⟨G,k.m,abo k ow⟩ k' (owB ow v' (l++l').length) w w' [.var 93 (bld (l++l'))]∧k.m.le k'.m∧k'.μ=k.μ:=by
 have hbl:=Lib.byteCells_length (l++l')
 obtain⟨_,hb',_,hblt,hbm,_⟩:=hp.obj 0 _ rfl
 obtain rfl:=bn (hb.symm.trans hb')
 let m':Mem:=fun c o=>if some c=v'.ownBlock∧o<(l++l').length then (Lib.byteCells (l++l'))[o]? else k.m c o
 have hdom:∀ r c,k.μ r=some c→r=0∧c=b:=fun r c hr=>by
  have:=hp.dom r c hr
  simp only[ju,Nat.lt_one_iff] at this
  subst this
  exact⟨rfl,bn (hr.symm.trans hb)⟩
 have hold:∀ g,v.ownBlock=some g→abo k ow g∧(∀ o,l.length≤o→k.m g o=none)∧∀ t u e z n,t≠.cell 0 1→ow t=some (u,e,z,n)→u.ownBlock≠some g:=fun g hg=>by
  rcases hv with h0|h0
  .rw[h0] at hg;cases hg
  .obtain⟨_,ht⟩:=hp.tok _ _ _ _ _ h0
   exact⟨.inr ⟨_,_,_,_,_,h0,hg⟩,by simpa using (ht g hg).2.1,fun t u e z n hne h1=>hp.tokne _ _ _ _ _ _ _ _ _ _ h0 h1 (d5 hne) g hg⟩
 have hnew:∀ g,v'.ownBlock=some g→v.ownBlock=some g∨w.heap.size≤g:=fun g hg=>by
  rcases h.row with ⟨h1,_⟩|⟨⟨g',h1,h2⟩,_⟩
  .exact .inl (h1▸hg)
  .rw[h1] at hg;exact .inr (bn hg▸h2)
 have hsame:∀ c,c<w.heap.size→c≠b→(some c≠v.ownBlock∨some c≠v'.ownBlock)→w'.heap[c]?=w.heap[c]?:=fun c hc hcb hcv=>by
  rcases h.row with ⟨h1,h2⟩|⟨_,h2⟩
  .exact h2 c hc hcb (by rw[h1] at hcv;exact hcv.elim id id)
  .exact h2 c hc hcb
 have hrow:∀ c o u,v'.ownBlock=some c→(Lib.byteCells (l++l'))[o]?=some u→w'.cell? ⟨c,o,none⟩=some u:=fun c o u hc hu=>by
  have:=h.at'.own.cells (g:=c) hc o u hu
  rwa [Addr.add_lit,bd] at this
 have hle:k.m.le m':=fun c o u hu=>by
  simp only[m']
  split
  .rename_i hc
   rcases hnew c hc.1.symm with h1|h1
   .have ho:o<l.length:=by
     rcases ap o l.length with h2|h2
     .exact h2
     .rw[(hold c h1).2.1 o h2] at hu;cases hu
    have hx:(Lib.byteCells l)[o]?=some ((Lib.byteCells l)[o]'(by rw[Lib.byteCells_length];exact ho)):=by simp[Lib.byteCells_length,ho]
    have h2:=hB.own.cells (g:=c) h1 o _ hx
    rw[Addr.add_lit,bd] at h2
    have h3:=(hp.mem c o u hu).1
    have e:=bn (h2.symm.trans h3)
    simp only[Lib.byteCells,fV]
    rw[dA (by simpa using ho)]
    rw[← e]
    exact hx
   .have:=ahA hp.mem hu
    omega
  .exact hu
 refine⟨⟨m',k.μ⟩,?_,hle,rfl⟩
 exact {
  good:=hp.good
  below:=⟨h.os,h.tape,h.output,h.size,fun c hc hm=>hsame c hc (fun e=>hm (.inl ⟨0,by rw[e];exact hb⟩)) (.inl fun e=>hm (hold c e.symm).1)⟩
  mem:=fun c o u hu=>by
   simp only[m'] at hu
   split at hu
   .rename_i hc
    exact⟨hrow c o u hc.1.symm hu,aJl _ u (fP hu)⟩
   .rename_i hc
    obtain⟨h1,h2⟩:=hp.mem c o u hu
    have hlt:=ahA hp.mem hu
    refine⟨(World.cell?_of_block (a:=⟨c,o,none⟩) (hsame c hlt ?_ ?_)).trans h1,h2⟩
    .rintro rfl;rw[hbm o] at hu;cases hu
    .by_cases e:some c=v'.ownBlock
     .left
      intro e2
      have:¬ o<(l++l').length:=fun h3=>hc ⟨e,h3⟩
      rw[(hold c e2.symm).2.1 o (by simp at this;omega)] at hu
      cases hu
     .exact .inr e
  obj:=fun r ob hr=>by
   match r,hr with
   | 0,hr =>
    simp only[dJ,ae] at hr
    subst hr
    refine⟨b,hb,.inr (.inl ⟨0,hb⟩),h.at'.lt,fun o=>?_,[.pointer (some ⟨b,0,none⟩),v'],h.at'.blk,?_,?_⟩
    .simp only[m']
     rw[aj fun e=>h.at'.ne e.1.symm]
     exact hbm o
    .intro u hu
     simp only[cY,aai,fd] at hu
     rcases hu with rfl|rfl
     .rfl
     .rcases h.at'.own.2 with ⟨rfl,_⟩|⟨g,cap,cur,rfl,_⟩ <;> rfl
    .refine⟨_,_,rfl,⟨b,hb,rfl⟩,_,_,rfl,⟨?_,?_,?_⟩,rfl⟩
     .simp[owB]
     .rw[ap1];omega
     .have hown:=h.at'.own
      rw[hbl] at hown
      rcases hown.2 with ⟨e1,e2⟩|⟨g,cap,cur,e1,_,_,hnc,_⟩
      .have:l++l'=[]:=aJ e2
       rw[this,e1]
       exact⟨none,0,[],rfl,aM _,rfl,fun h=>absurd rfl h⟩
      .refine⟨_,cap,Lib.byteCells (l++l'),e1,hnc,av7 _ _,fun _=>⟨g,0,rfl,fun i u hu=>?_⟩⟩
       simp only[m',bd]
       rw[aE ⟨by rw[e1];rfl,by rw[← hbl];exact (List.getElem?_eq_some_iff.1 hu).1⟩]
       exact hu
  dom:=hp.dom
  inj:=hp.inj
  tok:=fun t u e z n ht=>by
   simp only[owB] at ht
   split at ht
   .simp only[dX] at ht
    obtain⟨rfl,rfl,rfl,rfl⟩:=ht
    refine⟨⟨_,by have:=h.at'.own;rw[hbl] at this;exact this⟩,fun g hg=>⟨?_,fun o ho=>?_,fun r hr=>?_⟩⟩
    .rcases hnew g hg with h1|h1
     .exact .inr (hold g h1).1
     .exact .inl h1
    .simp only[m']
     rw[aj fun e=>by have:=e.2;omega]
     rcases hnew g hg with h1|h1
     .exact (hold g h1).2.1 o (by simp at ho;omega)
     .cases hm:k.m g o with
      | none=>rfl
      | some u=>have:=ahA hp.mem hm;omega
    .obtain⟨_,rfl⟩:=hdom r g hr
     exact h.at'.ne hg
   .rename_i hne
    obtain⟨⟨xs,h1⟩,h2⟩:=hp.tok t u e z n ht
    refine⟨⟨xs,acD (fun g hg hlt=>hsame g hlt (fun e=>(h2 g hg).2.2 0 (by rw[e];exact hb)) (.inl fun e=>(hold g e.symm).2.2 t u _ _ _ hne ht hg)) h1⟩,fun g hg=>⟨(h2 g hg).1,fun o ho=>?_,(h2 g hg).2.2⟩⟩
    simp only[m']
    rw[aj]
    .exact (h2 g hg).2.1 o ho
    .rintro⟨e,_⟩
     rcases hnew g e.symm with h3|h3
     .exact (hold g h3).2.2 t u _ _ _ hne ht hg
     .have:=(hp.tlt ht hg).2;omega
  tokne:=fun t t' u e z n u' e' z' n' ht ht' hne g hg hg'=>by
   have key:∀ t u e z n,t≠.cell 0 1→ow t=some (u,e,z,n)→u.ownBlock=some g→v'.ownBlock=some g→False:=fun t u e z n h0 h1 h2 h3=>by
    rcases hnew g h3 with h4|h4
    .exact (hold g h4).2.2 t u _ _ _ h0 h1 h2
    .have:=(hp.tlt h1 h2).2;omega
   simp only[owB] at ht ht'
   split at ht
   .rename_i e1
    simp only[dX] at ht
    obtain⟨rfl,rfl,rfl,rfl⟩:=ht
    split at ht'
    .rename_i e2
     exact hne (e1.trans e2.symm)
    .rename_i e2
     exact key t' u' _ _ _ e2 ht' hg' hg
   .rename_i e1
    split at ht'
    .simp only[dX] at ht'
     obtain⟨rfl,rfl,rfl,rfl⟩:=ht'
     exact key t u _ _ _ e1 ht hg hg'
    .exact hp.tokne t t' _ _ _ _ _ _ _ _ ht ht' hne g hg hg'
  m0:=fun c o u hu hc hm=>by
   simp only[m'] at hu
   split at hu
   .rename_i e
    rcases hnew c e.1.symm with h3|h3
    .exact absurd (hold c h3).1 hm
    .omega
   .exact hu}
def GT:GP where
 holds w:=Lib.TabIs Tryz.prog w adA .u64 Lib.pow10Tab∧∃ m,w.cell? ⟨0,0,none⟩=some (.int .i64 m)
 blk b:=Tryz.prog.globalNamed adA=some b∨b=0
 keep w w' h hk:=by
  obtain⟨h,m,hm⟩:=h
  refine⟨?_,m,(World.cell?_of_block (a:=⟨0,0,none⟩) (hk 0 (.inr rfl))).trans hm⟩
  unfold Lib.TabIs World.var? at h ⊢
  cases hg:Tryz.prog.globalNamed adA with
  | none=>rw[hg] at h;cases h
  | some g =>
   rw[hg] at h
   simp only[dG] at h ⊢
   rw[hk g (.inl hg)]
   exact h
def aDx (xs:List X) (obs:List Ob) (an:An) (h:atq xs obs=some an):ad2 Tryz.prog GT 227 xs obs an:=by
 unfold atq at h
 split at h
 .rename_i n
  split at h
  .rename_i hn
   simp only[ae] at h
   subst h
   simp only[ji,ar] at hn
   intro fn hf k ow w vs hp hold hcl hvs
   simp only[bz,bj,Rep] at hvs
   obtain⟨v,r,rfl,⟨rfl,_⟩,rfl⟩:=hvs
   refine (Tryz.strconv_Itoa n hn.1 hn.2 w hp.table.1).mono ?_
   rintro e w' ⟨rfl,kk,os,rfl⟩
   exact⟨k,ow,[_],rfl,hp.grow (Lib.below_grow _ _ (aM _) _ _),Mem.le_refl _,aM _,fun _ _=>rfl,hold,hcl,_,_,rfl,⟨rfl,rfl⟩,rfl⟩
  .cases h
 .cases h
def aq5 {obs:List Ob} {l:List UInt8} (h:aic obs=some l):∃ xs0,obs=[.var 93 xs0]:=by
 unfold aic at h
 split at h
 .exact⟨_,rfl⟩
 .exact⟨_,rfl⟩
 .cases h
def ayg {ow:Own} (hold:∀ t p,ow t=some p→t.older 1 fun _=>False) (v:Value) (n:Nat):∀ t p,owB ow v n t=some p→t.older 1 fun _=>False:=fun t p ht=>by
 simp only[owB] at ht
 split at ht
 .rename_i e;subst e;trivial
 .exact hold t p ht
def aF2 {ow:Own} {m:Nat} (hm:0<m) (hcl:∀ r off p,ow (.cell r off)=some p→r<m) (v:Value) (n:Nat):∀ r off p,owB ow v n (.cell r off)=some p→r<m:=fun r off p ht=>by
 simp only[owB] at ht
 split at ht
 .rename_i e;cases e;exact hm
 .exact hcl r off p ht
def aJQ (xs:List X) (obs:List Ob) (an:An) (h:wsP xs obs=some an):ad2 Tryz.prog GT 47 xs obs an:=by
 unfold wsP at h
 split at h
 .rename_i s
  simp only[cS] at h
  obtain⟨l,hl,h⟩:=h
  split at h
  .rename_i hlen
   simp only[ae] at h
   subst h
   obtain⟨xs0,rfl⟩:=aq5 hl
   intro fn hf k ow w vs hp hold hcl hvs
   obtain⟨b,p,v,hb,hpp,hB,hv⟩:=av9 hp hl
   simp only[bz,bj,Rep] at hvs
   obtain⟨v1,r1,rfl,⟨b',hb',rfl⟩,v2,r2,rfl,⟨rfl,_⟩,rfl⟩:=hvs
   obtain rfl:=bn (hb.symm.trans hb')
   refine (awz b p v (Lib.byteCells l) s w hpp hB (by rw[Lib.byteCells_length];exact hlen)).mono ?_
   rintro e w' ⟨rfl,v',hpost⟩
   have hpost':BPost b v w w' v' (Lib.byteCells (l++s.data.toList)):=by
    have:Lib.byteCells (l++s.data.toList)=Lib.byteCells l++Lib.strCells s:=by simp[Lib.byteCells,Lib.strCells]
    rw[this];exact hpost
   obtain⟨k',g1,g2,g3⟩:=ar0 hp hb hB hv hpost'
   exact⟨k',_,[.int .i64 s.size,.nilIface],rfl,g1,g2,aM _,fun r _=>by rw[g3],ayg hold _ _,aF2 acP hcl _ _,_,_,rfl,⟨rfl,rfl⟩,_,_,rfl,⟨rfl,rfl⟩,rfl⟩
  .cases h
 .cases h
def aJS (xs:List X) (obs:List Ob) (an:An) (h:wbP xs obs=some an):ad2 Tryz.prog GT 46 xs obs an:=by
 unfold wbP at h
 split at h
 .rename_i n
  simp only[cS] at h
  obtain⟨l,hl,h⟩:=h
  split at h
  .rename_i hlen
   simp only[ae] at h
   subst h
   obtain⟨hlen,hn0,hn1⟩:=hlen
   obtain⟨xs0,rfl⟩:=aq5 hl
   intro fn hf k ow w vs hp hold hcl hvs
   obtain⟨b,p,v,hb,hpp,hB,hv⟩:=av9 hp hl
   simp only[bz,bj,Rep] at hvs
   obtain⟨v1,r1,rfl,⟨b',hb',rfl⟩,v2,r2,rfl,⟨rfl,_⟩,rfl⟩:=hvs
   obtain rfl:=bn (hb.symm.trans hb')
   refine (aFh b p v (Lib.byteCells l) n w hpp hB (by rw[Lib.byteCells_length];exact hlen)).mono ?_
   rintro e w' ⟨rfl,v',hpost⟩
   have hpost':BPost b v w w' v' (Lib.byteCells (l++[UInt8.ofNat n.toNat])):=by
    have:Lib.byteCells (l++[UInt8.ofNat n.toNat])=Lib.byteCells l++[.int .u8 n]:=by
     have:((UInt8.ofNat n.toNat).toNat:Int)=n:=by simp;omega
     simp only[Lib.byteCells,fV,aV,bC,this]
    rw[this];exact hpost
   obtain⟨k',g1,g2,g3⟩:=ar0 hp hb hB hv hpost'
   exact⟨k',_,[.nilIface],rfl,g1,g2,aM _,fun r _=>by rw[g3],ayg hold _ _,aF2 acP hcl _ _,_,_,rfl,⟨rfl,rfl⟩,rfl⟩
  .cases h
 .cases h
def aL9 (xs:List X) (obs:List Ob) (an:An) (h:bsP xs obs=some an):ad2 Tryz.prog GT 49 xs obs an:=by
 unfold bsP at h
 split at h
 .simp only[aP] at h
  obtain⟨l,hl,rfl⟩:=h
  obtain⟨xs0,rfl⟩:=aq5 hl
  intro fn hf k ow w vs hp hold hcl hvs
  obtain⟨b,p,v,hb,hpp,hB,hv⟩:=av9 hp hl
  simp only[bz,bj] at hvs
  obtain⟨v1,r1,rfl,⟨b',hb',rfl⟩,rfl⟩:=hvs
  obtain rfl:=bn (hb.symm.trans hb')
  refine (aKk b p v l w hB).mono ?_
  rintro e w' ⟨rfl,hpost⟩
  obtain⟨_,hb',_,hblt,hbm,_⟩:=hp.obj 0 _ rfl
  obtain rfl:=bn (hb.symm.trans hb')
  have hgiven:∀ g,v.ownBlock=some g→abo k ow g:=fun g hg=>by
   rcases hv with h0|h0
   .rw[h0] at hg;cases hg
   .exact .inr ⟨_,_,_,_,_,h0,hg⟩
  refine⟨k,ow.del (.cell 0 1),[_],rfl,?_,Mem.le_refl _,aM _,fun _ _=>rfl,fun t p ht=>?_,fun r off p ht=>?_,_,_,rfl,⟨rfl,rfl⟩,rfl⟩
  .exact {
    good:=hp.good
    below:=⟨hpost.os,hpost.tape,hpost.output,hpost.size,fun c hc hm=>hpost.grown c hc fun e=>hm (hgiven c e.symm)⟩
    mem:=fun c o u hu=>⟨(hpost.cell c o (ahA hp.mem hu)).trans (hp.mem c o u hu).1,(hp.mem c o u hu).2⟩
    obj:=fun r ob hr=>by
     match r,hr with
     | 0,hr =>
      simp only[dJ,ae] at hr
      subst hr
      refine⟨b,hb,.inr (.inl ⟨0,hb⟩),fq hblt hpost.size,hbm,[p,v],?_,?_,?_⟩
      .rw[hpost.grown b hblt fun e=>hB.ne e.symm]
       exact hB.blk
      .intro u hu
       simp only[cY,aai,fd] at hu
       rcases hu with rfl|rfl
       .rcases hpp with rfl|rfl <;> rfl
       .rcases hB.own.2 with ⟨rfl,_⟩|⟨g,cap,cur,rfl,_⟩ <;> rfl
      .exact⟨_,_,rfl,trivial,_,_,rfl,trivial,rfl⟩
    dom:=hp.dom
    inj:=hp.inj
    tok:=fun t u e z n ht=>by
     simp only[Own.del] at ht
     split at ht
     .cases ht
     .rename_i hne
      obtain⟨⟨xs,h1⟩,h2⟩:=hp.tok t u e z n ht
      refine⟨⟨xs,acD (fun g hg hlt=>hpost.grown g hlt fun e=>?_) h1⟩,h2⟩
      rcases hv with h0|h0
      .rw[h0] at e;cases e
      .exact hp.tokne _ _ _ _ _ _ _ _ _ _ h0 ht (d5 hne) g e.symm hg
    tokne:=fun t t' u e z n u' e' z' n' ht ht'=>by
     simp only[Own.del] at ht ht'
     split at ht
     .cases ht
     .split at ht'
      .cases ht'
      .exact hp.tokne t t' _ _ _ _ _ _ _ _ ht ht'
    m0:=hp.m0}
  .simp only[Own.del] at ht
   split at ht
   .cases ht
   .exact hold t p ht
  .simp only[Own.del] at ht
   split at ht
   .cases ht
   .exact hcl r off p ht
 .cases h
def aKG (xs:List X) (obs:List Ob) (an:An) (h:raP xs obs=some an):ad2 Tryz.prog GT 173 xs obs an:=by
 unfold raP at h
 split at h
 .rename_i s a b
  split at h
  .rename_i hc
   simp only[ae] at h
   subst h
   intro fn hf k ow w vs hp hold hcl hvs
   simp only[bz,bj,Rep] at hvs
   obtain⟨v,r,rfl,⟨rfl,_⟩,v2,r2,rfl,⟨rfl,_⟩,v3,r3,rfl,⟨rfl,_⟩,rfl⟩:=hvs
   obtain⟨m,hm⟩:=hp.table.2
   refine (Tryz.strings_ReplaceAll s a b m w hc.1 hm hc.2.1 hc.2.2).mono ?_
   rintro e w' ⟨rfl,hB⟩
   exact⟨k,ow,[_],rfl,hp.grow hB,Mem.le_refl _,aM _,fun _ _=>rfl,hold,hcl,_,_,rfl,⟨rfl,rfl⟩,rfl⟩
  .cases h
 .cases h
def aEa (xs:List X) (obs:List Ob) (an:An) (h:apU xs obs=some an):ad2 Tryz.prog GT 246 xs obs an:=by
 unfold apU at h
 split at h
 .rename_i s a
  split at h
  .rename_i hc
   simp only[ae] at h
   subst h
   intro fn hf k ow w vs hp hold hcl hvs
   simp only[bz,bj,Rep] at hvs
   obtain⟨v,r,rfl,⟨rfl,_⟩,v2,r2,rfl,⟨rfl,_⟩,rfl⟩:=hvs
   obtain⟨m,hm⟩:=hp.table.2
   refine (Tryz.strings_Contains s a m w hc hm).mono ?_
   rintro e w' ⟨rfl,rfl⟩
   exact⟨k,ow,[_],rfl,hp,Mem.le_refl _,aM _,fun _ _=>rfl,hold,hcl,_,_,rfl,⟨rfl,rfl⟩,rfl⟩
  .cases h
 .cases h
def aK4 (r:Nat) (w:World):Calls Tryz.prog 224 #[.int .i32 (r:Int)] w fun e w'=>e=.returned (.bool (agY r))∧Below w.heap.size w w':=by
 unfold agY
 by_cases h1:(r:Int)<32
 .have h2:r<32:=by omega
  go_enter Tryz.func224,Tryz.ntmps224
  go_wp2
  go_ret
  exact⟨by simp[h2],.refl _ _⟩
 .have h2:¬ r<32:=by omega
  by_cases h3:(126:Int)<r
  .have h4:126<r:=by omega
   go_enter Tryz.func224,Tryz.ntmps224
   go_wp2
   go_ret
   exact⟨by simp[h4],.refl _ _⟩
  .have h4:¬ 126<r:=by omega
   go_enter Tryz.func224,Tryz.ntmps224
   go_wp2
   go_ret
   exact⟨by simp[h2,h4],.refl _ _⟩
def aLp (xs:List X) (obs:List Ob) (an:An) (h:ixP xs obs=some an):ad2 Tryz.prog GT 223 xs obs an:=by
 unfold ixP at h
 split at h
 .rename_i s f
  split at h
  .rename_i hf
   subst hf
   simp only[ae] at h
   subst h
   intro fn hf k ow w vs hp hold hcl hvs
   simp only[bz,bj,Rep,cM] at hvs
   obtain⟨v,r,rfl,⟨rfl,_⟩,v2,r2,rfl,⟨us,rfl,rfl⟩,rfl⟩:=hvs
   refine (Tryz.strings_IndexFunc_grows 224 #[] (enters_of Tryz.func224 (by kernel_rfl) rfl) agY s w fun W x _ _=>aK4 x W).mono ?_
   rintro e w' ⟨rfl,hB⟩
   exact⟨k,ow,[_],rfl,hp.grow hB,Mem.le_refl _,aM _,fun _ _=>rfl,hold,hcl,_,_,rfl,⟨rfl,rfl⟩,rfl⟩
  .cases h
 .cases h
def aLg (xs:List X) (obs:List Ob) (an:An) (h:lxP xs obs=some an):ad2 Tryz.prog GT 207 xs obs an:=by
 unfold lxP at h
 split at h
 .rename_i s
  split at h
  .rename_i hc
   simp only[ae] at h
   subst h
   intro fn hf k ow w vs hp hold hcl hvs
   simp only[bz,bj,Rep] at hvs
   obtain⟨v,r,rfl,⟨rfl,_⟩,rfl⟩:=hvs
   refine (aCI s (fun p h=>by
    have:=bR.1 hc.1 (s.data[p]'h) (by simp)
    have h2:(s.data[p]'h).toNat<128:=by simpa using this
    exact h2) w).mono ?_
   rintro e w' ⟨rfl,hB⟩
   exact⟨k,ow,[_],rfl,hp.grow hB,Mem.le_refl _,aM _,fun _ _=>rfl,hold,hcl,_,_,rfl,⟨rfl,rfl⟩,rfl⟩
  .cases h
 .cases h
def aKR:PrSound Tryz.prog GT pr where
 prim f xs obs an h:=by
  replace h:ao8 f xs obs=some an:=h
  unfold ao8 at h
  split at h
  .rename_i e;subst e;exact aDx xs obs an h
  split at h
  .rename_i e;subst e;exact aLp xs obs an h
  split at h
  .rename_i e;subst e;exact aKG xs obs an h
  split at h
  .rename_i e;subst e;exact aEa xs obs an h
  split at h
  .rename_i e;subst e;exact aJQ xs obs an h
  split at h
  .rename_i e;subst e;exact aJS xs obs an h
  split at h
  .rename_i e;subst e;exact aL9 xs obs an h
  split at h
  .rename_i e;subst e;exact aLg xs obs an h
  cases h
end Go.Proofs.YtemdljoideegeaaGreatDoor
namespace Go.Proofs.YtemdljoideegeaaGreatDoor
open Go Go.Pe Go.RowKit Go.ChangeShapes Go.Deep
def afJ (W:World):Mem:=fun b o=>match W.cell? ⟨b,o,none⟩ with
 | some v=>if v.oneCell'=true then some v else none
 | none=>none
def aDe {W:World} {b o:Nat} {v:Value} (h:W.cell? ⟨b,o,none⟩=some v) (h1:v.oneCell'=true):afJ W b o=some v:=by simp[afJ,h,h1]
def aG5 {W:World} {b o:Nat} {v:Value} (h:afJ W b o=some v):W.cell? ⟨b,o,none⟩=some v∧v.oneCell'=true:=by
 unfold afJ at h
 split at h
 .split at h
  .rename_i h1 h2
   cases h
   exact⟨h1,h2⟩
  .cases h
 .cases h
inductive Pl (P:Program):TypeId→List C→Nat→Prop where
 | int {t:TypeId} {k:IntKind} {n:Int} {m:Nat} (hu:P.underlying t=some (.int k)) (hw:(Lit.int k n).wf=true) (hm:1≤m):Pl P t [.lit (.int k n)] m
 | bool {t:TypeId} {b:Bool} {m:Nat} (hu:P.underlying t=some .bool) (hm:1≤m):Pl P t [.lit (.bool b)] m
 | str {t:TypeId} {s:ByteArray} {m:Nat} (hu:P.underlying t=some .string) (hm:s.size+1≤m):Pl P t [.lit (.string s)] m
 | slice {t e:TypeId} {ps:List (List C)} {ws:List Nat} {m n:Nat} (hu:P.underlying t=some (.slice e)) (hp:ps.length=n) (hl:ws.length=n)
   (h:∀ i (h1:i<ps.length) (h2:i<ws.length),Pl P e ps[i] ws[i]) (hc:∀ i (h1:i<ps.length),ps[i].length=P.cellsOf e) (hn:∀ i (h2:i<ws.length),1≤ws[i]) (hm:ws.sum+1≤m):Pl P t [.sl ps.flatten n] m
 | struct {t:TypeId} {fs:Array Field} {ps:List (List C)} {ws:List Nat} {m:Nat} (hu:P.underlying t=some (.struct fs)) (hp:ps.length=fs.toList.length) (hl:ws.length=fs.toList.length)
   (h:∀ i (h0:i<fs.toList.length) (h1:i<ps.length) (h2:i<ws.length),Pl P fs.toList[i].type ps[i] ws[i]) (hm:ws.sum+1≤m):Pl P t ps.flatten m
def alH (P:Program):Nat→List Field→Nat→Bool
 | o,[],n=>o == n
 | o,f::fs,n=>f.offset == o&&alH P (o+P.cellsOf f.type) fs n
def aNG (P:Program) (l:List TypeId):Bool:=l.all fun t=>match P.underlying t with
 | some (.int _)=>true
 | some .bool=>true
 | some .string=>true
 | some (.slice e)=>l.contains e&&decide (0<P.cellsOf e)
 | some (.struct fs)=>fs.toList.all (fun f=>l.contains f.type)&&alH P 0 fs.toList (P.cellsOf t)
 | _=>false
section
variable {H:Type} {enc:TypeId×Value→H} {W:World} {spare:Nat→Bool} {held:Bool} {P:Program}
theorem auD {H:Type} (d:DataW H):1≤Rows.uptoBulk d:=by
 cases d with
 | lit l=>cases l <;> simp[Rows.uptoBulk]
 | _=>simp[Rows.uptoBulk]
theorem aou {H:Type} {α:Type} (f:α→DataW H):∀ l:List α,Rows.uptoBulkAll (l.map f)=(l.map fun x=>Rows.uptoBulk (f x)).sum
 | []=>rfl
 | x::l=>by simp only[aV,Rows.uptoBulkAll,bU,aou f l]
theorem aTv (a:Addr) (m j:Nat):(a.add m).add j=a.add (m+j):=by
 unfold Addr.add
 by_cases hm:m=0
 .subst hm
  simp
 .by_cases hj:j=0
  .subst hj
   simp[hm]
  .simp[hm,hj,eZ]
theorem aFH {a:Addr} {len cap z:Nat} (hle:len≤cap) (hz:0<z) (cs:Nat→List Value) (g:Nat→List C)
  (h:∀ i,i<len→W.cells? 0 (a.add (i*z)) z=some (cs i)∧cM (afJ W) (g i) (cs i)∧∀ u∈cs i,u.oneCell'=true) :
  Rep (afJ W) (.sl ((List.range len).map g).flatten len) (.slice (some a) len cap):=by
 have h1:∀ n,n≤len→cM (afJ W) ((List.range n).map g).flatten ((List.range n).map cs).flatten∧((List.range n).map cs).flatten.length=n*z ∧
   ∀ i u,((List.range n).map cs).flatten[i]?=some u→W.cell? (a.add i)=some u∧u.oneCell'=true:=by
  intro n
  induction n with
  | zero=>intro _;exact⟨rfl,by simp,fun i u hu=>by simp at hu⟩
  | succ n ih =>
   intro hn
   obtain⟨i1,i2,i3⟩:=ih (by omega)
   obtain⟨j1,j2,j3⟩:=h n (by omega)
   obtain⟨_,k1,k2⟩:=World.cells?_some j1
   simp only[List.range_succ,fV,aV,bC,List.flatten_append,fC,abh,cE]
   refine⟨i1.append j2,by rw[av,i2,k1,adQ],fun i u hu=>?_⟩
   rcases ap i (n*z) with hi|hi
   .rw[dA (by omega)] at hu
    exact i3 i u hu
   .rw[gm (by omega),i2] at hu
    have hlt:i-n*z<z:=by
     have:=(List.getElem?_eq_some_iff.1 hu).1
     omega
    have:=k2 (i-n*z) hlt
    rw[hu] at this
    rw[aTv,show n*z+(i-n*z)=i by omega] at this
    exact⟨this,j3 u (fP hu)⟩
 obtain⟨h2,h3,h4⟩:=h1 len (aM _)
 refine⟨some a,cap,_,rfl,hle,h2,fun hne=>?_⟩
 have hpl:a.spot=none:=by
  cases hv:((List.range len).map cs).flatten with
  | nil=>exact absurd hv hne
  | cons u r =>
   have:=(h4 0 u (by rw[hv];rfl)).1
   unfold Addr.add at this
   rw[aE rfl] at this
   cases hs:a.spot with
   | none=>rfl
   | some s =>
    unfold World.cell? at this
    split at this
    .simp[hs] at this
    .cases this
 refine⟨a.block,a.off,by cases a;simp only at hpl;rw[hpl],fun i u hu=>?_⟩
 obtain⟨h5,h6⟩:=h4 i u hu
 refine aDe ?_ h6
 rw[← h5]
 unfold Addr.add
 split
 .rename_i e;subst e;cases a;simp only at hpl;rw[hpl];rfl
 .rfl
def a0a (P:Program) (W:World) (t:TypeId) (cs:List Value) (d:DataW H):Prop:=∃ g:List C,cM (afJ W) g cs∧(∀ u∈cs,u.oneCell'=true)∧Pl P t g (Rows.uptoBulk d)
theorem anI {n:Nat} {l:List TypeId} (ih:∀ t cs x,t∈l→DataW.trod enc P W 0 spare held n t cs=some x→a0a P W t cs x.1) (cs:List Value) :
  ∀ (fs:List Field) (o:Nat) (xs:List (DataW H×List MemPlace)),alH P o fs cs.length=true→(∀ f∈fs,f.type∈l)→xs.length=fs.length →
   (∀ (i:Nat) (f:Field),fs[i]?=some f→DataW.trod enc P W 0 spare held n f.type ((cs.drop f.offset).take (P.cellsOf f.type))=xs[i]?) →
   ∃ ps:List (List C),ps.length=fs.length∧cM (afJ W) ps.flatten (cs.drop o)∧(∀ u∈cs.drop o,u.oneCell'=true) ∧
    ∀ i (h0:i<fs.length) (h1:i<ps.length) (h2:i<(xs.map fun x=>Rows.uptoBulk x.1).length),Pl P fs[i].type ps[i] (xs.map fun x=>Rows.uptoBulk x.1)[i]
 | [],o,xs,ht,_,_,_=>by
  have:o=cs.length:=by simpa [alH] using ht
  subst this
  exact⟨[],rfl,by simp[cM],by simp,fun i h0=>absurd h0 (gO _)⟩
 | f::fs,o,[],_,_,hl,_=>by simp at hl
 | f::fs,o,x::xs,ht,hm,hl,hx=>by
  simp only[alH,ab,fQ] at ht
  obtain⟨rfl,ht⟩:=ht
  have h0:=hx 0 f rfl
  simp only[dJ] at h0
  obtain⟨g,g1,g2,g3⟩:=ih _ _ _ (hm f (List.mem_cons_self ..)) h0
  obtain⟨ps,p1,p2,p3,p4⟩:=anI ih cs fs (f.offset+P.cellsOf f.type) xs ht (fun q hq=>hm q (iC _ hq)) (by simpa using hl) (fun i q hq=>by simpa using hx (i+1) q (by simpa using hq))
  have hsplit:cs.drop f.offset=(cs.drop f.offset).take (P.cellsOf f.type)++cs.drop (f.offset+P.cellsOf f.type):=by
   rw[← ac7,List.take_append_drop]
  refine⟨g::ps,by simp[p1],?_,?_,?_⟩
  .rw[hsplit,fC]
   exact g1.append p2
  .intro u hu
   rw[hsplit,dF] at hu
   rcases hu with hu|hu
   .exact g2 u hu
   .exact p3 u hu
  .intro i h0 h1 h2
   cases i with
   | zero=>exact g3
   | succ i=>exact p4 i (by simpa using h0) (by simpa using h1) (by simpa using h2)
theorem ayb {l:List TypeId} (hf:aNG P l=true):∀ (fuel:Nat) (t:TypeId) (cs:List Value) (x:DataW H×List MemPlace),t∈l→DataW.trod enc P W 0 spare held fuel t cs=some x→a0a P W t cs x.1
 | 0,t,cs,x,_,h=>by simp[DataW.trod] at h
 | fuel+1,t,cs,x,htl,h=>by
  have ih:=ayb hf fuel
  have hft:=bR.1 hf t htl
  cases hu:P.underlying t with
  | none=>rw[hu] at hft;cases hft
  | some u =>
   rw[hu] at hft
   cases u with
   | int k =>
    obtain⟨n,rfl,rfl,hw⟩:=DataW.trod_int hu h
    exact⟨[.lit (.int k n)],⟨_,_,rfl,⟨rfl,rfl⟩,rfl⟩,by simp[Value.oneCell'],.int hu hw (aM 1)⟩
   | bool =>
    obtain⟨b,rfl,rfl⟩:=DataW.trod_bool hu h
    exact⟨[.lit (.bool b)],⟨_,_,rfl,⟨rfl,rfl⟩,rfl⟩,by simp[Value.oneCell'],.bool hu (aM 1)⟩
   | string =>
    obtain⟨s,rfl,rfl,_⟩:=DataW.trod_string hu h
    exact⟨[.lit (.string s)],⟨_,_,rfl,⟨rfl,rfl⟩,rfl⟩,by simp[Value.oneCell'],.str hu (Nat.le_of_eq rfl)⟩
   | slice e =>
    simp only[ab,List.contains_iff_mem,ar] at hft
    rcases DataW.trod_slice hu h with ⟨rfl,rfl⟩|⟨a,len,cap,elems,rest,n,hfu,rfl,rfl,_,hle,_,hlen,hel,_,_⟩
    .exact⟨[.sl [] 0],⟨_,_,rfl,⟨none,0,[],rfl,aM _,rfl,fun h=>absurd rfl h⟩,rfl⟩,by simp[Value.oneCell'],.slice (ps:=[]) (ws:=[]) hu rfl rfl (fun i h1=>absurd h1 (gO _)) (fun i h1=>absurd h1 (gO _)) (fun i h1=>absurd h1 (gO _)) (aM _)⟩
    .obtain rfl:fuel=n:=by omega
     subst hlen
     have hv:∀ i:Nat,∃ p:List Value×List C,∀ hi:i<elems.length,W.cells? 0 (a.add (i*P.cellsOf e)) (P.cellsOf e)=some p.1∧cM (afJ W) p.2 p.1∧(∀ u∈p.1,u.oneCell'=true)∧Pl P e p.2 (Rows.uptoBulk elems[i].1):=fun i=>by
      by_cases hi:i<elems.length
      .have h0:=hel i hi
       rw[bK hi,cS] at h0
       obtain⟨cs',h1,h2⟩:=h0
       obtain⟨g,g1,g2,g3⟩:=ih _ _ _ hft.1 h2
       exact⟨(cs',g),fun _=>⟨h1,g1,g2,g3⟩⟩
      .exact⟨([],[]),fun h=>absurd h hi⟩
     obtain⟨F,hF⟩:=Classical.axiomOfChoice hv
     refine⟨[.sl ((List.range elems.length).map fun i=>(F i).2).flatten elems.length],⟨_,_,rfl,aFH hle hft.2 (fun i=>(F i).1) (fun i=>(F i).2) (fun i hi=>⟨(hF i hi).1,(hF i hi).2.1,(hF i hi).2.2.1⟩),rfl⟩,by simp[Value.oneCell'],?_⟩
     refine .slice (ws:=elems.map fun x=>Rows.uptoBulk x.1) hu (by simp) (by simp) (fun i h1 h2=>?_) (fun i h1=>?_) (fun i h2=>?_) ?_
     .simp only[adT,List.getElem_range]
      exact (hF i (by simpa using h1)).2.2.2
     .simp only[adT,List.getElem_range]
      obtain⟨q1,q2,_⟩:=hF i (by simpa using h1)
      rw[← q2.length]
      exact (World.cells?_some q1).2.1
     .simp only[adT]
      exact auD _
     .simp only[Rows.uptoBulk]
      rw[aou]
      omega
   | struct fs =>
    obtain⟨xs,n,hfu,rfl,hlen,hxl,hx⟩:=DataW.trod_struct hu h
    obtain rfl:fuel=n:=by omega
    simp only[ab,bR,List.contains_iff_mem] at hft
    obtain⟨ps,p1,p2,p3,p4⟩:=anI ih cs fs.toList 0 xs (by rw[hlen];exact hft.2) hft.1 (by simpa using hxl) (fun i f hi=>hx i f (by simpa using hi))
    refine⟨ps.flatten,by simpa using p2,by simpa using p3,.struct (ws:=xs.map fun x=>Rows.uptoBulk x.1) hu p1 (by simpa using hxl) p4 ?_⟩
    simp only[Rows.uptoBulk]
    rw[aou]
    exact aM _
   | _=>cases hft
end
section
variable {P:Program} {t:TypeId} {cs:List C} {m:Nat}
theorem Pl.pos (h:Pl P t cs m):1≤m:=by
 cases h <;> omega
theorem Pl.int_inv (h:Pl P t cs m) (hu:P.underlying t=some (.int .i64)):∃ n:Int,cs=[ci n]∧-9223372036854775808≤n∧n≤9223372036854775807:=by
 cases h with
 | int hu' hw hm =>
  rw[hu] at hu'
  cases hu'
  have:IntKind.i64.min=-9223372036854775808:=rfl
  have:IntKind.i64.max=9223372036854775807:=rfl
  refine⟨_,rfl,?_⟩
  simp[Lit.wf,IntKind.wrap_i64] at hw
  omega
 | bool hu'=>rw[hu] at hu';cases hu'
 | str hu'=>rw[hu] at hu';cases hu'
 | slice hu'=>rw[hu] at hu';cases hu'
 | struct hu'=>rw[hu] at hu';cases hu'
theorem Pl.str_inv (h:Pl P t cs m) (hu:P.underlying t=some .string):∃ s:ByteArray,cs=[aH s]∧s.size+1≤m:=by
 cases h with
 | str hu' hm=>exact⟨_,rfl,hm⟩
 | int hu'=>rw[hu] at hu';cases hu'
 | bool hu'=>rw[hu] at hu';cases hu'
 | slice hu'=>rw[hu] at hu';cases hu'
 | struct hu'=>rw[hu] at hu';cases hu'
theorem Pl.bool_inv (h:Pl P t cs m) (hu:P.underlying t=some .bool):∃ b:Bool,cs=[cb b]:=by
 cases h with
 | bool hu'=>exact⟨_,rfl⟩
 | int hu'=>rw[hu] at hu';cases hu'
 | str hu'=>rw[hu] at hu';cases hu'
 | slice hu'=>rw[hu] at hu';cases hu'
 | struct hu'=>rw[hu] at hu';cases hu'
theorem Pl.slice_inv {e:TypeId} (h:Pl P t cs m) (hu:P.underlying t=some (.slice e)):∃ (ps:List (List C)) (ws:List Nat),cs=[.sl ps.flatten ps.length]∧ws.length=ps.length ∧
  (∀ i (h1:i<ps.length) (h2:i<ws.length),Pl P e ps[i] ws[i])∧ws.sum+1≤m:=by
 cases h with
 | slice hu' hp hl h hc hn hm =>
  rw[hu] at hu'
  cases hu'
  subst hp
  exact⟨_,_,rfl,hl,h,hm⟩
 | int hu'=>rw[hu] at hu';cases hu'
 | str hu'=>rw[hu] at hu';cases hu'
 | bool hu'=>rw[hu] at hu';cases hu'
 | struct hu'=>rw[hu] at hu';cases hu'
theorem Pl.struct_inv {fs:Array Field} (h:Pl P t cs m) (hu:P.underlying t=some (.struct fs)):∃ (ps:List (List C)) (ws:List Nat),cs=ps.flatten∧ps.length=fs.toList.length∧ws.length=fs.toList.length ∧
  (∀ i (h0:i<fs.toList.length) (h1:i<ps.length) (h2:i<ws.length),Pl P fs.toList[i].type ps[i] ws[i])∧ws.sum+1≤m:=by
 cases h with
 | struct hu' hp hl h hm =>
  rw[hu] at hu'
  cases hu'
  exact⟨_,_,rfl,hp,hl,h,hm⟩
 | int hu'=>rw[hu] at hu';cases hu'
 | str hu'=>rw[hu] at hu';cases hu'
 | bool hu'=>rw[hu] at hu';cases hu'
 | slice hu'=>rw[hu] at hu';cases hu'
theorem aAR {α:Type} {f:α→List C} {Q:Nat→α→Prop} {w:α→Nat}:∀ (ps:List (List C)) (ws:List Nat),ws.length=ps.length →
  (∀ i (h1:i<ps.length) (h2:i<ws.length),∃ x:α,ps[i]=f x∧w x≤ws[i]∧Q ws[i] x) →
  ∃ l:List α,ps=l.map f∧(l.map w).sum≤ws.sum∧∀ x∈l,∃ k,k≤ws.sum∧Q k x
 | [],[],_,_=>⟨[],rfl,aM _,fun x hx=>by cases hx⟩
 | p::ps,[],h,_=>by simp at h
 | [],q::ws,h,_=>by simp at h
 | p::ps,q::ws,h,hx=>by
  obtain⟨x,x1,x2,x3⟩:=hx 0 (by simp) (by simp)
  obtain⟨l,l1,l2,l3⟩:=aAR ps ws (by simpa using h) fun i h1 h2=>hx (i+1) (Nat.succ_lt_succ h1) (Nat.succ_lt_succ h2)
  simp only[dS] at x1 x2 x3
  refine⟨x::l,by simp[x1,l1],by simp only[aV,bU];omega,fun y hy=>?_⟩
  rcases cY.1 hy with rfl|hy
  .exact⟨q,by simp only[bU];omega,x3⟩
  .obtain⟨k,k1,k2⟩:=l3 y hy
   exact⟨k,by simp only[bU];omega,k2⟩
end
end Go.Proofs.YtemdljoideegeaaGreatDoor

/-
  The machine's rules, in two bundles. Conditions: none.
-/
import Derived.Test.YtjajlmjfddohfaaGreatDoorPa5
set_option linter.defProp false
set_option linter.unusedSectionVars false
set_option maxRecDepth 100000
set_option maxHeartbeats 32000000
theorem Go.ai {a b:Prop} (x:a) (y:b):a∧b:=⟨x,y⟩
namespace Go.Pe
section
variable (s:S) (d j:Nat) (x:X) (t:Tk)
theorem Z6w:(s.put (some d) x).fr j=if j=d then x else s.fr j:=rfl
theorem Z6y (d:Option Nat):(s.put d x).objs=s.objs:=by cases d <;> rfl
theorem Z6v (d:Option Nat):(s.put d x).clk=s.clk:=by cases d <;> rfl
theorem Z6x:s.put none x=s:=rfl
theorem Z31:(s.drop (some t)).fr j=(s.fr j).drop t:=rfl
theorem Z32:(s.drop (some t)).objs=s.objs.map (Ob.drop t):=rfl
theorem Z30:(s.drop (some t)).clk=s.clk:=rfl
theorem Z3i (n:Nat):s.ev (.tmp n)=s.fr n:=rfl
theorem Z3g (v:Value):s.ev (.const v)=iV v:=rfl
theorem Z3h (f:Nat):s.ev (.func f)=.of (.fn f []):=rfl
end
theorem Z63 (k:IntKind) (n:Int):iV (.int k n)=.of (.lit (.int k n)):=rfl
theorem Z62 (b:Bool):iV (.bool b)=.of (.lit (.bool b)):=rfl
theorem Z67 (b:ByteArray):iV (.string b)=.of (.lit (.string b)):=rfl
theorem Z65:iV (.slice none 0 0)=.nil:=rfl
theorem Z64:iV (.map none)=.of (.lit (.map none)):=rfl
def ai6:List X→Nat→X
 | [],_=>.of .undef
 | c::_,0=>c
 | _::cs,j+1=>ai6 cs j
theorem Z42 (obs:List Ob):∀ (xs:List X) (j:Nat),(acl xs obs).fr j=ai6 xs j
 | [],j=>rfl
 | c::cs,0=>rfl
 | c::cs,j+1=>by have:=Z42 obs cs j;simpa [acl,ai6] using this
theorem Z43 (xs:List X) (obs:List Ob):(acl xs obs).objs=obs:=rfl
theorem Z41 (xs:List X) (obs:List Ob):(acl xs obs).clk=1:=rfl
theorem Z40 (x:X) (xs:List X):ai6 (x::xs) 0=x:=rfl
theorem Z3z (x:X) (xs:List X) (j:Nat):ai6 (x::xs) (j+1)=ai6 xs j:=rfl
theorem Z8q (P:Program) (pr:Pr) (b:Code) (Q:Ex→S→Prop) (s:S):akE P pr b Q .normal s↔WC P pr b s Q:=Iff.rfl
theorem Z8p (P:Program) (pr:Pr) (b:Code) (Q:Ex→S→Prop) (i:Nat) (s:S):akE P pr b Q (.exit i) s↔Q (.exit i) s:=Iff.rfl
theorem Z8s (P:Program) (pr:Pr) (b:Code) (Q:Ex→S→Prop) (s:S):akE P pr b Q .ret s↔Q .ret s:=Iff.rfl
theorem Z23 (i:Nat) (Q:Ex→S→Prop) (s:S):afJ i Q .normal s↔Q .normal s:=Iff.rfl
theorem Z22 (i j:Nat) (Q:Ex→S→Prop) (s:S):afJ i Q (.exit j) s↔if j=i then Q .normal s else Q (.exit j) s:=Iff.rfl
theorem Z25 (i:Nat) (Q:Ex→S→Prop) (s:S):afJ i Q .ret s↔Q .ret s:=Iff.rfl
def S.tk (s:S):S:={s with clk:=s.clk+1}
theorem Z8u (s:S) (j:Nat):s.tk.fr j=s.fr j:=rfl
theorem Z8v (s:S):s.tk.objs=s.objs:=rfl
theorem Z8t (s:S):s.tk.clk=s.clk+1:=rfl
theorem Z7g (Q:Ex→S→Prop) (s:S):ado Q none s↔Q .normal s.tk:=Iff.rfl
theorem Z5j (F:S→Prop) (Q:Option X→S→Prop) (s:S):alm F Q none s↔F s:=Iff.rfl
theorem Z2t (b:Bool) (p q:Prop):apN (some b) p q↔if b=true then p else q:=Iff.rfl
theorem Z3s (ops:Array Oper) (s:S) (d:Option Nat) (op:Op) (ty:Nat) (pos:String) (af:Array Edge):cD ops s ⟨d,op,ty,pos,af,none⟩=some true:=rfl
def alF (want:Bool):X→Option Bool
 | .of (.lit (.bool b))=>some (b == want)
 | .of .undef=>some false
 | _=>none
def aEn (s:S) (want:Bool):Option Nat→Option Bool
 | some d=>alF want (s.fr d)
 | none=>some false
theorem Z3t (ops:Array Oper) (s:S) (d:Option Nat) (op:Op) (ty:Nat) (pos:String) (af:Array Edge) (j:Nat) (want:Bool) :
  cD ops s ⟨d,op,ty,pos,af,some (j,want)⟩=aEn s want ((ops[j]?).bind (·.dst)):=by
 simp only[cD]
 cases (ops[j]?).bind (·.dst) with
 | none=>rfl
 | some d=>rfl
theorem Z3r (s:S) (want:Bool) (d:Nat):aEn s want (some d)=alF want (s.fr d):=rfl
theorem Z3u (want b:Bool):alF want (.of (.lit (.bool b)))=some (b == want):=rfl
theorem Z3v (want:Bool):alF want (.of .undef)=some false:=rfl
theorem Z6g (s:S) (d:Option Nat) (af:Array Edge) (K:S→Prop) (x:X):gz s d af K (out x)↔K (s.put d x):=Iff.rfl
theorem Z6i (s:S) (d:Option Nat) (af:Array Edge) (K:S→Prop) (x:X) (t:Tk):gz s d af K (some (x,some t))↔gJ s.clk af.toList (some t)=true∧K ((s.drop (some t)).put d x):=Iff.rfl
theorem Z6f (s:S) (d:Option Nat) (af:Array Edge) (K:S→Prop) (x:X):gz s d af K (some (x,none))↔K (s.put d x):=Iff.rfl
theorem Z3w (b:Bool) (p q:Prop):abp (some b) p q↔if b=true then p else q:=by cases b <;> simp[abp]
theorem Zw (P:Program) (pr:Pr) (id:Nat) (l:List Oper) (s:S) (Q:Ex→S→Prop):WC P pr (.region id l.toArray false) s Q↔WO P pr false l.toArray 0 l s (ado Q):=aAA id l.toArray s Q
theorem Zx (P:Program) (pr:Pr) (id:Nat) (l:List Oper) (s:S) (Q:Ex→S→Prop):WC P pr (.region id l.toArray true) s Q↔if tlB l=true then WOT P pr l.toArray 0 l s (ado Q) else if gd l=true then WOB P pr l.toArray 0 l s (ado Q) else if acE pr.obj l=true then WS P pr l.toArray l s (ado Q) else WO P pr true l.toArray 0 l s (ado Q):=aAz id l.toArray s Q
theorem Z6k (Q:Option X→S→Prop) (s:S):aPq Q none s=Q none s:=rfl
theorem Z4q (obj:Nat→Bool) (d:Option Nat) (o:Op) (ty:Nat) (po:String) (af:Array Edge) (g:Option (Nat×Bool)) (r:List Oper):acE obj (⟨d,o,ty,po,af,g⟩::r)=(abn obj o&&g.isNone):=rfl
theorem Z7y (a b:Oper) (l:List Oper):gd (a::b::l)=gd (b::l):=rfl
theorem Z7z (d:Option Nat) (o:Op) (ty:Nat) (po:String) (af:Array Edge) (g:Option (Nat×Bool)):gd [⟨d,o,ty,po,af,g⟩]=(bZ o&&g.isNone):=rfl
theorem Z8i (t:Nat) (a x:Operand):bZ (.store t a x)=true:=rfl
theorem Z84 (c:Call):bZ (.call c)=false:=rfl
theorem Z4v (obj:Nat→Bool) (g:Nat) (tys:Array Nat):abn obj (.call {callee:=.value (.func g),args:=#[],argTypes:=tys})=obj g:=rfl
theorem Z56 (obj:Nat→Bool):∀ x0,abn obj (.move x0)=false:=fun _=>rfl
theorem Z80:∀ x0,bZ (.assign x0)=false:=fun _=>rfl
theorem Z8g:∀ x0 x1 x2,bZ (.pick x0 x1 x2)=false:=fun _ _ _=>rfl
theorem Z81:∀ x0 x1 x2 x3 x4,bZ (.binOp x0 x1 x2 x3 x4)=false:=fun _ _ _ _ _=>rfl
theorem Z8j:∀ x0 x1 x2,bZ (.unOp x0 x1 x2)=false:=fun _ _ _=>rfl
theorem Z8b:∀ x0 x1,bZ (.load x0 x1)=false:=fun _ _=>rfl
theorem Z53 (obj:Nat→Bool):∀ x0 x1,abn obj (.load x0 x1)=false:=fun _ _=>rfl
theorem Z88:∀ x0 x1 x2,bZ (.fieldAddr x0 x1 x2)=false:=fun _ _ _=>rfl
theorem Z50 (obj:Nat→Bool):∀ x0 x1 x2,abn obj (.fieldAddr x0 x1 x2)=false:=fun _ _ _=>rfl
theorem Z86:∀ x0 x1,bZ (.extract x0 x1)=false:=fun _ _=>rfl
theorem aLY:∀ x0,opK (.move x0)=0:=fun _=>rfl
theorem aBR:∀ x0,opK (.assign x0)=2:=fun _=>rfl
theorem aLX:∀ x0 x1 x2,opK (.pick x0 x1 x2)=0:=fun _ _ _=>rfl
theorem aGg:∀ x0,opK (.alloc x0)=3:=fun _=>rfl
theorem aGe:∀ x0 x1,opK (.build x0 x1)=0:=fun _ _=>rfl
theorem aoT:∀ x0 x1 x2,opK (.buildSlice x0 x1 x2)=0:=fun _ _ _=>rfl
theorem aLZ:∀ x0 x1,opK (.load x0 x1)=4:=fun _ _=>rfl
theorem aGf:∀ x0 x1 x2 x3 x4,opK (.binOp x0 x1 x2 x3 x4)=0:=fun _ _ _ _ _=>rfl
theorem aLV:∀ x0 x1 x2,opK (.unOp x0 x1 x2)=0:=fun _ _ _=>rfl
theorem aGd:∀ x0 x1 x2 x3 x4,opK (.slice x0 x1 x2 x3 x4)=0:=fun _ _ _ _ _=>rfl
theorem aqV:∀ x0 x1 x2,opK (.fieldAddr x0 x1 x2)=0:=fun _ _ _=>rfl
theorem aqU:∀ x0 x1 x2,opK (.indexAddr x0 x1 x2)=0:=fun _ _ _=>rfl
theorem aBQ:∀ x0 x1 x2 x3,opK (.lookup x0 x1 x2 x3)=0:=fun _ _ _ _=>rfl
theorem ayU:∀ x0 x1,opK (.extract x0 x1)=0:=fun _ _=>rfl
theorem aL0:∀ x0,opK (.call x0)=0:=fun _=>rfl
theorem aGc:∀ x0 x1 x2,opK (.store x0 x1 x2)=1:=fun _ _ _=>rfl
theorem aON (l:List Oper):tlB l=tlM l (aeG l):=rfl
theorem aFG (l:List Oper):tlM l none=false:=rfl
theorem aFF (l:List Oper) (d:Nat):tlM l (some d)=!afv d l:=rfl
theorem aFH (a b c:Oper) (l:List Oper):aeG (a::b::c::l)=aeG (b::c::l):=rfl
theorem aLk (d:Option Nat) (o:Op) (ty:Nat) (po:String) (af:Array Edge) (g:Option (Nat×Bool)) (d':Option Nat) (o':Op) (ty':Nat) (po':String) (af':Array Edge) (g':Option (Nat×Bool)):aeG [⟨d,o,ty,po,af,g⟩,⟨d',o',ty',po',af',g'⟩]=if (bZ o&&g.isNone&&(g'.isNone&&(bZ o'||opK o' == 2)))=true then aHw o else none:=rfl
theorem aUn (t d:Nat) (x:Operand):aHw (.store t (.tmp d) x)=some d:=rfl
theorem aGr (d:Nat):afv d []=false:=rfl
theorem aCH (j:Nat) (d:Option Nat) (o:Op) (ty:Nat) (po:String) (af:Array Edge) (g:Option (Nat×Bool)) (l:List Oper):afv j (⟨d,o,ty,po,af,g⟩::l)=((opK o == 3&&eqD d j)||afv j l):=rfl
theorem aG4 (a d:Nat):eqD (some a) d=(a == d):=rfl
theorem aG5 (d:Nat):eqD none d=false:=rfl
def aPh:X→Bool
 | .of (.ref _)=>true
 | _=>false
theorem aFY (cs:List C):aPh (.of (.ref cs))=true:=rfl
theorem aQ2 (s:S) (d:Option Nat) (o:Op) (ty:Nat) (po:String) (af:Array Edge) (g:Option (Nat×Bool)):ja s ⟨d,o,ty,po,af,g⟩=(!(opK o == 4)||am1 s o):=rfl
theorem aGR (s:S) (t:Nat) (a:Operand):am1 s (.load t a)=aPh (s.ev a):=rfl
theorem aEo (p:Prop):azI true p↔p:=Iff.rfl
theorem aMl {b b':Bool} (p:Prop) (h:Unit→b=b'):azI b p=azI b' p:=by rw[h ()]
theorem aOM (l:List Oper) {x x':Option Nat} (h:Unit→x=x'):tlM l x=tlM l x':=by rw[h ()]
theorem aEm {g g':Option Bool} (p q:Prop) (h:Unit→g=g'):abp g p q=abp g' p q:=by rw[h ()]
theorem aHb {g g':Option Bool} (p q:Prop) (h:Unit→g=g'):apN g p q=apN g' p q:=by rw[h ()]
theorem aLR (s:S) (d:Option Nat) (af:Array Edge) (K:S→Prop) {v v':Out} (h:Unit→v=v'):gz s d af K v=gz s d af K v':=by rw[h ()]
theorem aLS (Q:S→Prop) {v v':Option S} (h:Unit→v=v'):iu Q v=iu Q v':=by rw[h ()]
theorem aH0 (P:Program) (pr:Pr) (f:Nat) {xs xs':List X} {obs obs':List Ob} (K:An→Prop) (h:Unit→xs=xs') (h':Unit→obs=obs'):aG P pr f xs obs K=aG P pr f xs' obs' K:=by rw[h (),h' ()]
theorem aHh (P:Program) (pr:Pr) (dr:Bool) (s:S) (k:Nat) (d:Option Nat) (Q:Option X→S→Prop) (f:Nat) {us us':List X} (caps:List C) {cs cs':Option (List C)} {b b':Bool} (h1:Unit→us=us') (h2:Unit→cs=cs') (h3:Unit→b=b') :
  adK P pr dr s k d Q f us caps cs b=adK P pr dr s k d Q f us' caps cs' b':=by rw[h1 (),h2 (),h3 ()]
theorem aHg (P:Program) (pr:Pr) (dr:Bool) (s:S) (k:Nat) (d:Option Nat) (Q:Option X→S→Prop) {us us':List X} {cs cs':Option (List C)} {x x':X} (h1:Unit→us=us') (h2:Unit→cs=cs') (h3:Unit→x=x') :
  ac0 P pr dr s k d Q us cs x=ac0 P pr dr s k d Q us' cs' x':=by rw[h1 (),h2 (),h3 ()]
theorem aBM (P:Program) (pr:Pr) (s:S) (k:Nat) (d:Option Nat) (Q:Option X→S→Prop) (f:Nat) (caps:List C) {cs cs':Option (List C)} (h:Unit→cs=cs'):afs P pr s k d Q f caps cs=afs P pr s k d Q f caps cs':=by rw[h ()]
theorem aGj (P:Program) (pr:Pr) (s:S) (k:Nat) (d:Option Nat) (Q:Option X→S→Prop) (f:Nat) {us us':List X} {refs refs':List Nat} {ts ts':List Tk} (h1:Unit→us=us') (h2:Unit→refs=refs') (h3:Unit→ts=ts') :
  acW P pr s k d Q f us refs ts=acW P pr s k d Q f us' refs' ts':=by rw[h1 (),h2 (),h3 ()]
theorem aGi (P:Program) (pr:Pr) (s:S) (k:Nat) (d:Option Nat) (refs:List Nat) (ts:List Tk) (Q:Option X→S→Prop) (f:Nat) (us:List X) {obs obs':Option (List Ob)} (h1:Unit→obs=obs') :
  ak8 P pr s k d refs ts Q f us obs=ak8 P pr s k d refs ts Q f us obs':=by rw[h1 ()]
theorem aLQ (Q:Option X→S→Prop) (s:S) {c c':Option C} (h:Unit→c=c'):aPp Q s c=aPp Q s c':=by rw[h ()]
attribute [congr] aEm aHb aLR aLS aH0 aHh aHg aBM aGj aGi aLQ
section
variable (P:Program) (T:TT) (t:Nat) (u:Option TypeDesc) (k:IntKind) (a b:Int)
theorem Z1r:dX P T t u .lss (.of (.lit (.int k a))) (.of (.lit (.int k b)))=out (ah (decide (a<b))):=by simp[dX,dN,gp,kN,bB,out]
theorem Z1q:dX P T t u .leq (.of (.lit (.int k a))) (.of (.lit (.int k b)))=out (ah (decide (a≤b))):=by simp[dX,dN,gp,kN,bB,out]
theorem Z1p:dX P T t u .gtr (.of (.lit (.int k a))) (.of (.lit (.int k b)))=out (ah (decide (b<a))):=by simp[dX,dN,gp,kN,bB,out]
theorem Z1o:dX P T t u .geq (.of (.lit (.int k a))) (.of (.lit (.int k b)))=out (ah (decide (b≤a))):=by simp[dX,dN,gp,kN,bB,out]
theorem Z1n:dX P T t u .eql (.of (.lit (.int k a))) (.of (.lit (.int k b)))=out (ah (decide (a=b))):=by simp[dX,dN,gp,kN,bB,out]
theorem Z1t:dX P T t u .neq (.of (.lit (.int k a))) (.of (.lit (.int k b)))=out (ah (!decide (a=b))):=by simp[dX,dN,gp,kN,bB,out]
theorem Z1k:dX P T t u .add (.of (.lit (.int k a))) (.of (.lit (.int k b)))=out (.of (.lit (.int k (k.wrap (a+b))))):=by simp[dX,dN,gp,kN,bB,out]
theorem Z1x:dX P T t u .sub (.of (.lit (.int k a))) (.of (.lit (.int k b)))=out (.of (.lit (.int k (k.wrap (a-b))))):=by simp[dX,dN,gp,kN,bB,out]
theorem Z1v (x y:ByteArray):dX P T t u .eql (.of (.lit (.string x))) (.of (.lit (.string y)))=out (ah (decide (x=y))):=by simp[dX,dN,gp,aih,bB,out]
theorem Z1w (x y:ByteArray):dX P T t u .neq (.of (.lit (.string x))) (.of (.lit (.string y)))=out (ah (!decide (x=y))):=by simp[dX,dN,gp,aih,bB,out]
theorem Z1u (x y:ByteArray):dX P T t u .add (.of (.lit (.string x))) (.of (.lit (.string y)))=if x.size+y.size≤aba then out (dA (x++y)) else none:=by
 simp only[dX,dN,gp,aih]
 split <;> rfl
theorem Z1l (x y:Bool):dX P T t (some .bool) .eql (.of (.lit (.bool x))) (.of (.lit (.bool y)))=out (ah (x == y)):=by simp[dX,dN,gp,ajl,afx,bB,out]
theorem Z1m (x y:Bool):dX P T t (some .bool) .neq (.of (.lit (.bool x))) (.of (.lit (.bool y)))=out (ah (!(x == y))):=by simp[dX,dN,gp,ajl,afx,bB,out]
theorem Z9n (b:Bool):unX .not (.of (.lit (.bool b)))=out (ah (!b)):=rfl
end
theorem Z4h (b:Bool):jv (.of (.lit (.bool b)))=some b:=rfl
theorem aQN (m n:Int):aj8 (.of (.lit (.int .i64 m))) (.of (.lit (.int .i64 n)))=out (ak (if m<n then n else m)):=rfl
theorem Z4j (v:Value):dN (.of (.lit v))=some v:=rfl
theorem Z6q (s:S) (x y:Operand) (b:Bool):ayP s x y (some b)=out (if b=true then s.ev x else s.ev y):=rfl
theorem Z4f (s:ByteArray):fh (some .string) (.of (.lit (.string s)))=out (ak s.size):=rfl
theorem Z4d (e:Nat) (t:Tk) (e' z:Nat) (cs:List C) (n:Nat):fh (some (.slice e)) (.own t e' z cs n)=out (ak n):=rfl
theorem Z4c (e:Nat):fh (some (.slice e)) .nil=out (ak 0):=rfl
theorem Z6e (s:S) (d:Option Nat) (af:Array Edge) (K:S→Prop) (c:Prop) [Decidable c] (v:Out):gz s d af K (if c then v else none)↔c∧gz s d af K v:=by
 split
 .simp[*]
 .simp[*,gz]
theorem Z72 (c:C):X.rd (.of c)=some c:=rfl
theorem Z73 (t:Tk) (e z:Nat) (cs:List C) (n:Nat):X.rd (.own t e z cs n)=some (.sl cs n):=rfl
theorem Z71:X.rd .nil=some (.sl [] 0):=rfl
theorem Z70 (f:Operand→X):fN f []=some []:=rfl
def az6 (c:Option C) (cs:Option (List C)):Option (List C):=match c,cs with
 | some c,some cs=>some (c::cs)
 | _,_=>none
theorem Z6z (f:Operand→X) (x:Operand) (r:List Operand):fN f (x::r)=az6 (f x).rd (fN f r):=by
 simp only[fN,az6]
 cases (f x).rd <;> cases fN f r <;> rfl
theorem Z2u (c:C) (cs:List C):az6 (some c) (some cs)=some (c::cs):=rfl
theorem Z26 (P:Program) (pr:Pr) (dr:Bool) (s:S) (k:Nat) (d:Option Nat) (Q:Option X→S→Prop) (f:Nat) (us:List X) (caps:List C) (cs:Option (List C)):adK P pr dr s k d Q f us caps cs false↔afs P pr s k d Q f caps cs:=Iff.rfl
theorem Z27 (P:Program) (pr:Pr) (dr:Bool) (s:S) (k:Nat) (d:Option Nat) (Q:Option X→S→Prop) (f:Nat) (us:List X) (caps:List C) (cs:Option (List C)):adK P pr dr s k d Q f us caps cs true↔dr=false∧acW P pr s k d Q f us (fM s.objs 999 (X.refsL us) []) (acP (pr.tk f) us):=Iff.rfl
theorem Z29 (P:Program) (pr:Pr) (dr:Bool) (s:S) (k:Nat) (d:Option Nat) (Q:Option X→S→Prop) (args:List X) (cs:Option (List C)) (f:Nat) (caps:List C):ac0 P pr dr s k d Q args cs (.of (.fn f caps))↔adK P pr dr s k d Q f (args++caps.map .of) caps cs (pr.obj f):=Iff.rfl
theorem Z6s (P:Program) (pr:Pr) (s:S) (k:Nat) (d:Option Nat) (Q:Option X→S→Prop) (f:Nat) (caps cs:List C):afs P pr s k d Q f caps (some cs)↔ab P f=true∧aG P pr f ((cs++caps).map .of) [] (aqM s k d Q):=Iff.rfl
def amT {α:Type} (v:α) (K:α→Prop):Prop:=K v
theorem aL8 {α:Type} {v v':α} (K:α→Prop) (h:Unit→v=v'):amT v K=amT v' K:=by rw[h ()]
attribute [congr] aL8
theorem Z4g {α:Type} (v:α) (K:α→Prop):amT v K↔K v:=Iff.rfl
theorem Z6r (s:S) (k:Nat) (d:Option Nat) (Q:Option X→S→Prop) (rs:List X):aqM s k d Q ⟨false,rs,[]⟩↔amT (aaJ (acf s.clk k rs)) fun x=>Q none (s.put d x):=Iff.rfl
theorem Z5w (P:Program) (pr:Pr) (s:S) (k:Nat) (d:Option Nat) (Q:Option X→S→Prop) (f:Nat) (us:List X) (refs:List Nat) (ts:List Tk):acW P pr s k d Q f us refs ts↔ak8 P pr s k d refs ts Q f us (eU (pos refs) (gY refs ts) (acp ts s.objs) refs):=Iff.rfl
theorem Z5x (P:Program) (pr:Pr) (s:S) (k:Nat) (d:Option Nat) (refs:List Nat) (ts:List Tk) (Q:Option X→S→Prop) (f:Nat) (us:List X) (obs:List Ob):ak8 P pr s k d refs ts Q f us (some obs)↔ab P f=true∧aG P pr f (X.trs (pos refs) (gY refs ts) us) obs (ajn s k d refs ts Q):=Iff.rfl
def S.bfr (s:S) (refs:List Nat) (ts:List Tk):S:={s with fr:=fun j=>(s.fr j).tr some (gk refs ts)}
def S.withO (s:S) (objs:List Ob):S:={s with objs:=objs}
def aLg (refs:List Nat) (ts:List Tk) (clk k:Nat) (objs obs:List Ob):List Ob:=fV (fun i=>some (dq refs objs.length i)) (cF refs objs.length clk k) (objs.map (Ob.tr some (gk refs ts))) refs obs++(obs.drop refs.length).map (Ob.tr (fun i=>some (dq refs objs.length i)) (cF refs objs.length clk k))
theorem Z1e (refs:List Nat) (ts:List Tk) (clk k:Nat) (objs obs:List Ob):aLg refs ts clk k objs obs=fV (fun i=>some (dq refs objs.length i)) (cF refs objs.length clk k) (objs.map (Ob.tr some (gk refs ts))) refs obs++(obs.drop refs.length).map (Ob.tr (fun i=>some (dq refs objs.length i)) (cF refs objs.length clk k)):=rfl
theorem Z1f (s:S) (k:Nat) (d:Option Nat) (refs:List Nat) (ts:List Tk) (Q:Option X→S→Prop) (rs:List X) (obs:List Ob) (h:refs.length≤obs.length) :
  ajn s k d refs ts Q ⟨false,rs,obs⟩↔amT (aLg refs ts s.clk k s.objs obs) fun o=>amT (aaJ (X.trs (fun i=>some (dq refs s.objs.length i)) (cF refs s.objs.length s.clk k) rs)) fun x=>Q none (((s.bfr refs ts).withO o).put d x):=by
 unfold ajn ajm
 rw[if_pos h]
 rfl
theorem Z1i (s:S) (refs:List Nat) (ts:List Tk) (j:Nat):(s.bfr refs ts).fr j=(s.fr j).tr some (gk refs ts):=rfl
theorem Z1h (s:S) (refs:List Nat) (ts:List Tk):(s.bfr refs ts).clk=s.clk:=rfl
section
variable (σ:Nat→Option Nat) (ρ:Tk→Option Tk)
theorem Z9g (c:C):(X.of c).tr σ ρ=.of c:=rfl
theorem Z9f:X.nil.tr σ ρ=.nil:=rfl
def trP (off:Nat):Option Nat→X
 | some r=>.ptr r off
 | none=>.of .any
def trM:Option Nat→X
 | some r=>.mp r
 | none=>.of .any
def trO (e z:Nat) (cs:List C) (n:Nat):Option Tk→X
 | some t=>.own t e z cs n
 | none=>.of (.sl cs n)
theorem Z9i (r off:Nat):(X.ptr r off).tr σ ρ=trP off (σ r):=by simp only[X.tr,trP];cases σ r <;> rfl
theorem Z9e (r:Nat):(X.mp r).tr σ ρ=trM (σ r):=by simp only[X.tr,trM];cases σ r <;> rfl
theorem Z9h (t:Tk) (e z:Nat) (cs:List C) (n:Nat):(X.own t e z cs n).tr σ ρ=trO e z cs n (ρ t):=by simp only[X.tr,trO];cases ρ t <;> rfl
theorem Z9l:X.trs σ ρ []=[]:=rfl
theorem Z9k (x:X) (xs:List X):X.trs σ ρ (x::xs)=x.tr σ ρ::X.trs σ ρ xs:=rfl
theorem Z61 (ty:Nat) (xs:List X):(Ob.var ty xs).tr σ ρ=.var ty (X.trs σ ρ xs):=rfl
theorem Z60 (es:List (Value×C)):(Ob.map es).tr σ ρ=.map es:=rfl
end
theorem Z9b (off r:Nat):trP off (some r)=.ptr r off:=rfl
theorem Z98 (r:Nat):trM (some r)=.mp r:=rfl
theorem Z9a (e z:Nat) (cs:List C) (n:Nat) (t:Tk):trO e z cs n (some t)=.own t e z cs n:=rfl
theorem Z5i (c k:Nat):acf c k []=[]:=rfl
theorem Z5h (c k:Nat) (x:X) (xs:List X):acf c k (x::xs)=x.tr (fun _=>none) (iJ c k)::acf c k xs:=rfl
theorem Z5g (c k i:Nat):iJ c k (.nm 0 0 i)=some (.nm c k i):=rfl
theorem Z6t {α:Type} [DecidableEq α] (b:α) (l:List α) (a:α):pos (b::l) a=if b=a then some 0 else (pos l a).map (·+1):=rfl
theorem Z7u (L i:Nat):dq [] L i=L+i:=rfl
theorem Z7m (refs:List Nat) (L c k i:Nat):cF refs L c k (.nm 0 0 i)=some (.nm c k i):=rfl
def arT:Option Ob→Option (List Ob)→Option (List Ob)
 | some a,some b=>some (a::b)
 | _,_=>none
theorem Z6p (σ:Nat→Option Nat) (ρ:Tk→Option Tk) (objs:List Ob):eU σ ρ objs []=some []:=rfl
theorem Z6o (σ:Nat→Option Nat) (ρ:Tk→Option Tk) (objs:List Ob) (r:Nat) (l:List Nat):eU σ ρ objs (r::l)=arT ((objs[r]?).map (Ob.tr σ ρ)) (eU σ ρ objs l):=by
 simp only[eU,arT]
 cases objs[r]? <;> cases eU σ ρ objs l <;> rfl
theorem Z2v (a:Ob) (b:List Ob):arT (some a) (some b)=some (a::b):=rfl
theorem Z7t (σ:Nat→Option Nat) (ρ:Tk→Option Tk) (objs obs:List Ob):fV σ ρ objs [] obs=objs:=by cases obs <;> rfl
theorem Z75 (objs:List Ob) (n:Nat) (seen:List Nat):fM objs n [] seen=seen:=by cases n <;> rfl
theorem Z74 (objs:List Ob) (n r:Nat) (todo seen:List Nat):fM objs (n+1) (r::todo) seen=if r∈seen then fM objs n todo seen else fM objs n (((objs[r]?).map Ob.refs).getD []++todo) (seen++[r]):=rfl
theorem Z7c (c:C):(X.of c).refs=[]:=rfl
theorem Z7b:X.nil.refs=[]:=rfl
theorem Z7a (r:Nat):(X.mp r).refs=[r]:=rfl
theorem Z77:X.refsL []=[]:=rfl
theorem Z76 (x:X) (xs:List X):X.refsL (x::xs)=x.refs++X.refsL xs:=rfl
theorem Z5y (es:List (Value×C)):(Ob.map es).refs=[]:=rfl
theorem Z94 (c:C):(X.of c).toks=[]:=rfl
theorem Z92 (r:Nat):(X.mp r).toks=[]:=rfl
theorem Z8z:X.toksL []=[]:=rfl
theorem Z8y (x:X) (xs:List X):X.toksL (x::xs)=x.toks++X.toksL xs:=rfl
theorem Z5v {α:Type} [DecidableEq α] (seen:List α):nub [] seen=seen:=rfl
theorem Z6d (Q:S→Prop) (s:S):iu Q (some s)↔Q s:=Iff.rfl
theorem Z15 (s:S) (d:Option Nat) (ty:Nat) (xs:List X):al9 s d ty (some xs)=some (afL s d ty xs):=rfl
theorem Z5p:iA []=true:=rfl
theorem Z5q (c:C) (xs:List X):iA (.of c::xs)=iA xs:=rfl
theorem Z5o (xs:List X):iA (.nil::xs)=iA xs:=rfl
theorem Z5r (t:Tk) (e z:Nat) (cs:List C) (n:Nat) (xs:List X):iA (.own t e z cs n::xs)=false:=rfl
theorem Z9p (s:S) (objs:List Ob) (j:Nat):(s.withO objs).fr j=s.fr j:=rfl
theorem Z9q (s:S) (objs:List Ob):(s.withO objs).objs=objs:=rfl
theorem Z9o (s:S) (objs:List Ob):(s.withO objs).clk=s.clk:=rfl
theorem Z8n (ρ:Tk→Option Tk) (s:S) (j:Nat):(s.tr ρ).fr j=(s.fr j).tr some ρ:=rfl
theorem Z8o (ρ:Tk→Option Tk) (s:S):(s.tr ρ).objs=s.objs.map (Ob.tr some ρ):=rfl
theorem Z8m (ρ:Tk→Option Tk) (s:S):(s.tr ρ).clk=s.clk:=rfl
def akf (r off:Nat) (xs:List X) (s:S):Bool→S
 | true=>s
 | false=>s.tr (kH r off xs.length (cO r off xs))
theorem Z16 (s:S) (d:Option Nat) (ty:Nat) (xs:List X):afL s d ty xs=(akf s.objs.length 0 xs (s.withO (s.objs++[Ob.var ty xs])) (iA xs)).put d (.ptr s.objs.length 0):=by
 unfold afL ake akf S.withO
 cases iA xs <;> simp[iA]
def akR (s:S) (d:Option Nat) (n r off:Nat) (xs:List X):Option Ob→Option S
 | some (.var ty ys)=>if xs.length=n∧off+xs.length≤ys.length then some ((akf r off xs (s.withO (s.objs.set r (Ob.var ty (ys.take off++xs++ys.drop (off+xs.length))))) (iA xs&&iA ((ys.drop off).take xs.length))).put d (.of .undef)) else none
 | _=>none
theorem Z8k (s:S) (d:Option Nat) (td:TD) (r off:Nat) (xs:List X):ahj s d (some td) (.ptr r off) (some xs)=akR s d td.size r off xs (s.objs[r]?):=by
 simp only[ahj,ab2,akR]
 cases s.objs[r]? with
 | none=>rfl
 | some ob =>
  cases ob with
  | map es=>rfl
  | var ty ys =>
   simp only
   split
   .simp only[Option.some.injEq]
    unfold ake akf S.withO
    cases iA xs <;> cases iA ((ys.drop off).take xs.length) <;> rfl
   .rfl
theorem Z47 (r off:Nat) (xs:List X) (s:S):akf r off xs s true=s:=rfl
theorem Z46 (r off:Nat) (xs:List X) (s:S):akf r off xs s false=s.tr (kH r off xs.length (cO r off xs)):=rfl
def alp (r off n:Nat) (t:Tk):Option Tk→Option Tk
 | some t'=>some t'
 | none=>match t with
  | .cell r' o'=>if r'=r∧off≤o'∧o'<off+n then none else some t
  | .nm ..=>some t
theorem Z5f (r off n:Nat) (mv:List (Tk×Tk)) (t:Tk):kH r off n mv t=alp r off n t (jL mv t):=by
 unfold kH alp
 cases jL mv t <;> rfl
theorem Z5e (r off n:Nat) (t t':Tk):alp r off n t (some t')=some t':=rfl
theorem Z5c (r off n r' o':Nat):alp r off n (.cell r' o') none=if r'=r∧off≤o'∧o'<off+n then none else some (.cell r' o'):=rfl
theorem Z5d (r off n a b c:Nat):alp r off n (.nm a b c) none=some (.nm a b c):=rfl
theorem Z1d (t:Tk):jL [] t=none:=rfl
theorem Z1c (a b:Tk) (l:List (Tk×Tk)) (t:Tk):jL ((a,b)::l) t=if a=t then some b else jL l t:=rfl
theorem Z2d (r off:Nat):cO r off []=[]:=rfl
theorem Z2f (r off:Nat) (t:Tk) (e z:Nat) (cs:List C) (n:Nat) (xs:List X):cO r off (.own t e z cs n::xs)=(t,.cell r off)::cO r (off+1) xs:=rfl
theorem Z2e (r off:Nat) (c:C) (xs:List X):cO r off (.of c::xs)=cO r (off+1) xs:=rfl
theorem Z2c (r off:Nat) (xs:List X):cO r off (.nil::xs)=cO r (off+1) xs:=rfl
theorem aQK {b b':Bool} (p q:Prop) (h:Unit→b=b'):mtQ b p q=mtQ b' p q:=by rw[h ()]
theorem aGn (p q:Prop):mtQ true p q↔p:=Iff.rfl
theorem aCC (p q:Prop):mtQ false p q↔q:=Iff.rfl
def stQ (dr mt:Bool) (s:S) (j t:Nat) (af:Array Edge) (Q:S→Prop) (td:Option TD) (xs:Option (List X)) (cs:Option (List C)) (ax:X):Prop:=iu Q (stO dr mt s j t af td xs cs ax)
theorem aO8 (dr:Bool) {mt mt':Bool} (s:S) (j t:Nat) (af:Array Edge) (Q:S→Prop) {td td':Option TD} {xs xs':Option (List X)} {cs cs':Option (List C)} {ax ax':X} (h1:Unit→mt=mt') (h2:Unit→td=td') (h3:Unit→xs=xs') (h4:Unit→cs=cs') (h5:Unit→ax=ax') :
  stQ dr mt s j t af Q td xs cs ax=stQ dr mt' s j t af Q td' xs' cs' ax':=by rw[h1 (),h2 (),h3 (),h4 (),h5 ()]
theorem a0i (P:Program) (pr:Pr) (dr:Bool) (k:Nat) (ty:Nat) (po:String) (af:Array Edge) (s:S) (Q:Option X→S→Prop) (t j:Nat) (x:Operand):SO P pr dr k ⟨none,.store t (.tmp j) x,ty,po,af,none⟩ s Q↔stQ dr (pr.mt po (some j)) s j t af (Q none) (TT.of P t) (bQ (s.ev x)) (cX (s.ev x)) (s.fr j):=Zr dr k ty po af s Q t j x
def amA (s:S) (td:TD) (r off:Nat) (xs:List X) (Q:S→Prop) (o:Option Ob):Prop:=iu Q (akR s none td.size r off xs o)
theorem aLq (s:S) (td:TD) (r off:Nat) (xs:List X) (Q:S→Prop) {o o':Option Ob} (h:Unit→o=o'):amA s td r off xs Q o=amA s td r off xs Q o':=by rw[h ()]
theorem aus (s:S) (j t:Nat) (af:Array Edge) (Q:S→Prop) (td:TD) (cs:List C) (tk:Tk) (ty z:Nat):iu Q (aqD s j t tk ty z af (some td) (some cs))↔(ty=t∧z=td.size∧cs.length=z∧gJ s.clk af.toList (some tk)=true)∧Q ((s.drop (some tk)).put (some j) (.of (.ref cs))):=by
 unfold aqD
 simp only
 split
 .rename_i h;simp only[iu];exact⟨fun q=>⟨h,q⟩,fun q=>q.2⟩
 .rename_i h;simp only[iu];exact⟨fun q=>q.elim,fun q=>h q.1⟩
theorem aLC (mt:Bool) (s:S) (j t:Nat) (af:Array Edge) (Q:S→Prop) (td:TD) (xs:Option (List X)) (cs:List C) (tk:Tk) (ty z:Nat):stQ true mt s j t af Q (some td) xs (some cs) (.nw (some tk) ty z)↔(ty=t∧z=td.size∧cs.length=z∧gJ s.clk af.toList (some tk)=true)∧Q ((s.drop (some tk)).put (some j) (.of (.ref cs))):=aus s j t af Q td cs tk ty z
theorem aFU (s:S) (j t:Nat) (af:Array Edge) (Q:S→Prop) (td:TD) (xs:Option (List X)) (cs:List C) (tk:Tk) (ty z:Nat):stQ false false s j t af Q (some td) xs (some cs) (.nw (some tk) ty z)↔(ty=t∧z=td.size∧cs.length=z∧gJ s.clk af.toList (some tk)=true)∧Q ((s.drop (some tk)).put (some j) (.of (.ref cs))):=aus s j t af Q td cs tk ty z
theorem aFV (s:S) (j t:Nat) (af:Array Edge) (Q:S→Prop) (td:TD) (xs:List X) (cs:Option (List C)) (tk:Tk) (ty z:Nat):stQ false true s j t af Q (some td) (some xs) cs (.nw (some tk) ty z)↔(ty=t∧z=td.size∧xs.length=z∧gJ s.clk af.toList (some tk)=true)∧Q (((s.drop (some tk)).withO ((s.drop (some tk)).objs++[Ob.var t (X.drops tk xs)])).put (some j) (.ptr (s.drop (some tk)).objs.length 0)):=by
 show iu Q (apH s j t tk ty z af (some td) (some xs))↔_
 unfold apH
 simp only
 split
 .rename_i h;simp only[iu];exact⟨fun q=>⟨h,q⟩,fun q=>q.2⟩
 .rename_i h;simp only[iu];exact⟨fun q=>q.elim,fun q=>h q.1⟩
theorem aLD (mt:Bool) (s:S) (j t:Nat) (af:Array Edge) (Q:S→Prop) (td:TD) (xs:List X) (cs:Option (List C)) (r off:Nat):stQ false mt s j t af Q (some td) (some xs) cs (.ptr r off)↔amA s td r off xs Q (s.objs[r]?):=by
 unfold amA
 rw[← Z8k]
 exact Iff.rfl
theorem aLr (s:S) (td:TD) (r off:Nat) (xs:List X) (Q:S→Prop) (ty:Nat) (ys:List X):amA s td r off xs Q (some (.var ty ys))↔(xs.length=td.size∧off+xs.length≤ys.length)∧Q ((akf r off xs (s.withO (s.objs.set r (Ob.var ty (ys.take off++xs++ys.drop (off+xs.length))))) (iA xs&&iA ((ys.drop off).take xs.length))).put none (.of .undef)):=by
 unfold amA
 simp only[akR]
 split
 .rename_i h;simp only[iu];exact⟨fun q=>⟨h,q⟩,fun q=>q.2⟩
 .rename_i h;simp only[iu];exact⟨fun q=>q.elim,fun q=>h q.1⟩
def asg (s:S) (d:Option Nat) (Q:S→Prop) (td:Option TD) (cs:Option (List C)):Prop:=iu Q (aAl s d td cs)
theorem aOn (s:S) (d:Option Nat) (Q:S→Prop) {td td':Option TD} {cs cs':Option (List C)} (h:Unit→td=td') (h':Unit→cs=cs'):asg s d Q td cs=asg s d Q td' cs':=by rw[h (),h' ()]
theorem a0j (P:Program) (pr:Pr) (k:Nat) (d:Option Nat) (ty:Nat) (po:String) (af:Array Edge) (g:Option (Nat×Bool)) (s:S) (Q:Option X→S→Prop) (t:Nat) (x:Operand):SO P pr false k ⟨d,.box t x,ty,po,af,g⟩ s Q↔mtQ (pr.mt po d) (iu (Q none) (al9 s d t (aHo (TT.of P t) (bQ (s.ev x))))) (asg s d (Q none) (TT.of P t) (cX (s.ev x))):=Z4 k d ty po af g s Q t x
theorem aOo (s:S) (d:Option Nat) (Q:S→Prop) (td:TD) (cs:List C):asg s d Q (some td) (some cs)↔(cs.length=td.size∧0<td.size)∧Q (s.put d (.of (.ref cs))):=by
 unfold asg aAl
 simp only
 split
 .rename_i h;simp only[iu];exact⟨fun q=>⟨h,q⟩,fun q=>q.2⟩
 .rename_i h;simp only[iu];exact⟨fun q=>q.elim,fun q=>h q.1⟩
theorem aQJ (tk:Tk) (t:Nat) (td:TD):nwX tk t (some td)=if 0<td.size then out (.nw (some tk) t td.size) else none:=rfl
theorem aF0 (cs:List C):cX (.of (.agg cs))=some cs:=by
 show ((some (cs.map X.of)).bind X.rds)=some cs
 rw[Option.bind_some]
 induction cs with
 | nil=>rfl
 | cons c r ih=>rw[List.map_cons,X.rds,ih,X.rd]
theorem aLK (v:Value):cX (.of (.lit v))=some [.lit v]:=rfl
theorem aPi (cs:List C) (n:Nat):cX (.of (.sl cs n))=some [.sl cs n]:=rfl
theorem aPj (f:Nat) (cs:List C):cX (.of (.fn f cs))=some [.fn f cs]:=rfl
theorem aLJ:cX .nil=some [.sl [] 0]:=rfl
theorem aLI (t:Tk) (e z:Nat) (cs:List C) (n:Nat):cX (.own t e z cs n)=some [.sl cs n]:=rfl
theorem aLM (xs:List X):cX (.agg xs)=X.rds xs:=rfl
theorem aLG:X.rds []=some []:=rfl
def az4 (x:Option C) (l:Option (List C)):Option (List C):=match x,l with
 | some c,some cs=>some (c::cs)
 | _,_=>none
theorem aFZ (x:X) (r:List X):X.rds (x::r)=az4 x.rd (X.rds r):=by
 unfold az4
 rw[X.rds]
 cases x.rd <;> cases X.rds r <;> rfl
theorem az3 (c:C) (cs:List C):az4 (some c) (some cs)=some (c::cs):=rfl
theorem aPk (xs:List X):X.rd (.agg xs)=(X.rds xs).map .agg:=by rw[X.rd]
theorem aG7 (t:Tk) (o:Option Tk) (ty z:Nat):(X.nw o ty z).drop t=.nw (aa3 t o) ty z:=by rw[X.drop]
theorem azW (t t':Tk):aa3 t (some t')=if t'=t then none else some t':=rfl
theorem aEE (t:Tk):X.drops t []=[]:=by rw[X.drops]
theorem azU (t:Tk) (x:X) (r:List X):X.drops t (x::r)=x.drop t::X.drops t r:=by rw[X.drops]
theorem aqk:∀ t,bZ (.alloc t)=false:=fun _=>rfl
attribute [congr] aQK aO8 aLq aOn aMl aOM
def az2 (x:Option X) (l:Option (List X)):Option (List X):=match x,l with
 | some x,some l=>some (x::l)
 | _,_=>none
theorem Z7j (T:TT) (s:S):iU T s []=some []:=rfl
theorem Z7k (T:TT) (s:S) (t:Nat) (r:List ResultVar):iU T s (.tmp t::r)=(iU T s r).map (s.fr t::·):=rfl
theorem Z7i (T:TT) (s:S) (a t:Nat) (r:List ResultVar):iU T s (.cell a t::r)=az2 ((j6 T s.objs t (s.fr a)).map (·.1)) (iU T s r):=by
 simp only[iU,az2]
 cases j6 T s.objs t (s.fr a) with
 | none=>rfl
 | some p=>cases iU T s r <;> rfl
theorem Z2x (x:X) (l:List X):az2 (some x) (some l)=some (x::l):=rfl
def alw (refs:List Nat) (rs:List X):List Tk:=(nub (X.toksL rs) []).filter fun t=>match t with
  | .nm ..=>true
  | .cell r _=>!decide (r∈refs)
def arn (refs:List Nat) (ts:List Tk) (pan:Bool) (rs:List X) (objs:List Ob):Option An:=(eU (pos refs) (gY refs ts) objs refs).map fun obs=>⟨pan,X.trs (pos refs) (gY refs ts) rs,obs⟩
def aCP (refs:List Nat) (pan:Bool) (rs:List X) (objs:List Ob):Option An:=arn refs (alw refs rs) pan rs objs
theorem Z4b (m:Nat) (pan:Bool) (rs:List X) (objs:List Ob):aaZ m pan rs objs=aCP (fM objs 999 (X.refsL rs++((objs.take m).map Ob.refs).flatten) (List.range m)) pan rs objs:=rfl
theorem Z48 (refs:List Nat) (pan:Bool) (rs:List X) (objs:List Ob):aCP refs pan rs objs=arn refs (alw refs rs) pan rs objs:=rfl
theorem Z49 (refs:List Nat) (ts:List Tk) (pan:Bool) (rs:List X) (objs:List Ob):arn refs ts pan rs objs=(eU (pos refs) (gY refs ts) objs refs).map fun obs=>⟨pan,X.trs (pos refs) (gY refs ts) rs,obs⟩:=rfl
def ai7 (refs:List Nat):List Tk→List Tk
 | []=>[]
 | .nm a b c::l=>.nm a b c::ai7 refs l
 | .cell r o::l=>if r∈refs then ai7 refs l else .cell r o::ai7 refs l
theorem Z4a (refs:List Nat) (rs:List X):alw refs rs=ai7 refs (nub (X.toksL rs) []):=by
 unfold alw
 generalize nub (X.toksL rs) []=l
 induction l with
 | nil=>rfl
 | cons t l ih =>
  cases t with
  | nm a b c=>rw[List.filter_cons_of_pos (by rfl),ih];rfl
  | cell r o =>
   simp only[ai7]
   split
   .rename_i h;rw[List.filter_cons_of_neg (by simp[h]),ih]
   .rename_i h;rw[List.filter_cons_of_pos (by simp[h]),ih]
theorem Z3o (refs:List Nat):ai7 refs []=[]:=rfl
theorem Z1z (i:Nat):Region.binds .any ⟨i,.data⟩=true:=rfl
theorem Z1y (i:Nat):Region.binds .any ⟨i,.chain⟩=true:=rfl
theorem Z21 (i:Nat):Region.binds .any ⟨i,.phase⟩=true:=rfl
theorem Z6b (x:X):aaJ [x]=x:=rfl
theorem Z6c (x y:X) (r:List X):aaJ (x::y::r)=.tup (x::y::r):=rfl
theorem Z3j (xs:List X) (i:Nat):arI i (.tup xs)=bB (xs[i]?):=rfl
theorem Z3f (P:Program) (b:Bool) (f m:Nat) (an:An) (s:S):aG6 P b f m an .ret s↔((iU (TT.of P) s (aaV P f)).bind fun rs=>aaZ m false (ac2 b rs) s.objs)=some an:=Iff.rfl
theorem Z5t (p:Prop) [Decidable p]:((!decide p)=true)=¬ p:=by simp
def at8 (s:ByteArray) (k:Nat):Nat:=(s.data.toList.getD k 0).toNat
theorem aEg {T:TT} {t:Nat} (hT:(T t).map (·.und)=some .string) (s:ByteArray) (n:Int):aak T t (.of (.lit (.string s))) (.of (.lit (.int .i64 n)))=if 0≤n∧n.toNat<s.size then out (.of (.lit (.int .u8 (at8 s n.toNat)))) else none:=by
 have hs:abm ((T t).map (·.und))=true:=by rw[hT];rfl
 simp only[aak,jF]
 by_cases h:0≤n∧n.toNat<s.size
 .rw[dif_pos ⟨hs,h.1,h.2⟩,if_pos h]
  congr 5
  unfold at8
  have:s.data.toList.getD n.toNat 0=s[n.toNat]:=by
   rw[List.getD_eq_getElem?_getD]
   have hl:n.toNat<s.data.toList.length:=by simpa using h.2
   rw[List.getElem?_eq_getElem hl]
   rfl
  rw[this]
 .rw[if_neg h,dif_neg (fun g=>h g.2)]
theorem aaM {T:TT} {t e:Nat} {d:TD} (h:elemOf T t=some (e,d)) (cs:List C) (n:Nat) (i:Int) (x:X) (hx:jn x=some (cs,n)):bF T t x (.of (.lit (.int .i64 i)))=if 0≤i∧i<(n:Int)∧cs.length=n*d.size∧0<d.size then out (.of (.ref (cs.drop (i.toNat*d.size)))) else none:=by
 unfold elemOf at h
 split at h
 .rename_i e' _ _ _ _ _ hT
  simp only[Option.map_eq_some_iff,Prod.mk.injEq] at h
  obtain⟨d',hd,rfl,rfl⟩:=h
  simp only[bF,jF,hT,hd,hx]
 .cases h
theorem da (n:Int) (h1:-9223372036854775808≤n) (h2:n≤9223372036854775807):IntKind.i64.wrap n=n:=IntWalk.i64_in n ⟨h1,h2⟩
def azj (T:TT) (t off:Nat):Option Ob→Option X
 | some (.var _ xs)=>cw T t (xs.drop off)
 | _=>none
theorem Z4l (T:TT) (objs:List Ob) (t r off:Nat):j6 T objs t (.ptr r off)=bB (azj T t off (objs[r]?)):=by
 simp only[j6,azj]
 cases objs[r]? with
 | none=>rfl
 | some ob=>cases ob <;> rfl
theorem Z4k (T:TT) (t off ty:Nat) (xs:List X):azj T t off (some (.var ty xs))=cw T t (xs.drop off):=rfl
theorem Z6j (x:X):bB (some x)=out x:=rfl
theorem Z4m (T:TT) (objs:List Ob) (t:Nat) (cs:List C):j6 T objs t (.of (.ref cs))=bB ((aY T t cs).map .of):=rfl
theorem aM6 {T:TT} {a b e:Nat} (ha:abm ((T a).map (·.und))=true) (hb:(T b).map (·.und)=some (.slice e)) (he:ai5 (T e)=true) (s:ByteArray):adJ T a b (.of (.lit (.string s)))=out (.of (.sl (aer s) s.size)):=by
 simp only[adJ,hb,apM,ha,he,Bool.and_self,if_true]
theorem Z39 (t:Tk) (c:C):(X.of c).drop t=.of c:=rfl
theorem Z38 (t:Tk):X.nil.drop t=.nil:=rfl
theorem Z3b (t:Tk) (r o:Nat):(X.ptr r o).drop t=.ptr r o:=rfl
theorem Z3a (t t':Tk) (e z:Nat) (cs:List C) (n:Nat):(X.own t' e z cs n).drop t=if t'=t then .of (.sl cs n) else .own t' e z cs n:=rfl
theorem Z34 (t:Tk) (ty:Nat) (xs:List X):(Ob.var ty xs).drop t=.var ty (xs.map (X.drop t)):=by simp[Ob.drop,gM]
theorem Z33 (t:Tk) (es:List (Value×C)):(Ob.map es).drop t=.map es:=rfl
def Old (clk:Nat) (t:Tk):Prop:=t.older clk fun _=>False
theorem Z68 (clk c ix i:Nat):Old clk (.nm c ix i)↔c<clk:=by simp[Old,Tk.older]
theorem Z69 {clk:Nat} {t:Tk} (h:Old clk t) (af:List Edge):gJ clk af (some t)=true:=by
 cases t with
 | nm c ix i=>rw[Z68] at h;simp[gJ,h]
 | cell r o=>rfl
theorem Z7r (clk ix i:Nat) (af:List Edge):gJ clk af (some (.nm clk ix i))=af.any fun e=>Region.binds .any e&&e.on == ix:=by simp[gJ]
theorem amP {clk c:Nat} {t:Tk} (h:Old clk t) (hc:clk≤c) (ix i:Nat):(Tk.nm c ix i=t)=False:=by
 simp only[eq_iff_iff,iff_false]
 rintro rfl
 rw[Z68] at h
 omega
theorem ib {clk c:Nat} {t:Tk} (h:Old clk t) (hc:clk≤c) (ix i:Nat):(t=Tk.nm c ix i)=False:=by
 have:=amP h hc ix i
 simp only[eq_iff_iff,iff_false] at this ⊢
 exact fun e=>this e.symm
theorem aLU {clk:Nat} {t:Tk} (h:Old clk t) (n:Nat):Old (clk+n) t:=by
 cases t with
 | nm c ix i=>rw[Z68] at h ⊢;omega
 | cell r o=>trivial
theorem Z2s (s:S) (n:Nat):s.clk+n+1=s.clk+(n+1):=rfl
theorem anj {T:TT} {t e:Nat} {d:TD} (h:elemOf T t=some (e,d)) (hz:0<d.size) (hl:d.zero.length=d.size) (tk:Tk):bM tk 0 (elemOf T t) (some [])=out (.own tk e d.size [] 0):=by
 simp only[bM,h,Nat.zero_mul,Nat.zero_le,hz,hl,and_self,if_true,List.replicate_zero,List.flatten_nil,eC,X.rds]
theorem Z6n (f:Operand→X):fe f []=some []:=rfl
def az5 (i:Nat) (l:Option (List X)) (q:Option (List (Nat×List X))):Option (List (Nat×List X)):=match l,q with
 | some l,some q=>some ((i,l)::q)
 | _,_=>none
theorem Z6m (f:Operand→X) (i:Nat) (x:Operand) (r:List (Nat×Operand)):fe f ((i,x)::r)=az5 i (bQ (f x)) (fe f r):=by
 simp only[fe,az5]
 cases bQ (f x) <;> cases fe f r <;> rfl
theorem Z2w (i:Nat) (l:List X) (q:List (Nat×List X)):az5 i (some l) (some q)=some ((i,l)::q):=rfl
theorem Z17 {α:Type} {A:List α} {n:Nat} (h:A.length=n) (x:α):(A++[x])[n]?=some x:=by subst h;simp
theorem Z18 {α:Type} {A:List α} {n:Nat} (h:A.length=n) (x y:α):(A++[x]).set n y=A++[y]:=by subst h;simp
theorem Z4o (f:Ob→Ob) (J:List Ob) (x:Ob):List.map f (J++[x])=List.map f J++[f x]:=by simp
theorem Z2m (v:Value):bQ (.of (.lit v))=some [.of (.lit v)]:=rfl
theorem Z2r (cs:List C) (n:Nat):bQ (.of (.sl cs n))=some [.of (.sl cs n)]:=rfl
theorem Z2o:bQ .nil=some [.nil]:=rfl
theorem Z2p (t:Tk) (e z:Nat) (cs:List C) (n:Nat):bQ (.own t e z cs n)=some [.own t e z cs n]:=rfl
theorem Z2h (xs:List X):bQ (.agg xs)=some xs:=rfl
theorem Z2i (cs:List C):bQ (.of (.agg cs))=some (cs.map .of):=rfl
def azM (place:Nat→Option (Nat×Nat)) (cells xs:List X) (r:List (Nat×List X)):Option (Nat×Nat)→Option (List X)
 | some (off,size)=>if xs.length=size∧off+size≤cells.length then eC place (cells.take off++xs++cells.drop (off+size)) r else none
 | none=>none
theorem Z3m (place:Nat→Option (Nat×Nat)) (cells:List X):eC place cells []=some cells:=rfl
theorem Z3l (place:Nat→Option (Nat×Nat)) (cells xs:List X) (i:Nat) (r:List (Nat×List X)):eC place cells ((i,xs)::r)=azM place cells xs r (place i):=by
 simp only[eC,azM]
 cases place i <;> rfl
theorem Z3k (place:Nat→Option (Nat×Nat)) (cells xs:List X) (r:List (Nat×List X)) (off size:Nat) (h:xs.length=size∧off+size≤cells.length):azM place cells xs r (some (off,size))=eC place (cells.take off++xs++cells.drop (off+size)) r:=if_pos h
theorem atZ (rs:List X):ac2 false rs=rs.map acR:=rfl
theorem aFK (c:C):acR (.of c)=.of c:=rfl
theorem aBs:acR .nil=.of (.sl [] 0):=rfl
theorem aBr (t:Tk) (e z:Nat) (cs:List C) (n:Nat):acR (.own t e z cs n)=.of (.sl cs n):=rfl
theorem aBt (xs:List X):acR (.agg xs)=akQ (.agg xs) ((X.rds xs).map .agg):=by unfold acR;rw[X.rd]
theorem ayB (x:X) (c:C):akQ x (some c)=.of c:=rfl
theorem aFL (r:Nat):acR (.mp r)=.mp r:=rfl
def zD:=ai (ai (ai (ai (ai (ai @Zz (ai @Zt @Zu)) (ai @Zy (ai @Z10 @Zv))) (ai (ai @Zw (ai @Zx @Z12)) (ai @Z11 (ai @Z13 @Z14)))) (ai (ai (ai @Zm (ai @Z2 @Zp)) (ai @Z3 (ai @Zs @Zg))) (ai (ai @Zc (ai @Zb @Ze)) (ai @Zd (ai @Zq @Z9))))) (ai (ai (ai (ai @Za (ai @Zi @Z5)) (ai @Z6 (ai @Zf @Z1))) (ai (ai @aUH (ai @Z7 @Z8)) (ai @Z0 (ai @Zh @Zk)))) (ai (ai (ai @Z6w (ai @Z6y @Z6v)) (ai @Z6x (ai @Z8u @Z8v))) (ai (ai @Z8t (ai @Z31 @Z32)) (ai @Z30 (ai @Z1i @Z1h)))))) (ai (ai (ai (ai (ai @Z9p (ai @Z9q @Z9o)) (ai @Z8n (ai @Z8o @Z8m))) (ai (ai @Z3i (ai @Z3g @Z3h)) (ai @Z42 (ai @Z43 @Z41)))) (ai (ai (ai @Z8q (ai @Z8p @Z8s)) (ai @Z23 (ai @Z22 @Z25))) (ai (ai @Z7g (ai @Z5j @Z3s)) (ai @Z3t (ai @Z70 @Z6z))))) (ai (ai (ai (ai @Z1f (ai @Z7k @Z7i)) (ai @Z3f (ai @aFm @a0i))) (ai (ai @a0j (ai @aOo @aLC)) (ai @aFU (ai @aFV @aLD)))) (ai (ai (ai @aLr (ai @aGn @aCC)) (ai @aHy (ai @aOu @aEo))) (ai (ai @aON (ai @aFH @aLk)) (ai @aGr (ai @aCH @aQ2))))))
def zU:=ai (ai (ai (ai (ai (ai (ai @Z2m (ai @Z2r @Z2o)) (ai @Z2p (ai @Z2h @Z2i))) (ai (ai @Z3m (ai @Z3l @Z3k)) (ai (ai @Z4o @Z17) (ai @Z18 @Z39)))) (ai (ai (ai @Z38 (ai @Z3b @Z3a)) (ai @Z34 (ai @Z33 @Z2s))) (ai (ai @Z68 (ai @Z69 @Z7r)) (ai (ai @Z6n @Z6m) (ai @Z2w @Z4q))))) (ai (ai (ai (ai @Z7y (ai @Z7z @Z8i)) (ai @Z84 (ai @Z4v @Z56))) (ai (ai @Z80 (ai @Z8g @Z81)) (ai (ai @Z8j @Z8b) (ai @Z53 @Z88)))) (ai (ai (ai @Z50 (ai @Z86 @Z6k)) (ai (ai @Z4g @Z1e) (ai @Z63 @Z62))) (ai (ai @Z67 (ai @Z65 @Z64)) (ai (ai @Z40 @Z3z) (ai @Z2t @Z3w)))))) (ai (ai (ai (ai (ai @Z3r (ai @Z3u @Z3v)) (ai @Z6g (ai @Z6f @Z6e))) (ai (ai @Z6i (ai @Z1r @Z1q)) (ai (ai @Z1p @Z1o) (ai @Z1n @Z1t)))) (ai (ai (ai @Z1k (ai @Z1x @Z1v)) (ai @Z1w (ai @Z1l @Z1m))) (ai (ai @Z9n (ai @Z4h @aQN)) (ai (ai @Z4j @Z6q) (ai @Z4f @Z4d))))) (ai (ai (ai (ai @Z4c (ai @Z72 @Z73)) (ai @Z71 (ai @Z2u @Z26))) (ai (ai @Z27 (ai @Z29 @Z6s)) (ai (ai @Z6r @Z5w) (ai @Z5x @Z9g)))) (ai (ai (ai @Z9f (ai @Z9i @Z9e)) (ai (ai @Z9h @Z9l) (ai @Z9k @Z61))) (ai (ai @Z60 (ai @Z9b @Z98)) (ai (ai @Z9a @Z5i) (ai @Z5h @Z5g))))))) (ai (ai (ai (ai (ai (ai @Z6t (ai @Z7u @Z7m)) (ai @Z6p (ai @Z6o @Z2v))) (ai (ai @Z7t (ai @Z75 @Z74)) (ai (ai @Z7c @Z7b) (ai @Z7a @Z77)))) (ai (ai (ai @Z76 (ai @Z5y @Z94)) (ai @Z92 (ai @Z8z @Z8y))) (ai (ai @Z5v (ai @Z6d @Z15)) (ai (ai @Z5p @Z5q) (ai @Z5o @Z5r))))) (ai (ai (ai (ai @Z16 (ai @Z8k @Z47)) (ai @Z46 (ai @Z5f @Z5e))) (ai (ai @Z5c (ai @Z5d @Z1d)) (ai (ai @Z1c @Z2d) (ai @Z2f @Z2e)))) (ai (ai (ai @Z2c (ai @Z7j @Z2x)) (ai (ai @Z4b @Z48) (ai @Z49 @Z4a))) (ai (ai @Z3o (ai @Z1z @Z1y)) (ai (ai @Z21 @Z6b) (ai @Z6c @Z3j)))))) (ai (ai (ai (ai (ai @Z4m (ai @Z4l @Z4k)) (ai @Z6j (ai @Z5t @aQJ))) (ai (ai @aF0 (ai @aLK @aPi)) (ai (ai @aPj @aLJ) (ai @aLI @aLM)))) (ai (ai (ai @aLG (ai @aFZ @az3)) (ai @aPk (ai @aG7 @azW))) (ai (ai @aEE (ai @azU @aqk)) (ai (ai @atZ @aFK) (ai @aBs @aBr))))) (ai (ai (ai (ai @aBt (ai @ayB @aFL)) (ai @aLY (ai @aBR @aLX))) (ai (ai @aGg (ai @aqk @aGe)) (ai (ai @aoT @aLZ) (ai @aGf @aLV)))) (ai (ai (ai @aGd (ai @aqV @aqU)) (ai (ai @aBQ @ayU) (ai @aL0 @aGc))) (ai (ai @aFG (ai @aFF @aUn)) (ai (ai @aG4 @aG5) (ai @aFY @aGR)))))))
end Go.Pe

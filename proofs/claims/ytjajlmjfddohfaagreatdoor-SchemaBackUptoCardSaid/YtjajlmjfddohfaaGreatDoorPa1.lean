/-
  An abstract machine for Go code over plain data: each operation's answer is the model's. Conditions: none.
-/
import Derived.Shelf.LaysM
import Derived.Shelf.Strconv.Itoa3
import Derived.Ground.GgwProg
import Derived.Shelf.Strings.FuncGrows
import Derived.Test.YtjajlmjfddohfaaGreatDoorProg
import Derived.WalkKit
import Derived.Below
import Derived.Still
import Derived.Maps.AppendAt
import Derived.Laws.Rows
import Derived.Laws.StructEq
set_option linter.defProp false
set_option linter.unusedSectionVars false
set_option maxRecDepth 100000
set_option maxHeartbeats 32000000
namespace Go.Proofs
open Go.Shelf
def Tryz.laysM171_ren:Go.Shelf.Ren:=⟨fun|171=>154|243=>213|246=>244|283=>257|284=>258|285=>259|286=>260|129=>262|317=>261|318=>263|319=>264|320=>265|337=>266|338=>267|n=>n,fun|3=>3|9=>9|2=>2|4=>4|171=>264|0=>0|53=>265|37=>156|5=>5|173=>268|212=>272|51=>273|20=>20|213=>274|46=>275|232=>278|233=>279|n=>n,fun|17=>0|18=>1|19=>2|n=>n⟩
theorem Tryz.laysM171:Go.Proofs.LaysM.n171 Tryz.prog Tryz.laysM171_ren:={
 mixed:=by kernel_rfl
 f129:=Tryz.func262.trans (congrArg some (by kernel_rfl))
 f171:=Tryz.func154.trans (congrArg some (by kernel_rfl))
 f243:=Tryz.func213.trans (congrArg some (by kernel_rfl))
 f246:=Tryz.func244.trans (congrArg some (by kernel_rfl))
 f283:=Tryz.func257.trans (congrArg some (by kernel_rfl))
 f284:=Tryz.func258.trans (congrArg some (by kernel_rfl))
 f285:=Tryz.func259.trans (congrArg some (by kernel_rfl))
 f286:=Tryz.func260.trans (congrArg some (by kernel_rfl))
 f317:=Tryz.func261.trans (congrArg some (by kernel_rfl))
 f318:=Tryz.func263.trans (congrArg some (by kernel_rfl))
 f319:=Tryz.func264.trans (congrArg some (by kernel_rfl))
 f320:=Tryz.func265.trans (congrArg some (by kernel_rfl))
 f337:=Tryz.func266.trans (congrArg some (by kernel_rfl))
 f338:=Tryz.func267.trans (congrArg some (by kernel_rfl))
 t0:=Tryz.underlying0
 a0:=Tryz.isAgg0
 z0:=Tryz.sizeOf0
 v0:=Tryz.zeroValue0
 t2:=Tryz.underlying2
 a2:=Tryz.isAgg2
 z2:=Tryz.sizeOf2
 v2:=Tryz.zeroValue2
 t3:=Tryz.underlying3
 a3:=Tryz.isAgg3
 z3:=Tryz.sizeOf3
 v3:=Tryz.zeroValue3
 t4:=Tryz.underlying4
 a4:=Tryz.isAgg4
 z4:=Tryz.sizeOf4
 v4:=Tryz.zeroValue4
 t5:=Tryz.underlying5
 a5:=Tryz.isAgg5
 z5:=Tryz.sizeOf5
 v5:=Tryz.zeroValue5
 t9:=Tryz.underlying9
 a9:=Tryz.isAgg9
 z9:=Tryz.sizeOf9
 v9:=Tryz.zeroValue9
 t20:=Tryz.underlying20
 a20:=Tryz.isAgg20
 z20:=Tryz.sizeOf20
 v20:=Tryz.zeroValue20
 t37:=Tryz.underlying156
 a37:=Tryz.isAgg156
 z37:=Tryz.sizeOf156
 v37:=Tryz.zeroValue156
 t46:=Tryz.underlying275
 a46:=Tryz.isAgg275
 z46:=Tryz.sizeOf275
 v46:=Tryz.zeroValue275
 t51:=Tryz.underlying273
 a51:=Tryz.isAgg273
 z51:=Tryz.sizeOf273
 v51:=Tryz.zeroValue273
 t53:=Tryz.underlying265
 a53:=Tryz.isAgg265
 z53:=Tryz.sizeOf265
 v53:=Tryz.zeroValue265
 t171:=Tryz.underlying264
 a171:=Tryz.isAgg264
 z171:=Tryz.sizeOf264
 v171:=Tryz.zeroValue264
 t173:=Tryz.underlying268
 a173:=Tryz.isAgg268
 z173:=Tryz.sizeOf268
 v173:=Tryz.zeroValue268
 t212:=Tryz.underlying272
 a212:=Tryz.isAgg272
 z212:=Tryz.sizeOf272
 v212:=Tryz.zeroValue272
 t213:=Tryz.underlying274
 a213:=Tryz.isAgg274
 z213:=Tryz.sizeOf274
 t232:=Tryz.underlying278
 a232:=Tryz.isAgg278
 z232:=Tryz.sizeOf278
 v232:=Tryz.zeroValue278
 t233:=Tryz.underlying279
 a233:=Tryz.isAgg279
 z233:=Tryz.sizeOf279
 v233:=Tryz.zeroValue279
 g17:=by kernel_rfl
 g18:=by kernel_rfl
 g19:=by kernel_rfl
 i0:=by kernel_rfl
 i2:=by kernel_rfl
 i3:=by kernel_rfl
 i4:=by kernel_rfl
 i5:=by kernel_rfl
 i9:=by kernel_rfl
 i20:=by kernel_rfl
 i37:=by kernel_rfl
 i46:=by kernel_rfl
 i51:=by kernel_rfl
 i53:=by kernel_rfl
 i171:=by kernel_rfl
 i173:=by kernel_rfl
 i212:=by kernel_rfl
 i232:=by kernel_rfl
 i233:=by kernel_rfl
 m17:=by kernel_rfl
 m18:=by kernel_rfl
 m19:=by kernel_rfl}
open Go.RowKit Go.Sort Go.Lib in
theorem Tryz.strconv_Itoa (n:Int) (h0:-9223372036854775808≤n) (h1:n≤9223372036854775807) (w:World) (htab:Lib.TabIs Tryz.prog w "internal/strconv.uint64pow10" .u64 Lib.pow10Tab) :
  Calls Tryz.prog 154 #[.int .i64 n] w fun e w'=>e=.returned (.string ⟨(Lib.itoa n).toArray⟩)∧∃ k os,w'=grow (w.drewN k) os:=Any.strconv_Itoa Tryz.laysM171 n h0 h1 w htab
def Tryz.laysGw15_ren:Go.Shelf.Ren:=⟨fun|15=>218|20=>250|n=>n,fun|9=>9|23=>243|3=>3|4=>4|0=>0|21=>21|n=>n,fun|n=>n⟩
theorem Tryz.laysGw15:Go.Proofs.LaysGw.n15 Tryz.prog Tryz.laysGw15_ren:={
 mixed:=by kernel_rfl
 f15:=Tryz.func218.trans (congrArg some (by kernel_rfl))
 f20:=Tryz.func250.trans (congrArg some (by kernel_rfl))
 t0:=Tryz.underlying0
 a0:=Tryz.isAgg0
 z0:=Tryz.sizeOf0
 v0:=Tryz.zeroValue0
 i0:=by kernel_rfl
 t3:=Tryz.underlying3
 a3:=Tryz.isAgg3
 z3:=Tryz.sizeOf3
 v3:=Tryz.zeroValue3
 i3:=by kernel_rfl
 t4:=Tryz.underlying4
 a4:=Tryz.isAgg4
 z4:=Tryz.sizeOf4
 v4:=Tryz.zeroValue4
 i4:=by kernel_rfl
 t9:=Tryz.underlying9
 a9:=Tryz.isAgg9
 z9:=Tryz.sizeOf9
 v9:=Tryz.zeroValue9
 i9:=by kernel_rfl
 t21:=Tryz.underlying21
 a21:=Tryz.isAgg21
 z21:=Tryz.sizeOf21
 v21:=Tryz.zeroValue21
 i21:=by kernel_rfl
 t23:=Tryz.underlying243
 a23:=Tryz.isAgg243
 z23:=Tryz.sizeOf243
 v23:=Tryz.zeroValue243
 i23:=by kernel_rfl}
open Go.RowKit Go.Lib in
theorem Tryz.strings_IndexFunc_grows (g:Nat) (lb:Array Value) (eg:∀ args w,(callFunc g args).run Tryz.prog w=.ok (.enter g args) w) (p:Nat→Bool) (s:ByteArray) (w:World) (hp:PredGrows Tryz.prog g lb p w) :
  Calls Tryz.prog 218 #[.string s,.func (.func g) #[] lb] w fun e w'=>e=.returned (.int .i64 (Lib.idxFunc p true s))∧Below w.heap.size w w':=Any.strings_IndexFunc_grows Tryz.laysGw15 g lb eg p s w hp
end Go.Proofs
namespace Go.Pe
inductive C where
 | any
 | undef
 | lit (v:Value)
 | sl (cs:List C) (n:Nat)
 | ref (cs:List C)
 | fn (f:Nat) (caps:List C)
 | agg (cs:List C)
 | tup (cs:List C)
 | ifc (t:Nat) (c:C)
abbrev ci (n:Int):C:=.lit (.int .i64 n)
abbrev cb (b:Bool):C:=.lit (.bool b)
abbrev ao (s:ByteArray):C:=.lit (.string s)
def C.cells:C→List C
 | .agg cs=>cs
 | c=>[c]
inductive Tk where
 | nm (clk ix i:Nat)
 | cell (r off:Nat)
 deriving DecidableEq
inductive X where
 | of (a:C)
 | nil
 | own (t:Tk) (e z:Nat) (cs:List C) (n:Nat)
 | ptr (r off:Nat)
 | mp (r:Nat)
 | clo (f:Nat) (caps:List X)
 | agg (xs:List X)
 | tup (xs:List X)
 | nw (o:Option Tk) (ty z:Nat)
abbrev ak (n:Int):X:=.of (ci n)
abbrev ah (b:Bool):X:=.of (cb b)
abbrev dA (s:ByteArray):X:=.of (ao s)
inductive Ob where
 | var (ty:Nat) (xs:List X)
 | map (es:List (Value×C))
mutual
def X.rd:X→Option C
 | .of c=>some c
 | .nil=>some (.sl [] 0)
 | .own _ _ _ cs n=>some (.sl cs n)
 | .agg xs=>(X.rds xs).map .agg
 | _=>none
def X.rds:List X→Option (List C)
 | []=>some []
 | x::r=>match x.rd,X.rds r with
  | some c,some cs=>some (c::cs)
  | _,_=>none
end
def aa3 (t:Tk):Option Tk→Option Tk
 | some t'=>if t'=t then none else some t'
 | none=>none
mutual
def X.drop (t:Tk):X→X
 | .own t' e z cs n=>if t'=t then .of (.sl cs n) else .own t' e z cs n
 | .clo f caps=>.clo f (X.drops t caps)
 | .agg xs=>.agg (X.drops t xs)
 | .tup xs=>.tup (X.drops t xs)
 | .nw o ty z=>.nw (aa3 t o) ty z
 | x=>x
def X.drops (t:Tk):List X→List X
 | []=>[]
 | x::r=>x.drop t::X.drops t r
end
def Ob.drop (t:Tk):Ob→Ob
 | .var ty xs=>.var ty (X.drops t xs)
 | o=>o
mutual
def X.tr (σ:Nat→Option Nat) (ρ:Tk→Option Tk):X→X
 | .of c=>.of c
 | .nil=>.nil
 | .own t e z cs n=>match ρ t with
  | some t'=>.own t' e z cs n
  | none=>.of (.sl cs n)
 | .ptr r off=>match σ r with
  | some r'=>.ptr r' off
  | none=>.of .any
 | .mp r=>match σ r with
  | some r'=>.mp r'
  | none=>.of .any
 | .clo f caps=>.clo f (X.trs σ ρ caps)
 | .agg xs=>.agg (X.trs σ ρ xs)
 | .tup xs=>.tup (X.trs σ ρ xs)
 | .nw o ty z=>.nw (o.bind ρ) ty z
def X.trs (σ:Nat→Option Nat) (ρ:Tk→Option Tk):List X→List X
 | []=>[]
 | x::r=>x.tr σ ρ::X.trs σ ρ r
end
def Ob.tr (σ:Nat→Option Nat) (ρ:Tk→Option Tk):Ob→Ob
 | .var ty xs=>.var ty (X.trs σ ρ xs)
 | .map es=>.map es
mutual
def X.refs:X→List Nat
 | .ptr r _=>[r]
 | .mp r=>[r]
 | .clo _ caps=>X.refsL caps
 | .agg xs=>X.refsL xs
 | .tup xs=>X.refsL xs
 | _=>[]
def X.refsL:List X→List Nat
 | []=>[]
 | x::r=>x.refs++X.refsL r
end
mutual
def X.toks:X→List Tk
 | .own t _ _ _ _=>[t]
 | .clo _ caps=>X.toksL caps
 | .agg xs=>X.toksL xs
 | .tup xs=>X.toksL xs
 | .nw o _ _=>o.toList
 | _=>[]
def X.toksL:List X→List Tk
 | []=>[]
 | x::r=>x.toks++X.toksL r
end
def Ob.refs:Ob→List Nat
 | .var _ xs=>X.refsL xs
 | .map _=>[]
def pos {α:Type} [DecidableEq α]:List α→α→Option Nat
 | [],_=>none
 | a::l,b=>if a=b then some 0 else (pos l b).map (·+1)
def nub {α:Type} [DecidableEq α]:List α→List α→List α
 | [],seen=>seen
 | a::l,seen=>if a∈seen then nub l seen else nub l (seen++[a])
def fM (objs:List Ob):Nat→List Nat→List Nat→List Nat
 | 0,_,seen=>seen
 | _+1,[],seen=>seen
 | n+1,r::todo,seen=>if r∈seen then fM objs n todo seen else fM objs n (((objs[r]?).map Ob.refs).getD []++todo) (seen++[r])
def gY (refs:List Nat) (ts:List Tk) (t:Tk):Option Tk:=match pos ts t with
 | some i=>some (.nm 0 0 i)
 | none=>match t with
  | .cell r off=>(pos refs r).map fun r'=>.cell r' off
  | .nm ..=>none
def gk (refs:List Nat) (ts:List Tk) (t:Tk):Option Tk:=if t∈ts then none else match t with
 | .cell r _=>if r∈refs then none else some t
 | .nm ..=>some t
def dq (refs:List Nat) (L i:Nat):Nat:=match refs[i]? with
 | some r=>r
 | none=>L+(i-refs.length)
def cF (refs:List Nat) (L clk ix:Nat):Tk→Option Tk
 | .nm 0 0 i=>some (.nm clk ix i)
 | .nm ..=>none
 | .cell r off=>some (.cell (dq refs L r) off)
def acp (ts:List Tk) (objs:List Ob):List Ob:=match ts with
 | []=>objs
 | ts=>objs.map (Ob.tr some fun t=>if t∈ts then none else some t)
def eU (σ:Nat→Option Nat) (ρ:Tk→Option Tk) (objs:List Ob):List Nat→Option (List Ob)
 | []=>some []
 | r::l=>match objs[r]?,eU σ ρ objs l with
  | some ob,some q=>some (ob.tr σ ρ::q)
  | _,_=>none
def fV (σ:Nat→Option Nat) (ρ:Tk→Option Tk):List Ob→List Nat→List Ob→List Ob
 | objs,r::l,ob::q=>fV σ ρ (objs.set r (ob.tr σ ρ)) l q
 | objs,_,_=>objs
def ai9 (t:Option Tk) (x:X):X:=match t with|none=>x|some t=>x.drop t
structure S where
 fr:Nat→X
 objs:List Ob
 clk:Nat
def upd (f:Nat→X) (d:Nat) (x:X):Nat→X:=fun j=>if j=d then x else f j
def S.put (s:S) (d:Option Nat) (x:X):S:=match d with
 | none=>s
 | some d=>{s with fr:=upd s.fr d x}
def S.drop (s:S) (t:Option Tk):S:=match t with
 | none=>s
 | some t=>{s with fr:=fun j=>(s.fr j).drop t,objs:=s.objs.map (·.drop t)}
def iV:Value→X
 | .slice none 0 0=>.nil
 | .int k n=>.of (.lit (.int k n))
 | .bool b=>.of (.lit (.bool b))
 | .string s=>.of (.lit (.string s))
 | .pointer none=>.of (.lit (.pointer none))
 | .map none=>.of (.lit (.map none))
 | .nilFunc=>.of (.lit .nilFunc)
 | .nilIface=>.of (.lit .nilIface)
 | _=>.of .any
def S.ev (s:S):Operand→X
 | .tmp t=>s.fr t
 | .const v=>iV v
 | .func f=>.of (.fn f [])
 | .global _=>.of .any
structure TD where
 und:TypeDesc
 size:Nat
 bytes:Nat
 agg:Bool
 zero:List Value
 fields:List (Nat×Nat)
abbrev TT:=Nat→Option TD
def ahW:TypeDesc→Bool
 | .struct _=>true
 | .array _ _=>true
 | _=>false
def ahV:Value→Bool
 | .agg _=>true
 | _=>false
def fieldsOf (P:Program):TypeDesc→Option (List (Nat×Nat))
 | .struct fs=>fs.toList.mapM fun f=>(P.info? f.type).map fun i=>(f.offset,i.size)
 | _=>some []
def TT.of (P:Program):TT:=fun t=>match P.underlying t,P.info? t with
 | some u,some i=>match i.zero,fieldsOf P u with
  | some z,some fl=>if z.cells.toList.all (·.oneCell')&&z.cells.size == i.size&&ahV z == ahW u then some ⟨u,i.size,i.bytes,ahW u,z.cells.toList,fl⟩ else none
  | _,_=>none
 | _,_=>none
def LIM:Nat:=4294967296
def aba:Nat:=140737488355328
def kN (op:BinOp) (k:IntKind) (a b:Int):Option Value:=match op with
 | .add=>some (.int k (k.wrap (a+b)))
 | .sub=>some (.int k (k.wrap (a-b)))
 | .mul=>some (.int k (k.wrap (a*b)))
 | .quo=>if b=0 then none else some (.int k (k.wrap (a.tdiv b)))
 | .rem=>if b=0 then none else some (.int k (a.tmod b))
 | .eql=>some (.bool (decide (a=b)))
 | .neq=>some (.bool (!decide (a=b)))
 | .lss=>some (.bool (decide (a<b)))
 | .leq=>some (.bool (decide (a≤b)))
 | .gtr=>some (.bool (decide (b<a)))
 | .geq=>some (.bool (decide (b≤a)))
 | .and=>some (.int k (k.wrap (BitVec.ofInt k.bits a &&& BitVec.ofInt k.bits b).toNat))
 | .andNot=>some (.int k (k.wrap (BitVec.ofInt k.bits a &&& ~~~BitVec.ofInt k.bits b).toNat))
 | _=>none
def aih (op:BinOp) (a b:ByteArray):Option Value:=match op with
 | .add=>if a.size+b.size≤aba then some (.string (a++b)) else none
 | .eql=>some (.bool (decide (a=b)))
 | .neq=>some (.bool (!decide (a=b)))
 | _=>none
def ajl (op:BinOp) (a b:Bool):Option Value:=match op with
 | .eql=>some (.bool (a == b))
 | .neq=>some (.bool (!(a == b)))
 | _=>none
def afx:Option TypeDesc→Bool
 | some .bool=>true
 | _=>false
def gp (u:Option TypeDesc) (op:BinOp):Value→Value→Option Value
 | .int k a,.int k' b=>if k=k' then kN op k a b else none
 | .string a,.string b=>aih op a b
 | .bool a,.bool b=>if afx u then ajl op a b else none
 | _,_=>none
def akD (op:UnOp):Value→Option Value
 | .int k n=>match op with
  | .neg=>some (.int k (k.wrap (0-n)))
  | _=>none
 | .bool b=>match op with
  | .not=>some (.bool (!b))
  | _=>none
 | _=>none
def adH:Value→Value→Option Bool
 | .int k a,.int k' b=>if k=k' then some (decide (a=b)) else none
 | .string a,.string b=>some (decide (a=b))
 | .bool a,.bool b=>some (a == b)
 | _,_=>none
def jF:X→Option Int
 | .of (.lit (.int .i64 n))=>some n
 | _=>none
def jv:X→Option Bool
 | .of (.lit (.bool b))=>some b
 | _=>none
def jn:X→Option (List C×Nat)
 | .nil=>some ([],0)
 | .own _ _ _ cs n=>some (cs,n)
 | .of (.sl cs n)=>some (cs,n)
 | _=>none
def bQ:X→Option (List X)
 | .agg xs=>some xs
 | .of (.agg cs)=>some (cs.map .of)
 | .of .any=>none
 | .of .undef=>none
 | .of (.tup _)=>none
 | .tup _=>none
 | .nw ..=>none
 | x=>some [x]
def cX (x:X):Option (List C):=(bQ x).bind X.rds
def eC (place:Nat→Option (Nat×Nat)) (cells:List X):List (Nat×List X)→Option (List X)
 | []=>some cells
 | (i,xs)::rest=>match place i with
  | none=>none
  | some (off,size) =>
   if xs.length=size∧off+size≤cells.length then eC place (cells.take off++xs++cells.drop (off+size)) rest
   else none
def dG (d:TD):List X:=d.zero.map iV
def aY (T:TT) (t:Nat) (cs:List C):Option C:=match T t with
 | none=>none
 | some d=>if d.size≤cs.length then (if d.agg then some (.agg (cs.take d.size)) else match cs with
   | c::_=>some c
   | []=>none) else none
def cw (T:TT) (t:Nat) (xs:List X):Option X:=match T t with
 | none=>none
 | some d=>if d.size≤xs.length then (if d.agg then some (.agg (xs.take d.size)) else match xs with
   | x::_=>some x
   | []=>none) else none
def elemOf (T:TT) (t:Nat):Option (Nat×TD):=match T t with
 | some {und:=.slice e,..}=>(T e).map fun d=>(e,d)
 | _=>none
def fe (f:Operand→X) (ps:List (Nat×Operand)):Option (List (Nat×List X)):=match ps with
 | []=>some []
 | (i,x)::r=>match bQ (f x),fe f r with
  | some l,some q=>some ((i,l)::q)
  | _,_=>none
def fN (f:Operand→X):List Operand→Option (List C)
 | []=>some []
 | x::r=>match (f x).rd,fN f r with
  | some c,some cs=>some (c::cs)
  | _,_=>none
abbrev Out:=Option (X×Option Tk)
def out (x:X):Out:=some (x,none)
def bB (x:Option X):Out:=x.map fun x=>(x,none)
def abm:Option TypeDesc→Bool
 | some .string=>true
 | _=>false
def aer (s:ByteArray):List C:=s.data.toList.map fun b=>.lit (.int .u8 b.toNat)
def ai5:Option TD→Bool
 | some {und:=.int .u8,size:=1,..}=>true
 | _=>false
def adc (T:TT) (st xt e:Nat) (x:X):Option (List C×Nat) :=
 if st=xt then jn x else match x with
  | .of (.lit (.string s))=>if abm ((T xt).map (·.und))=true∧ai5 (T e)=true then some (aer s,s.size) else none
  | _=>none
def dh (T:TT) (t:Tk) (st xt:Nat) (s x:X):Out:=match elemOf T st with
 | some (e,d)=>match adc T st xt e x with
  | some (ys,m) =>
   if ys.length=m*d.size∧0<d.size then match s with
    | .nil=>if m≤LIM∧d.bytes≤32768 then some (.own t e d.size ys m,none) else none
    | .own t' e' z cs n=>if e'=e∧z=d.size∧n+m≤LIM∧d.bytes≤32768 then some (.own t e d.size (cs++ys) (n+m),some t') else none
    | _=>none
   else none
  | none=>none
 | none=>none
def kM (d:Int):Option X→Option Int
 | none=>some d
 | some l=>jF l
def fE (T:TT) (t:Nat) (x:X) (lo hi:Option X):Out :=
 match x with
 | .of (.lit (.string s)) =>
  if abm ((T t).map (·.und)) then match kM 0 lo,kM (s.size:Int) hi with
  | some l,some h=>if 0≤l∧l≤h∧h≤(s.size:Int) then out (.of (.lit (.string (s.extract l.toNat h.toNat)))) else none
  | _,_=>none
  else none
 | x=>match elemOf T t,jn x with
  | some (_,d),some (cs,n) =>
   match kM 0 lo,kM (n:Int) hi with
   | some l,some h=>if 0≤l∧l≤h∧h≤(n:Int)∧cs.length=n*d.size then out (.of (.sl ((cs.drop (l.toNat*d.size)).take ((h.toNat-l.toNat)*d.size)) (h.toNat-l.toNat))) else none
   | _,_=>none
  | _,_=>none
def j6 (T:TT) (objs:List Ob) (t:Nat):X→Out
 | .ptr r off=>match objs[r]? with
  | some (.var _ xs)=>bB (cw T t (xs.drop off))
  | _=>none
 | .of (.ref cs)=>bB ((aY T t cs).map .of)
 | _=>none
def aek (T:TT) (t f:Nat):Option (Nat×Nat):=(T t).bind fun d=>d.fields[f]?
def gL (T:TT) (t f:Nat) (x:X):Out:=match aek T t f with
 | some (o,z)=>if 0<z then match x with
  | .ptr r off=>out (.ptr r (off+o))
  | .of (.ref cs)=>out (.of (.ref (cs.drop o)))
  | _=>none else none
 | none=>none
def ai8:TypeDesc→Nat→Option Nat
 | .struct fs,i=>(fs[i]?).map (·.type)
 | _,_=>none
def aaN (T:TT) (t f:Nat) (x:X):Out:=match T t with
 | some d=>match d.fields[f]?,ai8 d.und f with
  | some (o,_),some u=>match x with
   | .agg xs=>bB (cw T u (xs.drop o))
   | .of (.agg cs)=>bB ((aY T u (cs.drop o)).map .of)
   | _=>none
  | _,_=>none
 | none=>none
def bF (T:TT) (t:Nat) (x i:X):Out:=match jF i with
 | none=>none
 | some i=>match T t with
  | some {und:=.slice e,..}=>match T e,jn x with
   | some d,some (cs,n)=>if 0≤i∧i<(n:Int)∧cs.length=n*d.size∧0<d.size then out (.of (.ref (cs.drop (i.toNat*d.size)))) else none
   | _,_=>none
  | some {und:=.array n e,..}=>match T e with
   | some d=>if 0≤i∧i<(n:Int) then match x with
    | .ptr r off=>out (.ptr r (off+i.toNat*d.size))
    | .of (.ref cs)=>out (.of (.ref (cs.drop (i.toNat*d.size))))
    | _=>none else none
   | none=>none
  | _=>none
def aak (T:TT) (t:Nat) (x i:X):Out:=match jF i with
 | none=>none
 | some i=>match x with
  | .of (.lit (.string s))=>if h:abm ((T t).map (·.und))=true∧0≤i∧i.toNat<s.size then out (.of (.lit (.int .u8 (s[i.toNat]'h.2.2).toNat))) else none
  | .agg xs=>match T t with
   | some {und:=.array n e,..}=>match T e with
    | some d=>if 0≤i∧i<(n:Int) then bB (cw T e (xs.drop (i.toNat*d.size))) else none
    | none=>none
   | _=>none
  | .of (.agg cs)=>match T t with
   | some {und:=.array n e,..}=>match T e with
    | some d=>if 0≤i∧i<(n:Int) then bB ((aY T e (cs.drop (i.toNat*d.size))).map .of) else none
    | none=>none
   | _=>none
  | _=>none
def apK:Option TypeDesc→Bool
 | some (.slice _)=>true
 | _=>false
def fh (u:Option TypeDesc) (x:X):Out:=match x with
 | .of (.lit (.string s))=>if abm u then out (ak s.size) else none
 | x=>match jn x with
  | some (_,n)=>if apK u then out (ak n) else none
  | none=>none
def abO:List C→Option (List UInt8)
 | []=>some []
 | .lit (.int .u8 n)::r=>(abO r).map (UInt8.ofNat n.toNat::·)
 | _=>none
def agM (T:TT) (src:Option TD) (x:X):Out:=match src,jn x with
 | some {und:=.slice e,..},some (cs,n)=>if ai5 (T e)=true∧cs.length=n then bB ((abO cs).map fun l=>dA ⟨l.toArray⟩) else none
 | _,_=>none
def aaO (T:TT) (src dst:Nat) (x:X):Out:=match T src,(T dst).map (·.und),x with
 | some _,some (TypeDesc.int k),.of (.lit (.int _ n))=>out (.of (.lit (.int k (k.wrap n))))
 | some _,some TypeDesc.string,.of (.lit (.string s))=>out (.of (.lit (.string s)))
 | d,some TypeDesc.string,x=>agM T d x
 | _,_,_=>none
def apM (T:TT) (a e:Nat) (s:ByteArray):Out:=if abm ((T a).map (·.und))&&ai5 (T e) then out (.of (.sl (aer s) s.size)) else none
def adJ (T:TT) (a b:Nat) (x:X):Out:=match (T b).map (·.und),x with
 | some (TypeDesc.slice e),.of (.lit (.string s))=>apM T a e s
 | _,x=>aaO T a b x
def aaf (kind:TypeDesc) (k:Value):List (Value×C)→Nat→Option (Option Nat)
 | [],_=>some none
 | e::es,i=>match Instr.sameNow kind k e.1 with
  | some true=>some (some i)
  | some false=>aaf kind k es (i+1)
  | none=>none
def ai3:TypeDesc→Bool
 | .int _=>true
 | .string=>true
 | .bool=>true
 | _=>false
def dN:X→Option Value
 | .of (.lit v)=>some v
 | _=>none
def aci (objs:List Ob):X→Option (List (Value×C))
 | .mp r=>match objs[r]? with
  | some (.map es)=>some es
  | _=>none
 | .of (.lit (.map none))=>some []
 | _=>none
def aex (T:TT) (t:Nat):Option X:=match T t with
 | some d=>cw T t (dG d)
 | none=>none
def abC (T:TT) (t:Nat):Option (TypeDesc×Nat):=match T t with
 | some {und:=.map kt et,..}=>match (T kt).map (·.und) with
  | some kind=>if ai3 kind then some (kind,et) else none
  | none=>none
 | _=>none
def afd:Option TypeDesc→Value→Bool
 | some (.int _),.int _ _=>true
 | some .string,.string _=>true
 | some .bool,.bool _=>true
 | _,_=>false
def jJ (T:TT):Nat→List Field→List C→List C→Option Bool
 | _,[],[],[]=>some true
 | o,f::fs,.lit u::r,.lit v::q =>
  if f.name != "_"&&f.offset == o&&afd ((T f.type).map (·.und)) u&&afd ((T f.type).map (·.und)) v then match adH u v with
   | some true=>jJ T (o+1) fs r q
   | b=>b
  else none
 | _,_,_,_=>none
def aah (P:Program) (T:TT) (t:Nat) (cs ds:List C):Option Bool:=match T t with
 | some {und:=.struct fs,..}=>if P.stoodInHeld t=false∧P.eqGuardType P.depth t=false then jJ T 0 fs.toList cs ds else none
 | _=>none
def adb (P:Program) (T:TT) (t:Nat) (op:BinOp):Option C→Option C→Out
 | some (.agg cs),some (.agg ds)=>match op with
  | .eql=>bB ((aah P T t cs ds).map ah)
  | .neq=>bB ((aah P T t cs ds).map fun b=>ah (!b))
  | _=>none
 | _,_=>none
def dX (P:Program) (T:TT) (t:Nat) (u:Option TypeDesc) (op:BinOp) (x y:X):Out:=match dN x,dN y with
 | some a,some b=>bB ((gp u op a b).map fun v=>.of (.lit v))
 | _,_=>adb P T t op x.rd y.rd
def aaq (T:TT) (objs:List Ob) (t:Nat) (x k:X) (ok:Bool):Out:=match abC T t,dN k,aci objs x with
 | some (kind,et),some kv,some es=>match aaf kind kv es 0 with
  | some (some i)=>bB ((es[i]?).map fun e=>if ok then .tup [.of e.2,ah true] else .of e.2)
  | some none=>bB ((aex T et).map fun z=>if ok then .tup [z,ah false] else z)
  | none=>none
 | _,_,_=>none
def agn (kind:TypeDesc) (k:Value) (c:C) (es:List (Value×C)):Option (List (Value×C)):=match aaf kind k es 0 with
 | some (some i)=>some (es.set i (k,c))
 | some none=>some (es++[(k,c)])
 | none=>none
def aHa (kind:TypeDesc) (k:Value) (es:List (Value×C)):Option (List (Value×C)):=match aaf kind k es 0 with
 | some (some i)=>some (es.eraseIdx i)
 | some none=>some es
 | none=>none
structure An where
 pan:Bool
 rs:List X
 obs:List Ob
abbrev Orc:=Nat→List X→List Ob→Option An
structure En where
 orc:Orc
 obj:Nat→Bool
 tk:Nat→Bool
 mt:String→Option Nat→Bool
def aaJ:List X→X
 | [x]=>x
 | xs=>.tup xs
def ab (P:Program) (f:Nat):Bool:=match P.funcs[f]? with
 | some fn=>fn.body.isSome&&!(fn.name == "runtime.NumGoroutine")
 | none=>false
def iJ (clk ix:Nat):Tk→Option Tk
 | .nm 0 0 i=>some (.nm clk ix i)
 | _=>none
def acf (clk ix:Nat) (xs:List X):List X:=X.trs (fun _=>none) (iJ clk ix) xs
def aaF (P:Program) (E:En) (clk ix f:Nat) (cs:List C):Out :=
 if ab P f&&!E.obj f then match E.orc f (cs.map .of) [] with
  | some ⟨false,rs,[]⟩=>out (aaJ (acf clk ix rs))
  | _=>none
 else none
def aGD:Option TypeDesc→Bool
 | none=>false
 | some (.interface _)=>false
 | some _=>true
def arf (x y:X):Out:=match jF x,jF y with
 | some a,some b=>out (ak (if b<a then b else a))
 | _,_=>none
def aj8 (x y:X):Out:=match jF x,jF y with
 | some a,some b=>out (ak (if a<b then b else a))
 | _,_=>none
def abN (P:Program) (T:TT) (E:En) (s:S) (ix:Nat):Callee→List Operand→List Nat→Out
 | .builtin .len,[x],[t]=>fh ((T t).map (·.und)) (s.ev x)
 | .builtin .append,[a,b],[st,xt]=>dh T (.nm s.clk ix 0) st xt (s.ev a) (s.ev b)
 | .builtin .min,[a,b],_=>arf (s.ev a) (s.ev b)
 | .builtin .max,[a,b],_=>aj8 (s.ev a) (s.ev b)
 | .value f,args,_=>match s.ev f,fN s.ev args with
  | .of (.fn f caps),some cs=>aaF P E s.clk ix f (cs++caps)
  | _,_=>none
 | _,_,_=>none
def val (P:Program) (T:TT) (E:En) (s:S) (ix:Nat) (o:Oper):Out :=
 match o.op with
 | .move x | .assign x=>out (s.ev x)
 | .pick c a b=>match jv (s.ev c) with
  | some b'=>out (if b' then s.ev a else s.ev b)
  | none=>none
 | .binOp op t x y _=>dX P T t ((T t).map (·.und)) op (s.ev x) (s.ev y)
 | .unOp op _ x=>match s.ev x with
  | .of (.lit u)=>bB ((akD op u).map fun v=>.of (.lit v))
  | _=>none
 | .load t a=>j6 T s.objs t (s.ev a)
 | .fieldAddr t x f=>gL T t f (s.ev x)
 | .field t x f=>aaN T t f (s.ev x)
 | .indexAddr t x i=>bF T t (s.ev x) (s.ev i)
 | .index t x i=>aak T t (s.ev x) (s.ev i)
 | .slice t x lo hi none=>fE T t (s.ev x) (lo.map s.ev) (hi.map s.ev)
 | .build t ps=>match T t,fe s.ev ps.toList with
  | some d,some qs=>match d.und with
   | .struct _=>bB ((eC (fun i=>d.fields[i]?) (dG d) qs).map .agg)
   | .array _ e=>match T e with
    | some de=>bB ((eC (fun i=>some (i*de.size,de.size)) (dG d) qs).map .agg)
    | none=>none
   | _=>none
  | _,_=>none
 | .buildSlice t' n ps=>match elemOf T t',fe s.ev ps.toList with
  | some (e,d),some qs =>
   if n*d.size≤16777216∧0<d.size∧d.zero.length=d.size then match eC (fun i=>some (i*d.size,d.size)) ((List.replicate n (dG d)).flatten) qs with
    | some xs=>match X.rds xs with
     | some cs=>out (.own (.nm s.clk ix 0) e d.size cs n)
     | none=>none
    | none=>none
   else none
  | _,_=>none
 | .extract x i=>match s.ev x with
  | .tup xs=>bB (xs[i]?)
  | .of (.tup cs)=>bB ((cs[i]?).map .of)
  | _=>none
 | .nilCheck x=>match s.ev x with
  | .ptr r off=>out (.ptr r off)
  | .of (.ref cs)=>out (.of (.ref cs))
  | _=>none
 | .makeFunc (.func f) first caps=>if first.size=0 then match fN s.ev caps.toList with
  | some cs=>out (.of (.fn f cs))
  | none=>none
  else none
 | .convert a b x=>adJ T a b (s.ev x)
 | .lookup t x i ok=>aaq T s.objs t (s.ev x) (s.ev i) ok
 | .makeInterface t x=>match aGD ((T t).map (·.und)),(s.ev x).rd with
  | true,some c=>out (.of (.ifc t c))
  | _,_=>none
 | .call {callee:=cal,args:=args,argTypes:=tys}=>abN P T E s ix cal args.toList tys.toList
 | .alloc t=>match T t with
  | some d=>if 0<d.size then out (.nw (some (.nm s.clk ix 0)) t d.size) else none
  | none=>none
 | .store t (.tmp d) x=>match T t,s.fr d,cX (s.ev x),o.guard,o.dst with
  | some td,.nw (some tk) ty z,some cs,none,none=>if ty=t∧z=td.size∧cs.length=z then some (.of (.ref cs),some tk) else none
  | _,_,_,_,_=>none
 | _=>none
def cG (o:Oper):Option Nat:=match o.op,o.guard with
 | .store _ (.tmp d) _,none=>some d
 | _,_=>o.dst
def gJ (clk:Nat) (after:List Edge):Option Tk→Bool
 | some (.nm c ix _)=>decide (c<clk)||(decide (c=clk)&&after.any fun e=>Region.binds .any e&&e.on == ix)
 | _=>true
def dK (P:Program) (T:TT) (E:En) (s:S) (ix:Nat) (o:Oper):Option (Option X×S):=match val P T E s ix o with
 | some (x,t)=>if gJ s.clk o.after.toList t=true then some (none,(s.drop t).put (cG o) x) else none
 | none=>none
def cO (r:Nat):Nat→List X→List (Tk×Tk)
 | _,[]=>[]
 | off,.own t _ _ _ _::l=>(t,.cell r off)::cO r (off+1) l
 | off,_::l=>cO r (off+1) l
def jL:List (Tk×Tk)→Tk→Option Tk
 | [],_=>none
 | (a,b)::l,t=>if a=t then some b else jL l t
def kH (r off n:Nat) (mv:List (Tk×Tk)) (t:Tk):Option Tk:=match jL mv t with
 | some t'=>some t'
 | none=>match t with
  | .cell r' o'=>if r'=r∧off≤o'∧o'<off+n then none else some t
  | .nm ..=>some t
def iA:List X→Bool
 | []=>true
 | .own ..::_=>false
 | _::l=>iA l
def S.tr (ρ:Tk→Option Tk) (s:S):S:={s with fr:=fun j=>(s.fr j).tr some ρ,objs:=s.objs.map (Ob.tr some ρ)}
def ake (r off:Nat) (xs ys:List X) (s:S):S:=if iA xs&&iA ys then s else s.tr (kH r off xs.length (cO r off xs))
def afL (s:S) (d:Option Nat) (ty:Nat) (xs:List X):S:=(ake s.objs.length 0 xs [] {s with objs:=s.objs++[Ob.var ty xs]}).put d (.ptr s.objs.length 0)
def ai0 (s:S) (j ty:Nat) (xs:List X):S:={s with objs:=s.objs++[Ob.var ty xs]}.put (some j) (.ptr s.objs.length 0)
def ab2 (s:S) (d:Option Nat) (n r off:Nat) (xs:List X):Option S:=match s.objs[r]? with
 | some (.var ty ys)=>if xs.length=n∧off+xs.length≤ys.length then
   some ((ake r off xs ((ys.drop off).take xs.length) {s with objs:=s.objs.set r (Ob.var ty (ys.take off++xs++ys.drop (off+xs.length)))}).put d (.of .undef))
  else none
 | _=>none
def ac6 (s:S) (c:Callee) (args:List Operand):Option (Nat×List X):=match c with
 | .value f=>match s.ev f with
  | .of (.fn g caps)=>some (g,args.map s.ev++caps.map .of)
  | .clo g caps=>some (g,args.map s.ev++caps)
  | _=>none
 | _=>none
def ajm (s:S) (ix:Nat) (d:Option Nat) (refs:List Nat) (ts:List Tk) (an:An):Option (Option X×S) :=
 let σ:=fun i=>some (dq refs s.objs.length i)
 let ρ:=cF refs s.objs.length s.clk ix
 if refs.length≤an.obs.length then
  let s':S:={s with fr:=fun j=>(s.fr j).tr some (gk refs ts),objs:=fV σ ρ (s.objs.map (Ob.tr some (gk refs ts))) refs an.obs++(an.obs.drop refs.length).map (Ob.tr σ ρ)}
  match an with
  | ⟨true,[x],_⟩=>some (some (x.tr σ ρ),s')
  | ⟨true,_,_⟩=>none
  | ⟨false,rs,_⟩=>some (none,s'.put d (aaJ (X.trs σ ρ rs)))
 else none
def ac1 (P:Program) (E:En) (s:S) (ix:Nat) (d:Option Nat) (f:Nat) (us:List X):Option (Option X×S) :=
 if ab P f then
  let refs:=fM s.objs 999 (X.refsL us) []
  let ts:=if E.tk f then nub (X.toksL us) [] else []
  match eU (pos refs) (gY refs ts) (acp ts s.objs) refs with
  | some obs=>match E.orc f (X.trs (pos refs) (gY refs ts) us) obs with
   | some an=>ajm s ix d refs ts an
   | none=>none
  | none=>none
 else none
def iq (P:Program) (T:TT) (E:En) (dr:Bool) (s:S) (ix:Nat) (o:Oper):Option (Option X×S) :=
 if dr then dK P T E s ix o else
 match o.op with
 | .alloc t=>if E.mt o.pos o.dst then match T t with
   | some d=>some (none,afL s o.dst t (dG d))
   | none=>none
  else dK P T E s ix o
 | .box t x=>if E.mt o.pos o.dst then match T t,bQ (s.ev x) with
   | some d,some xs=>if xs.length=d.size then some (none,afL s o.dst t xs) else none
   | _,_=>none
  else match T t,cX (s.ev x) with
   | some d,some cs=>if cs.length=d.size∧0<d.size then some (none,s.put o.dst (.of (.ref cs))) else none
   | _,_=>none
 | .store t a x=>match s.ev a with
  | .nw (some tk) ty z=>if E.mt o.pos (cG o) then match T t,bQ (s.ev x),cG o with
    | some d,some xs,some j=>if ty=t∧z=d.size∧xs.length=z∧gJ s.clk o.after.toList (some tk)=true∧o.dst=none then some (none,ai0 (s.drop (some tk)) j t (X.drops tk xs)) else none
    | _,_,_=>none
   else dK P T E s ix o
  | _=>match T t,s.ev a,bQ (s.ev x) with
   | some d,.ptr r off,some xs=>(ab2 s o.dst d.size r off xs).map fun s=>(none,s)
   | _,_,_=>none
 | .makeMap _ none=>some (none,{s with objs:=s.objs++[Ob.map []]}.put o.dst (.mp s.objs.length))
 | .mapUpdate t m k x=>match abC T t,s.ev m,dN (s.ev k),(s.ev x).rd with
  | some (kind,_),.mp r,some kv,some c=>match s.objs[r]? with
   | some (.map es)=>match agn kind kv c es with
    | some es'=>some (none,{s with objs:=s.objs.set r (Ob.map es')}.put o.dst (.of .undef))
    | none=>none
   | _=>none
  | _,_,_,_=>none
 | .insert t m k x=>match abC T t,s.ev m,dN (s.ev k),(s.ev x).rd with
  | some (kind,_),.mp r,some kv,some c=>match s.objs[r]? with
   | some (.map es)=>match agn kind kv c es with
    | some es'=>some (none,{s with objs:=s.objs.set r (Ob.map es')}.put o.dst (.of .undef))
    | none=>none
   | _=>none
  | _,_,_,_=>none
 | .call {callee:=.builtin .delete,args:=args,argTypes:=tys}=>match args.toList,tys.toList with
  | [m,k],[t,_]=>match abC T t,s.ev m,dN (s.ev k) with
   | some (kind,_),.mp r,some kv=>match s.objs[r]? with
    | some (.map es)=>match aHa kind kv es with
     | some es'=>some (none,{s with objs:=s.objs.set r (Ob.map es')}.put o.dst (.tup []))
     | none=>none
    | _=>none
   | _,_,_=>none
  | _,_=>none
 | .panic x=>match (s.ev x).rd with
  | some (.ifc t c)=>some (some (.of (.ifc t c)),s)
  | _=>none
 | .call {callee:=.value f,args:=args,argTypes:=_}=>match ac6 s (.value f) args.toList with
  | some (g,us)=>if E.obj g then ac1 P E s ix o.dst g us else dK P T E s ix o
  | none=>none
 | _=>dK P T E s ix o
def cD (ops:Array Oper) (s:S) (o:Oper):Option Bool :=
 match o.guard with
 | none=>some true
 | some (j,want)=>match (ops[j]?).bind (·.dst) with
  | some d=>match s.fr d with
   | .of (.lit (.bool b))=>some (b == want)
   | .of .undef=>some false
   | _=>none
  | none=>some false
def bv (P:Program) (T:TT) (E:En) (dr:Bool) (ops:Array Oper) (s:S) (ix:Nat) (o:Oper):Option (Option X×S) :=
 match cD ops s o with
 | some true=>iq P T E dr s ix o
 | some false=>some (none,s.put o.dst (.of .undef))
 | none=>none
def hH (P:Program) (T:TT) (E:En) (dr:Bool) (ops:Array Oper):Nat→List Oper→S→Option (Option X×S)
 | _,[],s=>some (none,s)
 | k,o::r,s=>match bv P T E dr ops s k o with
  | some (none,s')=>hH P T E dr ops (k+1) r s'
  | some (some x,s')=>some (some x,s')
  | none=>none
def bZ:Op→Bool
 | .store ..=>true
 | _=>false
def gd:List Oper→Bool
 | []=>false
 | [o]=>bZ o.op&&o.guard.isNone
 | _::o::l=>gd (o::l)
def abn (obj:Nat→Bool):Op→Bool
 | .call {callee:=.value (.func g),args:=args,..}=>args.isEmpty&&obj g
 | _=>false
def acE (obj:Nat→Bool):List Oper→Bool
 | []=>false
 | o::_=>abn obj o.op&&o.guard.isNone
def spB (obj:Nat→Bool) (l:List Oper):Bool:=acE obj l||gd l
def mkA (P:Program) (E:En):Op→Option (List (Value×C))
 | .call {callee:=.value (.func g),..}=>if ab P g then match E.orc g [] [] with
  | some ⟨false,[.mp 0],[.map es]⟩=>some es
  | _=>none
  else none
 | _=>none
def mkS (P:Program) (E:En) (s:S) (o:Oper):Option S:=(mkA P E o.op).map fun es=>{s with objs:=s.objs++[Ob.map es]}.put o.dst (.mp s.objs.length)
def gm (P:Program) (T:TT) (E:En) (ops:Array Oper):Nat→List Oper→S→Option (Option X×S)
 | _,[],_=>none
 | k,[o],s=>match bv P T E false ops s k o with
  | some (none,s')=>some (none,s')
  | _=>none
 | k,o::o'::l,s=>match bv P T E true ops s k o with
  | some (none,s')=>gm P T E ops (k+1) (o'::l) s'
  | _=>none
def agI (P:Program) (T:TT) (E:En) (ops:Array Oper) (l:List Oper) (s:S):Option (Option X×S) :=
 if gd l=true then gm P T E ops 0 l s else match l with
  | o::r=>match mkS P E s o with
   | some s1=>hH P T E true ops 1 r s1
   | none=>none
  | []=>none
def opK:Op→Nat
 | .store ..=>1
 | .assign _=>2
 | .alloc _=>3
 | .load _ _=>4
 | _=>0
def aHw:Op→Option Nat
 | .store _ (.tmp d) _=>some d
 | _=>none
def aeG:List Oper→Option Nat
 | []=>none
 | [_]=>none
 | [o,o']=>if (bZ o.op&&o.guard.isNone&&(o'.guard.isNone&&(bZ o'.op||opK o'.op == 2)))=true then aHw o.op else none
 | _::o::o'::l=>aeG (o::o'::l)
def eqD:Option Nat→Nat→Bool
 | some a,d=>a == d
 | none,_=>false
def afv (d:Nat):List Oper→Bool
 | []=>false
 | o::l=>(opK o.op == 3&&eqD o.dst d)||afv d l
def tlM (l:List Oper):Option Nat→Bool
 | some d=>!afv d l
 | none=>false
def tlB (l:List Oper):Bool:=tlM l (aeG l)
def am1 (s:S):Op→Bool
 | .load _ a=>match s.ev a with
  | .of (.ref _)=>true
  | _=>false
 | _=>false
def ja (s:S) (o:Oper):Bool:=!(opK o.op == 4)||am1 s o.op
def jW (P:Program) (T:TT) (E:En) (ops:Array Oper):Nat→List Oper→S→Option (Option X×S)
 | k,o::o'::o''::l,s=>if ja s o=true then match bv P T E true ops s k o with
   | some (none,s')=>jW P T E ops (k+1) (o'::o''::l) s'
   | _=>none
  else none
 | k,[o,o'],s=>match bv P T E false ops s k o with
  | some (none,s')=>match bv P T E false ops s' (k+1) o' with
   | some (none,s'')=>some (none,s'')
   | _=>none
  | _=>none
 | _,_,_=>none
def evR (P:Program) (T:TT) (E:En) (draw:Bool) (ops:Array Oper) (s:S):Option (Option X×S) :=
 if (draw&&tlB ops.toList)=true then jW P T E ops 0 ops.toList s
 else if (draw&&spB E.obj ops.toList)=true then agI P T E ops ops.toList s else hH P T E draw ops 0 ops.toList s
def alt (o:Oper):Bool:=match o.op,o.guard with
 | .extract _ _,none=>true
 | _,_=>false
def afw (ops:Array Oper) (i:Nat):Bool:=match ops[i]?,ops[ops.size-1]? with
 | some o,some l=>alt o&&match cG l with
  | some d=>!(o.looksAt ops).contains d&&o.dst != some d
  | none=>true
 | _,_=>false
def ah2 (ops:Array Oper):Bool:=(List.range (ops.size-1)).all fun i=>afw ops i||(List.range ops.size).any fun k=>decide (i<k)&&match ops[k]? with
 | some o=>!alt o&&o.after.any fun e=>Region.binds .any e&&e.on == i
 | none=>false
inductive Ex where
 | normal
 | exit (id:Nat)
 | ret
 | pan (x:X)
def acl (xs:List X) (obs:List Ob):S:={fr:=fun j=>xs.getD j (.of .undef),objs:=obs,clk:=1}
def iU (T:TT) (s:S):List ResultVar→Option (List X)
 | []=>some []
 | .tmp t::r=>(iU T s r).map (s.fr t::·)
 | .cell a t::r=>match j6 T s.objs t (s.fr a),iU T s r with
  | some (x,_),some q=>some (x::q)
  | _,_=>none
def aaZ (m:Nat) (pan:Bool) (rs:List X) (objs:List Ob):Option An :=
 let refs:=fM objs 999 (X.refsL rs++((objs.take m).map Ob.refs).flatten) (List.range m)
 let ts:=(nub (X.toksL rs) []).filter fun t=>match t with
  | .nm ..=>true
  | .cell r _=>!decide (r∈refs)
 (eU (pos refs) (gY refs ts) objs refs).map fun obs=>⟨pan,X.trs (pos refs) (gY refs ts) rs,obs⟩
def abF (N:Nat) (o:Oper):Bool:=(match o.dst with
 | some d=>decide (d<N)
 | none=>true)&&match cG o with
 | some d=>decide (d<N)
 | none=>true
def acS (ops:Array Oper) (i:Nat):Bool:=match ops[i]? with
 | some o=>match cG o with
  | some d=>o.dst.isNone&&(List.range ops.size).all fun j=>j == i||match ops[j]? with
   | some oj=>!(oj.looksAt ops).contains d&&(cG oj != some d||(!bZ oj.op&&o.after.any fun e=>Region.binds .any e&&e.on == j))
   | none=>true
  | none=>false
 | none=>false
def ad3 (ops:Array Oper):Bool:=(List.range ops.size).all fun i=>match ops[i]? with
 | some o=>!bZ o.op||(gd ops.toList&&i+1 == ops.size)||acS ops i
 | none=>true
def afj (ops:Array Oper) (k j:Nat):Bool:=match ops[k]? with
 | some o=>o.after.any fun e=>Region.binds .any e&&e.on == j
 | none=>false
def aro (ops:Array Oper) (i m:Nat):Bool:=match ops[i]?,ops[m]? with
 | some o,some l=>(opK o.op == 4&&o.guard.isNone)&&match cG l with
  | some d=>!(o.looksAt ops).contains d&&o.dst != some d
  | none=>true
 | _,_=>false
def ad2 (ops:Array Oper):Bool:=((List.range (ops.size-2)).all fun i=>(match ops[i]? with
 | some o=>!bZ o.op
 | none=>true)&&(afj ops (ops.size-2) i||aro ops i (ops.size-2)))&&(List.range (ops.size-1)).all fun j=>afj ops (ops.size-1) j
def ayS (N:Nat) (ops:Array Oper) (draw:Bool):Bool:=ops.all (abF N)&&(!draw||(Region.lexB .any ops&&if tlB ops.toList then ad2 ops else ad3 ops&&(!gd ops.toList||ah2 ops)))
def aao (N:Nat):Code→Bool
 | .region _ ops draw=>ayS N ops draw
 | .seq a b=>aao N a&&aao N b
 | .cond _ a b=>aao N a&&aao N b
 | .block _ c=>aao N c
 | .loop c=>aao N c
 | _=>true
def aig (P:Program) (f:Nat):Code:=match P.funcs[f]? with
 | some fn=>fn.body.getD .skip
 | none=>.skip
def al8 (P:Program) (f:Nat):Nat:=match P.funcs[f]? with
 | some fn=>fn.ntmps
 | none=>0
def aaV (P:Program) (f:Nat):List ResultVar:=match P.funcs[f]? with
 | some fn=>fn.results.toList
 | none=>[]
def azJ (P:Program) (f:Nat):Bool:=match P.funcs[f]? with
 | some fn=>fn.body.isSome&&aao fn.ntmps (fn.body.getD .skip)
 | none=>false
structure Pr where
 prim:Orc
 obj:Nat→Bool
 tk:Nat→Bool
 keep:Nat→Bool
 mt:String→Option Nat→Bool
def akQ (x:X):Option C→X
 | some c=>.of c
 | none=>x
def acR (x:X):X:=akQ x x.rd
def ac2 (keep:Bool) (rs:List X):List X:=match keep with
 | true=>rs
 | false=>rs.map acR
def aie (P:Program) (T:TT) (keep:Nat→Bool) (run:Code→S→Option (Ex×S)) (f:Nat) (xs:List X) (obs:List Ob):Option An :=
 if azJ P f=true∧xs.length≤al8 P f then match run (aig P f) (acl xs obs) with
  | some (.normal,s)=>(iU T s (aaV P f)).bind fun rs=>aaZ obs.length false (ac2 (keep f) rs) s.objs
  | some (.ret,s)=>(iU T s (aaV P f)).bind fun rs=>aaZ obs.length false (ac2 (keep f) rs) s.objs
  | some (.pan x,s)=>aaZ obs.length true [x] s.objs
  | _=>none
 else none
def ak5 (P:Program) (T:TT) (pr:Pr) (run:Code→S→Option (Ex×S)):Orc:=fun f xs obs =>
 match pr.prim f xs obs with
 | some r=>some r
 | none=>aie P T pr.keep run f xs obs
def afe (P:Program) (T:TT) (pr:Pr) (run:Code→S→Option (Ex×S)):En:=⟨ak5 P T pr run,pr.obj,pr.tk,pr.mt⟩
def evC (P:Program) (T:TT) (pr:Pr):Nat→Code→S→Option (Ex×S)
 | 0,_,_=>none
 | n+1,c,s=>match c with
  | .skip=>some (.normal,s)
  | .ret=>some (.ret,s)
  | .exit i=>some (.exit i,s)
  | .seq a b=>match evC P T pr n a s with
   | some (.normal,s')=>evC P T pr n b s'
   | r=>r
  | .block i c=>match evC P T pr n c s with
   | some (.exit j,s')=>some (if j=i then .normal else .exit j,s')
   | r=>r
  | .cond c a b=>match jv (s.ev c) with
   | some true=>evC P T pr n a s
   | some false=>evC P T pr n b s
   | none=>none
  | .loop c=>match evC P T pr n c s with
   | some (.normal,s')=>evC P T pr n (.loop c) s'
   | r=>r
  | .region _ ops draw=>match evR P T (afe P T pr (evC P T pr n)) draw ops s with
   | some (none,s')=>some (.normal,{s' with clk:=s'.clk+1})
   | some (some x,s')=>some (.pan x,{s' with clk:=s'.clk+1})
   | none=>none
  | _=>none
end Go.Pe
namespace Go.Pe
open Go.RowKit
abbrev Mem:=Nat→Nat→Option Value
mutual
def Rep (m:Mem):C→Value→Prop
 | .any,_=>True
 | .undef,v=>v=undef
 | .lit u,v=>v=u∧u.oneCell'=true
 | .sl cs n,v=>∃ a cap vs,v=.slice a n cap∧n≤cap∧bn m cs vs∧(vs≠[]→∃ b o,a=some ⟨b,o,none⟩∧∀ i u,vs[i]?=some u→m b (o+i)=some u)
 | .ref cs,v=>∃ b o vs,v=.pointer (some ⟨b,o,none⟩)∧bn m cs vs∧∀ i u,vs[i]?=some u→m b (o+i)=some u
 | .fn f caps,v=>∃ vs:List Value,v=.func (.func f) #[] vs.toArray∧bn m caps vs
 | .agg cs,v=>∃ vs:List Value,v=.agg vs.toArray∧(∀ u∈vs,u.oneCell'=true)∧bn m cs vs
 | .tup cs,v=>∃ vs:List Value,v=.tuple vs.toArray∧bn m cs vs
 | .ifc t c,v=>∃ u,v=.iface t u∧Rep m c u
def bn (m:Mem):List C→List Value→Prop
 | [],vs=>vs=[]
 | c::cs,vs=>∃ v r,vs=v::r∧Rep m c v∧bn m cs r
end
def Mem.le (m m':Mem):Prop:=∀ b o v,m b o=some v→m' b o=some v
theorem Mem.le_refl (m:Mem):m.le m:=fun _ _ _ h=>h
theorem Mem.le_trans {a b c:Mem} (h:a.le b) (h':b.le c):a.le c:=fun _ _ _ x=>h' _ _ _ (h _ _ _ x)
theorem Rep.mono {m m':Mem} (h:m.le m'):∀ (c:C) (v:Value),Rep m c v→Rep m' c v :=
 C.rec (motive_1:=fun c=>∀ v,Rep m c v→Rep m' c v) (motive_2:=fun cs=>∀ vs,bn m cs vs→bn m' cs vs)
  (fun _ _=>by simp[Rep]) (fun _ h=>by simpa [Rep] using h) (fun _ _ h=>by simpa [Rep] using h)
  (fun cs n ih v=>by
   simp only[Rep]
   rintro⟨a,cap,vs,rfl,hn,hl,hm⟩
   exact⟨a,cap,vs,rfl,hn,ih _ hl,fun hne=>by
    obtain⟨b,o,ha,hc⟩:=hm hne
    exact⟨b,o,ha,fun i u hu=>h _ _ _ (hc i u hu)⟩⟩)
  (fun cs ih v=>by
   simp only[Rep]
   rintro⟨b,o,vs,rfl,hl,hm⟩
   exact⟨b,o,vs,rfl,ih _ hl,fun i u hu=>h _ _ _ (hm i u hu)⟩)
  (fun f cs ih v=>by simp only[Rep];rintro⟨vs,rfl,hl⟩;exact⟨vs,rfl,ih _ hl⟩)
  (fun cs ih v=>by simp only[Rep];rintro⟨vs,rfl,h1,hl⟩;exact⟨vs,rfl,h1,ih _ hl⟩)
  (fun cs ih v=>by simp only[Rep];rintro⟨vs,rfl,hl⟩;exact⟨vs,rfl,ih _ hl⟩)
  (fun t c ih v=>by simp only[Rep];rintro⟨u,rfl,h⟩;exact⟨u,rfl,ih _ h⟩)
  (fun vs h=>by simpa [bn] using h)
  (fun c cs ih1 ih2 vs=>by simp only[bn];rintro⟨v,r,rfl,h1,h2⟩;exact⟨v,r,rfl,ih1 _ h1,ih2 _ h2⟩)
theorem bn.mono {m m':Mem} (h:m.le m'):∀ (cs:List C) (vs:List Value),bn m cs vs→bn m' cs vs
 | [],vs,hh=>by simpa [bn] using hh
 | c::cs,vs,hh=>by
  simp only[bn] at hh ⊢
  obtain⟨v,r,rfl,h1,h2⟩:=hh
  exact⟨v,r,rfl,Rep.mono h _ _ h1,bn.mono h _ _ h2⟩
theorem bn.length {m:Mem}:∀ {cs:List C} {vs:List Value},bn m cs vs→vs.length=cs.length
 | [],vs,h=>by simp only[bn] at h;simp[h]
 | c::cs,vs,h=>by
  simp only[bn] at h
  obtain⟨v,r,rfl,_,h2⟩:=h
  simp[bn.length h2]
theorem bn.get {m:Mem}:∀ {cs:List C} {vs:List Value},bn m cs vs→∀ (i:Nat) (c:C),cs[i]?=some c→∃ v,vs[i]?=some v∧Rep m c v
 | [],vs,h,i,c,hc=>by simp at hc
 | d::cs,vs,h,i,c,hc=>by
  simp only[bn] at h
  obtain⟨v,r,rfl,h1,h2⟩:=h
  cases i with
  | zero=>simp at hc;subst hc;exact⟨v,by simp,h1⟩
  | succ i=>simp at hc;simpa using bn.get h2 i c hc
theorem bn.drop {m:Mem}:∀ (k:Nat) {cs:List C} {vs:List Value},bn m cs vs→bn m (cs.drop k) (vs.drop k)
 | 0,cs,vs,h=>by simpa using h
 | k+1,[],vs,h=>by simp only[bn] at h;subst h;simp[bn]
 | k+1,c::cs,vs,h=>by
  simp only[bn] at h
  obtain⟨v,r,rfl,_,h2⟩:=h
  simpa using bn.drop k h2
theorem bn.take {m:Mem}:∀ (k:Nat) {cs:List C} {vs:List Value},bn m cs vs→bn m (cs.take k) (vs.take k)
 | 0,cs,vs,h=>by simp[bn]
 | k+1,[],vs,h=>by simp only[bn] at h;subst h;simp[bn]
 | k+1,c::cs,vs,h=>by
  simp only[bn] at h
  obtain⟨v,r,rfl,h1,h2⟩:=h
  simp only[List.take_succ_cons,bn]
  exact⟨v,r.take k,rfl,h1,bn.take k h2⟩
theorem bn.append {m:Mem}:∀ {cs ds:List C} {vs us:List Value},bn m cs vs→bn m ds us→bn m (cs++ds) (vs++us)
 | [],ds,vs,us,h,h'=>by simp only[bn] at h;subst h;simpa using h'
 | c::cs,ds,vs,us,h,h'=>by
  simp only[bn] at h
  obtain⟨v,r,rfl,h1,h2⟩:=h
  simp only[List.cons_append,bn]
  exact⟨v,r++us,rfl,h1,bn.append h2 h'⟩
abbrev Own:=Tk→Option (Value×Nat×Nat×Nat)
structure Know where
 m:Mem
 μ:Nat→Option Nat
mutual
def aF (k:Know) (ow:Own):X→Value→Prop
 | .of c,v=>Rep k.m c v
 | .nil,v=>v=.slice none 0 0
 | .own t e z cs n,v=>ow t=some (v,e,z,n)∧cs.length=n*z∧Rep k.m (.sl cs n) v
 | .ptr r off,v=>∃ b,k.μ r=some b∧v=.pointer (some ⟨b,off,none⟩)
 | .mp r,v=>∃ b,k.μ r=some b∧v=.map (some b)
 | .clo f caps,v=>∃ vs:List Value,v=.func (.func f) #[] vs.toArray∧aP k ow caps vs
 | .agg xs,v=>∃ vs:List Value,v=.agg vs.toArray∧(∀ u∈vs,u.oneCell'=true)∧aP k ow xs vs
 | .tup xs,v=>∃ vs:List Value,v=.tuple vs.toArray∧aP k ow xs vs
 | .nw none _ _,_=>True
 | .nw (some t) ty z,v=>∃ b,v=.pointer (some ⟨b,0,none⟩)∧ow t=some (.slice (some ⟨b,0,none⟩) 0 1,ty,z,0)
def aP (k:Know) (ow:Own):List X→List Value→Prop
 | [],vs=>vs=[]
 | x::xs,vs=>∃ v r,vs=v::r∧aF k ow x v∧aP k ow xs r
end
def Know.le (k k':Know):Prop:=k.m.le k'.m∧∀ r b,k.μ r=some b→k'.μ r=some b
theorem Know.le_refl (k:Know):k.le k:=⟨fun _ _ _ h=>h,fun _ _ h=>h⟩
theorem Know.le_trans {a b c:Know} (h:a.le b) (h':b.le c):a.le c:=⟨Mem.le_trans h.1 h'.1,fun _ _ x=>h'.2 _ _ (h.2 _ _ x)⟩
def Own.sub (ow ow':Own):Prop:=∀ t p,ow t=some p→ow' t=some p
theorem aF.mono {k k':Know} {ow ow':Own} (h:k.le k') (ho:ow.sub ow'):∀ (x:X) (v:Value),aF k ow x v→aF k' ow' x v :=
 X.rec (motive_1:=fun x=>∀ v,aF k ow x v→aF k' ow' x v) (motive_2:=fun xs=>∀ vs,aP k ow xs vs→aP k' ow' xs vs)
  (fun c v hh=>by simp only[aF] at hh ⊢;exact Rep.mono h.1 _ _ hh)
  (fun v hh=>by simpa only [aF] using hh)
  (fun t e z cs n v hh=>by simp only[aF] at hh ⊢;exact⟨ho _ _ hh.1,hh.2.1,Rep.mono h.1 _ _ hh.2.2⟩)
  (fun r off v hh=>by simp only[aF] at hh ⊢;obtain⟨b,hb,hv⟩:=hh;exact⟨b,h.2 _ _ hb,hv⟩)
  (fun r v hh=>by simp only[aF] at hh ⊢;obtain⟨b,hb,hv⟩:=hh;exact⟨b,h.2 _ _ hb,hv⟩)
  (fun f xs ih v hh=>by simp only[aF] at hh ⊢;obtain⟨vs,hv,hl⟩:=hh;exact⟨vs,hv,ih _ hl⟩)
  (fun xs ih v hh=>by simp only[aF] at hh ⊢;obtain⟨vs,hv,h1,hl⟩:=hh;exact⟨vs,hv,h1,ih _ hl⟩)
  (fun xs ih v hh=>by simp only[aF] at hh ⊢;obtain⟨vs,hv,hl⟩:=hh;exact⟨vs,hv,ih _ hl⟩)
  (fun o ty z v hh=>by
   cases o with
   | none=>simp[aF]
   | some t=>simp only[aF] at hh ⊢;obtain⟨b,hv,hl⟩:=hh;exact⟨b,hv,ho _ _ hl⟩)
  (fun vs hh=>by simpa only [aP] using hh)
  (fun x xs ih1 ih2 vs hh=>by simp only[aP] at hh ⊢;obtain⟨v,r,hv,h1,h2⟩:=hh;exact⟨v,r,hv,ih1 _ h1,ih2 _ h2⟩)
theorem aP.mono {k k':Know} {ow ow':Own} (h:k.le k') (ho:ow.sub ow'):∀ (xs:List X) (vs:List Value),aP k ow xs vs→aP k' ow' xs vs
 | [],vs,hh=>by simpa only [aP] using hh
 | x::xs,vs,hh=>by
  simp only[aP] at hh ⊢
  obtain⟨v,r,hv,h1,h2⟩:=hh
  exact⟨v,r,hv,aF.mono h ho _ _ h1,aP.mono h ho _ _ h2⟩
def Own.del (ow:Own) (t:Tk):Own:=fun t'=>if t'=t then none else ow t'
theorem aF.drop {k:Know} {ow:Own} (t:Tk):∀ (x:X) (v:Value),aF k ow x v→aF k (ow.del t) (x.drop t) v :=
 X.rec (motive_1:=fun x=>∀ v,aF k ow x v→aF k (ow.del t) (x.drop t) v) (motive_2:=fun xs=>∀ vs,aP k ow xs vs→aP k (ow.del t) (X.drops t xs) vs)
  (fun c v hh=>by simpa only [X.drop,aF] using hh)
  (fun v hh=>by simpa only [X.drop,aF] using hh)
  (fun t' e z cs n v hh=>by
   simp only[X.drop]
   split
   .simp only[aF] at hh ⊢;exact hh.2.2
   .rename_i hne
    simp only[aF] at hh ⊢
    exact⟨by simp only[Own.del,hne,if_false];exact hh.1,hh.2⟩)
  (fun r off v hh=>by simpa only [X.drop,aF] using hh)
  (fun r v hh=>by simpa only [X.drop,aF] using hh)
  (fun f xs ih v hh=>by simp only[X.drop,aF] at hh ⊢;obtain⟨vs,hv,hl⟩:=hh;exact⟨vs,hv,ih _ hl⟩)
  (fun xs ih v hh=>by simp only[X.drop,aF] at hh ⊢;obtain⟨vs,hv,h1,hl⟩:=hh;exact⟨vs,hv,h1,ih _ hl⟩)
  (fun xs ih v hh=>by simp only[X.drop,aF] at hh ⊢;obtain⟨vs,hv,hl⟩:=hh;exact⟨vs,hv,ih _ hl⟩)
  (fun o ty z v hh=>by
   cases o with
   | none=>simp[X.drop,aa3,aF]
   | some t' =>
    simp only[X.drop,aa3]
    split
    .simp[aF]
    .rename_i hne
     simp only[aF] at hh ⊢
     obtain⟨b,hv,hl⟩:=hh
     exact⟨b,hv,by simp only[Own.del,hne,if_false];exact hl⟩)
  (fun vs hh=>by simpa only [X.drops,aP] using hh)
  (fun x xs ih1 ih2 vs hh=>by simp only[X.drops,aP] at hh ⊢;obtain⟨v,r,hv,h1,h2⟩:=hh;exact⟨v,r,hv,ih1 _ h1,ih2 _ h2⟩)
theorem aP.drop {k:Know} {ow:Own} (t:Tk):∀ (xs:List X) (vs:List Value),aP k ow xs vs→aP k (ow.del t) (X.drops t xs) vs
 | [],vs,hh=>by simpa only [X.drops,aP] using hh
 | x::xs,vs,hh=>by
  simp only[X.drops,aP] at hh ⊢
  obtain⟨v,r,hv,h1,h2⟩:=hh
  exact⟨v,r,hv,aF.drop t _ _ h1,aP.drop t _ _ h2⟩
theorem aP.length {k:Know} {ow:Own}:∀ {xs:List X} {vs:List Value},aP k ow xs vs→vs.length=xs.length
 | [],vs,h=>by simp only[aP] at h;simp[h]
 | c::cs,vs,h=>by
  simp only[aP] at h
  obtain⟨v,r,rfl,_,h2⟩:=h
  simp[aP.length h2]
theorem aP.get {k:Know} {ow:Own}:∀ {xs:List X} {vs:List Value},aP k ow xs vs→∀ (i:Nat) (x:X),xs[i]?=some x→∃ v,vs[i]?=some v∧aF k ow x v
 | [],vs,h,i,c,hc=>by simp at hc
 | d::cs,vs,h,i,c,hc=>by
  simp only[aP] at h
  obtain⟨v,r,rfl,h1,h2⟩:=h
  cases i with
  | zero=>simp at hc;subst hc;exact⟨v,by simp,h1⟩
  | succ i=>simp at hc;simpa using aP.get h2 i c hc
theorem aP.dropN {k:Know} {ow:Own}:∀ (n:Nat) {xs:List X} {vs:List Value},aP k ow xs vs→aP k ow (xs.drop n) (vs.drop n)
 | 0,cs,vs,h=>by simpa using h
 | n+1,[],vs,h=>by simp only[aP] at h;subst h;simp[aP]
 | n+1,c::cs,vs,h=>by
  simp only[aP] at h
  obtain⟨v,r,rfl,_,h2⟩:=h
  simpa using aP.dropN n h2
theorem aP.takeN {k:Know} {ow:Own}:∀ (n:Nat) {xs:List X} {vs:List Value},aP k ow xs vs→aP k ow (xs.take n) (vs.take n)
 | 0,cs,vs,h=>by simp[aP]
 | n+1,[],vs,h=>by simp only[aP] at h;subst h;simp[aP]
 | n+1,c::cs,vs,h=>by
  simp only[aP] at h
  obtain⟨v,r,rfl,h1,h2⟩:=h
  simp only[List.take_succ_cons,aP]
  exact⟨v,r.take n,rfl,h1,aP.takeN n h2⟩
theorem aP.append {k:Know} {ow:Own}:∀ {cs ds:List X} {vs us:List Value},aP k ow cs vs→aP k ow ds us→aP k ow (cs++ds) (vs++us)
 | [],ds,vs,us,h,h'=>by simp only[aP] at h;subst h;simpa using h'
 | c::cs,ds,vs,us,h,h'=>by
  simp only[aP] at h
  obtain⟨v,r,rfl,h1,h2⟩:=h
  simp only[List.cons_append,aP]
  exact⟨v,r++us,rfl,h1,aP.append h2 h'⟩
theorem aP.of {k:Know} {ow:Own}:∀ {cs:List C} {vs:List Value},bn k.m cs vs→aP k ow (cs.map .of) vs
 | [],vs,h=>by simpa [bn,aP] using h
 | c::cs,vs,h=>by
  simp only[bn] at h
  obtain⟨v,r,rfl,h1,h2⟩:=h
  simp only[List.map_cons,aP,aF]
  exact⟨v,r,rfl,h1,aP.of h2⟩
theorem aaW {k:Know} {ow:Own}:∀ (x:X) (c:C) (v:Value),x.rd=some c→aF k ow x v→Rep k.m c v :=
 X.rec (motive_1:=fun x=>∀ c v,x.rd=some c→aF k ow x v→Rep k.m c v) (motive_2:=fun xs=>∀ cs vs,X.rds xs=some cs→aP k ow xs vs→bn k.m cs vs)
  (fun c c' v hr hh=>by simp only[X.rd,Option.some.injEq] at hr;subst hr;simpa only [aF] using hh)
  (fun c' v hr hh=>by
   simp only[X.rd,Option.some.injEq] at hr
   subst hr
   simp only[aF] at hh
   subst hh
   simp only[Rep]
   exact⟨none,0,[],rfl,Nat.le_refl _,by simp[bn],fun h=>absurd rfl h⟩)
  (fun t e z cs n c' v hr hh=>by
   simp only[X.rd,Option.some.injEq] at hr
   subst hr
   simp only[aF] at hh
   exact hh.2.2)
  (fun r off c' v hr hh=>by simp[X.rd] at hr)
  (fun r c' v hr hh=>by simp[X.rd] at hr)
  (fun f xs ih c' v hr hh=>by simp[X.rd] at hr)
  (fun xs ih c' v hr hh=>by
   simp only[X.rd,Option.map_eq_some_iff] at hr
   obtain⟨cs,hcs,rfl⟩:=hr
   simp only[aF] at hh
   obtain⟨vs,rfl,h1,hl⟩:=hh
   simp only[Rep]
   exact⟨vs,rfl,h1,ih _ _ hcs hl⟩)
  (fun xs ih c' v hr hh=>by simp[X.rd] at hr)
  (fun t ty z c' v hr hh=>by simp[X.rd] at hr)
  (fun cs vs hr hh=>by
   simp only[X.rds,Option.some.injEq] at hr
   subst hr
   simpa only [aP,bn] using hh)
  (fun x xs ih1 ih2 cs vs hr hh=>by
   simp only[X.rds] at hr
   split at hr
   .rename_i c cs' h1 h2
    simp only[Option.some.injEq] at hr
    subst hr
    simp only[aP] at hh
    obtain⟨v,r,rfl,hv,hl⟩:=hh
    simp only[bn]
    exact⟨v,r,rfl,ih1 _ _ h1 hv,ih2 _ _ h2 hl⟩
   .cases hr)
theorem agl {k:Know} {ow:Own}:∀ (xs:List X) (cs:List C) (vs:List Value),X.rds xs=some cs→aP k ow xs vs→bn k.m cs vs
 | [],cs,vs,hr,hh=>by
  simp only[X.rds,Option.some.injEq] at hr
  subst hr
  simpa only [aP,bn] using hh
 | x::xs,cs,vs,hr,hh=>by
  simp only[X.rds] at hr
  split at hr
  .rename_i c cs' h1 h2
   simp only[Option.some.injEq] at hr
   subst hr
   simp only[aP] at hh
   obtain⟨v,r,rfl,hv,hl⟩:=hh
   simp only[bn]
   exact⟨v,r,rfl,aaW _ _ _ h1 hv,agl _ _ _ h2 hl⟩
  .cases hr
theorem ab5 {k:Know} {ow:Own} {x:X} {xs:List X} {v:Value} (hc:bQ x=some xs) (h:aF k ow x v) :
  aP k ow xs v.cells.toList∧∀ u∈v.cells.toList,u.oneCell'=true:=by
 have single:∀ (x:X),aF k ow x v→v.oneCell'=true→aP k ow [x] v.cells.toList∧∀ u∈v.cells.toList,u.oneCell'=true:=by
  intro x hx h1
  have:v.cells=#[v]:=by cases v <;> simp_all [Value.cells,Value.oneCell']
  rw[this]
  simp only[aP]
  exact⟨⟨v,[],rfl,hx,rfl⟩,by simpa using h1⟩
 cases x with
 | of c =>
  cases c with
  | any=>simp[bQ] at hc
  | undef=>simp[bQ] at hc
  | tup cs=>simp[bQ] at hc
  | agg cs =>
   simp only[bQ,Option.some.injEq] at hc
   subst hc
   simp only[aF,Rep] at h
   obtain⟨vs,rfl,h1,hl⟩:=h
   exact⟨by simpa [Value.cells] using aP.of hl,by simpa [Value.cells] using h1⟩
  | ifc t c =>
   simp only[bQ,Option.some.injEq] at hc
   subst hc
   exact single _ h (by simp only[aF,Rep] at h;obtain⟨u,rfl,_⟩:=h;rfl)
  | lit u =>
   simp only[bQ,Option.some.injEq] at hc
   subst hc
   exact single _ h (by simp only[aF,Rep] at h;rw[h.1];exact h.2)
  | sl cs n =>
   simp only[bQ,Option.some.injEq] at hc
   subst hc
   exact single _ h (by simp only[aF,Rep] at h;obtain⟨a,cap,vs,rfl,_⟩:=h;rfl)
  | ref cs =>
   simp only[bQ,Option.some.injEq] at hc
   subst hc
   exact single _ h (by simp only[aF,Rep] at h;obtain⟨a,cap,vs,rfl,_⟩:=h;rfl)
  | fn f cs =>
   simp only[bQ,Option.some.injEq] at hc
   subst hc
   exact single _ h (by simp only[aF,Rep] at h;obtain⟨vs,rfl,_⟩:=h;rfl)
 | nil =>
  simp only[bQ,Option.some.injEq] at hc
  subst hc
  exact single _ h (by simp only[aF] at h;subst h;rfl)
 | own t e z cs n =>
  simp only[bQ,Option.some.injEq] at hc
  subst hc
  exact single _ h (by simp only[aF,Rep] at h;obtain⟨_,_,a,cap,vs,rfl,_⟩:=h;rfl)
 | ptr r off =>
  simp only[bQ,Option.some.injEq] at hc
  subst hc
  exact single _ h (by simp only[aF] at h;obtain⟨b,_,rfl⟩:=h;rfl)
 | mp r =>
  simp only[bQ,Option.some.injEq] at hc
  subst hc
  exact single _ h (by simp only[aF] at h;obtain⟨b,_,rfl⟩:=h;rfl)
 | clo f caps =>
  simp only[bQ,Option.some.injEq] at hc
  subst hc
  exact single _ h (by simp only[aF] at h;obtain⟨b,rfl,_⟩:=h;rfl)
 | agg xs =>
  simp only[bQ,Option.some.injEq] at hc
  subst hc
  simp only[aF] at h
  obtain⟨vs,rfl,h1,hl⟩:=h
  exact⟨by simpa [Value.cells] using hl,by simpa [Value.cells] using h1⟩
 | tup xs=>simp[bQ] at hc
 | nw t ty z=>simp[bQ] at hc
structure Ren (σ:Nat→Option Nat) (ρ:Tk→Option Tk) (k k':Know) (ow ow':Own):Prop where
 m:k.m.le k'.m
 μ:∀ r b r',k.μ r=some b→σ r=some r'→k'.μ r'=some b
 ow:∀ t p t',ow t=some p→ρ t=some t'→ow' t'=some p
theorem aF.tr {σ:Nat→Option Nat} {ρ:Tk→Option Tk} {k k':Know} {ow ow':Own} (h:Ren σ ρ k k' ow ow'):∀ (x:X) (v:Value),aF k ow x v→aF k' ow' (x.tr σ ρ) v :=
 X.rec (motive_1:=fun x=>∀ v,aF k ow x v→aF k' ow' (x.tr σ ρ) v) (motive_2:=fun xs=>∀ vs,aP k ow xs vs→aP k' ow' (X.trs σ ρ xs) vs)
  (fun c v hh=>by simp only[aF,X.tr] at hh ⊢;exact Rep.mono h.m _ _ hh)
  (fun v hh=>by simpa only [aF,X.tr] using hh)
  (fun t e z cs n v hh=>by
   simp only[aF,X.tr] at hh ⊢
   split
   .rename_i t' ht
    simp only[aF]
    exact⟨h.ow _ _ _ hh.1 ht,hh.2.1,Rep.mono h.m _ _ hh.2.2⟩
   .simp only[aF];exact Rep.mono h.m _ _ hh.2.2)
  (fun r off v hh=>by
   simp only[aF,X.tr] at hh ⊢
   obtain⟨b,hb,hv⟩:=hh
   split
   .rename_i r' hr;simp only[aF];exact⟨b,h.μ _ _ _ hb hr,hv⟩
   .simp[aF,Rep])
  (fun r v hh=>by
   simp only[aF,X.tr] at hh ⊢
   obtain⟨b,hb,hv⟩:=hh
   split
   .rename_i r' hr;simp only[aF];exact⟨b,h.μ _ _ _ hb hr,hv⟩
   .simp[aF,Rep])
  (fun f xs ih v hh=>by simp only[aF,X.tr] at hh ⊢;obtain⟨vs,hv,hl⟩:=hh;exact⟨vs,hv,ih _ hl⟩)
  (fun xs ih v hh=>by simp only[aF,X.tr] at hh ⊢;obtain⟨vs,hv,h1,hl⟩:=hh;exact⟨vs,hv,h1,ih _ hl⟩)
  (fun xs ih v hh=>by simp only[aF,X.tr] at hh ⊢;obtain⟨vs,hv,hl⟩:=hh;exact⟨vs,hv,ih _ hl⟩)
  (fun o ty z v hh=>by
   cases o with
   | none=>simp[X.tr,aF]
   | some t =>
    simp only[aF] at hh
    obtain⟨b,hv,hl⟩:=hh
    show aF k' ow' (.nw (ρ t) ty z) v
    cases ht:ρ t with
    | none=>simp[aF]
    | some t'=>simp only[aF];exact⟨b,hv,h.ow _ _ _ hl ht⟩)
  (fun vs hh=>by simpa only [aP,X.trs] using hh)
  (fun x xs ih1 ih2 vs hh=>by simp only[aP,X.trs] at hh ⊢;obtain⟨v,r,hv,h1,h2⟩:=hh;exact⟨v,r,hv,ih1 _ h1,ih2 _ h2⟩)
theorem aP.tr {σ:Nat→Option Nat} {ρ:Tk→Option Tk} {k k':Know} {ow ow':Own} (h:Ren σ ρ k k' ow ow'):∀ (xs:List X) (vs:List Value),aP k ow xs vs→aP k' ow' (X.trs σ ρ xs) vs
 | [],vs,hh=>by simpa only [aP,X.trs] using hh
 | x::xs,vs,hh=>by
  simp only[aP,X.trs] at hh ⊢
  obtain⟨v,r,hv,h1,h2⟩:=hh
  exact⟨v,r,hv,aF.tr h _ _ h1,aP.tr h _ _ h2⟩
theorem aac {α:Type} [DecidableEq α]:∀ {l:List α} {a:α} {i:Nat},pos l a=some i→l[i]?=some a
 | [],a,i,h=>by simp[pos] at h
 | b::l,a,i,h=>by
  simp only[pos] at h
  split at h
  .rename_i e
   simp only[Option.some.injEq] at h
   subst h;subst e
   rfl
  .simp only[Option.map_eq_some_iff] at h
   obtain⟨j,hj,rfl⟩:=h
   simpa using aac hj
theorem aj2 {α:Type} [DecidableEq α]:∀ {l:List α} {a:α},pos l a=none→a∉l
 | [],a,_=>by simp
 | b::l,a,h=>by
  simp only[pos] at h
  split at h
  .cases h
  .rename_i e
   simp only[Option.map_eq_none_iff] at h
   have:=aj2 h
   simp only[List.mem_cons,not_or]
   exact⟨fun e'=>e e'.symm,this⟩
theorem aeP {α:Type} [DecidableEq α]:∀ (l seen:List α),seen.Nodup→(nub l seen).Nodup
 | [],seen,h=>h
 | a::l,seen,h=>by
  simp only[nub]
  split
  .exact aeP l seen h
  .rename_i hn
   refine aeP l _ ?_
   rw[List.nodup_append]
   exact⟨h,by simp,fun x hx y hy=>by simp at hy;subst hy;exact fun e=>hn (e▸hx)⟩
theorem acU (objs:List Ob):∀ (n:Nat) (todo seen:List Nat),seen.Nodup→(fM objs n todo seen).Nodup
 | 0,_,seen,h=>h
 | _+1,[],seen,h=>h
 | n+1,r::todo,seen,h=>by
  simp only[fM]
  split
  .exact acU objs n todo seen h
  .rename_i hn
   refine acU objs n _ _ ?_
   rw[List.nodup_append]
   exact⟨h,by simp,fun x hx y hy=>by simp at hy;subst hy;exact fun e=>hn (e▸hx)⟩
theorem ae6 (objs:List Ob):∀ (n:Nat) (todo seen:List Nat),∃ q,fM objs n todo seen=seen++q
 | 0,_,seen=>⟨[],by simp[fM]⟩
 | _+1,[],seen=>⟨[],by simp[fM]⟩
 | n+1,r::todo,seen=>by
  simp only[fM]
  split
  .exact ae6 objs n todo seen
  .obtain⟨q,hq⟩:=ae6 objs n (((objs[r]?).map Ob.refs).getD []++todo) (seen++[r])
   exact⟨r::q,by rw[hq];simp⟩
structure GP where
 holds:World→Prop
 blk:Nat→Prop
 keep:∀ w w',holds w→(∀ b,blk b→w'.heap[b]?=w.heap[b]?)→holds w'
structure Base where
 G:GP
 m:Mem
 mod:Nat→Prop
structure Keeps (M:Nat→Prop) (w w':World):Prop where
 os:w'.os=w.os
 tape:w'.tape=w.tape
 output:w'.output=w.output
 size:w.heap.size≤w'.heap.size
 block:∀ b,b<w.heap.size→¬ M b→w'.heap[b]?=w.heap[b]?
theorem Keeps.refl (M:Nat→Prop) (w:World):Keeps M w w:=⟨rfl,rfl,rfl,Nat.le_refl _,fun _ _ _=>rfl⟩
theorem Keeps.trans {M:Nat→Prop} {a b c:World} (h:Keeps M a b) (h':Keeps M b c):Keeps M a c :=
 ⟨h'.os.trans h.os,h'.tape.trans h.tape,h'.output.trans h.output,Nat.le_trans h.size h'.size,fun x hx hm=>(h'.block x (Nat.lt_of_lt_of_le hx h.size) hm).trans (h.block x hx hm)⟩
theorem Keeps.below {M:Nat→Prop} {w w':World} (h:Below w.heap.size w w'):Keeps M w w':=⟨h.os,h.tape,h.output,h.size,fun b hb _=>h.block b hb⟩
def acM (M:Nat→Prop) (w0:World) (b:Nat):Prop:=w0.heap.size≤b∨M b
def j9 (k:Know) (ow:Own) (w:World) (b:Nat):Ob→Prop
 | .var ty xs=>∃ (vs:List Value),w.heap[b]?=some (.cells vs.toArray ty (0,0))∧(∀ u∈vs,u.oneCell'=true)∧aP k ow xs vs
 | .map es=>∃ (ms:Array MapEntry) (cl:Nat),w.heap[b]?=some (.map ms cl)∧ms.toList.map (·.key)=es.map (·.1)∧bn k.m (es.map (·.2)) (ms.toList.map (·.val))
structure Hp (M0:Base) (k:Know) (ow:Own) (w0 w:World) (objs:List Ob):Prop where
 good:M0.G.holds w0∧∀ b,M0.G.blk b→b<w0.heap.size∧¬ M0.mod b
 below:Keeps M0.mod w0 w
 mem:∀ b o v,k.m b o=some v→w.cell? ⟨b,o,none⟩=some v∧v.oneCell'=true
 obj:∀ r ob,objs[r]?=some ob→∃ b,k.μ r=some b∧acM M0.mod w0 b∧b<w.heap.size∧(∀ o,k.m b o=none)∧j9 k ow w b ob
 dom:∀ r b,k.μ r=some b→r<objs.length
 inj:∀ r r' b,k.μ r=some b→k.μ r'=some b→r=r'
 tok:∀ t v e z n,ow t=some (v,e,z,n)→(∃ xs,w.ownsRow 0 e z v n xs)∧∀ g,v.ownBlock=some g→acM M0.mod w0 g∧(∀ o,n*z≤o→k.m g o=none)∧∀ r,k.μ r≠some g
 tokne:∀ t t' v e z n v' e' z' n',ow t=some (v,e,z,n)→ow t'=some (v',e',z',n')→t≠t'→∀ g,v.ownBlock=some g→v'.ownBlock≠some g
 m0:∀ b o v,k.m b o=some v→b<w0.heap.size→¬ M0.mod b→M0.m b o=some v
def Tk.older (clk:Nat) (done:Nat→Prop):Tk→Prop
 | .nm c ix _=>c<clk∨(c=clk∧done ix)
 | .cell ..=>True
structure Sim (M0:Base) (k:Know) (ow:Own) (done:Nat→Prop) (w0 w:World) (N:Nat) (s:S) (tmps:Array Value):Prop extends Hp M0 k ow w0 w s.objs where
 size:tmps.size=N
 fr:∀ j,aF k ow (s.fr j) (tmps.getD j undef)
 fresh:∀ t p,ow t=some p→t.older s.clk done
 cells:∀ r off p,ow (.cell r off)=some p→r<s.objs.length
theorem ahM {k:Know} {w:World} (h:∀ b o v,k.m b o=some v→w.cell? ⟨b,o,none⟩=some v∧v.oneCell'=true) {b o:Nat} {v:Value} (hm:k.m b o=some v):b<w.heap.size :=
 World.block_lt_of_cell? (a:=⟨b,o,none⟩) w (h _ _ _ hm).1
theorem aaI {w w':World} {B e z:Nat} {v:Value} {n:Nat} {xs:List Value} (h:∀ g,v.ownBlock=some g→g<w.heap.size→w'.heap[g]?=w.heap[g]?) (ho:w.ownsRow B e z v n xs):w'.ownsRow B e z v n xs:=by
 refine⟨ho.1,?_⟩
 rcases ho.2 with h2|⟨g,cap,cur,hv,hg,hh,r⟩
 .exact .inl h2
 .exact .inr ⟨g,cap,cur,hv,hg,by rw[h g (by rw[hv];rfl) (Array.getElem?_eq_some_iff.1 hh).1];exact hh,r⟩
theorem ayQ {w:World} {B e z:Nat} {v:Value} {n:Nat} {xs:List Value} (ho:w.ownsRow B e z v n xs) {g:Nat} (hg:v.ownBlock=some g):g<w.heap.size:=(ho.lt g hg).2
theorem j9.keep {k:Know} {ow:Own} {w w':World} {b:Nat} {ob:Ob} (hb:w'.heap[b]?=w.heap[b]?) (h:j9 k ow w b ob):j9 k ow w' b ob:=by
 cases ob <;> simpa only [j9,hb] using h
theorem j9.mono {k k':Know} {ow ow':Own} {w:World} {b:Nat} {ob:Ob} (hk:k.le k') (ho:ow.sub ow') (h:j9 k ow w b ob):j9 k' ow' w b ob:=by
 cases ob with
 | var ty xs =>
  obtain⟨vs,h1,h2,h3⟩:=h
  exact⟨vs,h1,h2,aP.mono hk ho _ _ h3⟩
 | map es =>
  obtain⟨ms,cl,h1,h2,h3⟩:=h
  exact⟨ms,cl,h1,h2,bn.mono hk.1 _ _ h3⟩
theorem j9.tr {σ:Nat→Option Nat} {ρ:Tk→Option Tk} {k k':Know} {ow ow':Own} (hn:Ren σ ρ k k' ow ow') {w:World} {b:Nat} {ob:Ob} (h:j9 k ow w b ob):j9 k' ow' w b (ob.tr σ ρ):=by
 cases ob with
 | var ty xs =>
  obtain⟨vs,h1,h2,h3⟩:=h
  exact⟨vs,h1,h2,aP.tr hn _ _ h3⟩
 | map es =>
  obtain⟨ms,cl,h1,h2,h3⟩:=h
  exact⟨ms,cl,h1,h2,bn.mono hn.m _ _ h3⟩
theorem j9.drop {k:Know} {ow:Own} {w:World} {b:Nat} {ob:Ob} (t:Tk) (h:j9 k ow w b ob):j9 k (ow.del t) w b (ob.drop t):=by
 cases ob with
 | var ty xs =>
  obtain⟨vs,h1,h2,h3⟩:=h
  exact⟨vs,h1,h2,aP.drop t _ _ h3⟩
 | map es=>exact h
section
variable {M0:Base} {k:Know} {ow:Own} {done:Nat→Prop} {w0 w w':World} {N:Nat} {s:S} {tmps:Array Value} {objs:List Ob}
theorem Hp.lt (h:Hp M0 k ow w0 w objs) {r b:Nat} (hr:k.μ r=some b):acM M0.mod w0 b∧b<w.heap.size∧∀ o,k.m b o=none:=by
 obtain⟨b',h2,h3,h4,h5,_⟩:=h.obj r _ (List.getElem?_eq_getElem (h.dom r b hr))
 obtain rfl:=Option.some.inj (h2.symm.trans hr)
 exact⟨h3,h4,h5⟩
theorem Hp.tlt (h:Hp M0 k ow w0 w objs) {t:Tk} {v:Value} {e z n:Nat} (ht:ow t=some (v,e,z,n)) {g:Nat} (hg:v.ownBlock=some g):acM M0.mod w0 g∧g<w.heap.size:=by
 obtain⟨⟨xs,h1⟩,h2⟩:=h.tok t v e z n ht
 exact⟨(h2 g hg).1,ayQ h1 hg⟩
theorem Hp.table (h:Hp M0 k ow w0 w objs):M0.G.holds w:=M0.G.keep w0 w h.good.1 fun b hb=>h.below.block b (h.good.2 b hb).1 (h.good.2 b hb).2
theorem Hp.grow (h:Hp M0 k ow w0 w objs) (hb:Below w.heap.size w w'):Hp M0 k ow w0 w' objs where
 good:=h.good
 below:=h.below.trans (.below hb)
 mem:=fun b o v hm=>by
  obtain⟨h1,h2⟩:=h.mem b o v hm
  exact⟨(hb.cell (p:=⟨b,o,none⟩) (ahM h.mem hm)).trans h1,h2⟩
 obj:=fun r ob hr=>by
  obtain⟨b,h1,h2,h3,h4,h5⟩:=h.obj r ob hr
  exact⟨b,h1,h2,Nat.lt_of_lt_of_le h3 hb.size,h4,h5.keep (hb.block b h3)⟩
 dom:=h.dom
 inj:=h.inj
 tok:=fun t v e z n ht=>by
  obtain⟨⟨xs,h1⟩,h2⟩:=h.tok t v e z n ht
  exact⟨⟨xs,aaI (fun g _ hg=>hb.block g hg) h1⟩,h2⟩
 tokne:=h.tokne
 m0:=h.m0
theorem Sim.grow (h:Sim M0 k ow done w0 w N s tmps) (hb:Below w.heap.size w w'):Sim M0 k ow done w0 w' N s tmps :=
 {h.toHp.grow hb with size:=h.size,fr:=h.fr,fresh:=h.fresh,cells:=h.cells}
theorem Sim.put (h:Sim M0 k ow done w0 w N s tmps) (d:Option Nat) (hd:∀ j,d=some j→j<N) {x:X} {v:Value} (hx:aF k ow x v) :
  Sim M0 k ow done w0 w N (s.put d x) (Act.put ⟨tmps,[]⟩ d v).tmps:=by
 cases d with
 | none=>exact h
 | some d =>
  have hlt:=hd d rfl
  refine {h.toHp with size:=by simp[Act.put,h.size],fr:=fun j=>?_,fresh:=h.fresh,cells:=h.cells}
  simp only[S.put,upd,Act.put]
  by_cases hj:j=d
  .subst hj
   simp only[if_true]
   have:(tmps.setIfInBounds j v).getD j undef=v:=by simp[h.size,hlt]
   rw[this]
   exact hx
  .rw[if_neg hj]
   have:(tmps.setIfInBounds d v).getD j undef=tmps.getD j undef:=by
    simp[Array.getElem?_setIfInBounds_ne (Ne.symm hj)]
   rw[this]
   exact h.fr j
theorem Sim.del (h:Sim M0 k ow done w0 w N s tmps) (t:Tk):Sim M0 k (ow.del t) done w0 w N (s.drop (some t)) tmps where
 good:=h.good
 size:=h.size
 below:=h.below
 fr:=fun j=>aF.drop t _ _ (h.fr j)
 mem:=h.mem
 obj:=fun r ob hr=>by
  simp only[S.drop,List.getElem?_map,Option.map_eq_some_iff] at hr
  obtain⟨ob',h1,rfl⟩:=hr
  obtain⟨b,h2,h3,h4,h5,h6⟩:=h.obj r ob' h1
  exact⟨b,h2,h3,h4,h5,h6.drop t⟩
 dom:=fun r b hr=>by simpa [S.drop] using h.dom r b hr
 inj:=h.inj
 tok:=fun t' v e z n ht=>by
  simp only[Own.del] at ht
  split at ht
  .cases ht
  .exact h.tok t' v e z n ht
 tokne:=fun t t' v e z n v' e' z' n' ht ht'=>by
  simp only[Own.del] at ht ht'
  split at ht
  .cases ht
  .split at ht'
   .cases ht'
   .exact h.tokne t t' v e z n v' e' z' n' ht ht'
 fresh:=fun t' p ht=>by
  simp only[Own.del] at ht
  split at ht
  .cases ht
  .exact h.fresh t' p ht
 cells:=fun r off p ht=>by
  simp only[Own.del] at ht
  split at ht
  .cases ht
  .simpa [S.drop] using h.cells r off p ht
 m0:=h.m0
def Own.add (ow:Own) (t:Tk) (p:Value×Nat×Nat×Nat):Own:=fun t'=>if t'=t then some p else ow t'
theorem Own.sub_add {ow:Own} {t:Tk} {p:Value×Nat×Nat×Nat} (h:ow t=none):ow.sub (ow.add t p):=fun t' q hq=>by
 simp only[Own.add]
 split
 .rename_i e;subst e;rw[h] at hq;cases hq
 .exact hq
theorem Sim.add (h:Sim M0 k ow done w0 w N s tmps) {c ix i:Nat} {v:Value} {e z n:Nat} {xs:List Value} (hn:ow (.nm c ix i)=none)
  (hrow:w.ownsRow 0 e z v n xs) (hm:∀ g,v.ownBlock=some g→acM M0.mod w0 g∧(∀ o,n*z≤o→k.m g o=none)∧∀ r,k.μ r≠some g)
  (hne:∀ t' v' e' z' n',ow t'=some (v',e',z',n')→∀ g,v.ownBlock=some g→v'.ownBlock≠some g)
  (hf:c<s.clk∨(c=s.clk∧done ix)):Sim M0 k (ow.add (.nm c ix i) (v,e,z,n)) done w0 w N s tmps where
 good:=h.good
 size:=h.size
 below:=h.below
 fr:=fun j=>aF.mono (Know.le_refl k) (Own.sub_add hn) _ _ (h.fr j)
 mem:=h.mem
 obj:=fun r ob hr=>by
  obtain⟨b,h2,h3,h4,h5,h6⟩:=h.obj r ob hr
  exact⟨b,h2,h3,h4,h5,h6.mono (Know.le_refl k) (Own.sub_add hn)⟩
 dom:=h.dom
 inj:=h.inj
 tok:=fun t' v' e' z' n' ht=>by
  simp only[Own.add] at ht
  split at ht
  .simp only[Option.some.injEq,Prod.mk.injEq] at ht
   obtain⟨rfl,rfl,rfl,rfl⟩:=ht
   exact⟨⟨xs,hrow⟩,hm⟩
  .exact h.tok t' v' e' z' n' ht
 tokne:=fun t1 t2 v1 e1 z1 n1 v2 e2 z2 n2 h1 h2 hne' g hg hg'=>by
  simp only[Own.add] at h1 h2
  split at h1
  .rename_i e1'
   simp only[Option.some.injEq,Prod.mk.injEq] at h1
   obtain⟨rfl,rfl,rfl,rfl⟩:=h1
   split at h2
   .rename_i e2';exact hne' (e1'.trans e2'.symm)
   .exact hne _ _ _ _ _ h2 g hg hg'
  .split at h2
   .simp only[Option.some.injEq,Prod.mk.injEq] at h2
    obtain⟨rfl,rfl,rfl,rfl⟩:=h2
    exact hne _ _ _ _ _ h1 g hg' hg
   .exact h.tokne t1 t2 _ _ _ _ _ _ _ _ h1 h2 hne' g hg hg'
 fresh:=fun t' p ht=>by
  simp only[Own.add] at ht
  split at ht
  .rename_i e1;subst e1;exact hf
  .exact h.fresh t' p ht
 cells:=fun r off p ht=>by
  simp only[Own.add] at ht
  split at ht
  .rename_i e1;cases e1
  .exact h.cells r off p ht
 m0:=h.m0
theorem Sim.more (h:Sim M0 k ow done w0 w N s tmps) {done':Nat→Prop} (hd:∀ i,done i→done' i):Sim M0 k ow done' w0 w N s tmps :=
 {h.toHp with
  size:=h.size
  fr:=h.fr
  cells:=h.cells
  fresh:=fun t p ht=>by
   have:=h.fresh t p ht
   cases t with
   | nm c ix i=>exact this.imp id (fun⟨a,b⟩=>⟨a,hd _ b⟩)
   | cell r off=>trivial}
theorem Sim.tick (h:Sim M0 k ow done w0 w N s tmps):Sim M0 k ow (fun _=>False) w0 w N {s with clk:=s.clk+1} tmps :=
 {h.toHp with
  size:=h.size
  fr:=h.fr
  cells:=h.cells
  fresh:=fun t p ht=>by
   have:=h.fresh t p ht
   cases t with
   | nm c ix i =>
    refine .inl ?_
    rcases this with h|⟨h,_⟩ <;> simp only[] <;> omega
   | cell r off=>trivial}
theorem anV (k:Know) (ow:Own) (v:Value):aF k ow (iV v) v:=by
 unfold iV
 split <;> simp[aF,Rep,bn,Value.oneCell']
theorem Sim.ev (h:Sim M0 k ow done w0 w N s tmps) (x:Operand):aF k ow (s.ev x) ((⟨tmps,[]⟩ : Act).eval x):=by
 cases x with
 | tmp t=>exact h.fr t
 | const v=>exact anV k ow v
 | func f=>simp[S.ev,Act.eval,aF,Rep,bn]
 | global g=>simp[S.ev,aF,Rep]
def Own.re (ρ:Tk→Option Tk) (ow ow':Own):Prop :=
 (∀ t p t',ow t=some p→ρ t=some t'→ow' t'=some p)∧(∀ t' p,ow' t'=some p→∃ t,ow t=some p∧ρ t=some t')
theorem Sim.tr (h:Sim M0 k ow done w0 w N s tmps) {ρ:Tk→Option Tk} {ow':Own} (hr:ow.re ρ ow') (hf:∀ t p,ow' t=some p→t.older s.clk done) (hc:∀ r off p,ow' (.cell r off)=some p→r<s.objs.length) :
  Sim M0 k ow' done w0 w N (s.tr ρ) tmps :=
 have hn:Ren some ρ k k ow ow':=⟨fun _ _ _ h=>h,fun r b r' hr he=>by cases he;exact hr,hr.1⟩
 {good:=h.good
  size:=h.size
  below:=h.below
  fr:=fun j=>aF.tr hn _ _ (h.fr j)
  mem:=h.mem
  obj:=fun r ob hr=>by
   simp only[S.tr,List.getElem?_map,Option.map_eq_some_iff] at hr
   obtain⟨ob',h1,rfl⟩:=hr
   obtain⟨b,h2,h3,h4,h5,h6⟩:=h.obj r ob' h1
   exact⟨b,h2,h3,h4,h5,h6.tr hn⟩
  dom:=fun r b hr=>by simpa [S.tr] using h.dom r b hr
  inj:=h.inj
  tok:=fun t' v e z n ht=>by
   obtain⟨t,g1,_⟩:=hr.2 _ _ ht
   exact h.tok t v e z n g1
  tokne:=fun t t' v e z n v' e' z' n' ht ht' hne=>by
   obtain⟨a,g1,g2⟩:=hr.2 _ _ ht
   obtain⟨b,g3,g4⟩:=hr.2 _ _ ht'
   exact h.tokne a b v e z n v' e' z' n' g1 g3 (fun e=>hne (by subst e;rw[g2] at g4;exact Option.some.inj g4))
  fresh:=hf
  cells:=fun r off p ht=>by simpa [S.tr] using hc r off p ht
  m0:=h.m0}
end
structure TD.Ok (P:Program) (t:Nat) (d:TD):Prop where
 und:P.underlying t=some d.und
 info:∃ i,P.info? t=some i∧i.size=d.size∧i.bytes=d.bytes∧∃ z,i.zero=some z∧z.cells.toList=d.zero∧ahV z=ahW d.und
 agg:d.agg=ahW d.und
 one:∀ u∈d.zero,u.oneCell'=true
 len:d.zero.length=d.size
 fields:fieldsOf P d.und=some d.fields
theorem TT.of_ok {P:Program} {t:Nat} {d:TD} (h:TT.of P t=some d):TD.Ok P t d:=by
 unfold TT.of at h
 split at h
 .rename_i u i hu hi
  split at h
  .rename_i z fl hz hfl
   split at h
   .rename_i hc
    simp only[Option.some.injEq] at h
    subst h
    simp only[Bool.and_eq_true,List.all_eq_true,beq_iff_eq] at hc
    exact⟨hu,⟨i,hi,rfl,rfl,z,hz,rfl,hc.2⟩,rfl,hc.1.1,by simpa using hc.1.2,hfl⟩
   .cases h
  .cases h
 .cases h
theorem TD.Ok.run_und {P:Program} {t:Nat} {d:TD} (h:TD.Ok P t d) (w:World):(underlying t).run P w=.ok d.und w:=run_underlying h.und w
theorem TD.Ok.run_size {P:Program} {t:Nat} {d:TD} (h:TD.Ok P t d) (w:World):(sizeOf t).run P w=.ok d.size w:=by
 obtain⟨i,hi,hs,_⟩:=h.info
 simp[sizeOf,typeInfo,hi,hs]
theorem TD.Ok.run_isAgg {P:Program} {t:Nat} {d:TD} (h:TD.Ok P t d) (w:World):(isAgg t).run P w=.ok d.agg w:=by
 unfold isAgg
 rw[Sem.run_bind,h.run_und,Result.andThen_ok,h.agg]
 unfold ahW
 split <;> simp_all
theorem TD.Ok.run_zero {P:Program} {t:Nat} {d:TD} (h:TD.Ok P t d) (w:World):∃ z,(zeroValue t).run P w=.ok z w∧z.cells.toList=d.zero:=by
 obtain⟨i,hi,hs,_,z,hz,hz',_⟩:=h.info
 exact⟨z,by simp[zeroValue,typeInfo,hi,hz],hz'⟩
theorem TD.Ok.run_zero2 {P:Program} {t:Nat} {d:TD} (h:TD.Ok P t d) (w:World):∃ z,(zeroValue t).run P w=.ok z w∧z.cells.toList=d.zero∧ahV z=d.agg:=by
 obtain⟨i,hi,hs,_,z,hz,hz',hz2⟩:=h.info
 exact⟨z,by simp[zeroValue,typeInfo,hi,hz],hz',by rw[h.agg,hz2]⟩
theorem TD.Ok.cells {P:Program} {t:Nat} {d:TD} (h:TD.Ok P t d):P.cellsOf t=d.size:=by
 obtain⟨i,hi,hs,_⟩:=h.info
 simp[Program.cellsOf,hi,hs]
section
variable {P:Program} {M0:Base} {k:Know} {ow:Own} {done:Nat→Prop} {w0 w:World} {N:Nat} {s:S} {tmps:Array Value}
theorem ag0 (a b:Int):(a == b)=decide (a=b):=by
 by_cases h:a=b <;> simp[h]
theorem aBu (a b:ByteArray):(a.toList == b.toList)=decide (a=b):=by
 rw[ByteArray.toList_eq,ByteArray.toList_eq]
 by_cases h:a=b
 .subst h;simp
 .have:¬ a.data=b.data:=fun e=>h (by cases a;cases b;simp_all)
  simp[h,this]
theorem ajX (n:Nat) {t:TypeId} (a b:Bool) (h:(underlying t).run P w=.ok .bool w):(Op.equalIn (n+1) t (.bool a) (.bool b)).run P w=.ok (a == b) w:=by
 simp[Op.equalIn,h]
theorem ash {op:BinOp} {t:TypeId} {u v r:Value} (x y:Operand) (h:gp ((TT.of P t).map (·.und)) op u v=some r) :
  (do eqGuard op t x y u v;binOp op t u v).run P w=.ok r w∧r.oneCell'=true:=by
 unfold gp at h
 split at h
 .rename_i k a k' b
  split at h
  .rename_i hk
   subst hk
   unfold kN at h
   have hg:(eqGuard op t x y (.int k a) (.int k b)).run P w=.ok () w:=by
    cases op <;> simp[eqGuard]
   rw[Sem.run_bind,hg,Result.andThen_ok]
   cases op <;> simp only[Option.some.injEq,reduceCtorEq] at h
   case quo=>split at h <;> simp only[Option.some.injEq,reduceCtorEq] at h;rename_i hb;subst h;simp[binOp,Op.intDiv,hb,Value.oneCell']
   case rem=>split at h <;> simp only[Option.some.injEq,reduceCtorEq] at h;rename_i hb;subst h;simp[binOp,Op.intDiv,hb,Value.oneCell']
   all_goals
    subst h
    simp[binOp,Op.intArith,Op.intBits,Op.intCmp,Value.oneCell',ag0,bne]
  .cases h
 .rename_i a b
  unfold aih at h
  have hg:(eqGuard op t x y (.string a) (.string b)).run P w=.ok () w:=by
   cases op <;> simp[eqGuard]
  rw[Sem.run_bind,hg,Result.andThen_ok]
  cases op <;> simp only[Option.some.injEq,reduceCtorEq] at h
  case add =>
   split at h <;> simp only[Option.some.injEq,reduceCtorEq] at h
   rename_i hb
   subst h
   have:¬ ((a.size+b.size:Nat):Int)>IntKind.i64.max:=by
    unfold aba at hb
    have:IntKind.i64.max=9223372036854775807:=by decide
    omega
   simp only[binOp,Op.stringOp,if_neg this]
   exact⟨rfl,rfl⟩
  all_goals
   subst h
   simp only[binOp,Op.stringOp,aBu]
   exact⟨rfl,rfl⟩
 .rename_i a b
  split at h
  .rename_i hb
   cases hT:TT.of P t with
   | none=>simp[hT,afx] at hb
   | some d =>
    have hu:d.und=.bool:=by
     simp only[hT,Option.map_some] at hb
     unfold afx at hb
     split at hb
     .rename_i e;simpa using e
     .cases hb
    have hund:=(TT.of_ok hT).run_und w
    rw[hu] at hund
    unfold ajl at h
    have hg:(eqGuard op t x y (.bool a) (.bool b)).run P w=.ok () w:=by
     cases op <;> simp[eqGuard]
    rw[Sem.run_bind,hg,Result.andThen_ok]
    have he:(Op.equal t (.bool a) (.bool b)).run P w=.ok (a == b) w:=by
     exact ajX 9999 a b hund
    cases op <;> simp only[Option.some.injEq,reduceCtorEq] at h
    all_goals
     subst h
     simp[binOp,he,Value.oneCell']
  .cases h
 .cases h
theorem aoc {t:TypeId} {u:Value} (h:afd ((TT.of P t).map (·.und)) u=true) :
  ∃ d,TT.of P t=some d∧((∃ k' k n,d.und=.int k'∧u=.int k n)∨(∃ s,d.und=.string∧u=.string s)∨∃ b,d.und=.bool∧u=.bool b):=by
 cases hT:TT.of P t with
 | none=>simp[hT,afd] at h
 | some d =>
  refine⟨d,rfl,?_⟩
  simp only[hT,Option.map_some] at h
  unfold afd at h
  split at h
  .rename_i e;exact .inl ⟨_,_,_,by simpa using e,rfl⟩
  .rename_i e;exact .inr (.inl ⟨_,by simpa using e,rfl⟩)
  .rename_i e;exact .inr (.inr ⟨_,by simpa using e,rfl⟩)
  .cases h
theorem arF {t:TypeId} {u:Value} (h:afd ((TT.of P t).map (·.und)) u=true) (xs:Array Value) (o:Nat) (hx:xs[o]?=some u):(part t xs o).run P w=.ok u w:=by
 obtain⟨d,hT,h⟩:=aoc h
 have ok:=TT.of_ok hT
 have ha:d.agg=false:=by
  rw[ok.agg]
  rcases h with ⟨_,_,_,e,_⟩|⟨_,e,_⟩|⟨_,e,_⟩ <;> rw[e] <;> rfl
 unfold part
 rw[Sem.run_bind,ok.run_isAgg,Result.andThen_ok,ha]
 simp[hx]
theorem aRR {t:TypeId} {u v:Value} {b:Bool} (h:afd ((TT.of P t).map (·.und)) u=true) (he:adH u v=some b) (n:Nat):(Op.equalIn (n+1) t u v).run P w=.ok b w:=by
 obtain⟨d,hT,h⟩:=aoc h
 have ok:=TT.of_ok hT
 rcases h with ⟨k',k,m,e,rfl⟩|⟨s,e,rfl⟩|⟨b',e,rfl⟩
 .unfold adH at he
  split at he
  .rename_i k1 a k2 c e1
   cases e1
   split at he
   .rename_i hk
    subst hk
    simp only[Option.some.injEq] at he
    subst he
    rw[Go.run_equalIn_int (P:=P) w n t k k' m c (by rw[ok.und,e]),ag0]
   .cases he
  .rename_i e1;cases e1
  .rename_i e1;cases e1
  .cases he
 .unfold adH at he
  split at he
  .rename_i e1;cases e1
  .rename_i a c e1
   cases e1
   simp only[Option.some.injEq] at he
   subst he
   rw[Go.run_equalIn_string (P:=P) w n t s c (by rw[ok.und,e]),aBu]
  .rename_i e1;cases e1
  .cases he
 .unfold adH at he
  split at he
  .rename_i e1;cases e1
  .rename_i e1;cases e1
  .rename_i a c e1
   cases e1
   simp only[Option.some.injEq] at he
   subst he
   exact Go.run_equalIn_bool' (P:=P) w n t b' c (by rw[ok.und,e])
  .cases he
theorem ah4 {m:Mem} {xs ys:Array Value} (n:Nat):∀ (fs:List Field) (o:Nat) (cs ds:List C) (vs us:List Value) (b:Bool),jJ (TT.of P) o fs cs ds=some b→xs.toList.drop o=vs→ys.toList.drop o=us→bn m cs vs→bn m ds us →
  (Op.eqFields (n+1) xs ys fs).run P w=.ok b w
 | [],o,cs,ds,vs,us,b,h,_,_,_,_=>by
  have:b=true:=by
   cases cs with
   | nil=>cases ds with
    | nil=>simpa [jJ] using h.symm
    | cons d q=>simp[jJ] at h
   | cons c r=>simp[jJ] at h
  subst this
  simp[Op.eqFields]
 | f::fs,o,cs,ds,vs,us,b,h,hv,hu,rv,ru=>by
  obtain⟨u,r,v,q,rfl,rfl⟩ : ∃ u r v q,cs=.lit u::r∧ds=.lit v::q:=by
   cases cs with
   | nil=>simp[jJ] at h
   | cons c r=>cases c with
    | lit u=>cases ds with
     | nil=>simp[jJ] at h
     | cons d q=>cases d with
      | lit v=>exact⟨_,_,_,_,rfl,rfl⟩
      | _=>simp[jJ] at h
    | _=>simp[jJ] at h
  .unfold jJ at h
   split at h
   .rename_i hc
    simp only[Bool.and_eq_true,bne_iff_ne,beq_iff_eq] at hc
    obtain⟨⟨⟨h1,rfl⟩,h3⟩,h4⟩:=hc
    simp only[bn,Rep] at rv ru
    obtain⟨u,vr,rfl,⟨rfl,_⟩,rv⟩:=rv
    obtain⟨v,ur,rfl,⟨rfl,_⟩,ru⟩:=ru
    have gx:∀ (zs:Array Value) (z:Value) (zr:List Value),zs.toList.drop f.offset=z::zr→zs[f.offset]?=some z∧zs.toList.drop (f.offset+1)=zr:=fun zs z zr hz=>by
     constructor
     .rw[← Array.getElem?_toList,← List.head?_drop,hz];rfl
     .rw[← List.drop_drop,hz];rfl
    obtain⟨x1,x2⟩:=gx _ _ _ hv
    obtain⟨y1,y2⟩:=gx _ _ _ hu
    have p1:=arF (w:=w) h3 xs f.offset x1
    have p2:=arF (w:=w) h4 ys f.offset y1
    cases hq:adH u v with
    | none=>simp[hq] at h
    | some b' =>
     have p3:=aRR (w:=w) h3 hq n
     rw[Op.eqFields,if_pos h1,Sem.run_bind,p1,Result.andThen_ok,Sem.run_bind,p2,Result.andThen_ok,Sem.run_bind,p3,Result.andThen_ok]
     cases b' with
     | true =>
      rw[hq] at h
      simpa using ah4 n fs (f.offset+1) r q vr ur b h x2 y2 rv ru
     | false =>
      rw[hq] at h
      simp only[Option.some.injEq] at h
      subst h
      rfl
   .cases h
theorem asi {op:BinOp} {t:TypeId} {c d:Option C} {cx dx:C} {u v:Value} {z:X} {e:Option Tk} (x y:Operand) {m:Mem} (h:adb P (TT.of P) t op c d=some (z,e)) (hc:c=some cx) (hd:d=some dx) (ru:Rep m cx u) (rv:Rep m dx v) :
  ∃ b:Bool,z=ah b∧e=none∧(do eqGuard op t x y u v;binOp op t u v).run P w=.ok (.bool b) w:=by
 subst hc hd
 unfold adb at h
 split at h
 .rename_i cs ds e1 e2
  cases e1;cases e2
  simp only[Rep] at ru rv
  obtain⟨vs,rfl,_,ru⟩:=ru
  obtain⟨us,rfl,_,rv⟩:=rv
  have key:∀ b,aah P (TT.of P) t cs ds=some b→P.eqGuardType P.depth t=false∧(Op.equalIn 10000 t (.agg vs.toArray) (.agg us.toArray)).run P w=.ok b w:=fun b hb=>by
   unfold aah at hb
   split at hb
   .rename_i fs _ _ _ _ _ hT
    split at hb
    .rename_i hc
     have ok:=TT.of_ok hT
     have hf:P.fieldsOf t=fs:=by simp[Program.fieldsOf,ok.und]
     refine⟨hc.2,?_⟩
     rw[Go.run_equalIn_struct (P:=P) w 9999 t _ _ (by rw[hf];exact ok.und) hc.1,hf]
     exact ah4 9998 fs.toList 0 cs ds vs us b hb rfl rfl ru rv
    .cases hb
   .cases hb
  split at h
  .obtain⟨b,hb,rfl,rfl⟩ : ∃ b,aah P (TT.of P) t cs ds=some b∧ah b=z∧none=e:=by
    simp only[bB,Option.map_map,Option.map_eq_some_iff,Function.comp,Prod.mk.injEq] at h
    obtain⟨b,h1,h2,h3⟩:=h
    exact⟨b,h1,h2,h3⟩
   obtain⟨h1,h2⟩:=key b hb
   refine⟨b,rfl,rfl,?_⟩
   rw[Sem.run_bind,Go.run_eqGuard_agg (P:=P) w .eql t x y _ _ h1,Result.andThen_ok,Go.run_eql_struct,h2]
   rfl
  .obtain⟨b,hb,rfl,rfl⟩ : ∃ b,aah P (TT.of P) t cs ds=some b∧ah (!b)=z∧none=e:=by
    simp only[bB,Option.map_map,Option.map_eq_some_iff,Function.comp,Prod.mk.injEq] at h
    obtain⟨b,h1,h2,h3⟩:=h
    exact⟨b,h1,h2,h3⟩
   obtain⟨h1,h2⟩:=key b hb
   refine⟨!b,rfl,rfl,?_⟩
   rw[Sem.run_bind,Go.run_eqGuard_agg (P:=P) w .neq t x y _ _ h1,Result.andThen_ok,Go.run_neq_struct,h2]
   rfl
  .cases h
 .cases h
theorem asM {op:UnOp} {u r:Value} (h:akD op u=some r):(Op.unary op u).run P w=.ok r w∧r.oneCell'=true:=by
 unfold akD at h
 split at h
 .cases op <;> simp only[Option.some.injEq,reduceCtorEq] at h
  subst h
  simp[Op.unary,Op.intArith,Value.oneCell']
 .cases op <;> simp only[Option.some.injEq,reduceCtorEq] at h
  subst h
  simp[Op.unary,Value.oneCell']
 .cases h
theorem acF {x:X} {n:Int} {v:Value} (h:jF x=some n) (hx:aF k ow x v):v=.int .i64 n:=by
 unfold jF at h
 split at h
 .simp only[Option.some.injEq] at h
  subst h
  simp only[aF,Rep] at hx
  exact hx.1
 .cases h
theorem akb {x:X} {b:Bool} {v:Value} (h:jv x=some b) (hx:aF k ow x v):v=.bool b:=by
 unfold jv at h
 split at h
 .simp only[Option.some.injEq] at h
  subst h
  simp only[aF,Rep] at hx
  exact hx.1
 .cases h
theorem al7 {x:X} {cs:List C} {n:Nat} {v:Value} (h:jn x=some (cs,n)) (hx:aF k ow x v):Rep k.m (.sl cs n) v:=by
 unfold jn at h
 split at h
 .simp only[Option.some.injEq,Prod.mk.injEq] at h
  obtain⟨rfl,rfl⟩:=h
  simp only[aF] at hx
  subst hx
  simp only[Rep]
  exact⟨none,0,[],rfl,Nat.le_refl _,by simp[bn],fun h=>absurd rfl h⟩
 .simp only[Option.some.injEq,Prod.mk.injEq] at h
  obtain⟨rfl,rfl⟩:=h
  simp only[aF] at hx
  exact hx.2.2
 .simp only[Option.some.injEq,Prod.mk.injEq] at h
  obtain⟨rfl,rfl⟩:=h
  simpa only [aF] using hx
 .cases h
theorem adr {t:Nat} {d:TD} (hT:TT.of P t=some d) (b o:Nat) (vs:List Value) (hlen:d.size≤vs.length)
  (hc:∀ i u,vs[i]?=some u→w.cell? ⟨b,o+i,none⟩=some u) (h1:d.agg=false→0<vs.length) :
  (loadVar t ⟨b,o,none⟩).run P w=.ok (if d.agg then .agg (vs.take d.size).toArray else vs.headD undef) w:=by
 have ok:=TT.of_ok hT
 unfold loadVar
 rw[Sem.run_bind,ok.run_isAgg,Result.andThen_ok]
 cases hagg:d.agg with
 | true =>
  simp only[if_true,Sem.run_bind,ok.run_size,Result.andThen_ok]
  have hl:(loadCells ⟨b,o,none⟩ (vs.take d.size).length).run P w=.ok (vs.take d.size).toArray w :=
   run_loadCells_list (P:=P) w ⟨b,o,none⟩ (vs.take d.size) (fun j v hv=>by
    rw[Addr.add_lit]
    refine hc j v ?_
    rw[List.getElem?_take] at hv
    split at hv
    .exact hv
    .cases hv)
  rw[List.length_take,Nat.min_eq_left hlen] at hl
  rw[hl]
  rfl
 | false =>
  have:=h1 hagg
  cases vs with
  | nil=>simp at this
  | cons v r =>
   have h0:=hc 0 v (by simp)
   simp only[Nat.add_zero] at h0
   simp[h0]
theorem ago {t:Nat} {d:TD} {cs:List C} {c:C} {vs:List Value} (hT:TT.of P t=some d) (h:aY (TT.of P) t cs=some c) (hl:bn k.m cs vs)
  (h1:∀ u∈vs,u.oneCell'=true):d.size≤vs.length∧(d.agg=false→0<vs.length)∧Rep k.m c (if d.agg then .agg (vs.take d.size).toArray else vs.headD undef):=by
 unfold aY at h
 simp only[hT] at h
 split at h
 .rename_i hs
  have hs':d.size≤vs.length:=by rw[hl.length];exact hs
  refine⟨hs',?_⟩
  cases hagg:d.agg with
  | true =>
   simp only[hagg,if_true,Option.some.injEq] at h ⊢
   subst h
   refine⟨(fun h=>(by cases h)),?_⟩
   simp only[Rep]
   exact⟨_,rfl,fun u hu=>h1 u (List.mem_of_mem_take hu),hl.take _⟩
  | false =>
   simp only[hagg,Bool.false_eq_true,if_false] at h ⊢
   split at h
   .rename_i c' r'
    simp only[Option.some.injEq] at h
    subst h
    simp only[bn] at hl
    obtain⟨v,r,rfl,hv,_⟩:=hl
    exact⟨by simp,by simpa using hv⟩
   .cases h
 .cases h
theorem adB {t:Nat} {d:TD} {xs:List X} {x:X} {vs:List Value} (hT:TT.of P t=some d) (h:cw (TT.of P) t xs=some x) (hl:aP k ow xs vs)
  (h1:∀ u∈vs,u.oneCell'=true):d.size≤vs.length∧(d.agg=false→0<vs.length)∧aF k ow x (if d.agg then .agg (vs.take d.size).toArray else vs.headD undef):=by
 unfold cw at h
 simp only[hT] at h
 split at h
 .rename_i hs
  have hs':d.size≤vs.length:=by rw[hl.length];exact hs
  refine⟨hs',?_⟩
  cases hagg:d.agg with
  | true =>
   simp only[hagg,if_true,Option.some.injEq] at h ⊢
   subst h
   refine⟨(fun h=>(by cases h)),?_⟩
   simp only[aF]
   exact⟨_,rfl,fun u hu=>h1 u (List.mem_of_mem_take hu),hl.takeN _⟩
  | false =>
   simp only[hagg,Bool.false_eq_true,if_false] at h ⊢
   split at h
   .rename_i c' r'
    simp only[Option.some.injEq] at h
    subst h
    simp only[aP] at hl
    obtain⟨v,r,rfl,hv,_⟩:=hl
    exact⟨by simp,by simpa using hv⟩
   .cases h
 .cases h
theorem aqP {T:TT} {t:Nat} {cs:List C} {c:C} (h:aY T t cs=some c):∃ d,T t=some d:=by
 unfold aY at h
 split at h
 .cases h
 .exact⟨_,‹_›⟩
theorem aqO {T:TT} {t:Nat} {cs:List X} {c:X} (h:cw T t cs=some c):∃ d,T t=some d:=by
 unfold cw at h
 split at h
 .cases h
 .exact⟨_,‹_›⟩
theorem alu {objs:List Ob} (hs:Hp M0 k ow w0 w objs) {t:Nat} {x y:X} {e:Option Tk} {v:Value} (h:j6 (TT.of P) objs t x=some (y,e)) (hx:aF k ow x v) :
  e=none∧∃ u,(Instr.loadAt t v).run P w=.ok u w∧aF k ow y u:=by
 unfold j6 at h
 split at h
 .rename_i r off
  split at h
  .rename_i ty xs hr
   simp only[bB,Option.map_eq_some_iff,Prod.mk.injEq] at h
   obtain⟨y',h,rfl,rfl⟩:=h
   obtain⟨b,hb,_,_,_,vs,hh,h1,hl⟩:=hs.obj r _ hr
   simp only[aF] at hx
   obtain⟨b',hb',rfl⟩:=hx
   obtain rfl:b'=b:=Option.some.inj (hb'.symm.trans hb)
   obtain⟨d,hT⟩:=aqO h
   obtain⟨g1,g2,g3⟩:=adB hT h (hl.dropN off) (fun u hu=>h1 u (List.mem_of_mem_drop hu))
   refine⟨rfl,_,?_,g3⟩
   simp only[Instr.loadAt,Instr.sureAddr,Sem.run_bind,Sem.run_pure,Result.andThen_ok]
   refine adr hT b' off (vs.drop off) g1 (fun i u hu=>?_) g2
   rw[cell_of_row w b' (off+i) vs.toArray ty (0,0) hh]
   rw[List.getElem?_drop] at hu
   simpa using hu
  .cases h
 .rename_i cs
  simp only[bB,Option.map_eq_some_iff,Prod.mk.injEq] at h
  obtain⟨y',⟨c,h,rfl⟩,rfl,rfl⟩:=h
  simp only[aF,Rep] at hx
  obtain⟨b,o,vs,rfl,hl,hm⟩:=hx
  obtain⟨d,hT⟩:=aqP h
  have h1:∀ u∈vs,u.oneCell'=true:=fun u hu=>by
   obtain⟨i,hi⟩:=List.mem_iff_getElem?.1 hu
   exact (hs.mem _ _ _ (hm i u hi)).2
  obtain⟨g1,g2,g3⟩:=ago hT h hl h1
  refine⟨rfl,_,?_,by simpa only [aF] using g3⟩
  simp only[Instr.loadAt,Instr.sureAddr,Sem.run_bind,Sem.run_pure,Result.andThen_ok]
  exact adr hT b o vs g1 (fun i u hu=>(hs.mem _ _ _ (hm i u hu)).1) g2
 .cases h
theorem anZ {α β:Type} (f:α→Option β):∀ (l:List α) (r:List β),l.mapM f=some r→∀ (i:Nat) (y:β),r[i]?=some y→∃ x,l[i]?=some x∧f x=some y
 | [],r,h,i,y,hy=>by simp at h;subst h;simp at hy
 | a::l,r,h,i,y,hy=>by
  simp only[List.mapM_cons,Option.bind_eq_bind,Option.pure_def,Option.bind_eq_some_iff,Option.some.injEq] at h
  obtain⟨b,hb,q,hq,rfl⟩:=h
  cases i with
  | zero=>simp at hy;subst hy;exact⟨a,by simp,hb⟩
  | succ i=>simp at hy;simpa using anZ f l q hq i y hy
theorem aoe {fs:Array Field} {fl':List (Nat×Nat)} {f:Nat} {o z:Nat} (h':fieldsOf P (.struct fs)=some fl') (h:fl'[f]?=some (o,z)) :
  ∃ fl,fs[f]?=some fl∧fl.offset=o∧∃ i,P.info? fl.type=some i∧i.size=z:=by
 obtain⟨x,h1,h2⟩:=anZ _ _ _ h' f _ h
 simp only[Option.map_eq_some_iff,Prod.mk.injEq] at h2
 obtain⟨i,hi,h3,h4⟩:=h2
 exact⟨x,by simpa using h1,h3,i,hi,h4⟩
theorem alK {t f:Nat} {x y:X} {e:Option Tk} {v:Value} (h:gL (TT.of P) t f x=some (y,e)) (hx:aF k ow x v) :
  e=none∧∃ u,(Instr.fieldAt t v f).run P w=.ok u w∧aF k ow y u:=by
 unfold gL aek at h
 cases hT:TT.of P t with
 | none=>simp[hT] at h
 | some d =>
  have ok:=TT.of_ok hT
  simp only[hT,Option.bind_some] at h
  cases hf:d.fields[f]? with
  | none=>simp[hf] at h
  | some oz =>
   obtain⟨o,z⟩:=oz
   simp only[hf] at h
   split at h
   .rename_i hz
    have hfl:=ok.fields
    have hund:∃ fs,d.und=.struct fs:=by
     unfold fieldsOf at hfl
     split at hfl
     .exact⟨_,‹_›⟩
     .simp only[Option.some.injEq] at hfl
      rw[← hfl] at hf
      simp at hf
    obtain⟨fs,hund⟩:=hund
    rw[hund] at hfl
    obtain⟨fl,h1,h2,h3⟩:=aoe hfl hf
    have hru:=ok.run_und w
    rw[hund] at hru
    have hplace:∀ a:Addr,(fieldPlace a fl).run P w=.ok (a.add o) w:=fun a=>by
     unfold fieldPlace
     obtain⟨i,hi,hiz⟩:=h3
     have hsz:(sizeOf fl.type).run P w=.ok z w:=by simp[sizeOf,typeInfo,hi,hiz]
     rw[Sem.run_bind,hsz,Result.andThen_ok,if_neg (by omega),h2]
     rfl
    split at h
    .rename_i r off
     simp only[out,Option.some.injEq,Prod.mk.injEq] at h
     obtain⟨rfl,rfl⟩:=h
     simp only[aF] at hx
     obtain⟨b,hb,rfl⟩:=hx
     refine⟨rfl,.pointer (some ((⟨b,off,none⟩ : Addr).add o)),?_,?_⟩
     .simp[Instr.fieldAt,hru,h1,Instr.sureAddr,hplace]
     .simp only[aF,Addr.add_lit];exact⟨b,hb,rfl⟩
    .simp only[out,Option.some.injEq,Prod.mk.injEq] at h
     obtain⟨rfl,rfl⟩:=h
     simp only[aF,Rep] at hx
     obtain⟨b,off,vs,rfl,hl,hm⟩:=hx
     refine⟨rfl,.pointer (some ((⟨b,off,none⟩ : Addr).add o)),?_,?_⟩
     .simp[Instr.fieldAt,hru,h1,Instr.sureAddr,hplace]
     .simp only[aF,Rep,Addr.add_lit]
      exact⟨b,off+o,vs.drop o,rfl,hl.drop o,fun i u hu=>by
       rw[List.getElem?_drop] at hu
       rw[Nat.add_assoc]
       exact hm _ _ hu⟩
    .cases h
   .cases h
theorem alB {t:Nat} {x i y:X} {e:Option Tk} {v vi:Value} (h:bF (TT.of P) t x i=some (y,e)) (hx:aF k ow x v) (hi:aF k ow i vi) :
  e=none∧∃ u,(Instr.indexAt t v vi).run P w=.ok u w∧aF k ow y u:=by
 unfold bF at h
 split at h
 .cases h
 .rename_i n hn
  obtain rfl:=acF hn hi
  split at h
  .rename_i el sz by_ ag ze fi hT
   have hru:=(TT.of_ok hT).run_und w
   simp only at hru
   split at h
   .rename_i d cs m hd hsl
    split at h
    .rename_i hc
     obtain⟨h0,hlt,hlen,hpos⟩:=hc
     simp only[out,Option.some.injEq,Prod.mk.injEq] at h
     obtain⟨rfl,rfl⟩:=h
     have hs:=al7 hsl hx
     simp only[Rep] at hs
     obtain⟨a,cap,vs,rfl,hcap,hl,hm⟩:=hs
     have hm0:0<m:=by omega
     have hvs:vs≠[]:=by
      intro e
      have:=hl.length
      rw[e,hlen] at this
      have:0<m*d.size:=Nat.mul_pos hm0 hpos
      simp at *
      omega
     obtain⟨b,o,rfl,hm2⟩:=hm hvs
     refine⟨rfl,.pointer (some ((⟨b,o,none⟩ : Addr).add (n.toNat*d.size))),?_,?_⟩
     .simp[Instr.indexAt,asIntOf,hru,h0,hlt,(TT.of_ok hd).run_size]
     .simp only[aF,Rep,Addr.add_lit]
      exact⟨b,_,vs.drop (n.toNat*d.size),rfl,hl.drop _,fun i u hu=>by
       rw[List.getElem?_drop] at hu
       rw[Nat.add_assoc]
       exact hm2 _ _ hu⟩
    .cases h
   .cases h
  .rename_i len el sz by_ ag ze fi hT
   have hru:=(TT.of_ok hT).run_und w
   simp only at hru
   split at h
   .rename_i d hd
    split at h
    .rename_i hc
     split at h
     .rename_i r off
      simp only[out,Option.some.injEq,Prod.mk.injEq] at h
      obtain⟨rfl,rfl⟩:=h
      simp only[aF] at hx
      obtain⟨b,hb,rfl⟩:=hx
      refine⟨rfl,.pointer (some ((⟨b,off,none⟩ : Addr).add (n.toNat*d.size))),?_,?_⟩
      .simp[Instr.indexAt,asIntOf,hru,hc.1,hc.2,(TT.of_ok hd).run_size,Instr.sureAddr]
      .simp only[aF,Addr.add_lit];exact⟨b,hb,rfl⟩
     .simp only[out,Option.some.injEq,Prod.mk.injEq] at h
      obtain⟨rfl,rfl⟩:=h
      simp only[aF,Rep] at hx
      obtain⟨b,o,vs,rfl,hl,hm⟩:=hx
      refine⟨rfl,.pointer (some ((⟨b,o,none⟩ : Addr).add (n.toNat*d.size))),?_,?_⟩
      .simp[Instr.indexAt,asIntOf,hru,hc.1,hc.2,(TT.of_ok hd).run_size,Instr.sureAddr]
      .simp only[aF,Rep,Addr.add_lit]
       exact⟨b,_,vs.drop (n.toNat*d.size),rfl,hl.drop _,fun i u hu=>by
        rw[List.getElem?_drop] at hu
        rw[Nat.add_assoc]
        exact hm _ _ hu⟩
     .cases h
    .cases h
   .cases h
  .cases h
end
end Go.Pe

/-
  An abstract machine for Go code over plain data: each operation's answer is the model's. Conditions: none.
-/
import Derived.WalkKit
import Derived.Below
import Derived.Still
import Derived.Maps.AppendAt
import Derived.Laws.Rows
import Derived.Laws.StructEq
namespace Go.Pe

/-- Plain data: what a value says, without memory. -/
inductive C where
  | any
  | undef
  | lit (v : Value)
  | sl (cs : List C) (n : Nat)
  | ref (cs : List C)
  | fn (f : Nat) (caps : List C)
  | agg (cs : List C)
  | tup (cs : List C)
  | ifc (t : Nat) (c : C)

abbrev ci (n : Int) : C := .lit (.int .i64 n)
abbrev cb (b : Bool) : C := .lit (.bool b)
abbrev cstr (s : ByteArray) : C := .lit (.string s)

def C.cells : C → List C
  | .agg cs => cs
  | c => [c]

/-- A name of a right to append: made by an operation, or held by an object's cell. -/
inductive Tk where
  | nm (clk ix i : Nat)
  | cell (r off : Nat)
  deriving DecidableEq

/-- What a slot holds: data, a slice with the right to append, a pointer to an object of the call's own .. -/
inductive X where
  | of (a : C)
  | nil
  | own (t : Tk) (e z : Nat) (cs : List C) (n : Nat)
  | ptr (r off : Nat)
  | mp (r : Nat)
  | clo (f : Nat) (caps : List X)
  | agg (xs : List X)
  | tup (xs : List X)

abbrev xint (n : Int) : X := .of (ci n)
abbrev xbool (b : Bool) : X := .of (cb b)
abbrev xstr (s : ByteArray) : X := .of (cstr s)

inductive Ob where
  | var (ty : Nat) (xs : List X)
  | map (es : List (Value × C))

mutual
def X.rd : X → Option C
  | .of c => some c
  | .nil => some (.sl [] 0)
  | .own _ _ _ cs n => some (.sl cs n)
  | .agg xs => (X.rds xs).map .agg
  | _ => none
def X.rds : List X → Option (List C)
  | [] => some []
  | x :: r => match x.rd, X.rds r with
    | some c, some cs => some (c :: cs)
    | _, _ => none
end

mutual
def X.drop (t : Tk) : X → X
  | .own t' e z cs n => if t' = t then .of (.sl cs n) else .own t' e z cs n
  | .clo f caps => .clo f (X.drops t caps)
  | .agg xs => .agg (X.drops t xs)
  | .tup xs => .tup (X.drops t xs)
  | x => x
def X.drops (t : Tk) : List X → List X
  | [] => []
  | x :: r => x.drop t :: X.drops t r
end

def Ob.drop (t : Tk) : Ob → Ob
  | .var ty xs => .var ty (X.drops t xs)
  | o => o

mutual
def X.tr (σ : Nat → Option Nat) (ρ : Tk → Option Tk) : X → X
  | .of c => .of c
  | .nil => .nil
  | .own t e z cs n => match ρ t with
    | some t' => .own t' e z cs n
    | none => .of (.sl cs n)
  | .ptr r off => match σ r with
    | some r' => .ptr r' off
    | none => .of .any
  | .mp r => match σ r with
    | some r' => .mp r'
    | none => .of .any
  | .clo f caps => .clo f (X.trs σ ρ caps)
  | .agg xs => .agg (X.trs σ ρ xs)
  | .tup xs => .tup (X.trs σ ρ xs)
def X.trs (σ : Nat → Option Nat) (ρ : Tk → Option Tk) : List X → List X
  | [] => []
  | x :: r => x.tr σ ρ :: X.trs σ ρ r
end
def Ob.tr (σ : Nat → Option Nat) (ρ : Tk → Option Tk) : Ob → Ob
  | .var ty xs => .var ty (X.trs σ ρ xs)
  | .map es => .map es

mutual
/-- The objects that a value names. -/
def X.refs : X → List Nat
  | .ptr r _ => [r]
  | .mp r => [r]
  | .clo _ caps => X.refsL caps
  | .agg xs => X.refsL xs
  | .tup xs => X.refsL xs
  | _ => []
def X.refsL : List X → List Nat
  | [] => []
  | x :: r => x.refs ++ X.refsL r
end
mutual
/-- The rights that a value holds. -/
def X.toks : X → List Tk
  | .own t _ _ _ _ => [t]
  | .clo _ caps => X.toksL caps
  | .agg xs => X.toksL xs
  | .tup xs => X.toksL xs
  | _ => []
def X.toksL : List X → List Tk
  | [] => []
  | x :: r => x.toks ++ X.toksL r
end
def Ob.refs : Ob → List Nat
  | .var _ xs => X.refsL xs
  | .map _ => []

def pos {α : Type} [DecidableEq α] : List α → α → Option Nat
  | [], _ => none
  | a :: l, b => if a = b then some 0 else (pos l b).map (· + 1)
/-- Each once, behind some that are there. -/
def nub {α : Type} [DecidableEq α] : List α → List α → List α
  | [], seen => seen
  | a :: l, seen => if a ∈ seen then nub l seen else nub l (seen ++ [a])

/-- The objects that can be come to. -/
def reach (objs : List Ob) : Nat → List Nat → List Nat → List Nat
  | 0, _, seen => seen
  | _ + 1, [], seen => seen
  | n + 1, r :: todo, seen => if r ∈ seen then reach objs n todo seen else reach objs n (((objs[r]?).map Ob.refs).getD [] ++ todo) (seen ++ [r])

/-- The names within a call, of what it is given: these objects, these rights. -/
def rhoIn (refs : List Nat) (ts : List Tk) (t : Tk) : Option Tk := match pos ts t with
  | some i => some (.nm 0 0 i)
  | none => match t with
    | .cell r off => (pos refs r).map fun r' => .cell r' off
    | .nm .. => none
/-- The rights that the caller keeps. -/
def keepTk (refs : List Nat) (ts : List Tk) (t : Tk) : Option Tk := if t ∈ ts then none else match t with
  | .cell r _ => if r ∈ refs then none else some t
  | .nm .. => some t
/-- The names behind a call. -/
def sigBack (refs : List Nat) (L i : Nat) : Nat := match refs[i]? with
  | some r => r
  | none => L + (i - refs.length)
def rhoBack (refs : List Nat) (L clk ix : Nat) : Tk → Option Tk
  | .nm 0 0 i => some (.nm clk ix i)
  | .nm .. => none
  | .cell r off => some (.cell (sigBack refs L r) off)
def dropTs (ts : List Tk) (objs : List Ob) : List Ob := match ts with
  | [] => objs
  | ts => objs.map (Ob.tr some fun t => if t ∈ ts then none else some t)
/-- Objects, in this order, under other names. -/
def pickObs (σ : Nat → Option Nat) (ρ : Tk → Option Tk) (objs : List Ob) : List Nat → Option (List Ob)
  | [] => some []
  | r :: l => match objs[r]?, pickObs σ ρ objs l with
    | some ob, some q => some (ob.tr σ ρ :: q)
    | _, _ => none
def setObs (σ : Nat → Option Nat) (ρ : Tk → Option Tk) : List Ob → List Nat → List Ob → List Ob
  | objs, r :: l, ob :: q => setObs σ ρ (objs.set r (ob.tr σ ρ)) l q
  | objs, _, _ => objs

def dropOpt (t : Option Tk) (x : X) : X := match t with | none => x | some t => x.drop t

/-- The call's own slots; the objects; a clock. -/
structure S where
  fr : Nat → X
  objs : List Ob
  clk : Nat

def upd (f : Nat → X) (d : Nat) (x : X) : Nat → X := fun j => if j = d then x else f j

def S.put (s : S) (d : Option Nat) (x : X) : S := match d with
  | none => s
  | some d => { s with fr := upd s.fr d x }

def S.drop (s : S) (t : Option Tk) : S := match t with
  | none => s
  | some t => { s with fr := fun j => (s.fr j).drop t, objs := s.objs.map (·.drop t) }

/-- A value that stands in the code. -/
def ofVal : Value → X
  | .slice none 0 0 => .nil
  | .int k n => .of (.lit (.int k n))
  | .bool b => .of (.lit (.bool b))
  | .string s => .of (.lit (.string s))
  | .pointer none => .of (.lit (.pointer none))
  | .map none => .of (.lit (.map none))
  | .nilFunc => .of (.lit .nilFunc)
  | .nilIface => .of (.lit .nilIface)
  | _ => .of .any

def S.ev (s : S) : Operand → X
  | .tmp t => s.fr t
  | .const v => ofVal v
  | .func f => .of (.fn f [])
  | .global _ => .of .any

/-- What is known of a type. -/
structure TD where
  und : TypeDesc
  size : Nat
  bytes : Nat
  agg : Bool
  zero : List Value
  fields : List (Nat × Nat)

abbrev TT := Nat → Option TD

def isAggD : TypeDesc → Bool
  | .struct _ => true
  | .array _ _ => true
  | _ => false

def isAggV : Value → Bool
  | .agg _ => true
  | _ => false

def fieldsOf (P : Program) : TypeDesc → Option (List (Nat × Nat))
  | .struct fs => fs.toList.mapM fun f => (P.info? f.type).map fun i => (f.offset, i.size)
  | _ => some []

/-- The program's own types. -/
def TT.of (P : Program) : TT := fun t => match P.underlying t, P.info? t with
  | some u, some i => match i.zero, fieldsOf P u with
    | some z, some fl => if z.cells.toList.all (·.oneCell') && z.cells.size == i.size && isAggV z == isAggD u then some ⟨u, i.size, i.bytes, isAggD u, z.cells.toList, fl⟩ else none
    | _, _ => none
  | _, _ => none

/-- The bound on every length that is made. -/
def LIM : Nat := 4294967296

def binInt (op : BinOp) (k : IntKind) (a b : Int) : Option Value := match op with
  | .add => some (.int k (k.wrap (a + b)))
  | .sub => some (.int k (k.wrap (a - b)))
  | .mul => some (.int k (k.wrap (a * b)))
  | .quo => if b = 0 then none else some (.int k (k.wrap (a.tdiv b)))
  | .rem => if b = 0 then none else some (.int k (a.tmod b))
  | .eql => some (.bool (decide (a = b)))
  | .neq => some (.bool (!decide (a = b)))
  | .lss => some (.bool (decide (a < b)))
  | .leq => some (.bool (decide (a ≤ b)))
  | .gtr => some (.bool (decide (b < a)))
  | .geq => some (.bool (decide (b ≤ a)))
  | .and => some (.int k (k.wrap (BitVec.ofInt k.bits a &&& BitVec.ofInt k.bits b).toNat))
  | .andNot => some (.int k (k.wrap (BitVec.ofInt k.bits a &&& ~~~BitVec.ofInt k.bits b).toNat))
  | _ => none

def binStr (op : BinOp) (a b : ByteArray) : Option Value := match op with
  | .add => if a.size + b.size ≤ LIM then some (.string (a ++ b)) else none
  | .eql => some (.bool (decide (a = b)))
  | .neq => some (.bool (!decide (a = b)))
  | _ => none

def binBool (op : BinOp) (a b : Bool) : Option Value := match op with
  | .eql => some (.bool (a == b))
  | .neq => some (.bool (!(a == b)))
  | _ => none

def isBoolD : Option TypeDesc → Bool
  | some .bool => true
  | _ => false

def binLit (u : Option TypeDesc) (op : BinOp) : Value → Value → Option Value
  | .int k a, .int k' b => if k = k' then binInt op k a b else none
  | .string a, .string b => binStr op a b
  | .bool a, .bool b => if isBoolD u then binBool op a b else none
  | _, _ => none

def unLit (op : UnOp) : Value → Option Value
  | .int k n => match op with
    | .neg => some (.int k (k.wrap (0 - n)))
    | _ => none
  | .bool b => match op with
    | .not => some (.bool (!b))
    | _ => none
  | _ => none

/-- '==' of two scalars of one kind. -/
def eqLit : Value → Value → Option Bool
  | .int k a, .int k' b => if k = k' then some (decide (a = b)) else none
  | .string a, .string b => some (decide (a = b))
  | .bool a, .bool b => some (a == b)
  | _, _ => none

def litInt : X → Option Int
  | .of (.lit (.int .i64 n)) => some n
  | _ => none

def litBool : X → Option Bool
  | .of (.lit (.bool b)) => some b
  | _ => none

/-- A slice as data. -/
def asSl : X → Option (List C × Nat)
  | .nil => some ([], 0)
  | .own _ _ _ cs n => some (cs, n)
  | .of (.sl cs n) => some (cs, n)
  | _ => none

/-- The cells of a value. -/
def cellsX : X → Option (List X)
  | .agg xs => some xs
  | .of (.agg cs) => some (cs.map .of)
  | .of .any => none
  | .of .undef => none
  | .of (.tup _) => none
  | .tup _ => none
  | x => some [x]

/-- Parts laid into a row of cells. -/
def fillX (place : Nat → Option (Nat × Nat)) (cells : List X) : List (Nat × List X) → Option (List X)
  | [] => some cells
  | (i, xs) :: rest => match place i with
    | none => none
    | some (off, size) =>
      if xs.length = size ∧ off + size ≤ cells.length then fillX place (cells.take off ++ xs ++ cells.drop (off + size)) rest
      else none

def zeroX (d : TD) : List X := d.zero.map ofVal

/-- A piece of a row of cells, as a value of that type. -/
def pieceC (T : TT) (t : Nat) (cs : List C) : Option C := match T t with
  | none => none
  | some d => if d.size ≤ cs.length then (if d.agg then some (.agg (cs.take d.size)) else match cs with
      | c :: _ => some c
      | [] => none) else none
def pieceX (T : TT) (t : Nat) (xs : List X) : Option X := match T t with
  | none => none
  | some d => if d.size ≤ xs.length then (if d.agg then some (.agg (xs.take d.size)) else match xs with
      | x :: _ => some x
      | [] => none) else none

def elemOf (T : TT) (t : Nat) : Option (Nat × TD) := match T t with
  | some { und := .slice e, .. } => (T e).map fun d => (e, d)
  | _ => none

def partsX (f : Operand → X) (ps : List (Nat × Operand)) : Option (List (Nat × List X)) := match ps with
  | [] => some []
  | (i, x) :: r => match cellsX (f x), partsX f r with
    | some l, some q => some ((i, l) :: q)
    | _, _ => none

def rdAll (f : Operand → X) : List Operand → Option (List C)
  | [] => some []
  | x :: r => match (f x).rd, rdAll f r with
    | some c, some cs => some (c :: cs)
    | _, _ => none

/-- What an operation that turns no object yields: the value, and the right to append that it uses up. -/
abbrev Out := Option (X × Option Tk)
def out (x : X) : Out := some (x, none)
def outO (x : Option X) : Out := x.map fun x => (x, none)

def appendX (T : TT) (t : Tk) (st xt : Nat) (s x : X) : Out :=
  if st = xt then match elemOf T st, asSl x with
    | some (e, d), some (ys, m) =>
      if ys.length = m * d.size ∧ 0 < d.size then match s with
        | .nil => if m ≤ LIM ∧ d.bytes ≤ 32768 then some (.own t e d.size ys m, none) else none
        | .own t' e' z cs n => if e' = e ∧ z = d.size ∧ n + m ≤ LIM ∧ d.bytes ≤ 32768 then some (.own t e d.size (cs ++ ys) (n + m), some t') else none
        | _ => none
      else none
    | _, _ => none
  else none

def isStrD : Option TypeDesc → Bool
  | some .string => true
  | _ => false

def bndX (d : Int) : Option X → Option Int
  | none => some d
  | some l => litInt l

def sliceX (T : TT) (t : Nat) (x : X) (lo hi : Option X) : Out :=
  match x with
  | .of (.lit (.string s)) =>
    if isStrD ((T t).map (·.und)) then match bndX 0 lo, bndX (s.size : Int) hi with
    | some l, some h => if 0 ≤ l ∧ l ≤ h ∧ h ≤ (s.size : Int) then out (.of (.lit (.string (s.extract l.toNat h.toNat)))) else none
    | _, _ => none
    else none
  | x => match elemOf T t, asSl x with
    | some (_, d), some (cs, n) =>
      match bndX 0 lo, bndX (n : Int) hi with
      | some l, some h => if 0 ≤ l ∧ l ≤ h ∧ h ≤ (n : Int) ∧ cs.length = n * d.size then out (.of (.sl ((cs.drop (l.toNat * d.size)).take ((h.toNat - l.toNat) * d.size)) (h.toNat - l.toNat))) else none
      | _, _ => none
    | _, _ => none

def loadX (T : TT) (objs : List Ob) (t : Nat) : X → Out
  | .ptr r off => match objs[r]? with
    | some (.var _ xs) => outO (pieceX T t (xs.drop off))
    | _ => none
  | .of (.ref cs) => outO ((pieceC T t cs).map .of)
  | _ => none

def fieldOff (T : TT) (t f : Nat) : Option (Nat × Nat) := (T t).bind fun d => d.fields[f]?

def fieldAddrX (T : TT) (t f : Nat) (x : X) : Out := match fieldOff T t f with
  | some (o, z) => if 0 < z then match x with
    | .ptr r off => out (.ptr r (off + o))
    | .of (.ref cs) => out (.of (.ref (cs.drop o)))
    | _ => none else none
  | none => none

def fieldTy : TypeDesc → Nat → Option Nat
  | .struct fs, i => (fs[i]?).map (·.type)
  | _, _ => none

def fieldX (T : TT) (t f : Nat) (x : X) : Out := match T t with
  | some d => match d.fields[f]?, fieldTy d.und f with
    | some (o, _), some u => match x with
      | .agg xs => outO (pieceX T u (xs.drop o))
      | .of (.agg cs) => outO ((pieceC T u (cs.drop o)).map .of)
      | _ => none
    | _, _ => none
  | none => none

def indexAddrX (T : TT) (t : Nat) (x i : X) : Out := match litInt i with
  | none => none
  | some i => match T t with
    | some { und := .slice e, .. } => match T e, asSl x with
      | some d, some (cs, n) => if 0 ≤ i ∧ i < (n : Int) ∧ cs.length = n * d.size ∧ 0 < d.size then out (.of (.ref (cs.drop (i.toNat * d.size)))) else none
      | _, _ => none
    | some { und := .array n e, .. } => match T e with
      | some d => if 0 ≤ i ∧ i < (n : Int) then match x with
        | .ptr r off => out (.ptr r (off + i.toNat * d.size))
        | .of (.ref cs) => out (.of (.ref (cs.drop (i.toNat * d.size))))
        | _ => none else none
      | none => none
    | _ => none

def indexX (T : TT) (t : Nat) (x i : X) : Out := match litInt i with
  | none => none
  | some i => match x with
    | .of (.lit (.string s)) => if h : isStrD ((T t).map (·.und)) = true ∧ 0 ≤ i ∧ i.toNat < s.size then out (.of (.lit (.int .u8 (s[i.toNat]'h.2.2).toNat))) else none
    | .agg xs => match T t with
      | some { und := .array n e, .. } => match T e with
        | some d => if 0 ≤ i ∧ i < (n : Int) then outO (pieceX T e (xs.drop (i.toNat * d.size))) else none
        | none => none
      | _ => none
    | .of (.agg cs) => match T t with
      | some { und := .array n e, .. } => match T e with
        | some d => if 0 ≤ i ∧ i < (n : Int) then outO ((pieceC T e (cs.drop (i.toNat * d.size))).map .of) else none
        | none => none
      | _ => none
    | _ => none

def isSlD : Option TypeDesc → Bool
  | some (.slice _) => true
  | _ => false

def lenX (u : Option TypeDesc) (x : X) : Out := match x with
  | .of (.lit (.string s)) => if isStrD u then out (xint s.size) else none
  | x => match asSl x with
    | some (_, n) => if isSlD u then out (xint n) else none
    | none => none

def convertX (T : TT) (src dst : Nat) (x : X) : Out := match T src, (T dst).map (·.und), x with
  | some _, some (TypeDesc.int k), .of (.lit (.int _ n)) => out (.of (.lit (.int k (k.wrap n))))
  | some _, some TypeDesc.string, .of (.lit (.string s)) => out (.of (.lit (.string s)))
  | _, _, _ => none

/-- The place of a key. -/
def findX (kind : TypeDesc) (k : Value) : List (Value × C) → Nat → Option (Option Nat)
  | [], _ => some none
  | e :: es, i => match Instr.sameNow kind k e.1 with
    | some true => some (some i)
    | some false => findX kind k es (i + 1)
    | none => none
def keyKind : TypeDesc → Bool
  | .int _ => true
  | .string => true
  | .bool => true
  | _ => false
def litOf : X → Option Value
  | .of (.lit v) => some v
  | _ => none
def mapOf (objs : List Ob) : X → Option (List (Value × C))
  | .mp r => match objs[r]? with
    | some (.map es) => some es
    | _ => none
  | .of (.lit (.map none)) => some []
  | _ => none
def zero1 (T : TT) (t : Nat) : Option X := match T t with
  | some d => pieceX T t (zeroX d)
  | none => none
def mapTy (T : TT) (t : Nat) : Option (TypeDesc × Nat) := match T t with
  | some { und := .map kt et, .. } => match (T kt).map (·.und) with
    | some kind => if keyKind kind then some (kind, et) else none
    | none => none
  | _ => none
/-- Does a literal fit a field of this type? -/
def fitD : Option TypeDesc → Value → Bool
  | some (.int _), .int _ _ => true
  | some .string, .string _ => true
  | some .bool, .bool _ => true
  | _, _ => false
/-- '==' of two structs whose fields are scalars, field by field. -/
def eqFlat (T : TT) : Nat → List Field → List C → List C → Option Bool
  | _, [], [], [] => some true
  | o, f :: fs, .lit u :: r, .lit v :: q =>
    if f.name != "_" && f.offset == o && fitD ((T f.type).map (·.und)) u && fitD ((T f.type).map (·.und)) v then match eqLit u v with
      | some true => eqFlat T (o + 1) fs r q
      | b => b
    else none
  | _, _, _, _ => none
def eqAgg (P : Program) (T : TT) (t : Nat) (cs ds : List C) : Option Bool := match T t with
  | some { und := .struct fs, .. } => if P.stoodInHeld t = false ∧ P.eqGuardType P.depth t = false then eqFlat T 0 fs.toList cs ds else none
  | _ => none
def binAgg (P : Program) (T : TT) (t : Nat) (op : BinOp) : Option C → Option C → Out
  | some (.agg cs), some (.agg ds) => match op with
    | .eql => outO ((eqAgg P T t cs ds).map xbool)
    | .neq => outO ((eqAgg P T t cs ds).map fun b => xbool (!b))
    | _ => none
  | _, _ => none
def binX (P : Program) (T : TT) (t : Nat) (u : Option TypeDesc) (op : BinOp) (x y : X) : Out := match litOf x, litOf y with
  | some a, some b => outO ((binLit u op a b).map fun v => .of (.lit v))
  | _, _ => binAgg P T t op x.rd y.rd

def lookupX (T : TT) (objs : List Ob) (t : Nat) (x k : X) (ok : Bool) : Out := match mapTy T t, litOf k, mapOf objs x with
  | some (kind, et), some kv, some es => match findX kind kv es 0 with
    | some (some i) => outO ((es[i]?).map fun e => if ok then .tup [.of e.2, xbool true] else .of e.2)
    | some none => outO ((zero1 T et).map fun z => if ok then .tup [z, xbool false] else z)
    | none => none
  | _, _, _ => none
def putX (kind : TypeDesc) (k : Value) (c : C) (es : List (Value × C)) : Option (List (Value × C)) := match findX kind k es 0 with
  | some (some i) => some (es.set i (k, c))
  | some none => some (es ++ [(k, c)])
  | none => none
def delX (kind : TypeDesc) (k : Value) (es : List (Value × C)) : Option (List (Value × C)) := match findX kind k es 0 with
  | some (some i) => some (es.eraseIdx i)
  | some none => some es
  | none => none

/-- An answer: does it panic; what is handed back; the objects behind it: those that were given, then new ones. -/
structure An where
  pan : Bool
  rs : List X
  obs : List Ob

/-- How a call is answered, by what it is given: values, and the objects that they name. -/
abbrev Orc := Nat → List X → List Ob → Option An

/-- How calls are answered; which functions take or give objects; which take rights. -/
structure En where
  orc : Orc
  obj : Nat → Bool
  tk : Nat → Bool

def oneX : List X → X
  | [x] => x
  | xs => .tup xs

def callable (P : Program) (f : Nat) : Bool := match P.funcs[f]? with
  | some fn => fn.body.isSome && !(fn.name == "runtime.NumGoroutine")
  | none => false

def nameTk (clk ix : Nat) : Tk → Option Tk
  | .nm 0 0 i => some (.nm clk ix i)
  | _ => none
def nameX (clk ix : Nat) (xs : List X) : List X := X.trs (fun _ => none) (nameTk clk ix) xs

/-- A call of a Go function on plain data. -/
def callX (P : Program) (E : En) (clk ix f : Nat) (cs : List C) : Out :=
  if callable P f && !E.obj f then match E.orc f (cs.map .of) [] with
    | some ⟨false, rs, []⟩ => out (oneX (nameX clk ix rs))
    | _ => none
  else none

/-- Is it a type, and no interface's? -/
def ifcD : Option TypeDesc → Bool
  | none => false
  | some (.interface _) => false
  | some _ => true

/-- A call. -/
def valCall (P : Program) (T : TT) (E : En) (s : S) (ix : Nat) : Callee → List Operand → List Nat → Out
  | .builtin .len, [x], [t] => lenX ((T t).map (·.und)) (s.ev x)
  | .builtin .append, [a, b], [st, xt] => appendX T (.nm s.clk ix 0) st xt (s.ev a) (s.ev b)
  | .value f, args, _ => match s.ev f, rdAll s.ev args with
    | .of (.fn f caps), some cs => callX P E s.clk ix f (cs ++ caps)
    | _, _ => none
  | _, _, _ => none

/-- An operation that turns no object. -/
def val (P : Program) (T : TT) (E : En) (s : S) (ix : Nat) (o : Oper) : Out :=
  match o.op with
  | .move x | .assign x => out (s.ev x)
  | .pick c a b => match litBool (s.ev c) with
    | some b' => out (if b' then s.ev a else s.ev b)
    | none => none
  | .binOp op t x y _ => binX P T t ((T t).map (·.und)) op (s.ev x) (s.ev y)
  | .unOp op _ x => match s.ev x with
    | .of (.lit u) => outO ((unLit op u).map fun v => .of (.lit v))
    | _ => none
  | .load t a => loadX T s.objs t (s.ev a)
  | .fieldAddr t x f => fieldAddrX T t f (s.ev x)
  | .field t x f => fieldX T t f (s.ev x)
  | .indexAddr t x i => indexAddrX T t (s.ev x) (s.ev i)
  | .index t x i => indexX T t (s.ev x) (s.ev i)
  | .slice t x lo hi none => sliceX T t (s.ev x) (lo.map s.ev) (hi.map s.ev)
  | .build t ps => match T t, partsX s.ev ps.toList with
    | some d, some qs => match d.und with
      | .struct _ => outO ((fillX (fun i => d.fields[i]?) (zeroX d) qs).map .agg)
      | .array _ e => match T e with
        | some de => outO ((fillX (fun i => some (i * de.size, de.size)) (zeroX d) qs).map .agg)
        | none => none
      | _ => none
    | _, _ => none
  | .buildSlice t' n ps => match elemOf T t', partsX s.ev ps.toList with
    | some (e, d), some qs =>
      if n * d.size ≤ 16777216 ∧ 0 < d.size ∧ d.zero.length = d.size then match fillX (fun i => some (i * d.size, d.size)) ((List.replicate n (zeroX d)).flatten) qs with
        | some xs => match X.rds xs with
          | some cs => out (.own (.nm s.clk ix 0) e d.size cs n)
          | none => none
        | none => none
      else none
    | _, _ => none
  | .extract x i => match s.ev x with
    | .tup xs => outO (xs[i]?)
    | .of (.tup cs) => outO ((cs[i]?).map .of)
    | _ => none
  | .nilCheck x => match s.ev x with
    | .ptr r off => out (.ptr r off)
    | .of (.ref cs) => out (.of (.ref cs))
    | _ => none
  | .makeFunc (.func f) first caps => if first.size = 0 then match rdAll s.ev caps.toList with
    | some cs => out (.of (.fn f cs))
    | none => none
    else none
  | .convert a b x => convertX T a b (s.ev x)
  | .lookup t x i ok => lookupX T s.objs t (s.ev x) (s.ev i) ok
  | .makeInterface t x => match ifcD ((T t).map (·.und)), (s.ev x).rd with
    | true, some c => out (.of (.ifc t c))
    | _, _ => none
  | .call { callee := cal, args := args, argTypes := tys } => valCall P T E s ix cal args.toList tys.toList
  | _ => none

/-- May this operation use up the right? One of an earlier region, or one that an operation yields for which it waits. -/
def okTk (clk : Nat) (after : List Edge) : Option Tk → Bool
  | some (.nm c ix _) => decide (c < clk) || (decide (c = clk) && after.any fun e => Region.binds .any e && e.on == ix)
  | _ => true

/-- An operation that turns no object. -/
def stepV (P : Program) (T : TT) (E : En) (s : S) (ix : Nat) (o : Oper) : Option (Option X × S) := match val P T E s ix o with
  | some (x, t) => if okTk s.clk o.after.toList t = true then some (none, (s.drop t).put o.dst x) else none
  | none => none

/-- Rights that cells of an object come to hold. -/
def cellTks (r : Nat) : Nat → List X → List (Tk × Tk)
  | _, [] => []
  | off, .own t _ _ _ _ :: l => (t, .cell r off) :: cellTks r (off + 1) l
  | off, _ :: l => cellTks r (off + 1) l
def assoc : List (Tk × Tk) → Tk → Option Tk
  | [], _ => none
  | (a, b) :: l, t => if a = t then some b else assoc l t
/-- The rights when some go over to cells: which ones are written on, which ones go over. -/
def moveTk (r off n : Nat) (mv : List (Tk × Tk)) (t : Tk) : Option Tk := match assoc mv t with
  | some t' => some t'
  | none => match t with
    | .cell r' o' => if r' = r ∧ off ≤ o' ∧ o' < off + n then none else some t
    | .nm .. => some t
def noOwn : List X → Bool
  | [] => true
  | .own .. :: _ => false
  | _ :: l => noOwn l
def S.tr (ρ : Tk → Option Tk) (s : S) : S := { s with fr := fun j => (s.fr j).tr some ρ, objs := s.objs.map (Ob.tr some ρ) }
/-- Values laid into an object's cells (which held ys): the rights that they hold go over to the cells. -/
def layS (r off : Nat) (xs ys : List X) (s : S) : S := if noOwn xs && noOwn ys then s else s.tr (moveTk r off xs.length (cellTks r off xs))

def allocS (s : S) (d : Option Nat) (ty : Nat) (xs : List X) : S := (layS s.objs.length 0 xs [] { s with objs := s.objs ++ [Ob.var ty xs] }).put d (.ptr s.objs.length 0)

def storeS (s : S) (d : Option Nat) (n r off : Nat) (xs : List X) : Option S := match s.objs[r]? with
  | some (.var ty ys) => if xs.length = n ∧ off + xs.length ≤ ys.length then
      some ((layS r off xs ((ys.drop off).take xs.length) { s with objs := s.objs.set r (Ob.var ty (ys.take off ++ xs ++ ys.drop (off + xs.length))) }).put d (.of .undef))
    else none
  | _ => none

/-- What is called, and with what. -/
def target (s : S) (c : Callee) (args : List Operand) : Option (Nat × List X) := match c with
  | .value f => match s.ev f with
    | .of (.fn g caps) => some (g, args.map s.ev ++ caps.map .of)
    | .clo g caps => some (g, args.map s.ev ++ caps)
    | _ => none
  | _ => none

/-- The state behind a call. -/
def backS (s : S) (ix : Nat) (d : Option Nat) (refs : List Nat) (ts : List Tk) (an : An) : Option (Option X × S) :=
  let σ := fun i => some (sigBack refs s.objs.length i)
  let ρ := rhoBack refs s.objs.length s.clk ix
  if refs.length ≤ an.obs.length then
    let s' : S := { s with fr := fun j => (s.fr j).tr some (keepTk refs ts), objs := setObs σ ρ (s.objs.map (Ob.tr some (keepTk refs ts))) refs an.obs ++ (an.obs.drop refs.length).map (Ob.tr σ ρ) }
    match an with
    | ⟨true, [x], _⟩ => some (some (x.tr σ ρ), s')
    | ⟨true, _, _⟩ => none
    | ⟨false, rs, _⟩ => some (none, s'.put d (oneX (X.trs σ ρ rs)))
  else none

/-- A call that takes or gives objects. -/
def callS (P : Program) (E : En) (s : S) (ix : Nat) (d : Option Nat) (f : Nat) (us : List X) : Option (Option X × S) :=
  if callable P f then
    let refs := reach s.objs 999 (X.refsL us) []
    let ts := if E.tk f then nub (X.toksL us) [] else []
    match pickObs (pos refs) (rhoIn refs ts) (dropTs ts s.objs) refs with
    | some obs => match E.orc f (X.trs (pos refs) (rhoIn refs ts) us) obs with
      | some an => backS s ix d refs ts an
      | none => none
    | none => none
  else none

def step (P : Program) (T : TT) (E : En) (dr : Bool) (s : S) (ix : Nat) (o : Oper) : Option (Option X × S) :=
  if dr then stepV P T E s ix o else
  match o.op with
  | .alloc t => match T t with
    | some d => some (none, allocS s o.dst t (zeroX d))
    | none => none
  | .box t x => match T t, cellsX (s.ev x) with
    | some d, some xs => if xs.length = d.size then some (none, allocS s o.dst t xs) else none
    | _, _ => none
  | .store t a x => match T t, s.ev a, cellsX (s.ev x) with
    | some d, .ptr r off, some xs => (storeS s o.dst d.size r off xs).map fun s => (none, s)
    | _, _, _ => none
  | .makeMap _ none => some (none, { s with objs := s.objs ++ [Ob.map []] }.put o.dst (.mp s.objs.length))
  | .mapUpdate t m k x => match mapTy T t, s.ev m, litOf (s.ev k), (s.ev x).rd with
    | some (kind, _), .mp r, some kv, some c => match s.objs[r]? with
      | some (.map es) => match putX kind kv c es with
        | some es' => some (none, { s with objs := s.objs.set r (Ob.map es') }.put o.dst (.of .undef))
        | none => none
      | _ => none
    | _, _, _, _ => none
  | .call { callee := .builtin .delete, args := args, argTypes := tys } => match args.toList, tys.toList with
    | [m, k], [t, _] => match mapTy T t, s.ev m, litOf (s.ev k) with
      | some (kind, _), .mp r, some kv => match s.objs[r]? with
        | some (.map es) => match delX kind kv es with
          | some es' => some (none, { s with objs := s.objs.set r (Ob.map es') }.put o.dst (.tup []))
          | none => none
        | _ => none
      | _, _, _ => none
    | _, _ => none
  | .panic x => match (s.ev x).rd with
    | some (.ifc t c) => some (some (.of (.ifc t c)), s)
    | _ => none
  | .call { callee := .value f, args := args, argTypes := _ } => match target s (.value f) args.toList with
    | some (g, us) => if E.obj g then callS P E s ix o.dst g us else stepV P T E s ix o
    | none => none
  | _ => stepV P T E s ix o

def guardOk (ops : Array Oper) (s : S) (o : Oper) : Option Bool :=
  match o.guard with
  | none => some true
  | some (j, want) => match (ops[j]?).bind (·.dst) with
    | some d => match s.fr d with
      | .of (.lit (.bool b)) => some (b == want)
      | .of .undef => some false
      | _ => none
    | none => some false

def stepG (P : Program) (T : TT) (E : En) (dr : Bool) (ops : Array Oper) (s : S) (ix : Nat) (o : Oper) : Option (Option X × S) :=
  match guardOk ops s o with
  | some true => step P T E dr s ix o
  | some false => some (none, s.put o.dst (.of .undef))
  | none => none

def evOps (P : Program) (T : TT) (E : En) (dr : Bool) (ops : Array Oper) : Nat → List Oper → S → Option (Option X × S)
  | _, [], s => some (none, s)
  | k, o :: r, s => match stepG P T E dr ops s k o with
    | some (none, s') => evOps P T E dr ops (k + 1) r s'
    | some (some x, s') => some (some x, s')
    | none => none

inductive Ex where
  | normal
  | exit (id : Nat)
  | ret
  | pan (x : X)

def initS (xs : List X) (obs : List Ob) : S := { fr := fun j => xs.getD j (.of .undef), objs := obs, clk := 1 }

/-- What a function hands back, as its slots say. -/
def resXs (T : TT) (s : S) : List ResultVar → Option (List X)
  | [] => some []
  | .tmp t :: r => (resXs T s r).map (s.fr t :: ·)
  | .cell a t :: r => match loadX T s.objs t (s.fr a), resXs T s r with
    | some (x, _), some q => some (x :: q)
    | _, _ => none

/-- The end of a call: the objects that were given, and the new ones that can still be come to; the rights that come with the results. -/
def leave (m : Nat) (pan : Bool) (rs : List X) (objs : List Ob) : Option An :=
  let refs := reach objs 999 (X.refsL rs ++ ((objs.take m).map Ob.refs).flatten) (List.range m)
  let ts := (nub (X.toksL rs) []).filter fun t => match t with
    | .nm .. => true
    | .cell r _ => !decide (r ∈ refs)
  (pickObs (pos refs) (rhoIn refs ts) objs refs).map fun obs => ⟨pan, X.trs (pos refs) (rhoIn refs ts) rs, obs⟩

def dstOk (N : Nat) (o : Oper) : Bool := match o.dst with
  | some d => decide (d < N)
  | none => true

/-- A region is in order: its slots are there; and where it draws its order, the order of the text serves. -/
def opsOk (N : Nat) (ops : Array Oper) (draw : Bool) : Bool := ops.all (dstOk N) && (!draw || Region.lexB .any ops)

def codeOk (N : Nat) : Code → Bool
  | .region _ ops draw => opsOk N ops draw
  | .seq a b => codeOk N a && codeOk N b
  | .cond _ a b => codeOk N a && codeOk N b
  | .block _ c => codeOk N c
  | .loop c => codeOk N c
  | _ => true

def bodyOf (P : Program) (f : Nat) : Code := match P.funcs[f]? with
  | some fn => fn.body.getD .skip
  | none => .skip
def arity (P : Program) (f : Nat) : Nat := match P.funcs[f]? with
  | some fn => fn.ntmps
  | none => 0
def resVars (P : Program) (f : Nat) : List ResultVar := match P.funcs[f]? with
  | some fn => fn.results.toList
  | none => []
def fnOk (P : Program) (f : Nat) : Bool := match P.funcs[f]? with
  | some fn => fn.body.isSome && codeOk fn.ntmps (fn.body.getD .skip)
  | none => false

/-- What is given: answers to calls; which functions take or give objects; which take rights. -/
structure Pr where
  prim : Orc
  obj : Nat → Bool
  tk : Nat → Bool

def callOf (P : Program) (T : TT) (run : Code → S → Option (Ex × S)) (f : Nat) (xs : List X) (obs : List Ob) : Option An :=
  if fnOk P f = true ∧ xs.length ≤ arity P f then match run (bodyOf P f) (initS xs obs) with
    | some (.normal, s) => (resXs T s (resVars P f)).bind fun rs => leave obs.length false rs s.objs
    | some (.ret, s) => (resXs T s (resVars P f)).bind fun rs => leave obs.length false rs s.objs
    | some (.pan x, s) => leave obs.length true [x] s.objs
    | _ => none
  else none

def orcOf (P : Program) (T : TT) (pr : Pr) (run : Code → S → Option (Ex × S)) : Orc := fun f xs obs =>
  match pr.prim f xs obs with
  | some r => some r
  | none => callOf P T run f xs obs

def enOf (P : Program) (T : TT) (pr : Pr) (run : Code → S → Option (Ex × S)) : En := ⟨orcOf P T pr run, pr.obj, pr.tk⟩

def evC (P : Program) (T : TT) (pr : Pr) : Nat → Code → S → Option (Ex × S)
  | 0, _, _ => none
  | n + 1, c, s => match c with
    | .skip => some (.normal, s)
    | .ret => some (.ret, s)
    | .exit i => some (.exit i, s)
    | .seq a b => match evC P T pr n a s with
      | some (.normal, s') => evC P T pr n b s'
      | r => r
    | .block i c => match evC P T pr n c s with
      | some (.exit j, s') => some (if j = i then .normal else .exit j, s')
      | r => r
    | .cond c a b => match litBool (s.ev c) with
      | some true => evC P T pr n a s
      | some false => evC P T pr n b s
      | none => none
    | .loop c => match evC P T pr n c s with
      | some (.normal, s') => evC P T pr n (.loop c) s'
      | r => r
    | .region _ ops draw => match evOps P T (enOf P T pr (evC P T pr n)) draw ops 0 ops.toList s with
      | some (none, s') => some (.normal, { s' with clk := s'.clk + 1 })
      | some (some x, s') => some (.pan x, { s' with clk := s'.clk + 1 })
      | none => none
    | _ => none

end Go.Pe
namespace Go.Pe
open Go.RowKit

abbrev Mem := Nat → Nat → Option Value

mutual
def Rep (m : Mem) : C → Value → Prop
  | .any, _ => True
  | .undef, v => v = undef
  | .lit u, v => v = u ∧ u.oneCell' = true
  | .sl cs n, v => ∃ a cap vs, v = .slice a n cap ∧ n ≤ cap ∧ RepL m cs vs ∧ (vs ≠ [] → ∃ b o, a = some ⟨b, o, none⟩ ∧ ∀ i u, vs[i]? = some u → m b (o + i) = some u)
  | .ref cs, v => ∃ b o vs, v = .pointer (some ⟨b, o, none⟩) ∧ RepL m cs vs ∧ ∀ i u, vs[i]? = some u → m b (o + i) = some u
  | .fn f caps, v => ∃ vs : List Value, v = .func (.func f) #[] vs.toArray ∧ RepL m caps vs
  | .agg cs, v => ∃ vs : List Value, v = .agg vs.toArray ∧ (∀ u ∈ vs, u.oneCell' = true) ∧ RepL m cs vs
  | .tup cs, v => ∃ vs : List Value, v = .tuple vs.toArray ∧ RepL m cs vs
  | .ifc t c, v => ∃ u, v = .iface t u ∧ Rep m c u
def RepL (m : Mem) : List C → List Value → Prop
  | [], vs => vs = []
  | c :: cs, vs => ∃ v r, vs = v :: r ∧ Rep m c v ∧ RepL m cs r
end

def Mem.le (m m' : Mem) : Prop := ∀ b o v, m b o = some v → m' b o = some v
theorem Mem.le_refl (m : Mem) : m.le m := fun _ _ _ h => h
theorem Mem.le_trans {a b c : Mem} (h : a.le b) (h' : b.le c) : a.le c := fun _ _ _ x => h' _ _ _ (h _ _ _ x)

theorem Rep.mono {m m' : Mem} (h : m.le m') : ∀ (c : C) (v : Value), Rep m c v → Rep m' c v :=
  C.rec (motive_1 := fun c => ∀ v, Rep m c v → Rep m' c v) (motive_2 := fun cs => ∀ vs, RepL m cs vs → RepL m' cs vs)
    (fun _ _ => by simp [Rep]) (fun _ h => by simpa [Rep] using h) (fun _ _ h => by simpa [Rep] using h)
    (fun cs n ih v => by
      simp only [Rep]
      rintro ⟨a, cap, vs, rfl, hn, hl, hm⟩
      exact ⟨a, cap, vs, rfl, hn, ih _ hl, fun hne => by
        obtain ⟨b, o, ha, hc⟩ := hm hne
        exact ⟨b, o, ha, fun i u hu => h _ _ _ (hc i u hu)⟩⟩)
    (fun cs ih v => by
      simp only [Rep]
      rintro ⟨b, o, vs, rfl, hl, hm⟩
      exact ⟨b, o, vs, rfl, ih _ hl, fun i u hu => h _ _ _ (hm i u hu)⟩)
    (fun f cs ih v => by simp only [Rep]; rintro ⟨vs, rfl, hl⟩; exact ⟨vs, rfl, ih _ hl⟩)
    (fun cs ih v => by simp only [Rep]; rintro ⟨vs, rfl, h1, hl⟩; exact ⟨vs, rfl, h1, ih _ hl⟩)
    (fun cs ih v => by simp only [Rep]; rintro ⟨vs, rfl, hl⟩; exact ⟨vs, rfl, ih _ hl⟩)
    (fun t c ih v => by simp only [Rep]; rintro ⟨u, rfl, h⟩; exact ⟨u, rfl, ih _ h⟩)
    (fun vs h => by simpa [RepL] using h)
    (fun c cs ih1 ih2 vs => by simp only [RepL]; rintro ⟨v, r, rfl, h1, h2⟩; exact ⟨v, r, rfl, ih1 _ h1, ih2 _ h2⟩)

theorem RepL.mono {m m' : Mem} (h : m.le m') : ∀ (cs : List C) (vs : List Value), RepL m cs vs → RepL m' cs vs
  | [], vs, hh => by simpa [RepL] using hh
  | c :: cs, vs, hh => by
    simp only [RepL] at hh ⊢
    obtain ⟨v, r, rfl, h1, h2⟩ := hh
    exact ⟨v, r, rfl, Rep.mono h _ _ h1, RepL.mono h _ _ h2⟩

theorem RepL.length {m : Mem} : ∀ {cs : List C} {vs : List Value}, RepL m cs vs → vs.length = cs.length
  | [], vs, h => by simp only [RepL] at h; simp [h]
  | c :: cs, vs, h => by
    simp only [RepL] at h
    obtain ⟨v, r, rfl, _, h2⟩ := h
    simp [RepL.length h2]

theorem RepL.get {m : Mem} : ∀ {cs : List C} {vs : List Value}, RepL m cs vs → ∀ (i : Nat) (c : C), cs[i]? = some c → ∃ v, vs[i]? = some v ∧ Rep m c v
  | [], vs, h, i, c, hc => by simp at hc
  | d :: cs, vs, h, i, c, hc => by
    simp only [RepL] at h
    obtain ⟨v, r, rfl, h1, h2⟩ := h
    cases i with
    | zero => simp at hc; subst hc; exact ⟨v, by simp, h1⟩
    | succ i => simp at hc; simpa using RepL.get h2 i c hc

theorem RepL.drop {m : Mem} : ∀ (k : Nat) {cs : List C} {vs : List Value}, RepL m cs vs → RepL m (cs.drop k) (vs.drop k)
  | 0, cs, vs, h => by simpa using h
  | k + 1, [], vs, h => by simp only [RepL] at h; subst h; simp [RepL]
  | k + 1, c :: cs, vs, h => by
    simp only [RepL] at h
    obtain ⟨v, r, rfl, _, h2⟩ := h
    simpa using RepL.drop k h2

theorem RepL.take {m : Mem} : ∀ (k : Nat) {cs : List C} {vs : List Value}, RepL m cs vs → RepL m (cs.take k) (vs.take k)
  | 0, cs, vs, h => by simp [RepL]
  | k + 1, [], vs, h => by simp only [RepL] at h; subst h; simp [RepL]
  | k + 1, c :: cs, vs, h => by
    simp only [RepL] at h
    obtain ⟨v, r, rfl, h1, h2⟩ := h
    simp only [List.take_succ_cons, RepL]
    exact ⟨v, r.take k, rfl, h1, RepL.take k h2⟩

theorem RepL.append {m : Mem} : ∀ {cs ds : List C} {vs us : List Value}, RepL m cs vs → RepL m ds us → RepL m (cs ++ ds) (vs ++ us)
  | [], ds, vs, us, h, h' => by simp only [RepL] at h; subst h; simpa using h'
  | c :: cs, ds, vs, us, h, h' => by
    simp only [RepL] at h
    obtain ⟨v, r, rfl, h1, h2⟩ := h
    simp only [List.cons_append, RepL]
    exact ⟨v, r ++ us, rfl, h1, RepL.append h2 h'⟩

abbrev Own := Tk → Option (Value × Nat × Nat × Nat)

structure Know where
  m : Mem
  μ : Nat → Option Nat

mutual
def RepX (k : Know) (ow : Own) : X → Value → Prop
  | .of c, v => Rep k.m c v
  | .nil, v => v = .slice none 0 0
  | .own t e z cs n, v => ow t = some (v, e, z, n) ∧ cs.length = n * z ∧ Rep k.m (.sl cs n) v
  | .ptr r off, v => ∃ b, k.μ r = some b ∧ v = .pointer (some ⟨b, off, none⟩)
  | .mp r, v => ∃ b, k.μ r = some b ∧ v = .map (some b)
  | .clo f caps, v => ∃ vs : List Value, v = .func (.func f) #[] vs.toArray ∧ RepXs k ow caps vs
  | .agg xs, v => ∃ vs : List Value, v = .agg vs.toArray ∧ (∀ u ∈ vs, u.oneCell' = true) ∧ RepXs k ow xs vs
  | .tup xs, v => ∃ vs : List Value, v = .tuple vs.toArray ∧ RepXs k ow xs vs
def RepXs (k : Know) (ow : Own) : List X → List Value → Prop
  | [], vs => vs = []
  | x :: xs, vs => ∃ v r, vs = v :: r ∧ RepX k ow x v ∧ RepXs k ow xs r
end

def Know.le (k k' : Know) : Prop := k.m.le k'.m ∧ ∀ r b, k.μ r = some b → k'.μ r = some b
theorem Know.le_refl (k : Know) : k.le k := ⟨fun _ _ _ h => h, fun _ _ h => h⟩
theorem Know.le_trans {a b c : Know} (h : a.le b) (h' : b.le c) : a.le c := ⟨Mem.le_trans h.1 h'.1, fun _ _ x => h'.2 _ _ (h.2 _ _ x)⟩

/-- The rights that stay. -/
def Own.sub (ow ow' : Own) : Prop := ∀ t p, ow t = some p → ow' t = some p

theorem RepX.mono {k k' : Know} {ow ow' : Own} (h : k.le k') (ho : ow.sub ow') : ∀ (x : X) (v : Value), RepX k ow x v → RepX k' ow' x v :=
  X.rec (motive_1 := fun x => ∀ v, RepX k ow x v → RepX k' ow' x v) (motive_2 := fun xs => ∀ vs, RepXs k ow xs vs → RepXs k' ow' xs vs)
    (fun c v hh => by simp only [RepX] at hh ⊢; exact Rep.mono h.1 _ _ hh)
    (fun v hh => by simpa only [RepX] using hh)
    (fun t e z cs n v hh => by simp only [RepX] at hh ⊢; exact ⟨ho _ _ hh.1, hh.2.1, Rep.mono h.1 _ _ hh.2.2⟩)
    (fun r off v hh => by simp only [RepX] at hh ⊢; obtain ⟨b, hb, hv⟩ := hh; exact ⟨b, h.2 _ _ hb, hv⟩)
    (fun r v hh => by simp only [RepX] at hh ⊢; obtain ⟨b, hb, hv⟩ := hh; exact ⟨b, h.2 _ _ hb, hv⟩)
    (fun f xs ih v hh => by simp only [RepX] at hh ⊢; obtain ⟨vs, hv, hl⟩ := hh; exact ⟨vs, hv, ih _ hl⟩)
    (fun xs ih v hh => by simp only [RepX] at hh ⊢; obtain ⟨vs, hv, h1, hl⟩ := hh; exact ⟨vs, hv, h1, ih _ hl⟩)
    (fun xs ih v hh => by simp only [RepX] at hh ⊢; obtain ⟨vs, hv, hl⟩ := hh; exact ⟨vs, hv, ih _ hl⟩)
    (fun vs hh => by simpa only [RepXs] using hh)
    (fun x xs ih1 ih2 vs hh => by simp only [RepXs] at hh ⊢; obtain ⟨v, r, hv, h1, h2⟩ := hh; exact ⟨v, r, hv, ih1 _ h1, ih2 _ h2⟩)

theorem RepXs.mono {k k' : Know} {ow ow' : Own} (h : k.le k') (ho : ow.sub ow') : ∀ (xs : List X) (vs : List Value), RepXs k ow xs vs → RepXs k' ow' xs vs
  | [], vs, hh => by simpa only [RepXs] using hh
  | x :: xs, vs, hh => by
    simp only [RepXs] at hh ⊢
    obtain ⟨v, r, hv, h1, h2⟩ := hh
    exact ⟨v, r, hv, RepX.mono h ho _ _ h1, RepXs.mono h ho _ _ h2⟩

/-- A right given up. -/
def Own.del (ow : Own) (t : Tk) : Own := fun t' => if t' = t then none else ow t'

theorem RepX.drop {k : Know} {ow : Own} (t : Tk) : ∀ (x : X) (v : Value), RepX k ow x v → RepX k (ow.del t) (x.drop t) v :=
  X.rec (motive_1 := fun x => ∀ v, RepX k ow x v → RepX k (ow.del t) (x.drop t) v) (motive_2 := fun xs => ∀ vs, RepXs k ow xs vs → RepXs k (ow.del t) (X.drops t xs) vs)
    (fun c v hh => by simpa only [X.drop, RepX] using hh)
    (fun v hh => by simpa only [X.drop, RepX] using hh)
    (fun t' e z cs n v hh => by
      simp only [X.drop]
      split
      · simp only [RepX] at hh ⊢; exact hh.2.2
      · rename_i hne
        simp only [RepX] at hh ⊢
        exact ⟨by simp only [Own.del, hne, if_false]; exact hh.1, hh.2⟩)
    (fun r off v hh => by simpa only [X.drop, RepX] using hh)
    (fun r v hh => by simpa only [X.drop, RepX] using hh)
    (fun f xs ih v hh => by simp only [X.drop, RepX] at hh ⊢; obtain ⟨vs, hv, hl⟩ := hh; exact ⟨vs, hv, ih _ hl⟩)
    (fun xs ih v hh => by simp only [X.drop, RepX] at hh ⊢; obtain ⟨vs, hv, h1, hl⟩ := hh; exact ⟨vs, hv, h1, ih _ hl⟩)
    (fun xs ih v hh => by simp only [X.drop, RepX] at hh ⊢; obtain ⟨vs, hv, hl⟩ := hh; exact ⟨vs, hv, ih _ hl⟩)
    (fun vs hh => by simpa only [X.drops, RepXs] using hh)
    (fun x xs ih1 ih2 vs hh => by simp only [X.drops, RepXs] at hh ⊢; obtain ⟨v, r, hv, h1, h2⟩ := hh; exact ⟨v, r, hv, ih1 _ h1, ih2 _ h2⟩)

theorem RepXs.drop {k : Know} {ow : Own} (t : Tk) : ∀ (xs : List X) (vs : List Value), RepXs k ow xs vs → RepXs k (ow.del t) (X.drops t xs) vs
  | [], vs, hh => by simpa only [X.drops, RepXs] using hh
  | x :: xs, vs, hh => by
    simp only [X.drops, RepXs] at hh ⊢
    obtain ⟨v, r, hv, h1, h2⟩ := hh
    exact ⟨v, r, hv, RepX.drop t _ _ h1, RepXs.drop t _ _ h2⟩

theorem RepXs.length {k : Know} {ow : Own} : ∀ {xs : List X} {vs : List Value}, RepXs k ow xs vs → vs.length = xs.length
  | [], vs, h => by simp only [RepXs] at h; simp [h]
  | c :: cs, vs, h => by
    simp only [RepXs] at h
    obtain ⟨v, r, rfl, _, h2⟩ := h
    simp [RepXs.length h2]

theorem RepXs.get {k : Know} {ow : Own} : ∀ {xs : List X} {vs : List Value}, RepXs k ow xs vs → ∀ (i : Nat) (x : X), xs[i]? = some x → ∃ v, vs[i]? = some v ∧ RepX k ow x v
  | [], vs, h, i, c, hc => by simp at hc
  | d :: cs, vs, h, i, c, hc => by
    simp only [RepXs] at h
    obtain ⟨v, r, rfl, h1, h2⟩ := h
    cases i with
    | zero => simp at hc; subst hc; exact ⟨v, by simp, h1⟩
    | succ i => simp at hc; simpa using RepXs.get h2 i c hc

theorem RepXs.dropN {k : Know} {ow : Own} : ∀ (n : Nat) {xs : List X} {vs : List Value}, RepXs k ow xs vs → RepXs k ow (xs.drop n) (vs.drop n)
  | 0, cs, vs, h => by simpa using h
  | n + 1, [], vs, h => by simp only [RepXs] at h; subst h; simp [RepXs]
  | n + 1, c :: cs, vs, h => by
    simp only [RepXs] at h
    obtain ⟨v, r, rfl, _, h2⟩ := h
    simpa using RepXs.dropN n h2

theorem RepXs.takeN {k : Know} {ow : Own} : ∀ (n : Nat) {xs : List X} {vs : List Value}, RepXs k ow xs vs → RepXs k ow (xs.take n) (vs.take n)
  | 0, cs, vs, h => by simp [RepXs]
  | n + 1, [], vs, h => by simp only [RepXs] at h; subst h; simp [RepXs]
  | n + 1, c :: cs, vs, h => by
    simp only [RepXs] at h
    obtain ⟨v, r, rfl, h1, h2⟩ := h
    simp only [List.take_succ_cons, RepXs]
    exact ⟨v, r.take n, rfl, h1, RepXs.takeN n h2⟩

theorem RepXs.append {k : Know} {ow : Own} : ∀ {cs ds : List X} {vs us : List Value}, RepXs k ow cs vs → RepXs k ow ds us → RepXs k ow (cs ++ ds) (vs ++ us)
  | [], ds, vs, us, h, h' => by simp only [RepXs] at h; subst h; simpa using h'
  | c :: cs, ds, vs, us, h, h' => by
    simp only [RepXs] at h
    obtain ⟨v, r, rfl, h1, h2⟩ := h
    simp only [List.cons_append, RepXs]
    exact ⟨v, r ++ us, rfl, h1, RepXs.append h2 h'⟩

theorem RepXs.of {k : Know} {ow : Own} : ∀ {cs : List C} {vs : List Value}, RepL k.m cs vs → RepXs k ow (cs.map .of) vs
  | [], vs, h => by simpa [RepL, RepXs] using h
  | c :: cs, vs, h => by
    simp only [RepL] at h
    obtain ⟨v, r, rfl, h1, h2⟩ := h
    simp only [List.map_cons, RepXs, RepX]
    exact ⟨v, r, rfl, h1, RepXs.of h2⟩

theorem repX_rd {k : Know} {ow : Own} : ∀ (x : X) (c : C) (v : Value), x.rd = some c → RepX k ow x v → Rep k.m c v :=
  X.rec (motive_1 := fun x => ∀ c v, x.rd = some c → RepX k ow x v → Rep k.m c v) (motive_2 := fun xs => ∀ cs vs, X.rds xs = some cs → RepXs k ow xs vs → RepL k.m cs vs)
    (fun c c' v hr hh => by simp only [X.rd, Option.some.injEq] at hr; subst hr; simpa only [RepX] using hh)
    (fun c' v hr hh => by
      simp only [X.rd, Option.some.injEq] at hr
      subst hr
      simp only [RepX] at hh
      subst hh
      simp only [Rep]
      exact ⟨none, 0, [], rfl, Nat.le_refl _, by simp [RepL], fun h => absurd rfl h⟩)
    (fun t e z cs n c' v hr hh => by
      simp only [X.rd, Option.some.injEq] at hr
      subst hr
      simp only [RepX] at hh
      exact hh.2.2)
    (fun r off c' v hr hh => by simp [X.rd] at hr)
    (fun r c' v hr hh => by simp [X.rd] at hr)
    (fun f xs ih c' v hr hh => by simp [X.rd] at hr)
    (fun xs ih c' v hr hh => by
      simp only [X.rd, Option.map_eq_some_iff] at hr
      obtain ⟨cs, hcs, rfl⟩ := hr
      simp only [RepX] at hh
      obtain ⟨vs, rfl, h1, hl⟩ := hh
      simp only [Rep]
      exact ⟨vs, rfl, h1, ih _ _ hcs hl⟩)
    (fun xs ih c' v hr hh => by simp [X.rd] at hr)
    (fun cs vs hr hh => by
      simp only [X.rds, Option.some.injEq] at hr
      subst hr
      simpa only [RepXs, RepL] using hh)
    (fun x xs ih1 ih2 cs vs hr hh => by
      simp only [X.rds] at hr
      split at hr
      · rename_i c cs' h1 h2
        simp only [Option.some.injEq] at hr
        subst hr
        simp only [RepXs] at hh
        obtain ⟨v, r, rfl, hv, hl⟩ := hh
        simp only [RepL]
        exact ⟨v, r, rfl, ih1 _ _ h1 hv, ih2 _ _ h2 hl⟩
      · cases hr)

theorem repX_rds {k : Know} {ow : Own} : ∀ (xs : List X) (cs : List C) (vs : List Value), X.rds xs = some cs → RepXs k ow xs vs → RepL k.m cs vs
  | [], cs, vs, hr, hh => by
    simp only [X.rds, Option.some.injEq] at hr
    subst hr
    simpa only [RepXs, RepL] using hh
  | x :: xs, cs, vs, hr, hh => by
    simp only [X.rds] at hr
    split at hr
    · rename_i c cs' h1 h2
      simp only [Option.some.injEq] at hr
      subst hr
      simp only [RepXs] at hh
      obtain ⟨v, r, rfl, hv, hl⟩ := hh
      simp only [RepL]
      exact ⟨v, r, rfl, repX_rd _ _ _ h1 hv, repX_rds _ _ _ h2 hl⟩
    · cases hr

/-- The cells of a value: each of one cell. -/
theorem repX_cells {k : Know} {ow : Own} {x : X} {xs : List X} {v : Value} (hc : cellsX x = some xs) (h : RepX k ow x v) :
    RepXs k ow xs v.cells.toList ∧ ∀ u ∈ v.cells.toList, u.oneCell' = true := by
  have single : ∀ (x : X), RepX k ow x v → v.oneCell' = true → RepXs k ow [x] v.cells.toList ∧ ∀ u ∈ v.cells.toList, u.oneCell' = true := by
    intro x hx h1
    have : v.cells = #[v] := by cases v <;> simp_all [Value.cells, Value.oneCell']
    rw [this]
    simp only [RepXs]
    exact ⟨⟨v, [], rfl, hx, rfl⟩, by simpa using h1⟩
  cases x with
  | of c =>
    cases c with
    | any => simp [cellsX] at hc
    | undef => simp [cellsX] at hc
    | tup cs => simp [cellsX] at hc
    | agg cs =>
      simp only [cellsX, Option.some.injEq] at hc
      subst hc
      simp only [RepX, Rep] at h
      obtain ⟨vs, rfl, h1, hl⟩ := h
      exact ⟨by simpa [Value.cells] using RepXs.of hl, by simpa [Value.cells] using h1⟩
    | ifc t c =>
      simp only [cellsX, Option.some.injEq] at hc
      subst hc
      exact single _ h (by simp only [RepX, Rep] at h; obtain ⟨u, rfl, _⟩ := h; rfl)
    | lit u =>
      simp only [cellsX, Option.some.injEq] at hc
      subst hc
      exact single _ h (by simp only [RepX, Rep] at h; rw [h.1]; exact h.2)
    | sl cs n =>
      simp only [cellsX, Option.some.injEq] at hc
      subst hc
      exact single _ h (by simp only [RepX, Rep] at h; obtain ⟨a, cap, vs, rfl, _⟩ := h; rfl)
    | ref cs =>
      simp only [cellsX, Option.some.injEq] at hc
      subst hc
      exact single _ h (by simp only [RepX, Rep] at h; obtain ⟨a, cap, vs, rfl, _⟩ := h; rfl)
    | fn f cs =>
      simp only [cellsX, Option.some.injEq] at hc
      subst hc
      exact single _ h (by simp only [RepX, Rep] at h; obtain ⟨vs, rfl, _⟩ := h; rfl)
  | nil =>
    simp only [cellsX, Option.some.injEq] at hc
    subst hc
    exact single _ h (by simp only [RepX] at h; subst h; rfl)
  | own t e z cs n =>
    simp only [cellsX, Option.some.injEq] at hc
    subst hc
    exact single _ h (by simp only [RepX, Rep] at h; obtain ⟨_, _, a, cap, vs, rfl, _⟩ := h; rfl)
  | ptr r off =>
    simp only [cellsX, Option.some.injEq] at hc
    subst hc
    exact single _ h (by simp only [RepX] at h; obtain ⟨b, _, rfl⟩ := h; rfl)
  | mp r =>
    simp only [cellsX, Option.some.injEq] at hc
    subst hc
    exact single _ h (by simp only [RepX] at h; obtain ⟨b, _, rfl⟩ := h; rfl)
  | clo f caps =>
    simp only [cellsX, Option.some.injEq] at hc
    subst hc
    exact single _ h (by simp only [RepX] at h; obtain ⟨b, rfl, _⟩ := h; rfl)
  | agg xs =>
    simp only [cellsX, Option.some.injEq] at hc
    subst hc
    simp only [RepX] at h
    obtain ⟨vs, rfl, h1, hl⟩ := h
    exact ⟨by simpa [Value.cells] using hl, by simpa [Value.cells] using h1⟩
  | tup xs => simp [cellsX] at hc

/-- Names of objects that stand for the same blocks. -/
structure Ren (σ : Nat → Option Nat) (ρ : Tk → Option Tk) (k k' : Know) (ow ow' : Own) : Prop where
  m : k.m.le k'.m
  μ : ∀ r b r', k.μ r = some b → σ r = some r' → k'.μ r' = some b
  ow : ∀ t p t', ow t = some p → ρ t = some t' → ow' t' = some p

theorem RepX.tr {σ : Nat → Option Nat} {ρ : Tk → Option Tk} {k k' : Know} {ow ow' : Own} (h : Ren σ ρ k k' ow ow') : ∀ (x : X) (v : Value), RepX k ow x v → RepX k' ow' (x.tr σ ρ) v :=
  X.rec (motive_1 := fun x => ∀ v, RepX k ow x v → RepX k' ow' (x.tr σ ρ) v) (motive_2 := fun xs => ∀ vs, RepXs k ow xs vs → RepXs k' ow' (X.trs σ ρ xs) vs)
    (fun c v hh => by simp only [RepX, X.tr] at hh ⊢; exact Rep.mono h.m _ _ hh)
    (fun v hh => by simpa only [RepX, X.tr] using hh)
    (fun t e z cs n v hh => by
      simp only [RepX, X.tr] at hh ⊢
      split
      · rename_i t' ht
        simp only [RepX]
        exact ⟨h.ow _ _ _ hh.1 ht, hh.2.1, Rep.mono h.m _ _ hh.2.2⟩
      · simp only [RepX]; exact Rep.mono h.m _ _ hh.2.2)
    (fun r off v hh => by
      simp only [RepX, X.tr] at hh ⊢
      obtain ⟨b, hb, hv⟩ := hh
      split
      · rename_i r' hr; simp only [RepX]; exact ⟨b, h.μ _ _ _ hb hr, hv⟩
      · simp [RepX, Rep])
    (fun r v hh => by
      simp only [RepX, X.tr] at hh ⊢
      obtain ⟨b, hb, hv⟩ := hh
      split
      · rename_i r' hr; simp only [RepX]; exact ⟨b, h.μ _ _ _ hb hr, hv⟩
      · simp [RepX, Rep])
    (fun f xs ih v hh => by simp only [RepX, X.tr] at hh ⊢; obtain ⟨vs, hv, hl⟩ := hh; exact ⟨vs, hv, ih _ hl⟩)
    (fun xs ih v hh => by simp only [RepX, X.tr] at hh ⊢; obtain ⟨vs, hv, h1, hl⟩ := hh; exact ⟨vs, hv, h1, ih _ hl⟩)
    (fun xs ih v hh => by simp only [RepX, X.tr] at hh ⊢; obtain ⟨vs, hv, hl⟩ := hh; exact ⟨vs, hv, ih _ hl⟩)
    (fun vs hh => by simpa only [RepXs, X.trs] using hh)
    (fun x xs ih1 ih2 vs hh => by simp only [RepXs, X.trs] at hh ⊢; obtain ⟨v, r, hv, h1, h2⟩ := hh; exact ⟨v, r, hv, ih1 _ h1, ih2 _ h2⟩)

theorem RepXs.tr {σ : Nat → Option Nat} {ρ : Tk → Option Tk} {k k' : Know} {ow ow' : Own} (h : Ren σ ρ k k' ow ow') : ∀ (xs : List X) (vs : List Value), RepXs k ow xs vs → RepXs k' ow' (X.trs σ ρ xs) vs
  | [], vs, hh => by simpa only [RepXs, X.trs] using hh
  | x :: xs, vs, hh => by
    simp only [RepXs, X.trs] at hh ⊢
    obtain ⟨v, r, hv, h1, h2⟩ := hh
    exact ⟨v, r, hv, RepX.tr h _ _ h1, RepXs.tr h _ _ h2⟩

theorem pos_spec {α : Type} [DecidableEq α] : ∀ {l : List α} {a : α} {i : Nat}, pos l a = some i → l[i]? = some a
  | [], a, i, h => by simp [pos] at h
  | b :: l, a, i, h => by
    simp only [pos] at h
    split at h
    · rename_i e
      simp only [Option.some.injEq] at h
      subst h; subst e
      rfl
    · simp only [Option.map_eq_some_iff] at h
      obtain ⟨j, hj, rfl⟩ := h
      simpa using pos_spec hj
theorem pos_none {α : Type} [DecidableEq α] : ∀ {l : List α} {a : α}, pos l a = none → a ∉ l
  | [], a, _ => by simp
  | b :: l, a, h => by
    simp only [pos] at h
    split at h
    · cases h
    · rename_i e
      simp only [Option.map_eq_none_iff] at h
      have := pos_none h
      simp only [List.mem_cons, not_or]
      exact ⟨fun e' => e e'.symm, this⟩

theorem nub_nodup {α : Type} [DecidableEq α] : ∀ (l seen : List α), seen.Nodup → (nub l seen).Nodup
  | [], seen, h => h
  | a :: l, seen, h => by
    simp only [nub]
    split
    · exact nub_nodup l seen h
    · rename_i hn
      refine nub_nodup l _ ?_
      rw [List.nodup_append]
      exact ⟨h, by simp, fun x hx y hy => by simp at hy; subst hy; exact fun e => hn (e ▸ hx)⟩

theorem reach_nodup (objs : List Ob) : ∀ (n : Nat) (todo seen : List Nat), seen.Nodup → (reach objs n todo seen).Nodup
  | 0, _, seen, h => h
  | _ + 1, [], seen, h => h
  | n + 1, r :: todo, seen, h => by
    simp only [reach]
    split
    · exact reach_nodup objs n todo seen h
    · rename_i hn
      refine reach_nodup objs n _ _ ?_
      rw [List.nodup_append]
      exact ⟨h, by simp, fun x hx y hy => by simp at hy; subst hy; exact fun e => hn (e ▸ hx)⟩

theorem reach_front (objs : List Ob) : ∀ (n : Nat) (todo seen : List Nat), ∃ q, reach objs n todo seen = seen ++ q
  | 0, _, seen => ⟨[], by simp [reach]⟩
  | _ + 1, [], seen => ⟨[], by simp [reach]⟩
  | n + 1, r :: todo, seen => by
    simp only [reach]
    split
    · exact reach_front objs n todo seen
    · obtain ⟨q, hq⟩ := reach_front objs n (((objs[r]?).map Ob.refs).getD [] ++ todo) (seen ++ [r])
      exact ⟨r :: q, by rw [hq]; simp⟩

end Go.Pe
namespace Go.Pe
open Go.RowKit

/-- What is given of the program's own tables: a fact on memory that hangs on some blocks alone. -/
structure GP where
  holds : World → Prop
  blk : Nat → Prop
  keep : ∀ w w', holds w → (∀ b, blk b → w'.heap[b]? = w.heap[b]?) → holds w'

/-- What stands fast while a call runs: what is given of tables; what it was told of memory; the blocks that it may write on. -/
structure Base where
  G : GP
  m : Mem
  mod : Nat → Prop

/-- All but some blocks is as it was; there may be more. -/
structure Keeps (M : Nat → Prop) (w w' : World) : Prop where
  os : w'.os = w.os
  tape : w'.tape = w.tape
  output : w'.output = w.output
  size : w.heap.size ≤ w'.heap.size
  block : ∀ b, b < w.heap.size → ¬ M b → w'.heap[b]? = w.heap[b]?

theorem Keeps.refl (M : Nat → Prop) (w : World) : Keeps M w w := ⟨rfl, rfl, rfl, Nat.le_refl _, fun _ _ _ => rfl⟩
theorem Keeps.trans {M : Nat → Prop} {a b c : World} (h : Keeps M a b) (h' : Keeps M b c) : Keeps M a c :=
  ⟨h'.os.trans h.os, h'.tape.trans h.tape, h'.output.trans h.output, Nat.le_trans h.size h'.size, fun x hx hm => (h'.block x (Nat.lt_of_lt_of_le hx h.size) hm).trans (h.block x hx hm)⟩
theorem Keeps.below {M : Nat → Prop} {w w' : World} (h : Below w.heap.size w w') : Keeps M w w' := ⟨h.os, h.tape, h.output, h.size, fun b hb _ => h.block b hb⟩
/-- The call's own blocks. -/
def Mine (M : Nat → Prop) (w0 : World) (b : Nat) : Prop := w0.heap.size ≤ b ∨ M b

/-- What an object of the call's own is in memory: block b. -/
def ObRep (k : Know) (ow : Own) (w : World) (b : Nat) : Ob → Prop
  | .var ty xs => ∃ (vs : List Value), w.heap[b]? = some (.cells vs.toArray ty (0, 0)) ∧ (∀ u ∈ vs, u.oneCell' = true) ∧ RepXs k ow xs vs
  | .map es => ∃ (ms : Array MapEntry) (cl : Nat), w.heap[b]? = some (.map ms cl) ∧ ms.toList.map (·.key) = es.map (·.1) ∧ RepL k.m (es.map (·.2)) (ms.toList.map (·.val))

/-- Objects, rights, and memory: what was there when the call began (w0) is as it was. -/
structure Hp (M0 : Base) (k : Know) (ow : Own) (w0 w : World) (objs : List Ob) : Prop where
  good : M0.G.holds w0 ∧ ∀ b, M0.G.blk b → b < w0.heap.size ∧ ¬ M0.mod b
  below : Keeps M0.mod w0 w
  mem : ∀ b o v, k.m b o = some v → w.cell? ⟨b, o, none⟩ = some v ∧ v.oneCell' = true
  obj : ∀ r ob, objs[r]? = some ob → ∃ b, k.μ r = some b ∧ Mine M0.mod w0 b ∧ b < w.heap.size ∧ (∀ o, k.m b o = none) ∧ ObRep k ow w b ob
  dom : ∀ r b, k.μ r = some b → r < objs.length
  inj : ∀ r r' b, k.μ r = some b → k.μ r' = some b → r = r'
  tok : ∀ t v e z n, ow t = some (v, e, z, n) → (∃ xs, w.ownsRow 0 e z v n xs) ∧ ∀ g, v.ownBlock = some g → Mine M0.mod w0 g ∧ (∀ o, n * z ≤ o → k.m g o = none) ∧ ∀ r, k.μ r ≠ some g
  tokne : ∀ t t' v e z n v' e' z' n', ow t = some (v, e, z, n) → ow t' = some (v', e', z', n') → t ≠ t' → ∀ g, v.ownBlock = some g → v'.ownBlock ≠ some g
  m0 : ∀ b o v, k.m b o = some v → b < w0.heap.size → ¬ M0.mod b → M0.m b o = some v

/-- A right is an old one, or one of these operations'. -/
def Tk.older (clk : Nat) (done : Nat → Prop) : Tk → Prop
  | .nm c ix _ => c < clk ∨ (c = clk ∧ done ix)
  | .cell .. => True

/-- A state, and memory. -/
structure Sim (M0 : Base) (k : Know) (ow : Own) (done : Nat → Prop) (w0 w : World) (N : Nat) (s : S) (tmps : Array Value) : Prop extends Hp M0 k ow w0 w s.objs where
  size : tmps.size = N
  fr : ∀ j, RepX k ow (s.fr j) (tmps.getD j undef)
  fresh : ∀ t p, ow t = some p → t.older s.clk done
  cells : ∀ r off p, ow (.cell r off) = some p → r < s.objs.length

theorem mem_lt {k : Know} {w : World} (h : ∀ b o v, k.m b o = some v → w.cell? ⟨b, o, none⟩ = some v ∧ v.oneCell' = true) {b o : Nat} {v : Value} (hm : k.m b o = some v) : b < w.heap.size :=
  World.block_lt_of_cell? (a := ⟨b, o, none⟩) w (h _ _ _ hm).1

theorem ownsRow_keep {w w' : World} {B e z : Nat} {v : Value} {n : Nat} {xs : List Value} (h : ∀ g, v.ownBlock = some g → g < w.heap.size → w'.heap[g]? = w.heap[g]?) (ho : w.ownsRow B e z v n xs) : w'.ownsRow B e z v n xs := by
  refine ⟨ho.1, ?_⟩
  rcases ho.2 with h2 | ⟨g, cap, cur, hv, hg, hh, r⟩
  · exact .inl h2
  · exact .inr ⟨g, cap, cur, hv, hg, by rw [h g (by rw [hv]; rfl) (Array.getElem?_eq_some_iff.1 hh).1]; exact hh, r⟩

theorem ownsRow_lt {w : World} {B e z : Nat} {v : Value} {n : Nat} {xs : List Value} (ho : w.ownsRow B e z v n xs) {g : Nat} (hg : v.ownBlock = some g) : g < w.heap.size := (ho.lt g hg).2

theorem ObRep.keep {k : Know} {ow : Own} {w w' : World} {b : Nat} {ob : Ob} (hb : w'.heap[b]? = w.heap[b]?) (h : ObRep k ow w b ob) : ObRep k ow w' b ob := by
  cases ob <;> simpa only [ObRep, hb] using h

theorem ObRep.mono {k k' : Know} {ow ow' : Own} {w : World} {b : Nat} {ob : Ob} (hk : k.le k') (ho : ow.sub ow') (h : ObRep k ow w b ob) : ObRep k' ow' w b ob := by
  cases ob with
  | var ty xs =>
    obtain ⟨vs, h1, h2, h3⟩ := h
    exact ⟨vs, h1, h2, RepXs.mono hk ho _ _ h3⟩
  | map es =>
    obtain ⟨ms, cl, h1, h2, h3⟩ := h
    exact ⟨ms, cl, h1, h2, RepL.mono hk.1 _ _ h3⟩

theorem ObRep.tr {σ : Nat → Option Nat} {ρ : Tk → Option Tk} {k k' : Know} {ow ow' : Own} (hn : Ren σ ρ k k' ow ow') {w : World} {b : Nat} {ob : Ob} (h : ObRep k ow w b ob) : ObRep k' ow' w b (ob.tr σ ρ) := by
  cases ob with
  | var ty xs =>
    obtain ⟨vs, h1, h2, h3⟩ := h
    exact ⟨vs, h1, h2, RepXs.tr hn _ _ h3⟩
  | map es =>
    obtain ⟨ms, cl, h1, h2, h3⟩ := h
    exact ⟨ms, cl, h1, h2, RepL.mono hn.m _ _ h3⟩

theorem ObRep.drop {k : Know} {ow : Own} {w : World} {b : Nat} {ob : Ob} (t : Tk) (h : ObRep k ow w b ob) : ObRep k (ow.del t) w b (ob.drop t) := by
  cases ob with
  | var ty xs =>
    obtain ⟨vs, h1, h2, h3⟩ := h
    exact ⟨vs, h1, h2, RepXs.drop t _ _ h3⟩
  | map es => exact h

section
variable {M0 : Base} {k : Know} {ow : Own} {done : Nat → Prop} {w0 w w' : World} {N : Nat} {s : S} {tmps : Array Value} {objs : List Ob}

theorem Hp.lt (h : Hp M0 k ow w0 w objs) {r b : Nat} (hr : k.μ r = some b) : Mine M0.mod w0 b ∧ b < w.heap.size ∧ ∀ o, k.m b o = none := by
  obtain ⟨b', h2, h3, h4, h5, _⟩ := h.obj r _ (List.getElem?_eq_getElem (h.dom r b hr))
  obtain rfl := Option.some.inj (h2.symm.trans hr)
  exact ⟨h3, h4, h5⟩
theorem Hp.tlt (h : Hp M0 k ow w0 w objs) {t : Tk} {v : Value} {e z n : Nat} (ht : ow t = some (v, e, z, n)) {g : Nat} (hg : v.ownBlock = some g) : Mine M0.mod w0 g ∧ g < w.heap.size := by
  obtain ⟨⟨xs, h1⟩, h2⟩ := h.tok t v e z n ht
  exact ⟨(h2 g hg).1, ownsRow_lt h1 hg⟩
/-- What is given of tables holds still. -/
theorem Hp.table (h : Hp M0 k ow w0 w objs) : M0.G.holds w := M0.G.keep w0 w h.good.1 fun b hb => h.below.block b (h.good.2 b hb).1 (h.good.2 b hb).2

/-- Memory that only grows. -/
theorem Hp.grow (h : Hp M0 k ow w0 w objs) (hb : Below w.heap.size w w') : Hp M0 k ow w0 w' objs where
  good := h.good
  below := h.below.trans (.below hb)
  mem := fun b o v hm => by
    obtain ⟨h1, h2⟩ := h.mem b o v hm
    exact ⟨(hb.cell (p := ⟨b, o, none⟩) (mem_lt h.mem hm)).trans h1, h2⟩
  obj := fun r ob hr => by
    obtain ⟨b, h1, h2, h3, h4, h5⟩ := h.obj r ob hr
    exact ⟨b, h1, h2, Nat.lt_of_lt_of_le h3 hb.size, h4, h5.keep (hb.block b h3)⟩
  dom := h.dom
  inj := h.inj
  tok := fun t v e z n ht => by
    obtain ⟨⟨xs, h1⟩, h2⟩ := h.tok t v e z n ht
    exact ⟨⟨xs, ownsRow_keep (fun g _ hg => hb.block g hg) h1⟩, h2⟩
  tokne := h.tokne
  m0 := h.m0
theorem Sim.grow (h : Sim M0 k ow done w0 w N s tmps) (hb : Below w.heap.size w w') : Sim M0 k ow done w0 w' N s tmps :=
  { h.toHp.grow hb with size := h.size, fr := h.fr, fresh := h.fresh, cells := h.cells }

/-- A value laid into a slot. -/
theorem Sim.put (h : Sim M0 k ow done w0 w N s tmps) (d : Option Nat) (hd : ∀ j, d = some j → j < N) {x : X} {v : Value} (hx : RepX k ow x v) :
    Sim M0 k ow done w0 w N (s.put d x) (Act.put ⟨tmps, []⟩ d v).tmps := by
  cases d with
  | none => exact h
  | some d =>
    have hlt := hd d rfl
    refine { h.toHp with size := by simp [Act.put, h.size], fr := fun j => ?_, fresh := h.fresh, cells := h.cells }
    simp only [S.put, upd, Act.put]
    by_cases hj : j = d
    · subst hj
      simp only [if_true]
      have : (tmps.setIfInBounds j v).getD j undef = v := by simp [h.size, hlt]
      rw [this]
      exact hx
    · rw [if_neg hj]
      have : (tmps.setIfInBounds d v).getD j undef = tmps.getD j undef := by
        simp [Array.getElem?_setIfInBounds_ne (Ne.symm hj)]
      rw [this]
      exact h.fr j

/-- A right given up. -/
theorem Sim.del (h : Sim M0 k ow done w0 w N s tmps) (t : Tk) : Sim M0 k (ow.del t) done w0 w N (s.drop (some t)) tmps where
  good := h.good
  size := h.size
  below := h.below
  fr := fun j => RepX.drop t _ _ (h.fr j)
  mem := h.mem
  obj := fun r ob hr => by
    simp only [S.drop, List.getElem?_map, Option.map_eq_some_iff] at hr
    obtain ⟨ob', h1, rfl⟩ := hr
    obtain ⟨b, h2, h3, h4, h5, h6⟩ := h.obj r ob' h1
    exact ⟨b, h2, h3, h4, h5, h6.drop t⟩
  dom := fun r b hr => by simpa [S.drop] using h.dom r b hr
  inj := h.inj
  tok := fun t' v e z n ht => by
    simp only [Own.del] at ht
    split at ht
    · cases ht
    · exact h.tok t' v e z n ht
  tokne := fun t t' v e z n v' e' z' n' ht ht' => by
    simp only [Own.del] at ht ht'
    split at ht
    · cases ht
    · split at ht'
      · cases ht'
      · exact h.tokne t t' v e z n v' e' z' n' ht ht'
  fresh := fun t' p ht => by
    simp only [Own.del] at ht
    split at ht
    · cases ht
    · exact h.fresh t' p ht
  cells := fun r off p ht => by
    simp only [Own.del] at ht
    split at ht
    · cases ht
    · simpa [S.drop] using h.cells r off p ht
  m0 := h.m0

/-- A new right. -/
def Own.add (ow : Own) (t : Tk) (p : Value × Nat × Nat × Nat) : Own := fun t' => if t' = t then some p else ow t'

theorem Own.sub_add {ow : Own} {t : Tk} {p : Value × Nat × Nat × Nat} (h : ow t = none) : ow.sub (ow.add t p) := fun t' q hq => by
  simp only [Own.add]
  split
  · rename_i e; subst e; rw [h] at hq; cases hq
  · exact hq

theorem Sim.add (h : Sim M0 k ow done w0 w N s tmps) {c ix i : Nat} {v : Value} {e z n : Nat} {xs : List Value} (hn : ow (.nm c ix i) = none)
    (hrow : w.ownsRow 0 e z v n xs) (hm : ∀ g, v.ownBlock = some g → Mine M0.mod w0 g ∧ (∀ o, n * z ≤ o → k.m g o = none) ∧ ∀ r, k.μ r ≠ some g)
    (hne : ∀ t' v' e' z' n', ow t' = some (v', e', z', n') → ∀ g, v.ownBlock = some g → v'.ownBlock ≠ some g)
    (hf : c < s.clk ∨ (c = s.clk ∧ done ix)) : Sim M0 k (ow.add (.nm c ix i) (v, e, z, n)) done w0 w N s tmps where
  good := h.good
  size := h.size
  below := h.below
  fr := fun j => RepX.mono (Know.le_refl k) (Own.sub_add hn) _ _ (h.fr j)
  mem := h.mem
  obj := fun r ob hr => by
    obtain ⟨b, h2, h3, h4, h5, h6⟩ := h.obj r ob hr
    exact ⟨b, h2, h3, h4, h5, h6.mono (Know.le_refl k) (Own.sub_add hn)⟩
  dom := h.dom
  inj := h.inj
  tok := fun t' v' e' z' n' ht => by
    simp only [Own.add] at ht
    split at ht
    · simp only [Option.some.injEq, Prod.mk.injEq] at ht
      obtain ⟨rfl, rfl, rfl, rfl⟩ := ht
      exact ⟨⟨xs, hrow⟩, hm⟩
    · exact h.tok t' v' e' z' n' ht
  tokne := fun t1 t2 v1 e1 z1 n1 v2 e2 z2 n2 h1 h2 hne' g hg hg' => by
    simp only [Own.add] at h1 h2
    split at h1
    · rename_i e1'
      simp only [Option.some.injEq, Prod.mk.injEq] at h1
      obtain ⟨rfl, rfl, rfl, rfl⟩ := h1
      split at h2
      · rename_i e2'; exact hne' (e1'.trans e2'.symm)
      · exact hne _ _ _ _ _ h2 g hg hg'
    · split at h2
      · simp only [Option.some.injEq, Prod.mk.injEq] at h2
        obtain ⟨rfl, rfl, rfl, rfl⟩ := h2
        exact hne _ _ _ _ _ h1 g hg' hg
      · exact h.tokne t1 t2 _ _ _ _ _ _ _ _ h1 h2 hne' g hg hg'
  fresh := fun t' p ht => by
    simp only [Own.add] at ht
    split at ht
    · rename_i e1; subst e1; exact hf
    · exact h.fresh t' p ht
  cells := fun r off p ht => by
    simp only [Own.add] at ht
    split at ht
    · rename_i e1; cases e1
    · exact h.cells r off p ht
  m0 := h.m0

theorem Sim.more (h : Sim M0 k ow done w0 w N s tmps) {done' : Nat → Prop} (hd : ∀ i, done i → done' i) : Sim M0 k ow done' w0 w N s tmps :=
  { h.toHp with
    size := h.size
    fr := h.fr
    cells := h.cells
    fresh := fun t p ht => by
      have := h.fresh t p ht
      cases t with
      | nm c ix i => exact this.imp id (fun ⟨a, b⟩ => ⟨a, hd _ b⟩)
      | cell r off => trivial }

/-- A region's end: its names are old. -/
theorem Sim.tick (h : Sim M0 k ow done w0 w N s tmps) : Sim M0 k ow (fun _ => False) w0 w N { s with clk := s.clk + 1 } tmps :=
  { h.toHp with
    size := h.size
    fr := h.fr
    cells := h.cells
    fresh := fun t p ht => by
      have := h.fresh t p ht
      cases t with
      | nm c ix i =>
        refine .inl ?_
        rcases this with h | ⟨h, _⟩ <;> simp only [] <;> omega
      | cell r off => trivial }

/-- An operand. -/
theorem ofVal_rep (k : Know) (ow : Own) (v : Value) : RepX k ow (ofVal v) v := by
  unfold ofVal
  split <;> simp [RepX, Rep, RepL, Value.oneCell']

theorem Sim.ev (h : Sim M0 k ow done w0 w N s tmps) (x : Operand) : RepX k ow (s.ev x) ((⟨tmps, []⟩ : Act).eval x) := by
  cases x with
  | tmp t => exact h.fr t
  | const v => exact ofVal_rep k ow v
  | func f => simp [S.ev, Act.eval, RepX, Rep, RepL]
  | global g => simp [S.ev, RepX, Rep]

/-- Rights under other names: so that no two become one. -/
def Own.re (ρ : Tk → Option Tk) (ow ow' : Own) : Prop :=
  (∀ t p t', ow t = some p → ρ t = some t' → ow' t' = some p) ∧ (∀ t' p, ow' t' = some p → ∃ t, ow t = some p ∧ ρ t = some t')

theorem Sim.tr (h : Sim M0 k ow done w0 w N s tmps) {ρ : Tk → Option Tk} {ow' : Own} (hr : ow.re ρ ow') (hf : ∀ t p, ow' t = some p → t.older s.clk done) (hc : ∀ r off p, ow' (.cell r off) = some p → r < s.objs.length) :
    Sim M0 k ow' done w0 w N (s.tr ρ) tmps :=
  have hn : Ren some ρ k k ow ow' := ⟨fun _ _ _ h => h, fun r b r' hr he => by cases he; exact hr, hr.1⟩
  { good := h.good
    size := h.size
    below := h.below
    fr := fun j => RepX.tr hn _ _ (h.fr j)
    mem := h.mem
    obj := fun r ob hr => by
      simp only [S.tr, List.getElem?_map, Option.map_eq_some_iff] at hr
      obtain ⟨ob', h1, rfl⟩ := hr
      obtain ⟨b, h2, h3, h4, h5, h6⟩ := h.obj r ob' h1
      exact ⟨b, h2, h3, h4, h5, h6.tr hn⟩
    dom := fun r b hr => by simpa [S.tr] using h.dom r b hr
    inj := h.inj
    tok := fun t' v e z n ht => by
      obtain ⟨t, g1, _⟩ := hr.2 _ _ ht
      exact h.tok t v e z n g1
    tokne := fun t t' v e z n v' e' z' n' ht ht' hne => by
      obtain ⟨a, g1, g2⟩ := hr.2 _ _ ht
      obtain ⟨b, g3, g4⟩ := hr.2 _ _ ht'
      exact h.tokne a b v e z n v' e' z' n' g1 g3 (fun e => hne (by subst e; rw [g2] at g4; exact Option.some.inj g4))
    fresh := hf
    cells := fun r off p ht => by simpa [S.tr] using hc r off p ht
    m0 := h.m0 }
end
end Go.Pe
namespace Go.Pe
open Go.RowKit

structure TD.Ok (P : Program) (t : Nat) (d : TD) : Prop where
  und : P.underlying t = some d.und
  info : ∃ i, P.info? t = some i ∧ i.size = d.size ∧ i.bytes = d.bytes ∧ ∃ z, i.zero = some z ∧ z.cells.toList = d.zero ∧ isAggV z = isAggD d.und
  agg : d.agg = isAggD d.und
  one : ∀ u ∈ d.zero, u.oneCell' = true
  len : d.zero.length = d.size
  fields : fieldsOf P d.und = some d.fields

theorem TT.of_ok {P : Program} {t : Nat} {d : TD} (h : TT.of P t = some d) : TD.Ok P t d := by
  unfold TT.of at h
  split at h
  · rename_i u i hu hi
    split at h
    · rename_i z fl hz hfl
      split at h
      · rename_i hc
        simp only [Option.some.injEq] at h
        subst h
        simp only [Bool.and_eq_true, List.all_eq_true, beq_iff_eq] at hc
        exact ⟨hu, ⟨i, hi, rfl, rfl, z, hz, rfl, hc.2⟩, rfl, hc.1.1, by simpa using hc.1.2, hfl⟩
      · cases h
    · cases h
  · cases h

theorem TD.Ok.run_und {P : Program} {t : Nat} {d : TD} (h : TD.Ok P t d) (w : World) : (underlying t).run P w = .ok d.und w := run_underlying h.und w
theorem TD.Ok.run_size {P : Program} {t : Nat} {d : TD} (h : TD.Ok P t d) (w : World) : (sizeOf t).run P w = .ok d.size w := by
  obtain ⟨i, hi, hs, _⟩ := h.info
  simp [sizeOf, typeInfo, hi, hs]
theorem TD.Ok.run_isAgg {P : Program} {t : Nat} {d : TD} (h : TD.Ok P t d) (w : World) : (isAgg t).run P w = .ok d.agg w := by
  unfold isAgg
  rw [Sem.run_bind, h.run_und, Result.andThen_ok, h.agg]
  unfold isAggD
  split <;> simp_all
theorem TD.Ok.run_zero {P : Program} {t : Nat} {d : TD} (h : TD.Ok P t d) (w : World) : ∃ z, (zeroValue t).run P w = .ok z w ∧ z.cells.toList = d.zero := by
  obtain ⟨i, hi, hs, _, z, hz, hz', _⟩ := h.info
  exact ⟨z, by simp [zeroValue, typeInfo, hi, hz], hz'⟩
theorem TD.Ok.run_zero2 {P : Program} {t : Nat} {d : TD} (h : TD.Ok P t d) (w : World) : ∃ z, (zeroValue t).run P w = .ok z w ∧ z.cells.toList = d.zero ∧ isAggV z = d.agg := by
  obtain ⟨i, hi, hs, _, z, hz, hz', hz2⟩ := h.info
  exact ⟨z, by simp [zeroValue, typeInfo, hi, hz], hz', by rw [h.agg, hz2]⟩
theorem TD.Ok.cells {P : Program} {t : Nat} {d : TD} (h : TD.Ok P t d) : P.cellsOf t = d.size := by
  obtain ⟨i, hi, hs, _⟩ := h.info
  simp [Program.cellsOf, hi, hs]

section
variable {P : Program} {M0 : Base} {k : Know} {ow : Own} {done : Nat → Prop} {w0 w : World} {N : Nat} {s : S} {tmps : Array Value}

theorem decide_eq_beq (a b : Int) : (a == b) = decide (a = b) := by
  by_cases h : a = b <;> simp [h]
theorem str_eq (a b : ByteArray) : (a.toList == b.toList) = decide (a = b) := by
  rw [ByteArray.toList_eq, ByteArray.toList_eq]
  by_cases h : a = b
  · subst h; simp
  · have : ¬ a.data = b.data := fun e => h (by cases a; cases b; simp_all)
    simp [h, this]

theorem run_equalIn_bool (n : Nat) {t : TypeId} (a b : Bool) (h : (underlying t).run P w = .ok .bool w) : (Op.equalIn (n + 1) t (.bool a) (.bool b)).run P w = .ok (a == b) w := by
  simp [Op.equalIn, h]

theorem binLit_sound {op : BinOp} {t : TypeId} {u v r : Value} (x y : Operand) (h : binLit ((TT.of P t).map (·.und)) op u v = some r) :
    (do eqGuard op t x y u v; binOp op t u v).run P w = .ok r w ∧ r.oneCell' = true := by
  unfold binLit at h
  split at h
  · rename_i k a k' b
    split at h
    · rename_i hk
      subst hk
      unfold binInt at h
      have hg : (eqGuard op t x y (.int k a) (.int k b)).run P w = .ok () w := by
        cases op <;> simp [eqGuard]
      rw [Sem.run_bind, hg, Result.andThen_ok]
      cases op <;> simp only [Option.some.injEq, reduceCtorEq] at h
      case quo => split at h <;> simp only [Option.some.injEq, reduceCtorEq] at h; rename_i hb; subst h; simp [binOp, Op.intDiv, hb, Value.oneCell']
      case rem => split at h <;> simp only [Option.some.injEq, reduceCtorEq] at h; rename_i hb; subst h; simp [binOp, Op.intDiv, hb, Value.oneCell']
      all_goals
        subst h
        simp [binOp, Op.intArith, Op.intBits, Op.intCmp, Value.oneCell', decide_eq_beq, bne]
    · cases h
  · rename_i a b
    unfold binStr at h
    have hg : (eqGuard op t x y (.string a) (.string b)).run P w = .ok () w := by
      cases op <;> simp [eqGuard]
    rw [Sem.run_bind, hg, Result.andThen_ok]
    cases op <;> simp only [Option.some.injEq, reduceCtorEq] at h
    case add =>
      split at h <;> simp only [Option.some.injEq, reduceCtorEq] at h
      rename_i hb
      subst h
      have : ¬ ((a.size + b.size : Nat) : Int) > IntKind.i64.max := by
        unfold LIM at hb
        have : IntKind.i64.max = 9223372036854775807 := by decide
        omega
      simp only [binOp, Op.stringOp, if_neg this]
      exact ⟨rfl, rfl⟩
    all_goals
      subst h
      simp only [binOp, Op.stringOp, str_eq]
      exact ⟨rfl, rfl⟩
  · rename_i a b
    split at h
    · rename_i hb
      cases hT : TT.of P t with
      | none => simp [hT, isBoolD] at hb
      | some d =>
        have hu : d.und = .bool := by
          simp only [hT, Option.map_some] at hb
          unfold isBoolD at hb
          split at hb
          · rename_i e; simpa using e
          · cases hb
        have hund := (TT.of_ok hT).run_und w
        rw [hu] at hund
        unfold binBool at h
        have hg : (eqGuard op t x y (.bool a) (.bool b)).run P w = .ok () w := by
          cases op <;> simp [eqGuard]
        rw [Sem.run_bind, hg, Result.andThen_ok]
        have he : (Op.equal t (.bool a) (.bool b)).run P w = .ok (a == b) w := by
          exact run_equalIn_bool 9999 a b hund
        cases op <;> simp only [Option.some.injEq, reduceCtorEq] at h
        all_goals
          subst h
          simp [binOp, he, Value.oneCell']
    · cases h
  · cases h

theorem fitD_spec {t : TypeId} {u : Value} (h : fitD ((TT.of P t).map (·.und)) u = true) :
    ∃ d, TT.of P t = some d ∧ ((∃ k' k n, d.und = .int k' ∧ u = .int k n) ∨ (∃ s, d.und = .string ∧ u = .string s) ∨ ∃ b, d.und = .bool ∧ u = .bool b) := by
  cases hT : TT.of P t with
  | none => simp [hT, fitD] at h
  | some d =>
    refine ⟨d, rfl, ?_⟩
    simp only [hT, Option.map_some] at h
    unfold fitD at h
    split at h
    · rename_i e; exact .inl ⟨_, _, _, by simpa using e, rfl⟩
    · rename_i e; exact .inr (.inl ⟨_, by simpa using e, rfl⟩)
    · rename_i e; exact .inr (.inr ⟨_, by simpa using e, rfl⟩)
    · cases h
theorem fit_part {t : TypeId} {u : Value} (h : fitD ((TT.of P t).map (·.und)) u = true) (xs : Array Value) (o : Nat) (hx : xs[o]? = some u) : (part t xs o).run P w = .ok u w := by
  obtain ⟨d, hT, h⟩ := fitD_spec h
  have ok := TT.of_ok hT
  have ha : d.agg = false := by
    rw [ok.agg]
    rcases h with ⟨_, _, _, e, _⟩ | ⟨_, e, _⟩ | ⟨_, e, _⟩ <;> rw [e] <;> rfl
  unfold part
  rw [Sem.run_bind, ok.run_isAgg, Result.andThen_ok, ha]
  simp [hx]
theorem fit_eq {t : TypeId} {u v : Value} {b : Bool} (h : fitD ((TT.of P t).map (·.und)) u = true) (he : eqLit u v = some b) (n : Nat) : (Op.equalIn (n + 1) t u v).run P w = .ok b w := by
  obtain ⟨d, hT, h⟩ := fitD_spec h
  have ok := TT.of_ok hT
  rcases h with ⟨k', k, m, e, rfl⟩ | ⟨s, e, rfl⟩ | ⟨b', e, rfl⟩
  · unfold eqLit at he
    split at he
    · rename_i k1 a k2 c e1
      cases e1
      split at he
      · rename_i hk
        subst hk
        simp only [Option.some.injEq] at he
        subst he
        rw [Go.run_equalIn_int (P := P) w n t k k' m c (by rw [ok.und, e]), decide_eq_beq]
      · cases he
    · rename_i e1; cases e1
    · rename_i e1; cases e1
    · cases he
  · unfold eqLit at he
    split at he
    · rename_i e1; cases e1
    · rename_i a c e1
      cases e1
      simp only [Option.some.injEq] at he
      subst he
      rw [Go.run_equalIn_string (P := P) w n t s c (by rw [ok.und, e]), str_eq]
    · rename_i e1; cases e1
    · cases he
  · unfold eqLit at he
    split at he
    · rename_i e1; cases e1
    · rename_i e1; cases e1
    · rename_i a c e1
      cases e1
      simp only [Option.some.injEq] at he
      subst he
      exact Go.run_equalIn_bool' (P := P) w n t b' c (by rw [ok.und, e])
    · cases he
theorem eqFlat_sound {m : Mem} {xs ys : Array Value} (n : Nat) : ∀ (fs : List Field) (o : Nat) (cs ds : List C) (vs us : List Value) (b : Bool), eqFlat (TT.of P) o fs cs ds = some b → xs.toList.drop o = vs → ys.toList.drop o = us → RepL m cs vs → RepL m ds us →
    (Op.eqFields (n + 1) xs ys fs).run P w = .ok b w
  | [], o, cs, ds, vs, us, b, h, _, _, _, _ => by
    have : b = true := by
      cases cs with
      | nil => cases ds with
        | nil => simpa [eqFlat] using h.symm
        | cons d q => simp [eqFlat] at h
      | cons c r => simp [eqFlat] at h
    subst this
    simp [Op.eqFields]
  | f :: fs, o, cs, ds, vs, us, b, h, hv, hu, rv, ru => by
    obtain ⟨u, r, v, q, rfl, rfl⟩ : ∃ u r v q, cs = .lit u :: r ∧ ds = .lit v :: q := by
      cases cs with
      | nil => simp [eqFlat] at h
      | cons c r => cases c with
        | lit u => cases ds with
          | nil => simp [eqFlat] at h
          | cons d q => cases d with
            | lit v => exact ⟨_, _, _, _, rfl, rfl⟩
            | _ => simp [eqFlat] at h
        | _ => simp [eqFlat] at h
    · unfold eqFlat at h
      split at h
      · rename_i hc
        simp only [Bool.and_eq_true, bne_iff_ne, beq_iff_eq] at hc
        obtain ⟨⟨⟨h1, rfl⟩, h3⟩, h4⟩ := hc
        simp only [RepL, Rep] at rv ru
        obtain ⟨u, vr, rfl, ⟨rfl, _⟩, rv⟩ := rv
        obtain ⟨v, ur, rfl, ⟨rfl, _⟩, ru⟩ := ru
        have gx : ∀ (zs : Array Value) (z : Value) (zr : List Value), zs.toList.drop f.offset = z :: zr → zs[f.offset]? = some z ∧ zs.toList.drop (f.offset + 1) = zr := fun zs z zr hz => by
          constructor
          · rw [← Array.getElem?_toList, ← List.head?_drop, hz]; rfl
          · rw [← List.drop_drop, hz]; rfl
        obtain ⟨x1, x2⟩ := gx _ _ _ hv
        obtain ⟨y1, y2⟩ := gx _ _ _ hu
        have p1 := fit_part (w := w) h3 xs f.offset x1
        have p2 := fit_part (w := w) h4 ys f.offset y1
        cases hq : eqLit u v with
        | none => simp [hq] at h
        | some b' =>
          have p3 := fit_eq (w := w) h3 hq n
          rw [Op.eqFields, if_pos h1, Sem.run_bind, p1, Result.andThen_ok, Sem.run_bind, p2, Result.andThen_ok, Sem.run_bind, p3, Result.andThen_ok]
          cases b' with
          | true =>
            rw [hq] at h
            simpa using eqFlat_sound n fs (f.offset + 1) r q vr ur b h x2 y2 rv ru
          | false =>
            rw [hq] at h
            simp only [Option.some.injEq] at h
            subst h
            rfl
      · cases h
theorem binAgg_sound {op : BinOp} {t : TypeId} {c d : Option C} {cx dx : C} {u v : Value} {z : X} {e : Option Tk} (x y : Operand) {m : Mem} (h : binAgg P (TT.of P) t op c d = some (z, e)) (hc : c = some cx) (hd : d = some dx) (ru : Rep m cx u) (rv : Rep m dx v) :
    ∃ b : Bool, z = xbool b ∧ e = none ∧ (do eqGuard op t x y u v; binOp op t u v).run P w = .ok (.bool b) w := by
  subst hc hd
  unfold binAgg at h
  split at h
  · rename_i cs ds e1 e2
    cases e1; cases e2
    simp only [Rep] at ru rv
    obtain ⟨vs, rfl, _, ru⟩ := ru
    obtain ⟨us, rfl, _, rv⟩ := rv
    have key : ∀ b, eqAgg P (TT.of P) t cs ds = some b → P.eqGuardType P.depth t = false ∧ (Op.equalIn 10000 t (.agg vs.toArray) (.agg us.toArray)).run P w = .ok b w := fun b hb => by
      unfold eqAgg at hb
      split at hb
      · rename_i fs _ _ _ _ _ hT
        split at hb
        · rename_i hc
          have ok := TT.of_ok hT
          have hf : P.fieldsOf t = fs := by simp [Program.fieldsOf, ok.und]
          refine ⟨hc.2, ?_⟩
          rw [Go.run_equalIn_struct (P := P) w 9999 t _ _ (by rw [hf]; exact ok.und) hc.1, hf]
          exact eqFlat_sound 9998 fs.toList 0 cs ds vs us b hb rfl rfl ru rv
        · cases hb
      · cases hb
    split at h
    · obtain ⟨b, hb, rfl, rfl⟩ : ∃ b, eqAgg P (TT.of P) t cs ds = some b ∧ xbool b = z ∧ none = e := by
        simp only [outO, Option.map_map, Option.map_eq_some_iff, Function.comp, Prod.mk.injEq] at h
        obtain ⟨b, h1, h2, h3⟩ := h
        exact ⟨b, h1, h2, h3⟩
      obtain ⟨h1, h2⟩ := key b hb
      refine ⟨b, rfl, rfl, ?_⟩
      rw [Sem.run_bind, Go.run_eqGuard_agg (P := P) w .eql t x y _ _ h1, Result.andThen_ok, Go.run_eql_struct, h2]
      rfl
    · obtain ⟨b, hb, rfl, rfl⟩ : ∃ b, eqAgg P (TT.of P) t cs ds = some b ∧ xbool (!b) = z ∧ none = e := by
        simp only [outO, Option.map_map, Option.map_eq_some_iff, Function.comp, Prod.mk.injEq] at h
        obtain ⟨b, h1, h2, h3⟩ := h
        exact ⟨b, h1, h2, h3⟩
      obtain ⟨h1, h2⟩ := key b hb
      refine ⟨!b, rfl, rfl, ?_⟩
      rw [Sem.run_bind, Go.run_eqGuard_agg (P := P) w .neq t x y _ _ h1, Result.andThen_ok, Go.run_neq_struct, h2]
      rfl
    · cases h
  · cases h

theorem unLit_sound {op : UnOp} {u r : Value} (h : unLit op u = some r) : (Op.unary op u).run P w = .ok r w ∧ r.oneCell' = true := by
  unfold unLit at h
  split at h
  · cases op <;> simp only [Option.some.injEq, reduceCtorEq] at h
    subst h
    simp [Op.unary, Op.intArith, Value.oneCell']
  · cases op <;> simp only [Option.some.injEq, reduceCtorEq] at h
    subst h
    simp [Op.unary, Value.oneCell']
  · cases h

theorem lit_int {x : X} {n : Int} {v : Value} (h : litInt x = some n) (hx : RepX k ow x v) : v = .int .i64 n := by
  unfold litInt at h
  split at h
  · simp only [Option.some.injEq] at h
    subst h
    simp only [RepX, Rep] at hx
    exact hx.1
  · cases h
theorem lit_bool {x : X} {b : Bool} {v : Value} (h : litBool x = some b) (hx : RepX k ow x v) : v = .bool b := by
  unfold litBool at h
  split at h
  · simp only [Option.some.injEq] at h
    subst h
    simp only [RepX, Rep] at hx
    exact hx.1
  · cases h
theorem as_sl {x : X} {cs : List C} {n : Nat} {v : Value} (h : asSl x = some (cs, n)) (hx : RepX k ow x v) : Rep k.m (.sl cs n) v := by
  unfold asSl at h
  split at h
  · simp only [Option.some.injEq, Prod.mk.injEq] at h
    obtain ⟨rfl, rfl⟩ := h
    simp only [RepX] at hx
    subst hx
    simp only [Rep]
    exact ⟨none, 0, [], rfl, Nat.le_refl _, by simp [RepL], fun h => absurd rfl h⟩
  · simp only [Option.some.injEq, Prod.mk.injEq] at h
    obtain ⟨rfl, rfl⟩ := h
    simp only [RepX] at hx
    exact hx.2.2
  · simp only [Option.some.injEq, Prod.mk.injEq] at h
    obtain ⟨rfl, rfl⟩ := h
    simpa only [RepX] using hx
  · cases h

/-- Cells that are known one by one, loaded as a value of a type. -/
theorem run_loadVar_cells {t : Nat} {d : TD} (hT : TT.of P t = some d) (b o : Nat) (vs : List Value) (hlen : d.size ≤ vs.length)
    (hc : ∀ i u, vs[i]? = some u → w.cell? ⟨b, o + i, none⟩ = some u) (h1 : d.agg = false → 0 < vs.length) :
    (loadVar t ⟨b, o, none⟩).run P w = .ok (if d.agg then .agg (vs.take d.size).toArray else vs.headD undef) w := by
  have ok := TT.of_ok hT
  unfold loadVar
  rw [Sem.run_bind, ok.run_isAgg, Result.andThen_ok]
  cases hagg : d.agg with
  | true =>
    simp only [if_true, Sem.run_bind, ok.run_size, Result.andThen_ok]
    have hl : (loadCells ⟨b, o, none⟩ (vs.take d.size).length).run P w = .ok (vs.take d.size).toArray w :=
      run_loadCells_list (P := P) w ⟨b, o, none⟩ (vs.take d.size) (fun j v hv => by
        rw [Addr.add_lit]
        refine hc j v ?_
        rw [List.getElem?_take] at hv
        split at hv
        · exact hv
        · cases hv)
    rw [List.length_take, Nat.min_eq_left hlen] at hl
    rw [hl]
    rfl
  | false =>
    have := h1 hagg
    cases vs with
    | nil => simp at this
    | cons v r =>
      have h0 := hc 0 v (by simp)
      simp only [Nat.add_zero] at h0
      simp [h0]

theorem pieceC_rep {t : Nat} {d : TD} {cs : List C} {c : C} {vs : List Value} (hT : TT.of P t = some d) (h : pieceC (TT.of P) t cs = some c) (hl : RepL k.m cs vs)
    (h1 : ∀ u ∈ vs, u.oneCell' = true) : d.size ≤ vs.length ∧ (d.agg = false → 0 < vs.length) ∧ Rep k.m c (if d.agg then .agg (vs.take d.size).toArray else vs.headD undef) := by
  unfold pieceC at h
  simp only [hT] at h
  split at h
  · rename_i hs
    have hs' : d.size ≤ vs.length := by rw [hl.length]; exact hs
    refine ⟨hs', ?_⟩
    cases hagg : d.agg with
    | true =>
      simp only [hagg, if_true, Option.some.injEq] at h ⊢
      subst h
      refine ⟨(fun h => (by cases h)), ?_⟩
      simp only [Rep]
      exact ⟨_, rfl, fun u hu => h1 u (List.mem_of_mem_take hu), hl.take _⟩
    | false =>
      simp only [hagg, Bool.false_eq_true, if_false] at h ⊢
      split at h
      · rename_i c' r'
        simp only [Option.some.injEq] at h
        subst h
        simp only [RepL] at hl
        obtain ⟨v, r, rfl, hv, _⟩ := hl
        exact ⟨by simp, by simpa using hv⟩
      · cases h
  · cases h

theorem pieceX_rep {t : Nat} {d : TD} {xs : List X} {x : X} {vs : List Value} (hT : TT.of P t = some d) (h : pieceX (TT.of P) t xs = some x) (hl : RepXs k ow xs vs)
    (h1 : ∀ u ∈ vs, u.oneCell' = true) : d.size ≤ vs.length ∧ (d.agg = false → 0 < vs.length) ∧ RepX k ow x (if d.agg then .agg (vs.take d.size).toArray else vs.headD undef) := by
  unfold pieceX at h
  simp only [hT] at h
  split at h
  · rename_i hs
    have hs' : d.size ≤ vs.length := by rw [hl.length]; exact hs
    refine ⟨hs', ?_⟩
    cases hagg : d.agg with
    | true =>
      simp only [hagg, if_true, Option.some.injEq] at h ⊢
      subst h
      refine ⟨(fun h => (by cases h)), ?_⟩
      simp only [RepX]
      exact ⟨_, rfl, fun u hu => h1 u (List.mem_of_mem_take hu), hl.takeN _⟩
    | false =>
      simp only [hagg, Bool.false_eq_true, if_false] at h ⊢
      split at h
      · rename_i c' r'
        simp only [Option.some.injEq] at h
        subst h
        simp only [RepXs] at hl
        obtain ⟨v, r, rfl, hv, _⟩ := hl
        exact ⟨by simp, by simpa using hv⟩
      · cases h
  · cases h

theorem pieceC_T {T : TT} {t : Nat} {cs : List C} {c : C} (h : pieceC T t cs = some c) : ∃ d, T t = some d := by
  unfold pieceC at h
  split at h
  · cases h
  · exact ⟨_, ‹_›⟩
theorem pieceX_T {T : TT} {t : Nat} {cs : List X} {c : X} (h : pieceX T t cs = some c) : ∃ d, T t = some d := by
  unfold pieceX at h
  split at h
  · cases h
  · exact ⟨_, ‹_›⟩

theorem load_sound {objs : List Ob} (hs : Hp M0 k ow w0 w objs) {t : Nat} {x y : X} {e : Option Tk} {v : Value} (h : loadX (TT.of P) objs t x = some (y, e)) (hx : RepX k ow x v) :
    e = none ∧ ∃ u, (Instr.loadAt t v).run P w = .ok u w ∧ RepX k ow y u := by
  unfold loadX at h
  split at h
  · rename_i r off
    split at h
    · rename_i ty xs hr
      simp only [outO, Option.map_eq_some_iff, Prod.mk.injEq] at h
      obtain ⟨y', h, rfl, rfl⟩ := h
      obtain ⟨b, hb, _, _, _, vs, hh, h1, hl⟩ := hs.obj r _ hr
      simp only [RepX] at hx
      obtain ⟨b', hb', rfl⟩ := hx
      obtain rfl : b' = b := Option.some.inj (hb'.symm.trans hb)
      obtain ⟨d, hT⟩ := pieceX_T h
      obtain ⟨g1, g2, g3⟩ := pieceX_rep hT h (hl.dropN off) (fun u hu => h1 u (List.mem_of_mem_drop hu))
      refine ⟨rfl, _, ?_, g3⟩
      simp only [Instr.loadAt, Instr.sureAddr, Sem.run_bind, Sem.run_pure, Result.andThen_ok]
      refine run_loadVar_cells hT b' off (vs.drop off) g1 (fun i u hu => ?_) g2
      rw [cell_of_row w b' (off + i) vs.toArray ty (0, 0) hh]
      rw [List.getElem?_drop] at hu
      simpa using hu
    · cases h
  · rename_i cs
    simp only [outO, Option.map_eq_some_iff, Prod.mk.injEq] at h
    obtain ⟨y', ⟨c, h, rfl⟩, rfl, rfl⟩ := h
    simp only [RepX, Rep] at hx
    obtain ⟨b, o, vs, rfl, hl, hm⟩ := hx
    obtain ⟨d, hT⟩ := pieceC_T h
    have h1 : ∀ u ∈ vs, u.oneCell' = true := fun u hu => by
      obtain ⟨i, hi⟩ := List.mem_iff_getElem?.1 hu
      exact (hs.mem _ _ _ (hm i u hi)).2
    obtain ⟨g1, g2, g3⟩ := pieceC_rep hT h hl h1
    refine ⟨rfl, _, ?_, by simpa only [RepX] using g3⟩
    simp only [Instr.loadAt, Instr.sureAddr, Sem.run_bind, Sem.run_pure, Result.andThen_ok]
    exact run_loadVar_cells hT b o vs g1 (fun i u hu => (hs.mem _ _ _ (hm i u hu)).1) g2
  · cases h

theorem mapM_some {α β : Type} (f : α → Option β) : ∀ (l : List α) (r : List β), l.mapM f = some r → ∀ (i : Nat) (y : β), r[i]? = some y → ∃ x, l[i]? = some x ∧ f x = some y
  | [], r, h, i, y, hy => by simp at h; subst h; simp at hy
  | a :: l, r, h, i, y, hy => by
    simp only [List.mapM_cons, Option.bind_eq_bind, Option.pure_def, Option.bind_eq_some_iff, Option.some.injEq] at h
    obtain ⟨b, hb, q, hq, rfl⟩ := h
    cases i with
    | zero => simp at hy; subst hy; exact ⟨a, by simp, hb⟩
    | succ i => simp at hy; simpa using mapM_some f l q hq i y hy

theorem fields_at {fs : Array Field} {fl' : List (Nat × Nat)} {f : Nat} {o z : Nat} (h' : fieldsOf P (.struct fs) = some fl') (h : fl'[f]? = some (o, z)) :
    ∃ fl, fs[f]? = some fl ∧ fl.offset = o ∧ ∃ i, P.info? fl.type = some i ∧ i.size = z := by
  obtain ⟨x, h1, h2⟩ := mapM_some _ _ _ h' f _ h
  simp only [Option.map_eq_some_iff, Prod.mk.injEq] at h2
  obtain ⟨i, hi, h3, h4⟩ := h2
  exact ⟨x, by simpa using h1, h3, i, hi, h4⟩

theorem fieldAddr_sound {t f : Nat} {x y : X} {e : Option Tk} {v : Value} (h : fieldAddrX (TT.of P) t f x = some (y, e)) (hx : RepX k ow x v) :
    e = none ∧ ∃ u, (Instr.fieldAt t v f).run P w = .ok u w ∧ RepX k ow y u := by
  unfold fieldAddrX fieldOff at h
  cases hT : TT.of P t with
  | none => simp [hT] at h
  | some d =>
    have ok := TT.of_ok hT
    simp only [hT, Option.bind_some] at h
    cases hf : d.fields[f]? with
    | none => simp [hf] at h
    | some oz =>
      obtain ⟨o, z⟩ := oz
      simp only [hf] at h
      split at h
      · rename_i hz
        have hfl := ok.fields
        have hund : ∃ fs, d.und = .struct fs := by
          unfold fieldsOf at hfl
          split at hfl
          · exact ⟨_, ‹_›⟩
          · simp only [Option.some.injEq] at hfl
            rw [← hfl] at hf
            simp at hf
        obtain ⟨fs, hund⟩ := hund
        rw [hund] at hfl
        obtain ⟨fl, h1, h2, h3⟩ := fields_at hfl hf
        have hru := ok.run_und w
        rw [hund] at hru
        have hplace : ∀ a : Addr, (fieldPlace a fl).run P w = .ok (a.add o) w := fun a => by
          unfold fieldPlace
          obtain ⟨i, hi, hiz⟩ := h3
          have hsz : (sizeOf fl.type).run P w = .ok z w := by simp [sizeOf, typeInfo, hi, hiz]
          rw [Sem.run_bind, hsz, Result.andThen_ok, if_neg (by omega), h2]
          rfl
        split at h
        · rename_i r off
          simp only [out, Option.some.injEq, Prod.mk.injEq] at h
          obtain ⟨rfl, rfl⟩ := h
          simp only [RepX] at hx
          obtain ⟨b, hb, rfl⟩ := hx
          refine ⟨rfl, .pointer (some ((⟨b, off, none⟩ : Addr).add o)), ?_, ?_⟩
          · simp [Instr.fieldAt, hru, h1, Instr.sureAddr, hplace]
          · simp only [RepX, Addr.add_lit]; exact ⟨b, hb, rfl⟩
        · simp only [out, Option.some.injEq, Prod.mk.injEq] at h
          obtain ⟨rfl, rfl⟩ := h
          simp only [RepX, Rep] at hx
          obtain ⟨b, off, vs, rfl, hl, hm⟩ := hx
          refine ⟨rfl, .pointer (some ((⟨b, off, none⟩ : Addr).add o)), ?_, ?_⟩
          · simp [Instr.fieldAt, hru, h1, Instr.sureAddr, hplace]
          · simp only [RepX, Rep, Addr.add_lit]
            exact ⟨b, off + o, vs.drop o, rfl, hl.drop o, fun i u hu => by
              rw [List.getElem?_drop] at hu
              rw [Nat.add_assoc]
              exact hm _ _ hu⟩
        · cases h
      · cases h

theorem indexAddr_sound {t : Nat} {x i y : X} {e : Option Tk} {v vi : Value} (h : indexAddrX (TT.of P) t x i = some (y, e)) (hx : RepX k ow x v) (hi : RepX k ow i vi) :
    e = none ∧ ∃ u, (Instr.indexAt t v vi).run P w = .ok u w ∧ RepX k ow y u := by
  unfold indexAddrX at h
  split at h
  · cases h
  · rename_i n hn
    obtain rfl := lit_int hn hi
    split at h
    · rename_i el sz by_ ag ze fi hT
      have hru := (TT.of_ok hT).run_und w
      simp only at hru
      split at h
      · rename_i d cs m hd hsl
        split at h
        · rename_i hc
          obtain ⟨h0, hlt, hlen, hpos⟩ := hc
          simp only [out, Option.some.injEq, Prod.mk.injEq] at h
          obtain ⟨rfl, rfl⟩ := h
          have hs := as_sl hsl hx
          simp only [Rep] at hs
          obtain ⟨a, cap, vs, rfl, hcap, hl, hm⟩ := hs
          have hm0 : 0 < m := by omega
          have hvs : vs ≠ [] := by
            intro e
            have := hl.length
            rw [e, hlen] at this
            have : 0 < m * d.size := Nat.mul_pos hm0 hpos
            simp at *
            omega
          obtain ⟨b, o, rfl, hm2⟩ := hm hvs
          refine ⟨rfl, .pointer (some ((⟨b, o, none⟩ : Addr).add (n.toNat * d.size))), ?_, ?_⟩
          · simp [Instr.indexAt, asIntOf, hru, h0, hlt, (TT.of_ok hd).run_size]
          · simp only [RepX, Rep, Addr.add_lit]
            exact ⟨b, _, vs.drop (n.toNat * d.size), rfl, hl.drop _, fun i u hu => by
              rw [List.getElem?_drop] at hu
              rw [Nat.add_assoc]
              exact hm2 _ _ hu⟩
        · cases h
      · cases h
    · rename_i len el sz by_ ag ze fi hT
      have hru := (TT.of_ok hT).run_und w
      simp only at hru
      split at h
      · rename_i d hd
        split at h
        · rename_i hc
          split at h
          · rename_i r off
            simp only [out, Option.some.injEq, Prod.mk.injEq] at h
            obtain ⟨rfl, rfl⟩ := h
            simp only [RepX] at hx
            obtain ⟨b, hb, rfl⟩ := hx
            refine ⟨rfl, .pointer (some ((⟨b, off, none⟩ : Addr).add (n.toNat * d.size))), ?_, ?_⟩
            · simp [Instr.indexAt, asIntOf, hru, hc.1, hc.2, (TT.of_ok hd).run_size, Instr.sureAddr]
            · simp only [RepX, Addr.add_lit]; exact ⟨b, hb, rfl⟩
          · simp only [out, Option.some.injEq, Prod.mk.injEq] at h
            obtain ⟨rfl, rfl⟩ := h
            simp only [RepX, Rep] at hx
            obtain ⟨b, o, vs, rfl, hl, hm⟩ := hx
            refine ⟨rfl, .pointer (some ((⟨b, o, none⟩ : Addr).add (n.toNat * d.size))), ?_, ?_⟩
            · simp [Instr.indexAt, asIntOf, hru, hc.1, hc.2, (TT.of_ok hd).run_size, Instr.sureAddr]
            · simp only [RepX, Rep, Addr.add_lit]
              exact ⟨b, _, vs.drop (n.toNat * d.size), rfl, hl.drop _, fun i u hu => by
                rw [List.getElem?_drop] at hu
                rw [Nat.add_assoc]
                exact hm _ _ hu⟩
          · cases h
        · cases h
      · cases h
    · cases h
end
end Go.Pe

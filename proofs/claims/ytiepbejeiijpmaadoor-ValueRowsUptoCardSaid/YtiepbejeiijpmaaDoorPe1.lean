/-
  An abstract machine for Go code over plain data: the evaluator (definitions alone). Conditions: none.
-/
import Derived.WalkKit
import Derived.Below
import Derived.Still
namespace Go.Pe

/-- Plain data: what a value says, without memory. -/
inductive C where
  | any
  | undef
  | lit (v : Value)
  | sl (cs : List C) (n : Nat)
  | ref (cs : List C)
  | fn (f : Nat) (caps : List C)
  | agg (cs : List C)
  | tup (cs : List C)
  | ifc (t : Nat) (c : C)

abbrev ci (n : Int) : C := .lit (.int .i64 n)
abbrev cb (b : Bool) : C := .lit (.bool b)
abbrev cstr (s : ByteArray) : C := .lit (.string s)

def C.cells : C → List C
  | .agg cs => cs
  | c => [c]

/-- A name of a right to append: made by an operation, or held by an object's cell. -/
inductive Tk where
  | nm (clk ix i : Nat)
  | cell (r off : Nat)
  deriving DecidableEq

/-- What a slot holds: data, a slice with the right to append, a pointer to an object of the call's own .. -/
inductive X where
  | of (a : C)
  | nil
  | own (t : Tk) (e z : Nat) (cs : List C) (n : Nat)
  | ptr (r off : Nat)
  | mp (r : Nat)
  | clo (f : Nat) (caps : List X)
  | agg (xs : List X)
  | tup (xs : List X)

abbrev xint (n : Int) : X := .of (ci n)
abbrev xbool (b : Bool) : X := .of (cb b)
abbrev xstr (s : ByteArray) : X := .of (cstr s)

inductive Ob where
  | var (ty : Nat) (xs : List X)
  | map (es : List (Value × C))

mutual
def X.rd : X → Option C
  | .of c => some c
  | .nil => some (.sl [] 0)
  | .own _ _ _ cs n => some (.sl cs n)
  | .agg xs => (X.rds xs).map .agg
  | _ => none
def X.rds : List X → Option (List C)
  | [] => some []
  | x :: r => match x.rd, X.rds r with
    | some c, some cs => some (c :: cs)
    | _, _ => none
end

mutual
def X.drop (t : Tk) : X → X
  | .own t' e z cs n => if t' = t then .of (.sl cs n) else .own t' e z cs n
  | .clo f caps => .clo f (X.drops t caps)
  | .agg xs => .agg (X.drops t xs)
  | .tup xs => .tup (X.drops t xs)
  | x => x
def X.drops (t : Tk) : List X → List X
  | [] => []
  | x :: r => x.drop t :: X.drops t r
end

def Ob.drop (t : Tk) : Ob → Ob
  | .var ty xs => .var ty (X.drops t xs)
  | o => o

/-! Objects and rights under other names. -/
mutual
def X.tr (σ : Nat → Option Nat) (ρ : Tk → Option Tk) : X → X
  | .of c => .of c
  | .nil => .nil
  | .own t e z cs n => match ρ t with
    | some t' => .own t' e z cs n
    | none => .of (.sl cs n)
  | .ptr r off => match σ r with
    | some r' => .ptr r' off
    | none => .of .any
  | .mp r => match σ r with
    | some r' => .mp r'
    | none => .of .any
  | .clo f caps => .clo f (X.trs σ ρ caps)
  | .agg xs => .agg (X.trs σ ρ xs)
  | .tup xs => .tup (X.trs σ ρ xs)
def X.trs (σ : Nat → Option Nat) (ρ : Tk → Option Tk) : List X → List X
  | [] => []
  | x :: r => x.tr σ ρ :: X.trs σ ρ r
end
def Ob.tr (σ : Nat → Option Nat) (ρ : Tk → Option Tk) : Ob → Ob
  | .var ty xs => .var ty (X.trs σ ρ xs)
  | .map es => .map es

mutual
/-- The objects that a value names. -/
def X.refs : X → List Nat
  | .ptr r _ => [r]
  | .mp r => [r]
  | .clo _ caps => X.refsL caps
  | .agg xs => X.refsL xs
  | .tup xs => X.refsL xs
  | _ => []
def X.refsL : List X → List Nat
  | [] => []
  | x :: r => x.refs ++ X.refsL r
end
mutual
/-- The rights that a value holds. -/
def X.toks : X → List Tk
  | .own t _ _ _ _ => [t]
  | .clo _ caps => X.toksL caps
  | .agg xs => X.toksL xs
  | .tup xs => X.toksL xs
  | _ => []
def X.toksL : List X → List Tk
  | [] => []
  | x :: r => x.toks ++ X.toksL r
end
def Ob.refs : Ob → List Nat
  | .var _ xs => X.refsL xs
  | .map _ => []

def pos {α : Type} [DecidableEq α] : List α → α → Option Nat
  | [], _ => none
  | a :: l, b => if a = b then some 0 else (pos l b).map (· + 1)
/-- Each once, behind some that are there. -/
def nub {α : Type} [DecidableEq α] : List α → List α → List α
  | [], seen => seen
  | a :: l, seen => if a ∈ seen then nub l seen else nub l (seen ++ [a])

/-- The objects that can be come to. -/
def reach (objs : List Ob) : Nat → List Nat → List Nat → List Nat
  | 0, _, seen => seen
  | _ + 1, [], seen => seen
  | n + 1, r :: todo, seen => if r ∈ seen then reach objs n todo seen else reach objs n (((objs[r]?).map Ob.refs).getD [] ++ todo) (seen ++ [r])

/-- The names within a call, of what it is given: these objects, these rights. -/
def rhoIn (refs : List Nat) (ts : List Tk) (t : Tk) : Option Tk := match pos ts t with
  | some i => some (.nm 0 0 i)
  | none => match t with
    | .cell r off => (pos refs r).map fun r' => .cell r' off
    | .nm .. => none
/-- The rights that the caller keeps. -/
def keepTk (refs : List Nat) (ts : List Tk) (t : Tk) : Option Tk := if t ∈ ts then none else match t with
  | .cell r _ => if r ∈ refs then none else some t
  | .nm .. => some t
/-- The names behind a call. -/
def sigBack (refs : List Nat) (L i : Nat) : Nat := match refs[i]? with
  | some r => r
  | none => L + (i - refs.length)
def rhoBack (refs : List Nat) (L clk ix : Nat) : Tk → Option Tk
  | .nm 0 0 i => some (.nm clk ix i)
  | .nm .. => none
  | .cell r off => some (.cell (sigBack refs L r) off)
def dropTs (ts : List Tk) (objs : List Ob) : List Ob := match ts with
  | [] => objs
  | ts => objs.map (Ob.tr some fun t => if t ∈ ts then none else some t)
/-- Objects, in this order, under other names. -/
def pickObs (σ : Nat → Option Nat) (ρ : Tk → Option Tk) (objs : List Ob) : List Nat → Option (List Ob)
  | [] => some []
  | r :: l => match objs[r]?, pickObs σ ρ objs l with
    | some ob, some q => some (ob.tr σ ρ :: q)
    | _, _ => none
def setObs (σ : Nat → Option Nat) (ρ : Tk → Option Tk) : List Ob → List Nat → List Ob → List Ob
  | objs, r :: l, ob :: q => setObs σ ρ (objs.set r (ob.tr σ ρ)) l q
  | objs, _, _ => objs

def dropOpt (t : Option Tk) (x : X) : X := match t with | none => x | some t => x.drop t

/-- The call's own slots; the objects; a clock. -/
structure S where
  fr : Nat → X
  objs : List Ob
  clk : Nat

def upd (f : Nat → X) (d : Nat) (x : X) : Nat → X := fun j => if j = d then x else f j

def S.put (s : S) (d : Option Nat) (x : X) : S := match d with
  | none => s
  | some d => { s with fr := upd s.fr d x }

def S.drop (s : S) (t : Option Tk) : S := match t with
  | none => s
  | some t => { s with fr := fun j => (s.fr j).drop t, objs := s.objs.map (·.drop t) }

/-- A value that stands in the code. -/
def ofVal : Value → X
  | .slice none 0 0 => .nil
  | .int k n => .of (.lit (.int k n))
  | .bool b => .of (.lit (.bool b))
  | .string s => .of (.lit (.string s))
  | .pointer none => .of (.lit (.pointer none))
  | .map none => .of (.lit (.map none))
  | .nilFunc => .of (.lit .nilFunc)
  | .nilIface => .of (.lit .nilIface)
  | _ => .of .any

def S.ev (s : S) : Operand → X
  | .tmp t => s.fr t
  | .const v => ofVal v
  | .func f => .of (.fn f [])
  | .global _ => .of .any

/-- What is known of a type. -/
structure TD where
  und : TypeDesc
  size : Nat
  bytes : Nat
  agg : Bool
  zero : List Value
  fields : List (Nat × Nat)

abbrev TT := Nat → Option TD

def isAggD : TypeDesc → Bool
  | .struct _ => true
  | .array _ _ => true
  | _ => false

def isAggV : Value → Bool
  | .agg _ => true
  | _ => false

def fieldsOf (P : Program) : TypeDesc → Option (List (Nat × Nat))
  | .struct fs => fs.toList.mapM fun f => (P.info? f.type).map fun i => (f.offset, i.size)
  | _ => some []

/-- The program's own types. -/
def TT.of (P : Program) : TT := fun t => match P.underlying t, P.info? t with
  | some u, some i => match i.zero, fieldsOf P u with
    | some z, some fl => if z.cells.toList.all (·.oneCell') && z.cells.size == i.size && isAggV z == isAggD u then some ⟨u, i.size, i.bytes, isAggD u, z.cells.toList, fl⟩ else none
    | _, _ => none
  | _, _ => none

/-! ### Arithmetic -/
/-- The bound on every length that is made. -/
def LIM : Nat := 4294967296

def binInt (op : BinOp) (k : IntKind) (a b : Int) : Option Value := match op with
  | .add => some (.int k (k.wrap (a + b)))
  | .sub => some (.int k (k.wrap (a - b)))
  | .mul => some (.int k (k.wrap (a * b)))
  | .quo => if b = 0 then none else some (.int k (k.wrap (a.tdiv b)))
  | .rem => if b = 0 then none else some (.int k (a.tmod b))
  | .eql => some (.bool (decide (a = b)))
  | .neq => some (.bool (!decide (a = b)))
  | .lss => some (.bool (decide (a < b)))
  | .leq => some (.bool (decide (a ≤ b)))
  | .gtr => some (.bool (decide (b < a)))
  | .geq => some (.bool (decide (b ≤ a)))
  | .and => some (.int k (k.wrap (BitVec.ofInt k.bits a &&& BitVec.ofInt k.bits b).toNat))
  | .andNot => some (.int k (k.wrap (BitVec.ofInt k.bits a &&& ~~~BitVec.ofInt k.bits b).toNat))
  | _ => none

def binStr (op : BinOp) (a b : ByteArray) : Option Value := match op with
  | .add => if a.size + b.size ≤ LIM then some (.string (a ++ b)) else none
  | .eql => some (.bool (decide (a = b)))
  | .neq => some (.bool (!decide (a = b)))
  | _ => none

def binBool (op : BinOp) (a b : Bool) : Option Value := match op with
  | .eql => some (.bool (a == b))
  | .neq => some (.bool (!(a == b)))
  | _ => none

def isBoolD : Option TypeDesc → Bool
  | some .bool => true
  | _ => false

def binLit (u : Option TypeDesc) (op : BinOp) : Value → Value → Option Value
  | .int k a, .int k' b => if k = k' then binInt op k a b else none
  | .string a, .string b => binStr op a b
  | .bool a, .bool b => if isBoolD u then binBool op a b else none
  | _, _ => none

def unLit (op : UnOp) : Value → Option Value
  | .int k n => match op with
    | .neg => some (.int k (k.wrap (0 - n)))
    | _ => none
  | .bool b => match op with
    | .not => some (.bool (!b))
    | _ => none
  | _ => none

/-- '==' of two scalars of one kind. -/
def eqLit : Value → Value → Option Bool
  | .int k a, .int k' b => if k = k' then some (decide (a = b)) else none
  | .string a, .string b => some (decide (a = b))
  | .bool a, .bool b => some (a == b)
  | _, _ => none

def litInt : X → Option Int
  | .of (.lit (.int .i64 n)) => some n
  | _ => none

def litBool : X → Option Bool
  | .of (.lit (.bool b)) => some b
  | _ => none

/-- A slice as data. -/
def asSl : X → Option (List C × Nat)
  | .nil => some ([], 0)
  | .own _ _ _ cs n => some (cs, n)
  | .of (.sl cs n) => some (cs, n)
  | _ => none

/-- The cells of a value. -/
def cellsX : X → Option (List X)
  | .agg xs => some xs
  | .of (.agg cs) => some (cs.map .of)
  | .of .any => none
  | .of .undef => none
  | .of (.tup _) => none
  | .tup _ => none
  | x => some [x]

def rdCells (x : X) : Option (List C) := (cellsX x).bind X.rds

/-- Parts laid into a row of cells. -/
def fillX (place : Nat → Option (Nat × Nat)) (cells : List X) : List (Nat × List X) → Option (List X)
  | [] => some cells
  | (i, xs) :: rest => match place i with
    | none => none
    | some (off, size) =>
      if xs.length = size ∧ off + size ≤ cells.length then fillX place (cells.take off ++ xs ++ cells.drop (off + size)) rest
      else none

def zeroX (d : TD) : List X := d.zero.map ofVal

/-- A piece of a row of cells, as a value of that type. -/
def pieceC (T : TT) (t : Nat) (cs : List C) : Option C := match T t with
  | none => none
  | some d => if d.size ≤ cs.length then (if d.agg then some (.agg (cs.take d.size)) else match cs with
      | c :: _ => some c
      | [] => none) else none
def pieceX (T : TT) (t : Nat) (xs : List X) : Option X := match T t with
  | none => none
  | some d => if d.size ≤ xs.length then (if d.agg then some (.agg (xs.take d.size)) else match xs with
      | x :: _ => some x
      | [] => none) else none

def elemOf (T : TT) (t : Nat) : Option (Nat × TD) := match T t with
  | some { und := .slice e, .. } => (T e).map fun d => (e, d)
  | _ => none

def partsX (f : Operand → X) (ps : List (Nat × Operand)) : Option (List (Nat × List X)) := match ps with
  | [] => some []
  | (i, x) :: r => match cellsX (f x), partsX f r with
    | some l, some q => some ((i, l) :: q)
    | _, _ => none

def rdAll (f : Operand → X) : List Operand → Option (List C)
  | [] => some []
  | x :: r => match (f x).rd, rdAll f r with
    | some c, some cs => some (c :: cs)
    | _, _ => none

/-- What an operation that turns no object yields: the value, and the right to append that it uses up. -/
abbrev Out := Option (X × Option Tk)
def out (x : X) : Out := some (x, none)
def outO (x : Option X) : Out := x.map fun x => (x, none)

def appendX (T : TT) (t : Tk) (st xt : Nat) (s x : X) : Out :=
  if st = xt then match elemOf T st, asSl x with
    | some (e, d), some (ys, m) =>
      if ys.length = m * d.size ∧ 0 < d.size then match s with
        | .nil => if m ≤ LIM ∧ d.bytes ≤ 32768 then some (.own t e d.size ys m, none) else none
        | .own t' e' z cs n => if e' = e ∧ z = d.size ∧ n + m ≤ LIM ∧ d.bytes ≤ 32768 then some (.own t e d.size (cs ++ ys) (n + m), some t') else none
        | _ => none
      else none
    | _, _ => none
  else none

def isStrD : Option TypeDesc → Bool
  | some .string => true
  | _ => false

def bndX (d : Int) : Option X → Option Int
  | none => some d
  | some l => litInt l

def sliceX (T : TT) (t : Nat) (x : X) (lo hi : Option X) : Out :=
  match x with
  | .of (.lit (.string s)) =>
    if isStrD ((T t).map (·.und)) then match bndX 0 lo, bndX (s.size : Int) hi with
    | some l, some h => if 0 ≤ l ∧ l ≤ h ∧ h ≤ (s.size : Int) then out (.of (.lit (.string (s.extract l.toNat h.toNat)))) else none
    | _, _ => none
    else none
  | x => match elemOf T t, asSl x with
    | some (_, d), some (cs, n) =>
      match bndX 0 lo, bndX (n : Int) hi with
      | some l, some h => if 0 ≤ l ∧ l ≤ h ∧ h ≤ (n : Int) ∧ cs.length = n * d.size then out (.of (.sl ((cs.drop (l.toNat * d.size)).take ((h.toNat - l.toNat) * d.size)) (h.toNat - l.toNat))) else none
      | _, _ => none
    | _, _ => none

def loadX (T : TT) (objs : List Ob) (t : Nat) : X → Out
  | .ptr r off => match objs[r]? with
    | some (.var _ xs) => outO (pieceX T t (xs.drop off))
    | _ => none
  | .of (.ref cs) => outO ((pieceC T t cs).map .of)
  | _ => none

def fieldOff (T : TT) (t f : Nat) : Option (Nat × Nat) := (T t).bind fun d => d.fields[f]?

def fieldAddrX (T : TT) (t f : Nat) (x : X) : Out := match fieldOff T t f with
  | some (o, z) => if 0 < z then match x with
    | .ptr r off => out (.ptr r (off + o))
    | .of (.ref cs) => out (.of (.ref (cs.drop o)))
    | _ => none else none
  | none => none

def fieldTy : TypeDesc → Nat → Option Nat
  | .struct fs, i => (fs[i]?).map (·.type)
  | _, _ => none

def fieldX (T : TT) (t f : Nat) (x : X) : Out := match T t with
  | some d => match d.fields[f]?, fieldTy d.und f with
    | some (o, _), some u => match x with
      | .agg xs => outO (pieceX T u (xs.drop o))
      | .of (.agg cs) => outO ((pieceC T u (cs.drop o)).map .of)
      | _ => none
    | _, _ => none
  | none => none

def indexAddrX (T : TT) (t : Nat) (x i : X) : Out := match litInt i with
  | none => none
  | some i => match T t with
    | some { und := .slice e, .. } => match T e, asSl x with
      | some d, some (cs, n) => if 0 ≤ i ∧ i < (n : Int) ∧ cs.length = n * d.size ∧ 0 < d.size then out (.of (.ref (cs.drop (i.toNat * d.size)))) else none
      | _, _ => none
    | some { und := .array n e, .. } => match T e with
      | some d => if 0 ≤ i ∧ i < (n : Int) then match x with
        | .ptr r off => out (.ptr r (off + i.toNat * d.size))
        | .of (.ref cs) => out (.of (.ref (cs.drop (i.toNat * d.size))))
        | _ => none else none
      | none => none
    | _ => none

def indexX (T : TT) (t : Nat) (x i : X) : Out := match litInt i with
  | none => none
  | some i => match x with
    | .of (.lit (.string s)) => if h : isStrD ((T t).map (·.und)) = true ∧ 0 ≤ i ∧ i.toNat < s.size then out (.of (.lit (.int .u8 (s[i.toNat]'h.2.2).toNat))) else none
    | .agg xs => match T t with
      | some { und := .array n e, .. } => match T e with
        | some d => if 0 ≤ i ∧ i < (n : Int) then outO (pieceX T e (xs.drop (i.toNat * d.size))) else none
        | none => none
      | _ => none
    | .of (.agg cs) => match T t with
      | some { und := .array n e, .. } => match T e with
        | some d => if 0 ≤ i ∧ i < (n : Int) then outO ((pieceC T e (cs.drop (i.toNat * d.size))).map .of) else none
        | none => none
      | _ => none
    | _ => none

def isSlD : Option TypeDesc → Bool
  | some (.slice _) => true
  | _ => false

def lenX (u : Option TypeDesc) (x : X) : Out := match x with
  | .of (.lit (.string s)) => if isStrD u then out (xint s.size) else none
  | x => match asSl x with
    | some (_, n) => if isSlD u then out (xint n) else none
    | none => none

def convertX (T : TT) (src dst : Nat) (x : X) : Out := match T src, (T dst).map (·.und), x with
  | some _, some (TypeDesc.int k), .of (.lit (.int _ n)) => out (.of (.lit (.int k (k.wrap n))))
  | some _, some TypeDesc.string, .of (.lit (.string s)) => out (.of (.lit (.string s)))
  | _, _, _ => none

/-! maps -/
/-- The place of a key. -/
def findX (kind : TypeDesc) (k : Value) : List (Value × C) → Nat → Option (Option Nat)
  | [], _ => some none
  | e :: es, i => match Instr.sameNow kind k e.1 with
    | some true => some (some i)
    | some false => findX kind k es (i + 1)
    | none => none
def keyKind : TypeDesc → Bool
  | .int _ => true
  | .string => true
  | .bool => true
  | _ => false
def litOf : X → Option Value
  | .of (.lit v) => some v
  | _ => none
def mapOf (objs : List Ob) : X → Option (List (Value × C))
  | .mp r => match objs[r]? with
    | some (.map es) => some es
    | _ => none
  | .of (.lit (.map none)) => some []
  | _ => none
def zero1 (T : TT) (t : Nat) : Option X := match T t with
  | some d => pieceX T t (zeroX d)
  | none => none
def mapTy (T : TT) (t : Nat) : Option (TypeDesc × Nat) := match T t with
  | some { und := .map kt et, .. } => match (T kt).map (·.und) with
    | some kind => if keyKind kind then some (kind, et) else none
    | none => none
  | _ => none
/-- Does a literal fit a field of this type? -/
def fitD : Option TypeDesc → Value → Bool
  | some (.int _), .int _ _ => true
  | some .string, .string _ => true
  | some .bool, .bool _ => true
  | _, _ => false
/-- '==' of two structs whose fields are scalars, field by field. -/
def eqFlat (T : TT) : Nat → List Field → List C → List C → Option Bool
  | _, [], [], [] => some true
  | o, f :: fs, .lit u :: r, .lit v :: q =>
    if f.name != "_" && f.offset == o && fitD ((T f.type).map (·.und)) u && fitD ((T f.type).map (·.und)) v then match eqLit u v with
      | some true => eqFlat T (o + 1) fs r q
      | b => b
    else none
  | _, _, _, _ => none
def eqAgg (P : Program) (T : TT) (t : Nat) (cs ds : List C) : Option Bool := match T t with
  | some { und := .struct fs, .. } => if P.stoodInHeld t = false ∧ P.eqGuardType P.depth t = false then eqFlat T 0 fs.toList cs ds else none
  | _ => none
def binAgg (P : Program) (T : TT) (t : Nat) (op : BinOp) : Option C → Option C → Out
  | some (.agg cs), some (.agg ds) => match op with
    | .eql => outO ((eqAgg P T t cs ds).map xbool)
    | .neq => outO ((eqAgg P T t cs ds).map fun b => xbool (!b))
    | _ => none
  | _, _ => none
def binX (P : Program) (T : TT) (t : Nat) (u : Option TypeDesc) (op : BinOp) (x y : X) : Out := match litOf x, litOf y with
  | some a, some b => outO ((binLit u op a b).map fun v => .of (.lit v))
  | _, _ => binAgg P T t op x.rd y.rd

def lookupX (T : TT) (objs : List Ob) (t : Nat) (x k : X) (ok : Bool) : Out := match mapTy T t, litOf k, mapOf objs x with
  | some (kind, et), some kv, some es => match findX kind kv es 0 with
    | some (some i) => outO ((es[i]?).map fun e => if ok then .tup [.of e.2, xbool true] else .of e.2)
    | some none => outO ((zero1 T et).map fun z => if ok then .tup [z, xbool false] else z)
    | none => none
  | _, _, _ => none
def putX (kind : TypeDesc) (k : Value) (c : C) (es : List (Value × C)) : Option (List (Value × C)) := match findX kind k es 0 with
  | some (some i) => some (es.set i (k, c))
  | some none => some (es ++ [(k, c)])
  | none => none
def delX (kind : TypeDesc) (k : Value) (es : List (Value × C)) : Option (List (Value × C)) := match findX kind k es 0 with
  | some (some i) => some (es.eraseIdx i)
  | some none => some es
  | none => none

/-- An answer: does it panic; what is handed back; the objects behind it: those that were given, then new ones. -/
structure An where
  pan : Bool
  rs : List X
  obs : List Ob

/-- How a call is answered, by what it is given: values, and the objects that they name. -/
abbrev Orc := Nat → List X → List Ob → Option An

/-- How calls are answered; which functions take or give objects; which take rights. -/
structure En where
  orc : Orc
  obj : Nat → Bool
  tk : Nat → Bool

def oneX : List X → X
  | [x] => x
  | xs => .tup xs

def callable (P : Program) (f : Nat) : Bool := match P.funcs[f]? with
  | some fn => fn.body.isSome && !(fn.name == "runtime.NumGoroutine")
  | none => false

def nameTk (clk ix : Nat) : Tk → Option Tk
  | .nm 0 0 i => some (.nm clk ix i)
  | _ => none
def nameX (clk ix : Nat) (xs : List X) : List X := X.trs (fun _ => none) (nameTk clk ix) xs

/-- A call of a Go function on plain data. -/
def callX (P : Program) (E : En) (clk ix f : Nat) (cs : List C) : Out :=
  if callable P f && !E.obj f then match E.orc f (cs.map .of) [] with
    | some ⟨false, rs, []⟩ => out (oneX (nameX clk ix rs))
    | _ => none
  else none

/-- Is it a type, and no interface's? -/
def ifcD : Option TypeDesc → Bool
  | none => false
  | some (.interface _) => false
  | some _ => true

/-- A call. -/
def valCall (P : Program) (T : TT) (E : En) (s : S) (ix : Nat) : Callee → List Operand → List Nat → Out
  | .builtin .len, [x], [t] => lenX ((T t).map (·.und)) (s.ev x)
  | .builtin .append, [a, b], [st, xt] => appendX T (.nm s.clk ix 0) st xt (s.ev a) (s.ev b)
  | .value f, args, _ => match s.ev f, rdAll s.ev args with
    | .of (.fn f caps), some cs => callX P E s.clk ix f (cs ++ caps)
    | _, _ => none
  | _, _, _ => none

/-- An operation that turns no object. -/
def val (P : Program) (T : TT) (E : En) (s : S) (ix : Nat) (o : Oper) : Out :=
  match o.op with
  | .move x | .assign x => out (s.ev x)
  | .pick c a b => match litBool (s.ev c) with
    | some b' => out (if b' then s.ev a else s.ev b)
    | none => none
  | .binOp op t x y _ => binX P T t ((T t).map (·.und)) op (s.ev x) (s.ev y)
  | .unOp op _ x => match s.ev x with
    | .of (.lit u) => outO ((unLit op u).map fun v => .of (.lit v))
    | _ => none
  | .load t a => loadX T s.objs t (s.ev a)
  | .fieldAddr t x f => fieldAddrX T t f (s.ev x)
  | .field t x f => fieldX T t f (s.ev x)
  | .indexAddr t x i => indexAddrX T t (s.ev x) (s.ev i)
  | .index t x i => indexX T t (s.ev x) (s.ev i)
  | .slice t x lo hi none => sliceX T t (s.ev x) (lo.map s.ev) (hi.map s.ev)
  | .build t ps => match T t, partsX s.ev ps.toList with
    | some d, some qs => match d.und with
      | .struct _ => outO ((fillX (fun i => d.fields[i]?) (zeroX d) qs).map .agg)
      | .array _ e => match T e with
        | some de => outO ((fillX (fun i => some (i * de.size, de.size)) (zeroX d) qs).map .agg)
        | none => none
      | _ => none
    | _, _ => none
  | .buildSlice t' n ps => match elemOf T t', partsX s.ev ps.toList with
    | some (e, d), some qs =>
      if n * d.size ≤ 16777216 ∧ 0 < d.size ∧ d.zero.length = d.size then match fillX (fun i => some (i * d.size, d.size)) ((List.replicate n (zeroX d)).flatten) qs with
        | some xs => match X.rds xs with
          | some cs => out (.own (.nm s.clk ix 0) e d.size cs n)
          | none => none
        | none => none
      else none
    | _, _ => none
  | .extract x i => match s.ev x with
    | .tup xs => outO (xs[i]?)
    | .of (.tup cs) => outO ((cs[i]?).map .of)
    | _ => none
  | .nilCheck x => match s.ev x with
    | .ptr r off => out (.ptr r off)
    | .of (.ref cs) => out (.of (.ref cs))
    | _ => none
  | .makeFunc (.func f) first caps => if first.size = 0 then match rdAll s.ev caps.toList with
    | some cs => out (.of (.fn f cs))
    | none => none
    else none
  | .convert a b x => convertX T a b (s.ev x)
  | .lookup t x i ok => lookupX T s.objs t (s.ev x) (s.ev i) ok
  | .makeInterface t x => match ifcD ((T t).map (·.und)), (s.ev x).rd with
    | true, some c => out (.of (.ifc t c))
    | _, _ => none
  | .call { callee := cal, args := args, argTypes := tys } => valCall P T E s ix cal args.toList tys.toList
  | _ => none

/-- May this operation use up the right? One of an earlier region, or one that an operation yields for which it waits. -/
def okTk (clk : Nat) (after : List Edge) : Option Tk → Bool
  | some (.nm c ix _) => decide (c < clk) || (decide (c = clk) && after.any fun e => Region.binds .any e && e.on == ix)
  | _ => true

/-- An operation that turns no object. -/
def stepV (P : Program) (T : TT) (E : En) (s : S) (ix : Nat) (o : Oper) : Option (Option X × S) := match val P T E s ix o with
  | some (x, t) => if okTk s.clk o.after.toList t = true then some (none, (s.drop t).put o.dst x) else none
  | none => none

/-- Rights that cells of an object come to hold. -/
def cellTks (r : Nat) : Nat → List X → List (Tk × Tk)
  | _, [] => []
  | off, .own t _ _ _ _ :: l => (t, .cell r off) :: cellTks r (off + 1) l
  | off, _ :: l => cellTks r (off + 1) l
def assoc : List (Tk × Tk) → Tk → Option Tk
  | [], _ => none
  | (a, b) :: l, t => if a = t then some b else assoc l t
/-- The rights when some go over to cells: which ones are written on, which ones go over. -/
def moveTk (r off n : Nat) (mv : List (Tk × Tk)) (t : Tk) : Option Tk := match assoc mv t with
  | some t' => some t'
  | none => match t with
    | .cell r' o' => if r' = r ∧ off ≤ o' ∧ o' < off + n then none else some t
    | .nm .. => some t
def noOwn : List X → Bool
  | [] => true
  | .own .. :: _ => false
  | _ :: l => noOwn l
def S.tr (ρ : Tk → Option Tk) (s : S) : S := { s with fr := fun j => (s.fr j).tr some ρ, objs := s.objs.map (Ob.tr some ρ) }
/-- Values laid into an object's cells (which held ys): the rights that they hold go over to the cells. -/
def layS (r off : Nat) (xs ys : List X) (s : S) : S := if noOwn xs && noOwn ys then s else s.tr (moveTk r off xs.length (cellTks r off xs))

def allocS (s : S) (d : Option Nat) (ty : Nat) (xs : List X) : S := (layS s.objs.length 0 xs [] { s with objs := s.objs ++ [Ob.var ty xs] }).put d (.ptr s.objs.length 0)

def storeS (s : S) (d : Option Nat) (n r off : Nat) (xs : List X) : Option S := match s.objs[r]? with
  | some (.var ty ys) => if xs.length = n ∧ off + xs.length ≤ ys.length then
      some ((layS r off xs ((ys.drop off).take xs.length) { s with objs := s.objs.set r (Ob.var ty (ys.take off ++ xs ++ ys.drop (off + xs.length))) }).put d (.of .undef))
    else none
  | _ => none

/-- What is called, and with what. -/
def target (s : S) (c : Callee) (args : List Operand) : Option (Nat × List X) := match c with
  | .value f => match s.ev f with
    | .of (.fn g caps) => some (g, args.map s.ev ++ caps.map .of)
    | .clo g caps => some (g, args.map s.ev ++ caps)
    | _ => none
  | _ => none

/-- The state behind a call. -/
def backS (s : S) (ix : Nat) (d : Option Nat) (refs : List Nat) (ts : List Tk) (an : An) : Option (Option X × S) :=
  let σ := fun i => some (sigBack refs s.objs.length i)
  let ρ := rhoBack refs s.objs.length s.clk ix
  if refs.length ≤ an.obs.length then
    let s' : S := { s with fr := fun j => (s.fr j).tr some (keepTk refs ts), objs := setObs σ ρ (s.objs.map (Ob.tr some (keepTk refs ts))) refs an.obs ++ (an.obs.drop refs.length).map (Ob.tr σ ρ) }
    match an with
    | ⟨true, [x], _⟩ => some (some (x.tr σ ρ), s')
    | ⟨true, _, _⟩ => none
    | ⟨false, rs, _⟩ => some (none, s'.put d (oneX (X.trs σ ρ rs)))
  else none

/-- A call that takes or gives objects. -/
def callS (P : Program) (E : En) (s : S) (ix : Nat) (d : Option Nat) (f : Nat) (us : List X) : Option (Option X × S) :=
  if callable P f then
    let refs := reach s.objs 999 (X.refsL us) []
    let ts := if E.tk f then nub (X.toksL us) [] else []
    match pickObs (pos refs) (rhoIn refs ts) (dropTs ts s.objs) refs with
    | some obs => match E.orc f (X.trs (pos refs) (rhoIn refs ts) us) obs with
      | some an => backS s ix d refs ts an
      | none => none
    | none => none
  else none

def step (P : Program) (T : TT) (E : En) (dr : Bool) (s : S) (ix : Nat) (o : Oper) : Option (Option X × S) :=
  if dr then stepV P T E s ix o else
  match o.op with
  | .alloc t => match T t with
    | some d => some (none, allocS s o.dst t (zeroX d))
    | none => none
  | .box t x => match T t, cellsX (s.ev x) with
    | some d, some xs => if xs.length = d.size then some (none, allocS s o.dst t xs) else none
    | _, _ => none
  | .store t a x => match T t, s.ev a, cellsX (s.ev x) with
    | some d, .ptr r off, some xs => (storeS s o.dst d.size r off xs).map fun s => (none, s)
    | _, _, _ => none
  | .makeMap _ none => some (none, { s with objs := s.objs ++ [Ob.map []] }.put o.dst (.mp s.objs.length))
  | .mapUpdate t m k x => match mapTy T t, s.ev m, litOf (s.ev k), (s.ev x).rd with
    | some (kind, _), .mp r, some kv, some c => match s.objs[r]? with
      | some (.map es) => match putX kind kv c es with
        | some es' => some (none, { s with objs := s.objs.set r (Ob.map es') }.put o.dst (.of .undef))
        | none => none
      | _ => none
    | _, _, _, _ => none
  | .call { callee := .builtin .delete, args := args, argTypes := tys } => match args.toList, tys.toList with
    | [m, k], [t, _] => match mapTy T t, s.ev m, litOf (s.ev k) with
      | some (kind, _), .mp r, some kv => match s.objs[r]? with
        | some (.map es) => match delX kind kv es with
          | some es' => some (none, { s with objs := s.objs.set r (Ob.map es') }.put o.dst (.tup []))
          | none => none
        | _ => none
      | _, _, _ => none
    | _, _ => none
  | .panic x => match (s.ev x).rd with
    | some (.ifc t c) => some (some (.of (.ifc t c)), s)
    | _ => none
  | .call { callee := .value f, args := args, argTypes := _ } => match target s (.value f) args.toList with
    | some (g, us) => if E.obj g then callS P E s ix o.dst g us else stepV P T E s ix o
    | none => none
  | _ => stepV P T E s ix o

def guardOk (ops : Array Oper) (s : S) (o : Oper) : Option Bool :=
  match o.guard with
  | none => some true
  | some (j, want) => match (ops[j]?).bind (·.dst) with
    | some d => match s.fr d with
      | .of (.lit (.bool b)) => some (b == want)
      | .of .undef => some false
      | _ => none
    | none => some false

def stepG (P : Program) (T : TT) (E : En) (dr : Bool) (ops : Array Oper) (s : S) (ix : Nat) (o : Oper) : Option (Option X × S) :=
  match guardOk ops s o with
  | some true => step P T E dr s ix o
  | some false => some (none, s.put o.dst (.of .undef))
  | none => none

def evOps (P : Program) (T : TT) (E : En) (dr : Bool) (ops : Array Oper) : Nat → List Oper → S → Option (Option X × S)
  | _, [], s => some (none, s)
  | k, o :: r, s => match stepG P T E dr ops s k o with
    | some (none, s') => evOps P T E dr ops (k + 1) r s'
    | some (some x, s') => some (some x, s')
    | none => none

inductive Ex where
  | normal
  | exit (id : Nat)
  | ret
  | pan (x : X)

def initS (xs : List X) (obs : List Ob) : S := { fr := fun j => xs.getD j (.of .undef), objs := obs, clk := 1 }

/-- What a function hands back, as its slots say. -/
def resXs (T : TT) (s : S) : List ResultVar → Option (List X)
  | [] => some []
  | .tmp t :: r => (resXs T s r).map (s.fr t :: ·)
  | .cell a t :: r => match loadX T s.objs t (s.fr a), resXs T s r with
    | some (x, _), some q => some (x :: q)
    | _, _ => none

/-- The end of a call: the objects that were given, and the new ones that can still be come to; the rights that come with the results. -/
def leave (m : Nat) (pan : Bool) (rs : List X) (objs : List Ob) : Option An :=
  let refs := reach objs 999 (X.refsL rs ++ ((objs.take m).map Ob.refs).flatten) (List.range m)
  let ts := (nub (X.toksL rs) []).filter fun t => match t with
    | .nm .. => true
    | .cell r _ => !decide (r ∈ refs)
  (pickObs (pos refs) (rhoIn refs ts) objs refs).map fun obs => ⟨pan, X.trs (pos refs) (rhoIn refs ts) rs, obs⟩

def dstOk (N : Nat) (o : Oper) : Bool := match o.dst with
  | some d => decide (d < N)
  | none => true

/-- A region is in order: its slots are there; and where it draws its order, the order of the text serves. -/
def opsOk (N : Nat) (ops : Array Oper) (draw : Bool) : Bool := ops.all (dstOk N) && (!draw || Region.lexB .any ops)

def codeOk (N : Nat) : Code → Bool
  | .region _ ops draw => opsOk N ops draw
  | .seq a b => codeOk N a && codeOk N b
  | .cond _ a b => codeOk N a && codeOk N b
  | .block _ c => codeOk N c
  | .loop c => codeOk N c
  | _ => true

def bodyOf (P : Program) (f : Nat) : Code := match P.funcs[f]? with
  | some fn => fn.body.getD .skip
  | none => .skip
def arity (P : Program) (f : Nat) : Nat := match P.funcs[f]? with
  | some fn => fn.ntmps
  | none => 0
def resVars (P : Program) (f : Nat) : List ResultVar := match P.funcs[f]? with
  | some fn => fn.results.toList
  | none => []
def fnOk (P : Program) (f : Nat) : Bool := match P.funcs[f]? with
  | some fn => fn.body.isSome && codeOk fn.ntmps (fn.body.getD .skip)
  | none => false

/-- What is given: answers to calls; which functions take or give objects; which take rights. -/
structure Pr where
  prim : Orc
  obj : Nat → Bool
  tk : Nat → Bool

def callOf (P : Program) (T : TT) (run : Code → S → Option (Ex × S)) (f : Nat) (xs : List X) (obs : List Ob) : Option An :=
  if fnOk P f = true ∧ xs.length ≤ arity P f then match run (bodyOf P f) (initS xs obs) with
    | some (.normal, s) => (resXs T s (resVars P f)).bind fun rs => leave obs.length false rs s.objs
    | some (.ret, s) => (resXs T s (resVars P f)).bind fun rs => leave obs.length false rs s.objs
    | some (.pan x, s) => leave obs.length true [x] s.objs
    | _ => none
  else none

def orcOf (P : Program) (T : TT) (pr : Pr) (run : Code → S → Option (Ex × S)) : Orc := fun f xs obs =>
  match pr.prim f xs obs with
  | some r => some r
  | none => callOf P T run f xs obs

def enOf (P : Program) (T : TT) (pr : Pr) (run : Code → S → Option (Ex × S)) : En := ⟨orcOf P T pr run, pr.obj, pr.tk⟩

def evC (P : Program) (T : TT) (pr : Pr) : Nat → Code → S → Option (Ex × S)
  | 0, _, _ => none
  | n + 1, c, s => match c with
    | .skip => some (.normal, s)
    | .ret => some (.ret, s)
    | .exit i => some (.exit i, s)
    | .seq a b => match evC P T pr n a s with
      | some (.normal, s') => evC P T pr n b s'
      | r => r
    | .block i c => match evC P T pr n c s with
      | some (.exit j, s') => some (if j = i then .normal else .exit j, s')
      | r => r
    | .cond c a b => match litBool (s.ev c) with
      | some true => evC P T pr n a s
      | some false => evC P T pr n b s
      | none => none
    | .loop c => match evC P T pr n c s with
      | some (.normal, s') => evC P T pr n (.loop c) s'
      | r => r
    | .region _ ops draw => match evOps P T (enOf P T pr (evC P T pr n)) draw ops 0 ops.toList s with
      | some (none, s') => some (.normal, { s' with clk := s'.clk + 1 })
      | some (some x, s') => some (.pan x, { s' with clk := s'.clk + 1 })
      | none => none
    | _ => none

end Go.Pe

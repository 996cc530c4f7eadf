/-
  What is given of the library's functions on plain data (the answers alone), and how a call of the project's own is asked. Conditions: none.
-/
import Derived.Test.YtiepbejeiijpmaaDoorPe14
import Derived.Lib.Bytealg
import Derived.Lib.Replace
import Derived.Shelf.GgClosure.StringsIndexFunc
import Derived.Test.YtiepbejeiijpmaaDoorPeTab
import Derived.Test.YtiepbejeiijpmaaDoorVl5
import Derived.Test.YtiepbejeiijpmaaDoorVl6
namespace Go.Proofs.YtiepbejeiijpmaaDoor
open Go Go.Pe Go.Tab

def byC (l : List UInt8) : List C := l.map fun b => .lit (.int .u8 b.toNat)
def unby : List C → Option (List UInt8)
  | [] => some []
  | .lit (.int .u8 n) :: r => if n = (UInt8.ofNat n.toNat).toNat then (unby r).map (UInt8.ofNat n.toNat :: ·) else none
  | _ => none
theorem unby_byC : ∀ l : List UInt8, unby (byC l) = some l
  | [] => rfl
  | b :: l => by
    have h := unby_byC l
    simp only [byC, List.map_cons, unby] at h ⊢
    rw [h]
    simp
theorem unby_eq : ∀ (cs : List C) (l : List UInt8), unby cs = some l → cs = byC l
  | [], l, h => by simp only [unby, Option.some.injEq] at h; subst h; rfl
  | c :: cs, l, h => by
    unfold unby at h
    split at h
    · rename_i e; cases e
    · rename_i n r e
      cases e
      split at h
      · rename_i hn
        simp only [Option.map_eq_some_iff] at h
        obtain ⟨l', h', rfl⟩ := h
        rw [unby_eq _ l' h']
        simp only [byC, List.map_cons]
        rw [← hn]
      · cases h
    · cases h
theorem byC_length (l : List UInt8) : (byC l).length = l.length := by simp [byC]
theorem byC_append (l q : List UInt8) : byC (l ++ q) = byC l ++ byC q := by simp [byC]
def str (l : List UInt8) : ByteArray := ⟨l.toArray⟩

/-- A Builder: its address, and its bytes. -/
def bld (l : List UInt8) : List X := [.ptr 0 0, .own (.cell 0 1) 5 1 (byC l) l.length]
/-- What a Builder holds. -/
def bldOf : List Ob → Option (List UInt8)
  | [.var 83 [.of (.lit (.pointer none)), .nil]] => some []
  | [.var 83 [.ptr 0 0, .own (.cell 0 1) 5 1 cs _]] => unby cs
  | _ => none

def small64 (n : Int) : Bool := decide (-9223372036854775808 ≤ n ∧ n ≤ 9223372036854775807)
def short (n : Nat) : Bool := decide (n ≤ LIM)

theorem bldOf_bld (l : List UInt8) : bldOf [.var 83 [.ptr 0 0, .own (.cell 0 1) 5 1 (byC l) l.length]] = some l := unby_byC l

/-! The answers of the library that are given. -/
def itoaP (xs : List X) (obs : List Ob) : Option An := match xs, obs with
  | [.of (.lit (.int .i64 n))], [] => if small64 n then some ⟨false, [xstr (str (Lib.itoa n))], []⟩ else none
  | _, _ => none
def wsP (xs : List X) (obs : List Ob) : Option An := match xs with
  | [.ptr 0 0, .of (.lit (.string s))] => (bldOf obs).bind fun l => if l.length + s.size ≤ LIM then some ⟨false, [xint s.size, .of (.lit .nilIface)], [.var 83 (bld (l ++ s.data.toList))]⟩ else none
  | _ => none
def wbP (xs : List X) (obs : List Ob) : Option An := match xs with
  | [.ptr 0 0, .of (.lit (.int .u8 n))] => (bldOf obs).bind fun l => if l.length + 1 ≤ LIM ∧ 0 ≤ n ∧ n < 256 then some ⟨false, [.of (.lit .nilIface)], [.var 83 (bld (l ++ [UInt8.ofNat n.toNat]))]⟩ else none
  | _ => none
def bsP (xs : List X) (obs : List Ob) : Option An := match xs with
  | [.ptr 0 0] => (bldOf obs).map fun l => ⟨false, [xstr (str l)], [.var 83 [.of .any, .of .any]]⟩
  | _ => none
def oftL (m n : Int) (all : Bool) : Int × Int × Int := if all then (m + n, min m n, max (m - n) 0) else (min (m + n) 1, min (min m n) 1, min m (max (1 - n) 0))
def oftenP (xs : List X) (obs : List Ob) : Option An := match xs, obs with
  | [.of (.lit (.int .i64 m)), .of (.lit (.int .i64 n)), .of (.lit (.bool all))], [] =>
    if 0 ≤ m ∧ m ≤ 4194304 ∧ 0 ≤ n ∧ n ≤ 4194304 then some ⟨false, [.agg [xint (oftL m n all).1, xint (oftL m n all).2.1, xint (oftL m n all).2.2]], []⟩ else none
  | _, _ => none
def scP (xs : List X) (obs : List Ob) : Option An := match xs, obs with
  | [.of (.lit (.string a)), .of (.lit (.string b))], [] => some ⟨false, [xint (Lib.compareBytes a.data.toList b.data.toList)], []⟩
  | _, _ => none
def valC (v : V) : List C := [ci v.k, ci v.n, cstr v.s]
def valsC (r : List V) : List C := (r.map valC).flatten
def rowC (r : List V) : C := .sl (valsC r) r.length
def rowsC (l : List (List V)) : C := .sl (l.map rowC) l.length
/-- How much a row holds. -/
def wt (r : List V) : Nat := (r.map fun v => v.s.size + 3).sum
structure VOk (v : V) : Prop where
  k : small64 v.k = true
  n : small64 v.n = true
  s : v.s.size ≤ 1048576
structure ROk (r : List V) : Prop where
  wt : wt r ≤ 1048576
  v : ∀ v ∈ r, VOk v
/-- Rows, out of data. -/
def unvals : List C → Option (List V)
  | [] => some []
  | .lit (.int .i64 k) :: .lit (.int .i64 n) :: .lit (.string s) :: r => (unvals r).map (⟨k, n, s⟩ :: ·)
  | _ => none
def unrow : C → Option (List V)
  | .sl cs n => (unvals cs).bind fun l => if n = l.length then some l else none
  | _ => none
def unrowL : List C → Option (List (List V))
  | [] => some []
  | c :: r => (unrow c).bind fun l => (unrowL r).map (l :: ·)
def unrows : C → Option (List (List V))
  | .sl cs n => (unrowL cs).bind fun l => if n = l.length then some l else none
  | _ => none
theorem unvals_at : ∀ r : List V, unvals (valsC r) = some r
  | [] => rfl
  | v :: r => by
    have h := unvals_at r
    unfold valsC at h ⊢
    simp only [List.map_cons, List.flatten_cons, valC, List.cons_append, List.nil_append, unvals, h, Option.map_some]
theorem unrow_at (r : List V) : unrow (rowC r) = some r := by simp [unrow, rowC, unvals_at]
theorem unrowL_at : ∀ l : List (List V), unrowL (l.map rowC) = some l
  | [] => rfl
  | r :: l => by simp [unrowL, unrow_at, unrowL_at l]
theorem unrows_at (l : List (List V)) : unrows (rowsC l) = some l := by simp [unrows, rowsC, unrowL_at]
theorem unvals_eq : ∀ (n : Nat) (cs : List C) (r : List V), cs.length ≤ n → unvals cs = some r → cs = valsC r
  | 0, cs, r, hn, h => by
    obtain rfl : cs = [] := List.eq_nil_of_length_eq_zero (by omega)
    simp only [unvals, Option.some.injEq] at h
    subst h
    rfl
  | n + 1, cs, r, hn, h => by
    unfold unvals at h
    split at h
    · simp only [Option.some.injEq] at h; subst h; rfl
    · simp only [Option.map_eq_some_iff] at h
      obtain ⟨q, hq, rfl⟩ := h
      rename_i r'
      rw [unvals_eq n r' q (by simp only [List.length_cons] at hn; omega) hq]
      rfl
    · cases h
theorem unrow_eq {c : C} {r : List V} (h : unrow c = some r) : c = rowC r := by
  unfold unrow at h
  split at h
  · simp only [Option.bind_eq_some_iff] at h
    obtain ⟨l, h1, h2⟩ := h
    split at h2
    · rename_i hn
      cases h2
      rw [unvals_eq _ _ _ (Nat.le_refl _) h1, hn]
      rfl
    · cases h2
  · cases h
theorem unrowL_eq : ∀ (cs : List C) (l : List (List V)), unrowL cs = some l → cs = l.map rowC
  | [], l, h => by simp only [unrowL, Option.some.injEq] at h; subst h; rfl
  | c :: cs, l, h => by
    simp only [unrowL, Option.bind_eq_some_iff, Option.map_eq_some_iff] at h
    obtain ⟨r, h1, q, h2, rfl⟩ := h
    rw [unrow_eq h1, unrowL_eq cs q h2]
    rfl
theorem unrows_eq {c : C} {l : List (List V)} (h : unrows c = some l) : c = rowsC l := by
  unfold unrows at h
  split at h
  · simp only [Option.bind_eq_some_iff] at h
    obtain ⟨l', h1, h2⟩ := h
    split at h2
    · rename_i hn
      cases h2
      rw [unrowL_eq _ _ h1, hn]
      rfl
    · cases h2
  · cases h
/-- Rows that may be told. -/
def okV (v : V) : Bool := small64 v.k && small64 v.n && decide (v.s.size ≤ 1048576)
def okRow (r : List V) : Bool := decide (wt r ≤ 1048576) && r.all okV
def okRows (l : List (List V)) : Bool := decide (l.length ≤ 1048576) && l.all okRow
/-- How many rows are sorted at most. -/
def maxSort : Nat := 19
def sortedP (xs : List X) (obs : List Ob) : Option An := match xs, obs with
  | [.of c], [] => (unrows c).bind fun l => if okRows l = true ∧ l.length ≤ maxSort then some ⟨false, [.of (rowsC (sortF l))], []⟩ else none
  | _, _ => none
def ixP (xs : List X) (obs : List Ob) : Option An := match xs, obs with
  | [.of (.lit (.string s)), .of (.fn f [])], [] => if f = 59 then some ⟨false, [xint (Lib.idxFunc oddR true s)], []⟩ else none
  | _, _ => none
def raP (xs : List X) (obs : List Ob) : Option An := match xs, obs with
  | [.of (.lit (.string s)), .of (.lit (.string a)), .of (.lit (.string b))], [] =>
    if s.size < 4294967281 ∧ 1 ≤ a.size ∧ s.size + Lib.countB s a * b.size ≤ 140737488355328 then some ⟨false, [xstr (str (Lib.replaceAll s.data.toList a.data.toList b.data.toList))], []⟩ else none
  | _, _ => none
def prims (full : Bool) : Orc := fun f xs obs =>
  if f = 83 then itoaP xs obs
  else if f = 87 then wsP xs obs
  else if f = 88 then wbP xs obs
  else if f = 89 then bsP xs obs
  else if f = 22 then oftenP xs obs
  else if f = 54 then scP xs obs
  else if f = 58 then ixP xs obs
  else if f = 66 then raP xs obs
  else if f = 41 then (if full = true then sortedP xs obs else none)
  else none

/-- What is given, in this seat: with the sort, or without. -/
def prB (full : Bool) : Pr := ⟨prims full, objF, tkF⟩
abbrev pr : Pr := prB true
theorem pr_obj (b : Bool) (f : Nat) : (prB b).obj f = objF f := rfl
theorem pr_tk (b : Bool) (f : Nat) : (prB b).tk f = tkF f := rfl
abbrev G1 (f : Nat) (xs : List X) (x : X) : Prop := Gives Tryd.prog pr f xs [] ⟨false, [x], []⟩
abbrev GB (b : Bool) (f : Nat) (xs : List X) (x : X) : Prop := Gives Tryd.prog (prB b) f xs [] ⟨false, [x], []⟩
theorem by_body {full : Bool} {f n : Nat} {b : Code} {xs : List X} {obs : List Ob} {an : An} (hp : prims full f xs obs = none) (hok : fnOk Tryd.prog f = true) (hb : bodyOf Tryd.prog f = b) (har : arity Tryd.prog f = n) (hl : Nat.ble xs.length n = true)
    (h : WC Tryd.prog (prB full) b (initS xs obs) (endQ Tryd.prog f obs.length an)) : Gives Tryd.prog (prB full) f xs obs an :=
  Gives.of_body hp hok (by rw [har]; exact Nat.le_of_ble_eq_true hl) (by rw [hb]; exact h)
end Go.Proofs.YtiepbejeiijpmaaDoor

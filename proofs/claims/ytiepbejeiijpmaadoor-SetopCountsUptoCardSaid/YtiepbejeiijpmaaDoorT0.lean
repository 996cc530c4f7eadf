/-
  What is given of the library's functions on plain data (the answers alone), and how a call of the project's own is asked. Conditions: none.
-/
import Derived.Test.YtiepbejeiijpmaaDoorPe14
import Derived.Test.YtiepbejeiijpmaaDoorPeTab
import Derived.Test.YtiepbejeiijpmaaDoorVl1
namespace Go.Proofs.YtiepbejeiijpmaaDoor
open Go Go.Pe Go.Tab

def byC (l : List UInt8) : List C := l.map fun b => .lit (.int .u8 b.toNat)
def unby : List C → Option (List UInt8)
  | [] => some []
  | .lit (.int .u8 n) :: r => if n = (UInt8.ofNat n.toNat).toNat then (unby r).map (UInt8.ofNat n.toNat :: ·) else none
  | _ => none
theorem unby_byC : ∀ l : List UInt8, unby (byC l) = some l
  | [] => rfl
  | b :: l => by
    have h := unby_byC l
    simp only [byC, List.map_cons, unby] at h ⊢
    rw [h]
    simp
theorem unby_eq : ∀ (cs : List C) (l : List UInt8), unby cs = some l → cs = byC l
  | [], l, h => by simp only [unby, Option.some.injEq] at h; subst h; rfl
  | c :: cs, l, h => by
    unfold unby at h
    split at h
    · rename_i e; cases e
    · rename_i n r e
      cases e
      split at h
      · rename_i hn
        simp only [Option.map_eq_some_iff] at h
        obtain ⟨l', h', rfl⟩ := h
        rw [unby_eq _ l' h']
        simp only [byC, List.map_cons]
        rw [← hn]
      · cases h
    · cases h
theorem byC_length (l : List UInt8) : (byC l).length = l.length := by simp [byC]
theorem byC_append (l q : List UInt8) : byC (l ++ q) = byC l ++ byC q := by simp [byC]
def str (l : List UInt8) : ByteArray := ⟨l.toArray⟩

/-- A Builder: its address, and its bytes. -/
def bld (l : List UInt8) : List X := [.ptr 0 0, .own (.cell 0 1) 5 1 (byC l) l.length]
/-- What a Builder holds. -/
def bldOf : List Ob → Option (List UInt8)
  | [.var 83 [.of (.lit (.pointer none)), .nil]] => some []
  | [.var 83 [.ptr 0 0, .own (.cell 0 1) 5 1 cs _]] => unby cs
  | _ => none

def small64 (n : Int) : Bool := decide (-9223372036854775808 ≤ n ∧ n ≤ 9223372036854775807)
def short (n : Nat) : Bool := decide (n ≤ LIM)

theorem bldOf_bld (l : List UInt8) : bldOf [.var 83 [.ptr 0 0, .own (.cell 0 1) 5 1 (byC l) l.length]] = some l := unby_byC l

/-! The answers of the library that are given. -/
def itoaP (xs : List X) (obs : List Ob) : Option An := match xs, obs with
  | [.of (.lit (.int .i64 n))], [] => if small64 n then some ⟨false, [xstr (str (Lib.itoa n))], []⟩ else none
  | _, _ => none
def wsP (xs : List X) (obs : List Ob) : Option An := match xs with
  | [.ptr 0 0, .of (.lit (.string s))] => (bldOf obs).bind fun l => if l.length + s.size ≤ LIM then some ⟨false, [xint s.size, .of (.lit .nilIface)], [.var 83 (bld (l ++ s.data.toList))]⟩ else none
  | _ => none
def wbP (xs : List X) (obs : List Ob) : Option An := match xs with
  | [.ptr 0 0, .of (.lit (.int .u8 n))] => (bldOf obs).bind fun l => if l.length + 1 ≤ LIM ∧ 0 ≤ n ∧ n < 256 then some ⟨false, [.of (.lit .nilIface)], [.var 83 (bld (l ++ [UInt8.ofNat n.toNat]))]⟩ else none
  | _ => none
def bsP (xs : List X) (obs : List Ob) : Option An := match xs with
  | [.ptr 0 0] => (bldOf obs).map fun l => ⟨false, [xstr (str l)], [.var 83 [.of .any, .of .any]]⟩
  | _ => none
def oftL (m n : Int) (all : Bool) : Int × Int × Int := if all then (m + n, min m n, max (m - n) 0) else (min (m + n) 1, min (min m n) 1, min m (max (1 - n) 0))
def oftenP (xs : List X) (obs : List Ob) : Option An := match xs, obs with
  | [.of (.lit (.int .i64 m)), .of (.lit (.int .i64 n)), .of (.lit (.bool all))], [] =>
    if 0 ≤ m ∧ m ≤ 4194304 ∧ 0 ≤ n ∧ n ≤ 4194304 then some ⟨false, [.agg [xint (oftL m n all).1, xint (oftL m n all).2.1, xint (oftL m n all).2.2]], []⟩ else none
  | _, _ => none
def prims : Orc := fun f xs obs =>
  if f = 83 then itoaP xs obs
  else if f = 87 then wsP xs obs
  else if f = 88 then wbP xs obs
  else if f = 89 then bsP xs obs
  else if f = 22 then oftenP xs obs
  else none

/-- What is given, in this seat. -/
def pr : Pr := ⟨prims, objF, tkF⟩
theorem pr_obj (f : Nat) : pr.obj f = objF f := rfl
theorem pr_tk (f : Nat) : pr.tk f = tkF f := rfl
abbrev G1 (f : Nat) (xs : List X) (x : X) : Prop := Gives Tryd.prog pr f xs [] ⟨false, [x], []⟩
theorem by_body {f n : Nat} {b : Code} {xs : List X} {obs : List Ob} {an : An} (hp : prims f xs obs = none) (hok : fnOk Tryd.prog f = true) (hb : bodyOf Tryd.prog f = b) (har : arity Tryd.prog f = n) (hl : Nat.ble xs.length n = true)
    (h : WC Tryd.prog pr b (initS xs obs) (endQ Tryd.prog f obs.length an)) : Gives Tryd.prog pr f xs obs an :=
  Gives.of_body hp hok (by rw [har]; exact Nat.le_of_ble_eq_true hl) (by rw [hb]; exact h)
end Go.Proofs.YtiepbejeiijpmaaDoor

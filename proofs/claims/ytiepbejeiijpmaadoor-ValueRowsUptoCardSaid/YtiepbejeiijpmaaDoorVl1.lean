/-
  Values and rows as plain data, their orders: total orders in which only equal ones are level. Conditions: none.
-/
import Derived.Lib.ItoaNum
namespace Go.Tab

/-- What an order is. -/
structure IsOrd {α : Type} (f : α → α → Int) : Prop where
  sgn : ∀ a b, f a b = -1 ∨ f a b = 0 ∨ f a b = 1
  zero : ∀ a b, f a b = 0 ↔ a = b
  anti : ∀ a b, f a b = - f b a
  tr : ∀ a b c, f a b ≤ 0 → f b c ≤ 0 → f a c ≤ 0

theorem IsOrd.self {α : Type} {f : α → α → Int} (h : IsOrd f) (a : α) : f a a = 0 := (h.zero a a).2 rfl
theorem IsOrd.lt_tr {α : Type} {f : α → α → Int} (h : IsOrd f) {a b c : α} (h1 : f a b < 0) (h2 : f b c < 0) : f a c < 0 := by
  have h3 := h.tr a b c (by omega) (by omega)
  rcases Int.lt_or_eq_of_le h3 with h4 | h4
  · exact h4
  · have := (h.zero a c).1 h4
    subst this
    have := h.anti a b
    omega

def ints (a b : Int) : Int := if a < b then -1 else if b < a then 1 else 0
theorem ints_ord : IsOrd ints where
  sgn := fun a b => by unfold ints; split <;> (try split) <;> omega
  zero := fun a b => by unfold ints; split <;> (try split) <;> omega
  anti := fun a b => by unfold ints; split <;> split <;> (try split) <;> (try split) <;> omega
  tr := fun a b c => by unfold ints; repeat' split
                        all_goals omega

/-- Item by item, the shorter one first. -/
def lexL {α : Type} (f : α → α → Int) : List α → List α → Int
  | [], [] => 0
  | [], _ :: _ => -1
  | _ :: _, [] => 1
  | a :: r, b :: q => if f a b = 0 then lexL f r q else f a b

theorem lexL_ord {α : Type} {f : α → α → Int} (h : IsOrd f) : IsOrd (lexL f) where
  sgn := fun a => by
    induction a with
    | nil => intro b; cases b <;> simp [lexL]
    | cons x r ih =>
      intro b
      cases b with
      | nil => simp [lexL]
      | cons y q =>
        simp only [lexL]
        split
        · exact ih q
        · exact h.sgn x y
  zero := fun a => by
    induction a with
    | nil => intro b; cases b <;> simp [lexL]
    | cons x r ih =>
      intro b
      cases b with
      | nil => simp [lexL]
      | cons y q =>
        simp only [lexL]
        split
        · rename_i hxy
          rw [ih q, List.cons.injEq]
          simp [(h.zero x y).1 hxy]
        · rename_i hxy
          simp only [hxy, false_iff, List.cons.injEq, not_and]
          intro e
          exact (hxy ((h.zero x y).2 e)).elim
  anti := fun a => by
    induction a with
    | nil => intro b; cases b <;> simp [lexL]
    | cons x r ih =>
      intro b
      cases b with
      | nil => simp [lexL]
      | cons y q =>
        have := h.anti x y
        simp only [lexL]
        split
        · rw [if_pos (by omega)]; exact ih q
        · rw [if_neg (by omega)]; exact this
  tr := fun a => by
    induction a with
    | nil => intro b c _ _; cases c <;> simp [lexL]
    | cons x r ih =>
      intro b c h1 h2
      cases b with
      | nil => simp [lexL] at h1
      | cons y q =>
        cases c with
        | nil => simp [lexL] at h2
        | cons z t =>
          simp only [lexL] at h1 h2 ⊢
          split at h1
          · rename_i e1
            obtain rfl := (h.zero x y).1 e1
            split at h2
            · rename_i e2; rw [if_pos e2]; exact ih q t h1 h2
            · rename_i e2; rw [if_neg e2]; exact h2
          · rename_i e1
            split at h2
            · rename_i e2
              obtain rfl := (h.zero y z).1 e2
              rw [if_neg e1]; exact h1
            · rename_i e2
              have := h.lt_tr (a := x) (b := y) (c := z) (by omega) (by omega)
              rw [if_neg (by omega)]
              omega

def byteO (a b : UInt8) : Int := ints a.toNat b.toNat
theorem byteO_ord : IsOrd byteO where
  sgn := fun a b => ints_ord.sgn _ _
  zero := fun a b => by unfold byteO; rw [ints_ord.zero, ← UInt8.toNat_inj]; omega
  anti := fun a b => ints_ord.anti _ _
  tr := fun a b c => ints_ord.tr _ _ _
/-- Texts, byte by byte. -/
def texts : List UInt8 → List UInt8 → Int := lexL byteO
theorem texts_ord : IsOrd texts := lexL_ord byteO_ord

/-- A value: kind, number, text. -/
structure V where
  k : Int
  n : Int
  s : ByteArray
  deriving DecidableEq

def V.t (v : V) : List UInt8 := v.s.data.toList
theorem toList_inj {a b : ByteArray} : a.data.toList = b.data.toList ↔ a = b := by
  constructor
  · intro h
    cases a with
    | mk x => cases b with
      | mk y => simp at h; rw [h]
  · rintro rfl; rfl

def order (a b : V) : Int := if a.k = b.k then (if a.n = b.n then texts a.t b.t else ints a.n b.n) else ints a.k b.k
theorem order_ord : IsOrd order where
  sgn := fun a b => by
    unfold order
    split
    · split
      · exact texts_ord.sgn _ _
      · exact ints_ord.sgn _ _
    · exact ints_ord.sgn _ _
  zero := fun a b => by
    unfold order
    cases a; cases b
    simp only [V.mk.injEq, V.t]
    split
    · rename_i h1
      split
      · rename_i h2; rw [texts_ord.zero, toList_inj]; simp [h1, h2]
      · rename_i h2; rw [ints_ord.zero]; simp [h2]
    · rename_i h1; rw [ints_ord.zero]; simp [h1]
  anti := fun a b => by
    unfold order
    by_cases h1 : a.k = b.k
    · by_cases h2 : a.n = b.n
      · rw [if_pos h1, if_pos h2, if_pos h1.symm, if_pos h2.symm]; exact texts_ord.anti _ _
      · rw [if_pos h1, if_neg h2, if_pos h1.symm, if_neg (Ne.symm h2)]; exact ints_ord.anti _ _
    · rw [if_neg h1, if_neg (Ne.symm h1)]; exact ints_ord.anti _ _
  tr := fun a b c h1 h2 => by
    unfold order at *
    unfold ints at *
    have ht := texts_ord.tr a.t b.t c.t
    repeat' split at h1
    all_goals (repeat' split at h2)
    all_goals (repeat' split)
    all_goals (first | omega | exact ht h1 h2)

/-- Rows, value by value. -/
def ords : List V → List V → Int := lexL order
theorem ords_ord : IsOrd ords := lexL_ord order_ord
end Go.Tab

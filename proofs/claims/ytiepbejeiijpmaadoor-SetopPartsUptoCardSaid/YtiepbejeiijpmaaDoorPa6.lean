/-
  The given answers hold of the program: strconv.Itoa, strings.Builder's WriteString, WriteByte, String. Conditions: none.
-/
import Derived.Test.YtiepbejeiijpmaaDoorPa5
import Derived.Lib.ItoaNum
import Derived.Lib.Bytealg
import Derived.Lib.Replace
import Derived.Lib.DecodeN
import Derived.Shelf.GgClosure.StringsIndexFunc
import Derived.Shelf.LaysM
import Derived.Shelf.Strconv.Itoa3
import Derived.Shelf.Small.Strs
import Derived.Shelf.Strings.FuncGrows
import Derived.Shelf.Strings.Replace
import Derived.Ground.GgwProg
import Derived.Test.YtiepbejeiijpmaaDoorProg
import Derived.Lib.AppendStr
import Derived.Lib.Builder
import Derived.Lib.UnsafeStr
import Derived.Lib.ItoaMem
import Derived.WalkKit
import Derived.Shelf.Strings.Builder1
import Derived.Lib.AppendIntMem
namespace Go.Tab

/-- What an order is. -/
structure IsOrd {α : Type} (f : α → α → Int) : Prop where
  sgn : ∀ a b, f a b = -1 ∨ f a b = 0 ∨ f a b = 1
  zero : ∀ a b, f a b = 0 ↔ a = b
  anti : ∀ a b, f a b = - f b a
  tr : ∀ a b c, f a b ≤ 0 → f b c ≤ 0 → f a c ≤ 0

theorem IsOrd.self {α : Type} {f : α → α → Int} (h : IsOrd f) (a : α) : f a a = 0 := (h.zero a a).2 rfl
theorem IsOrd.lt_tr {α : Type} {f : α → α → Int} (h : IsOrd f) {a b c : α} (h1 : f a b < 0) (h2 : f b c < 0) : f a c < 0 := by
  have h3 := h.tr a b c (by omega) (by omega)
  rcases Int.lt_or_eq_of_le h3 with h4 | h4
  · exact h4
  · have := (h.zero a c).1 h4
    subst this
    have := h.anti a b
    omega

def ints (a b : Int) : Int := if a < b then -1 else if b < a then 1 else 0
theorem ints_ord : IsOrd ints where
  sgn := fun a b => by unfold ints; split <;> (try split) <;> omega
  zero := fun a b => by unfold ints; split <;> (try split) <;> omega
  anti := fun a b => by unfold ints; split <;> split <;> (try split) <;> (try split) <;> omega
  tr := fun a b c => by unfold ints; repeat' split
                        all_goals omega

/-- Item by item, the shorter one first. -/
def lexL {α : Type} (f : α → α → Int) : List α → List α → Int
  | [], [] => 0
  | [], _ :: _ => -1
  | _ :: _, [] => 1
  | a :: r, b :: q => if f a b = 0 then lexL f r q else f a b

theorem lexL_ord {α : Type} {f : α → α → Int} (h : IsOrd f) : IsOrd (lexL f) where
  sgn := fun a => by
    induction a with
    | nil => intro b; cases b <;> simp [lexL]
    | cons x r ih =>
      intro b
      cases b with
      | nil => simp [lexL]
      | cons y q =>
        simp only [lexL]
        split
        · exact ih q
        · exact h.sgn x y
  zero := fun a => by
    induction a with
    | nil => intro b; cases b <;> simp [lexL]
    | cons x r ih =>
      intro b
      cases b with
      | nil => simp [lexL]
      | cons y q =>
        simp only [lexL]
        split
        · rename_i hxy
          rw [ih q, List.cons.injEq]
          simp [(h.zero x y).1 hxy]
        · rename_i hxy
          simp only [hxy, false_iff, List.cons.injEq, not_and]
          intro e
          exact (hxy ((h.zero x y).2 e)).elim
  anti := fun a => by
    induction a with
    | nil => intro b; cases b <;> simp [lexL]
    | cons x r ih =>
      intro b
      cases b with
      | nil => simp [lexL]
      | cons y q =>
        have := h.anti x y
        simp only [lexL]
        split
        · rw [if_pos (by omega)]; exact ih q
        · rw [if_neg (by omega)]; exact this
  tr := fun a => by
    induction a with
    | nil => intro b c _ _; cases c <;> simp [lexL]
    | cons x r ih =>
      intro b c h1 h2
      cases b with
      | nil => simp [lexL] at h1
      | cons y q =>
        cases c with
        | nil => simp [lexL] at h2
        | cons z t =>
          simp only [lexL] at h1 h2 ⊢
          split at h1
          · rename_i e1
            obtain rfl := (h.zero x y).1 e1
            split at h2
            · rename_i e2; rw [if_pos e2]; exact ih q t h1 h2
            · rename_i e2; rw [if_neg e2]; exact h2
          · rename_i e1
            split at h2
            · rename_i e2
              obtain rfl := (h.zero y z).1 e2
              rw [if_neg e1]; exact h1
            · rename_i e2
              have := h.lt_tr (a := x) (b := y) (c := z) (by omega) (by omega)
              rw [if_neg (by omega)]
              omega

def byteO (a b : UInt8) : Int := ints a.toNat b.toNat
theorem byteO_ord : IsOrd byteO where
  sgn := fun a b => ints_ord.sgn _ _
  zero := fun a b => by unfold byteO; rw [ints_ord.zero, ← UInt8.toNat_inj]; omega
  anti := fun a b => ints_ord.anti _ _
  tr := fun a b c => ints_ord.tr _ _ _
/-- Texts, byte by byte. -/
def texts : List UInt8 → List UInt8 → Int := lexL byteO
theorem texts_ord : IsOrd texts := lexL_ord byteO_ord

/-- A value: kind, number, text. -/
structure V where
  k : Int
  n : Int
  s : ByteArray
  deriving DecidableEq

def V.t (v : V) : List UInt8 := v.s.data.toList
theorem toList_inj {a b : ByteArray} : a.data.toList = b.data.toList ↔ a = b := by
  constructor
  · intro h
    cases a with
    | mk x => cases b with
      | mk y => simp at h; rw [h]
  · rintro rfl; rfl

def order (a b : V) : Int := if a.k = b.k then (if a.n = b.n then texts a.t b.t else ints a.n b.n) else ints a.k b.k
theorem order_ord : IsOrd order where
  sgn := fun a b => by
    unfold order
    split
    · split
      · exact texts_ord.sgn _ _
      · exact ints_ord.sgn _ _
    · exact ints_ord.sgn _ _
  zero := fun a b => by
    unfold order
    cases a; cases b
    simp only [V.mk.injEq, V.t]
    split
    · rename_i h1
      split
      · rename_i h2; rw [texts_ord.zero, toList_inj]; simp [h1, h2]
      · rename_i h2; rw [ints_ord.zero]; simp [h2]
    · rename_i h1; rw [ints_ord.zero]; simp [h1]
  anti := fun a b => by
    unfold order
    by_cases h1 : a.k = b.k
    · by_cases h2 : a.n = b.n
      · rw [if_pos h1, if_pos h2, if_pos h1.symm, if_pos h2.symm]; exact texts_ord.anti _ _
      · rw [if_pos h1, if_neg h2, if_pos h1.symm, if_neg (Ne.symm h2)]; exact ints_ord.anti _ _
    · rw [if_neg h1, if_neg (Ne.symm h1)]; exact ints_ord.anti _ _
  tr := fun a b c h1 h2 => by
    unfold order at *
    unfold ints at *
    have ht := texts_ord.tr a.t b.t c.t
    repeat' split at h1
    all_goals (repeat' split at h2)
    all_goals (repeat' split)
    all_goals (first | omega | exact ht h1 h2)

/-- Rows, value by value. -/
def ords : List V → List V → Int := lexL order
theorem ords_ord : IsOrd ords := lexL_ord order_ord
end Go.Tab
namespace Go.Tab
section
variable {α : Type} {f : α → α → Int}

/-- One more, behind all that stand ahead of it or are level. -/
def insF (f : α → α → Int) (x : α) : List α → List α
  | [] => [x]
  | y :: l => if f y x ≤ 0 then y :: insF f x l else x :: y :: l
def sortBy (f : α → α → Int) (l : List α) : List α := l.foldl (fun acc x => insF f x acc) []
def Rises (f : α → α → Int) (l : List α) : Prop := l.Pairwise fun a b => f a b ≤ 0

theorem insF_perm (x : α) : ∀ l : List α, (insF f x l).Perm (x :: l)
  | [] => .refl _
  | y :: l => by
    unfold insF
    split
    · exact ((insF_perm x l).cons y).trans (.swap x y l)
    · exact .refl _
theorem insF_mem (x z : α) (l : List α) : z ∈ insF f x l ↔ z = x ∨ z ∈ l := by rw [(insF_perm x l).mem_iff, List.mem_cons]
theorem insF_rises (h : IsOrd f) (x : α) : ∀ l : List α, Rises f l → Rises f (insF f x l)
  | [], _ => by simp [Rises, insF]
  | y :: l, hl => by
    unfold Rises at hl
    rw [List.pairwise_cons] at hl
    unfold insF
    split
    · rename_i hy
      refine List.pairwise_cons.2 ⟨fun z hz => ?_, insF_rises h x l hl.2⟩
      rcases (insF_mem x z l).1 hz with rfl | hz
      · exact hy
      · exact hl.1 z hz
    · rename_i hy
      have hxy : f x y ≤ 0 := by have := h.anti x y; omega
      refine List.pairwise_cons.2 ⟨fun z hz => ?_, List.pairwise_cons.2 hl⟩
      rcases List.mem_cons.1 hz with rfl | hz
      · exact hxy
      · exact h.tr x y z hxy (hl.1 z hz)
theorem foldl_ins (h : IsOrd f) : ∀ (l acc : List α), Rises f acc → Rises f (l.foldl (fun acc x => insF f x acc) acc) ∧ (l.foldl (fun acc x => insF f x acc) acc).Perm (l ++ acc)
  | [], acc, ha => ⟨ha, .refl _⟩
  | x :: l, acc, ha => by
    obtain ⟨h1, h2⟩ := foldl_ins h l (insF f x acc) (insF_rises h x acc ha)
    refine ⟨h1, h2.trans ?_⟩
    refine ((insF_perm x acc).append_left l).trans ?_
    exact List.perm_middle
theorem sortBy_rises (h : IsOrd f) (l : List α) : Rises f (sortBy f l) := (foldl_ins h l [] List.Pairwise.nil).1
theorem sortBy_perm (h : IsOrd f) (l : List α) : (sortBy f l).Perm l := by
  have := (foldl_ins h l [] List.Pairwise.nil).2
  rwa [List.append_nil] at this
/-- Sorted, and the same bag: the same list. -/
theorem rises_unique (h : IsOrd f) {l q : List α} (hl : Rises f l) (hq : Rises f q) (hp : l.Perm q) : l = q :=
  List.Perm.eq_of_pairwise (fun a b _ _ h1 h2 => (h.zero a b).1 (by have := h.anti a b; omega)) hl hq hp
theorem sortBy_unique (h : IsOrd f) {l q : List α} (hl : Rises f l) (hp : l.Perm q) : l = sortBy f q := rises_unique h hl (sortBy_rises h q) (hp.trans (sortBy_perm h q).symm)
theorem sortBy_perm_eq (h : IsOrd f) {l q : List α} (hp : l.Perm q) : sortBy f l = sortBy f q := sortBy_unique h (sortBy_rises h l) ((sortBy_perm h l).trans hp)
end
def sortF : List (List V) → List (List V) := sortBy ords
theorem texts_cmp : ∀ a b : List UInt8, Lib.compareBytes a b = texts a b
  | [], [] => rfl
  | [], _ :: _ => rfl
  | _ :: _, [] => rfl
  | a :: l, b :: q => by
    have ih := texts_cmp l q
    unfold texts at ih ⊢
    simp only [Lib.compareBytes, lexL, byteO, ints, UInt8.lt_iff_toNat_lt, Int.ofNat_lt, ih]
    by_cases h1 : a.toNat < b.toNat
    · simp [h1]
    · by_cases h2 : b.toNat < a.toNat
      · simp [h1, h2]
      · simp [h1, h2]
end Go.Tab
namespace Go.Tab

def piece (v : V) : List UInt8 := Lib.itoa v.k ++ [32] ++ (Lib.itoa v.n ++ [32]) ++ (Lib.itoa v.s.size ++ [32]) ++ v.t
def nameF (r : List V) : List UInt8 := (r.map piece).flatten
theorem nameF_snoc (r : List V) (k : Nat) (h : k < r.length) : nameF (r.take (k + 1)) = nameF (r.take k) ++ piece r[k] := by
  unfold nameF
  rw [List.take_succ_eq_append_getElem h, List.map_append, List.flatten_append]
  simp

theorem nDigits_le : ∀ (k u : Nat), u < 10 ^ k → 1 ≤ k → Lib.nDigits u ≤ k
  | 0, u, _, h => by omega
  | k + 1, u, h, _ => by
    rw [Lib.nDigits]
    split
    · omega
    · rename_i h1
      have : 1 ≤ k := by
        rcases Nat.eq_zero_or_pos k with e | e
        · subst e; simp at h; omega
        · exact e
      have := nDigits_le k (u / 10) (by rw [Nat.pow_succ] at h; omega) this
      omega
theorem itoa_len (n : Int) (h1 : -9223372036854775808 ≤ n) (h2 : n ≤ 9223372036854775807) : (Lib.itoa n).length ≤ 20 := by
  unfold Lib.itoa
  split
  · rw [List.length_cons, Lib.decDigits_length]
    have := nDigits_le 19 n.natAbs (by omega) (by omega)
    omega
  · rw [Lib.decDigits_length]
    have := nDigits_le 19 n.toNat (by omega) (by omega)
    omega

/-- A digit, or the sign. -/
def dig (b : UInt8) : Prop := b ≠ 32
theorem decDigits_dig : ∀ (u : Nat), ∀ b ∈ Lib.decDigits u, dig b := by
  intro u
  induction u using Nat.strongRecOn with
  | _ u ih =>
    intro b hb
    rw [Lib.decDigits] at hb
    have key : ∀ d : Nat, d < 10 → UInt8.ofNat (48 + d) ≠ 32 := by
      intro d hd e
      have := congrArg UInt8.toNat e
      simp at this
      omega
    split at hb
    · rename_i h
      simp only [List.mem_singleton] at hb
      subst hb
      exact key u h
    · rename_i h
      rcases List.mem_append.1 hb with h1 | h1
      · exact ih (u / 10) (by omega) b h1
      · simp only [List.mem_singleton] at h1
        subst h1
        exact key _ (Nat.mod_lt _ (by omega))
theorem itoa_dig (n : Int) : ∀ b ∈ Lib.itoa n, dig b := by
  intro b hb
  unfold Lib.itoa at hb
  split at hb
  · rcases List.mem_cons.1 hb with rfl | h
    · intro e; cases e
    · exact decDigits_dig _ b h
  · exact decDigits_dig _ b hb

/-- The numeral, read back. -/
def undec (l : List UInt8) : Nat := l.foldl (fun a b => a * 10 + (b.toNat - 48)) 0
theorem undec_dec : ∀ u : Nat, undec (Lib.decDigits u) = u := by
  intro u
  induction u using Nat.strongRecOn with
  | _ u ih =>
    have key : ∀ d : Nat, d < 10 → (UInt8.ofNat (48 + d)).toNat - 48 = d := by
      intro d hd
      simp
      omega
    rw [Lib.decDigits]
    split
    · rename_i h
      simp only [undec, List.foldl_cons, List.foldl_nil, Nat.zero_mul, Nat.zero_add]
      exact key u h
    · rename_i h
      unfold undec
      rw [List.foldl_append]
      have := ih (u / 10) (by omega)
      unfold undec at this
      rw [this]
      simp only [List.foldl_cons, List.foldl_nil, key _ (Nat.mod_lt u (by omega))]
      omega
theorem decDigits_ne (u : Nat) : ∀ r, Lib.decDigits u ≠ 45 :: r := by
  intro r e
  have h : ∀ u : Nat, ∀ b ∈ Lib.decDigits u, 48 ≤ b.toNat := by
    intro u
    induction u using Nat.strongRecOn with
    | _ u ih =>
      intro b hb
      rw [Lib.decDigits] at hb
      split at hb
      · rename_i h
        simp only [List.mem_singleton] at hb
        subst hb
        simp; omega
      · rename_i h
        rcases List.mem_append.1 hb with h1 | h1
        · exact ih (u / 10) (by omega) b h1
        · simp only [List.mem_singleton] at h1
          subst h1
          have := Nat.mod_lt u (show 10 > 0 by omega)
          simp; omega
  have := h u 45 (by rw [e]; simp)
  simp at this
theorem itoa_inj {a b : Int} (h : Lib.itoa a = Lib.itoa b) : a = b := by
  unfold Lib.itoa at h
  split at h
  · split at h
    · have := congrArg undec (List.cons.inj h).2
      rw [undec_dec, undec_dec] at this
      omega
    · exact (decDigits_ne _ _ h.symm).elim
  · split at h
    · exact (decDigits_ne _ _ h).elim
    · have := congrArg undec h
      rw [undec_dec, undec_dec] at this
      omega

/-- Up to the first blank. -/
theorem cut_blank : ∀ (a b x y : List UInt8), (∀ c ∈ a, dig c) → (∀ c ∈ b, dig c) → a ++ 32 :: x = b ++ 32 :: y → a = b ∧ x = y
  | [], [], x, y, _, _, h => ⟨rfl, by simpa using h⟩
  | [], c :: b, x, y, _, hb, h => by
    simp only [List.nil_append, List.cons_append, List.cons.injEq] at h
    exact (hb c (by simp) h.1.symm).elim
  | c :: a, [], x, y, ha, _, h => by
    simp only [List.nil_append, List.cons_append, List.cons.injEq] at h
    exact (ha c (by simp) h.1).elim
  | c :: a, d :: b, x, y, ha, hb, h => by
    simp only [List.cons_append, List.cons.injEq] at h
    obtain ⟨h1, h2⟩ := cut_blank a b x y (fun z hz => ha z (by simp [hz])) (fun z hz => hb z (by simp [hz])) h.2
    exact ⟨by rw [h.1, h1], h2⟩

theorem piece_cut (v w : V) (x y : List UInt8) (h : piece v ++ x = piece w ++ y) : v = w ∧ x = y := by
  unfold piece at h
  simp only [List.append_assoc, List.cons_append, List.nil_append] at h
  obtain ⟨h1, h⟩ := cut_blank _ _ _ _ (itoa_dig _) (itoa_dig _) h
  obtain ⟨h2, h⟩ := cut_blank _ _ _ _ (itoa_dig _) (itoa_dig _) h
  obtain ⟨h3, h⟩ := cut_blank _ _ _ _ (itoa_dig _) (itoa_dig _) h
  have e1 := itoa_inj h1
  have e2 := itoa_inj h2
  have e3 : v.s.size = w.s.size := by have := itoa_inj h3; omega
  have el : v.t.length = w.t.length := by simpa [V.t] using e3
  obtain ⟨h4, h5⟩ := List.append_inj h el
  refine ⟨?_, h5⟩
  cases v; cases w
  simp only at e1 e2
  subst e1; subst e2
  congr 1
  exact toList_inj.1 h4

theorem nameF_inj : ∀ (a b : List V), nameF a = nameF b → a = b
  | [], [], _ => rfl
  | [], w :: b, h => by
    have h' : [] = piece w ++ nameF b := by simpa [nameF] using h
    have := (List.append_eq_nil_iff.1 h'.symm).1
    simp [piece] at this
  | v :: a, [], h => by
    have h' : piece v ++ nameF a = [] := by simpa [nameF] using h
    have := (List.append_eq_nil_iff.1 h').1
    simp [piece] at this
  | v :: a, w :: b, h => by
    have h' : piece v ++ nameF a = piece w ++ nameF b := by simpa [nameF] using h
    obtain ⟨h1, h2⟩ := piece_cut v w _ _ h'
    rw [h1, nameF_inj a b h2]
end Go.Tab
namespace Go.Tab

/-- What value.odd says of a rune. -/
def oddR (r : Nat) : Bool := decide (r < 32) || decide (126 < r)
end Go.Tab
namespace Go.Proofs.YtiepbejeiijpmaaDoor
open Go Go.Pe Go.Tab

def byC (l : List UInt8) : List C := l.map fun b => .lit (.int .u8 b.toNat)
def unby : List C → Option (List UInt8)
  | [] => some []
  | .lit (.int .u8 n) :: r => if n = (UInt8.ofNat n.toNat).toNat then (unby r).map (UInt8.ofNat n.toNat :: ·) else none
  | _ => none
theorem unby_byC : ∀ l : List UInt8, unby (byC l) = some l
  | [] => rfl
  | b :: l => by
    have h := unby_byC l
    simp only [byC, List.map_cons, unby] at h ⊢
    rw [h]
    simp
theorem unby_eq : ∀ (cs : List C) (l : List UInt8), unby cs = some l → cs = byC l
  | [], l, h => by simp only [unby, Option.some.injEq] at h; subst h; rfl
  | c :: cs, l, h => by
    unfold unby at h
    split at h
    · rename_i e; cases e
    · rename_i n r e
      cases e
      split at h
      · rename_i hn
        simp only [Option.map_eq_some_iff] at h
        obtain ⟨l', h', rfl⟩ := h
        rw [unby_eq _ l' h']
        simp only [byC, List.map_cons]
        rw [← hn]
      · cases h
    · cases h
theorem byC_length (l : List UInt8) : (byC l).length = l.length := by simp [byC]
def str (l : List UInt8) : ByteArray := ⟨l.toArray⟩

/-- A Builder: its address, and its bytes. -/
def bld (l : List UInt8) : List X := [.ptr 0 0, .own (.cell 0 1) 5 1 (byC l) l.length]
/-- What a Builder holds. -/
def bldOf : List Ob → Option (List UInt8)
  | [.var 83 [.of (.lit (.pointer none)), .nil]] => some []
  | [.var 83 [.ptr 0 0, .own (.cell 0 1) 5 1 cs _]] => unby cs
  | _ => none

def small64 (n : Int) : Bool := decide (-9223372036854775808 ≤ n ∧ n ≤ 9223372036854775807)
theorem bldOf_bld (l : List UInt8) : bldOf [.var 83 [.ptr 0 0, .own (.cell 0 1) 5 1 (byC l) l.length]] = some l := unby_byC l

def itoaP (xs : List X) (obs : List Ob) : Option An := match xs, obs with
  | [.of (.lit (.int .i64 n))], [] => if small64 n then some ⟨false, [xstr (str (Lib.itoa n))], []⟩ else none
  | _, _ => none
def wsP (xs : List X) (obs : List Ob) : Option An := match xs with
  | [.ptr 0 0, .of (.lit (.string s))] => (bldOf obs).bind fun l => if l.length + s.size ≤ LIM then some ⟨false, [xint s.size, .of (.lit .nilIface)], [.var 83 (bld (l ++ s.data.toList))]⟩ else none
  | _ => none
def wbP (xs : List X) (obs : List Ob) : Option An := match xs with
  | [.ptr 0 0, .of (.lit (.int .u8 n))] => (bldOf obs).bind fun l => if l.length + 1 ≤ LIM ∧ 0 ≤ n ∧ n < 256 then some ⟨false, [.of (.lit .nilIface)], [.var 83 (bld (l ++ [UInt8.ofNat n.toNat]))]⟩ else none
  | _ => none
def bsP (xs : List X) (obs : List Ob) : Option An := match xs with
  | [.ptr 0 0] => (bldOf obs).map fun l => ⟨false, [xstr (str l)], [.var 83 [.of .any, .of .any]]⟩
  | _ => none
def oftL (m n : Int) (all : Bool) : Int × Int × Int := if all then (m + n, min m n, max (m - n) 0) else (min (m + n) 1, min (min m n) 1, min m (max (1 - n) 0))
def oftenP (xs : List X) (obs : List Ob) : Option An := match xs, obs with
  | [.of (.lit (.int .i64 m)), .of (.lit (.int .i64 n)), .of (.lit (.bool all))], [] =>
    if 0 ≤ m ∧ m ≤ 4194304 ∧ 0 ≤ n ∧ n ≤ 4194304 then some ⟨false, [.agg [xint (oftL m n all).1, xint (oftL m n all).2.1, xint (oftL m n all).2.2]], []⟩ else none
  | _, _ => none
def scP (xs : List X) (obs : List Ob) : Option An := match xs, obs with
  | [.of (.lit (.string a)), .of (.lit (.string b))], [] => some ⟨false, [xint (Lib.compareBytes a.data.toList b.data.toList)], []⟩
  | _, _ => none
def valC (v : V) : List C := [ci v.k, ci v.n, cstr v.s]
def valsC (r : List V) : List C := (r.map valC).flatten
def rowC (r : List V) : C := .sl (valsC r) r.length
def rowsC (l : List (List V)) : C := .sl (l.map rowC) l.length
/-- How much a row holds. -/
def wt (r : List V) : Nat := (r.map fun v => v.s.size + 3).sum
structure VOk (v : V) : Prop where
  k : small64 v.k = true
  n : small64 v.n = true
  s : v.s.size ≤ 1048576
structure ROk (r : List V) : Prop where
  wt : wt r ≤ 1048576
  v : ∀ v ∈ r, VOk v
/-- Rows, out of data. -/
def unvals : List C → Option (List V)
  | [] => some []
  | .lit (.int .i64 k) :: .lit (.int .i64 n) :: .lit (.string s) :: r => (unvals r).map (⟨k, n, s⟩ :: ·)
  | _ => none
def unrow : C → Option (List V)
  | .sl cs n => (unvals cs).bind fun l => if n = l.length then some l else none
  | _ => none
def unrowL : List C → Option (List (List V))
  | [] => some []
  | c :: r => (unrow c).bind fun l => (unrowL r).map (l :: ·)
def unrows : C → Option (List (List V))
  | .sl cs n => (unrowL cs).bind fun l => if n = l.length then some l else none
  | _ => none
theorem unvals_at : ∀ r : List V, unvals (valsC r) = some r
  | [] => rfl
  | v :: r => by
    have h := unvals_at r
    unfold valsC at h ⊢
    simp only [List.map_cons, List.flatten_cons, valC, List.cons_append, List.nil_append, unvals, h, Option.map_some]
theorem unrow_at (r : List V) : unrow (rowC r) = some r := by simp [unrow, rowC, unvals_at]
theorem unrowL_at : ∀ l : List (List V), unrowL (l.map rowC) = some l
  | [] => rfl
  | r :: l => by simp [unrowL, unrow_at, unrowL_at l]
theorem unrows_at (l : List (List V)) : unrows (rowsC l) = some l := by simp [unrows, rowsC, unrowL_at]
theorem unvals_eq : ∀ (n : Nat) (cs : List C) (r : List V), cs.length ≤ n → unvals cs = some r → cs = valsC r
  | 0, cs, r, hn, h => by
    obtain rfl : cs = [] := List.eq_nil_of_length_eq_zero (by omega)
    simp only [unvals, Option.some.injEq] at h
    subst h
    rfl
  | n + 1, cs, r, hn, h => by
    unfold unvals at h
    split at h
    · simp only [Option.some.injEq] at h; subst h; rfl
    · simp only [Option.map_eq_some_iff] at h
      obtain ⟨q, hq, rfl⟩ := h
      rename_i r'
      rw [unvals_eq n r' q (by simp only [List.length_cons] at hn; omega) hq]
      rfl
    · cases h
theorem unrow_eq {c : C} {r : List V} (h : unrow c = some r) : c = rowC r := by
  unfold unrow at h
  split at h
  · simp only [Option.bind_eq_some_iff] at h
    obtain ⟨l, h1, h2⟩ := h
    split at h2
    · rename_i hn
      cases h2
      rw [unvals_eq _ _ _ (Nat.le_refl _) h1, hn]
      rfl
    · cases h2
  · cases h
theorem unrowL_eq : ∀ (cs : List C) (l : List (List V)), unrowL cs = some l → cs = l.map rowC
  | [], l, h => by simp only [unrowL, Option.some.injEq] at h; subst h; rfl
  | c :: cs, l, h => by
    simp only [unrowL, Option.bind_eq_some_iff, Option.map_eq_some_iff] at h
    obtain ⟨r, h1, q, h2, rfl⟩ := h
    rw [unrow_eq h1, unrowL_eq cs q h2]
    rfl
theorem unrows_eq {c : C} {l : List (List V)} (h : unrows c = some l) : c = rowsC l := by
  unfold unrows at h
  split at h
  · simp only [Option.bind_eq_some_iff] at h
    obtain ⟨l', h1, h2⟩ := h
    split at h2
    · rename_i hn
      cases h2
      rw [unrowL_eq _ _ h1, hn]
      rfl
    · cases h2
  · cases h
/-- Rows that may be told. -/
def okV (v : V) : Bool := small64 v.k && small64 v.n && decide (v.s.size ≤ 1048576)
def okRow (r : List V) : Bool := decide (wt r ≤ 1048576) && r.all okV
def okRows (l : List (List V)) : Bool := decide (l.length ≤ 1048576) && l.all okRow
/-- How many rows are sorted at most. -/
def maxSort : Nat := 1048576
def sortedP (xs : List X) (obs : List Ob) : Option An := match xs, obs with
  | [.of c], [] => (unrows c).bind fun l => if okRows l = true ∧ l.length ≤ maxSort then some ⟨false, [.of (rowsC (sortF l))], []⟩ else none
  | _, _ => none
def ixP (xs : List X) (obs : List Ob) : Option An := match xs, obs with
  | [.of (.lit (.string s)), .of (.fn f [])], [] => if f = 59 then some ⟨false, [xint (Lib.idxFunc oddR true s)], []⟩ else none
  | _, _ => none
def raP (xs : List X) (obs : List Ob) : Option An := match xs, obs with
  | [.of (.lit (.string s)), .of (.lit (.string a)), .of (.lit (.string b))], [] =>
    if s.size < 4294967281 ∧ 1 ≤ a.size ∧ s.size + Lib.countB s a * b.size ≤ 140737488355328 then some ⟨false, [xstr (str (Lib.replaceAll s.data.toList a.data.toList b.data.toList))], []⟩ else none
  | _, _ => none
def prims (full : Bool) : Orc := fun f xs obs =>
  if f = 83 then itoaP xs obs
  else if f = 87 then wsP xs obs
  else if f = 88 then wbP xs obs
  else if f = 89 then bsP xs obs
  else if f = 22 then oftenP xs obs
  else if f = 54 then scP xs obs
  else if f = 58 then ixP xs obs
  else if f = 66 then raP xs obs
  else if f = 41 then (if full = true then sortedP xs obs else none)
  else none

/-- What is given, in this seat: with the sort, or without. -/
def prB (full : Bool) : Pr := ⟨prims full, objF, tkF⟩
abbrev pr : Pr := prB true
theorem pr_obj (b : Bool) (f : Nat) : (prB b).obj f = objF f := rfl
theorem pr_tk (b : Bool) (f : Nat) : (prB b).tk f = tkF f := rfl
abbrev G1 (f : Nat) (xs : List X) (x : X) : Prop := Gives Tryd.prog pr f xs [] ⟨false, [x], []⟩
abbrev GB (b : Bool) (f : Nat) (xs : List X) (x : X) : Prop := Gives Tryd.prog (prB b) f xs [] ⟨false, [x], []⟩
theorem by_body {full : Bool} {f n : Nat} {b : Code} {xs : List X} {obs : List Ob} {an : An} (hp : prims full f xs obs = none) (hok : fnOk Tryd.prog f = true) (hb : bodyOf Tryd.prog f = b) (har : arity Tryd.prog f = n) (hl : Nat.ble xs.length n = true)
    (h : WC Tryd.prog (prB full) b (initS xs obs) (endQ Tryd.prog f obs.length an)) : Gives Tryd.prog (prB full) f xs obs an :=
  Gives.of_body hp hok (by rw [har]; exact Nat.le_of_ble_eq_true hl) (by rw [hb]; exact h)
end Go.Proofs.YtiepbejeiijpmaaDoor
namespace Go.Proofs.YtiepbejeiijpmaaDoor
open Go Go.Pe Go.Tab

def valX (v : V) : C := .agg (valC v)

theorem wt_cons (v : V) (r : List V) : wt (v :: r) = v.s.size + 3 + wt r := by simp [wt]
theorem len_wt : ∀ r : List V, 3 * r.length ≤ wt r
  | [] => by simp [wt]
  | v :: r => by have := len_wt r; rw [wt_cons]; simp only [List.length_cons]; omega
theorem ROk.len {r : List V} (h : ROk r) : r.length ≤ 1048576 := by have := len_wt r; have := h.wt; omega

theorem valsC_length : ∀ r : List V, (valsC r).length = r.length * 3
  | [] => rfl
  | v :: r => by
    have := valsC_length r
    unfold valsC at this ⊢
    simp only [List.map_cons, List.flatten_cons, List.length_append, this, List.length_cons]
    show 3 + _ = _
    omega
theorem valsC_cons (v : V) (r : List V) : valsC (v :: r) = valC v ++ valsC r := by simp [valsC]
theorem valsC_drop : ∀ (r : List V) (k : Nat), (valsC r).drop (k * 3) = valsC (r.drop k)
  | r, 0 => by simp
  | [], k + 1 => by simp [valsC]
  | v :: r, k + 1 => by
    rw [List.drop_succ_cons, ← valsC_drop r k, valsC_cons]
    have : (k + 1) * 3 = (valC v).length + k * 3 := by show _ = 3 + _; omega
    rw [this, ← List.drop_drop, List.drop_left]
theorem drop_getD {α : Type} {l : List α} {k : Nat} (h : k < l.length) : l.drop k = l[k] :: l.drop (k + 1) := List.drop_eq_getElem_cons h

section
variable (l : List (List V)) (k : Nat) (tk : Tk) (e z : Nat)
theorem len_rows : lenX (some (.slice 28)) (.of (rowsC l)) = out (xint l.length) := rfl
theorem ia_rows (h : k < l.length) : indexAddrX (TT.of Tryd.prog) 22 (.of (rowsC l)) (xint k) = out (.of (.ref ((l.map rowC).drop k))) := by
  rw [indexAddr_sl E22 (l.map rowC) l.length k _ rfl]
  rw [if_pos ⟨by omega, by omega, by simp, by decide⟩]
  simp
theorem ia_rows_own (h : k < l.length) : indexAddrX (TT.of Tryd.prog) 22 (.own tk e z (l.map rowC) l.length) (xint k) = out (.of (.ref ((l.map rowC).drop k))) := by
  rw [indexAddr_sl E22 (l.map rowC) l.length k _ rfl]
  rw [if_pos ⟨by omega, by omega, by simp, by decide⟩]
  simp
theorem ld_rows (h : k < l.length) (objs : List Ob) : loadX (TT.of Tryd.prog) objs 28 (.of (.ref ((l.map rowC).drop k))) = out (.of (rowC l[k])) := by
  rw [Z4i, drop_getD (by simpa using h)]
  simp [pieceC, T28, outO, out]
end

section
variable (r : List V) (k : Nat) (tk : Tk) (e z : Nat)
theorem len_row : lenX (some (.slice 34)) (.of (rowC r)) = out (xint r.length) := rfl
theorem ia_row (h : k < r.length) : indexAddrX (TT.of Tryd.prog) 28 (.of (rowC r)) (xint k) = out (.of (.ref (valsC (r.drop k)))) := by
  rw [indexAddr_sl E28 (valsC r) r.length k _ rfl]
  rw [if_pos ⟨by omega, by omega, valsC_length r, by decide⟩]
  simp only [Int.toNat_natCast]
  rw [valsC_drop]
theorem ld_row (h : k < r.length) (objs : List Ob) : loadX (TT.of Tryd.prog) objs 34 (.of (.ref (valsC (r.drop k)))) = out (.of (valX r[k])) := by
  rw [Z4i, drop_getD h, valsC_cons]
  simp [pieceC, T34, outO, out, valC, valX]
end
theorem cells_val (v : V) : cellsX (.of (valX v)) = some [xint v.k, xint v.n, xstr v.s] := rfl
theorem wrapS (n : Nat) (h : n < 4611686018427387904) : IntKind.i64.wrap ((n : Int) + 1) = ((n + 1 : Nat) : Int) := by rw [wrap64_ok _ (by omega) (by omega)]; rfl
theorem rd_rowC (r : List V) : X.rd (.of (rowC r)) = some (rowC r) := rfl

section
variable (tk t : Tk) (l q : List (List V)) (r : List V)
theorem bs_rows : buildSliceX tk 0 (Pe.elemOf (TT.of Tryd.prog) 22) (some []) = out (.own tk 28 1 [] 0) := bs_0 E22 (by decide) (by decide) tk
theorem bs_rows1 : buildSliceX tk 1 (Pe.elemOf (TT.of Tryd.prog) 22) (some [(0, [.of (rowC r)])]) = out (.own tk 28 1 [rowC r] 1) := bs_1 E22 rfl rfl tk _
theorem bs_rows1o (e z n : Nat) (cs : List C) : buildSliceX tk 1 (Pe.elemOf (TT.of Tryd.prog) 22) (some [(0, [.own t e z cs n])]) = out (.own tk 28 1 [.sl cs n] 1) := bs_1 E22 rfl rfl tk _
theorem ap_row_nil (h : r.length ≤ LIM) : appendX (TT.of Tryd.prog) tk 28 28 .nil (.of (rowC r)) = out (.own tk 34 3 (valsC r) r.length) :=
  ap_nil E28 (by decide) (by decide) tk (.of (rowC r)) (valsC r) r.length rfl (valsC_length r) h
theorem ap_rows1 (t' : Tk) (h : l.length + 1 ≤ LIM) : appendX (TT.of Tryd.prog) tk 22 22 (.own t 28 1 (l.map rowC) l.length) (.own t' 28 1 [rowC r] 1) = some (.own tk 28 1 ((l ++ [r]).map rowC) (l ++ [r]).length, some t) := by
  have := ap_own E22 (by decide) (by decide) tk t (l.map rowC) l.length (.own t' 28 1 [rowC r] 1) [rowC r] 1 rfl rfl h
  rw [List.map_append, List.length_append]
  exact this
theorem ap_rows1s (t' : Tk) (h : l.length + 1 ≤ LIM) : appendX (TT.of Tryd.prog) tk 22 22 (.own t 28 1 (l.map rowC) l.length) (.own t' 28 1 [.sl (valsC r) r.length] 1) = some (.own tk 28 1 ((l ++ [r]).map rowC) (l ++ [r]).length, some t) := ap_rows1 tk t l r t' h
theorem ap_rows1n (t' : Tk) : appendX (TT.of Tryd.prog) tk 22 22 .nil (.own t' 28 1 [rowC r] 1) = out (.own tk 28 1 ([r].map rowC) [r].length) :=
  ap_nil E22 (by decide) (by decide) tk (.own t' 28 1 [rowC r] 1) [rowC r] 1 rfl rfl (by unfold LIM; omega)
end
end Go.Proofs.YtiepbejeiijpmaaDoor
namespace Go.Proofs.YtiepbejeiijpmaaDoor
open Go Go.Pe Go.Tab

theorem an_int {a b : Int} (h : a = b) : some (An.mk false [xint a] []) = some ⟨false, [xint b], []⟩ := by rw [h]
theorem ords_nn : ords [] [] = 0 := rfl
theorem ords_nc (x : V) (r : List V) : ords [] (x :: r) = -1 := rfl
theorem ords_cn (x : V) (r : List V) : ords (x :: r) [] = 1 := rfl
theorem ords_cc (x y : V) (r q : List V) : ords (x :: r) (y :: q) = if order x y = 0 then ords r q else order x y := rfl

end Go.Proofs.YtiepbejeiijpmaaDoor
namespace Go.Proofs.YtiepbejeiijpmaaDoor
open Go Go.Pe Go.Tab

/-- A row that comes with the right to append; rows that do. -/
def rowO (r : List V) : X := .own (.nm 0 0 0) 34 3 (valsC r) r.length
def rowsO (i : Nat) (l : List (List V)) : X := .own (.nm 0 0 i) 28 1 (l.map rowC) l.length
def RsOk (l : List (List V)) : Prop := l.length ≤ 1048576 ∧ ∀ r ∈ l, ROk r

def numV (n : Int) : V := ⟨2, n, ByteArray.empty⟩
theorem Num_call (n : Int) : G1 34 [xint n] (.agg [xint 2, xint n, xstr ByteArray.empty]) := by
  refine by_body rfl ok34 body34 ar34 rfl ?_
  have b34 := B34
  simp only [T34] at b34
  simp -implicitDefEqProofs only [Tryd.f34, Z2i, Z2n, Z2g, Z2h, Z2k, Z2l, Z2m, Z2j, Z2f, Z2d, Z2e, Z3i, Z3h, Z3g, Nat.zero_mul, Nat.reduceMul, Z4k, Z13, Z14, List.length_map, Z35, Z34, Z37, Z33, Z36, Z31, Z38, Z32, Z30, Z2z, Tk.nm.injEq, Tk.cell.injEq, false_and, and_false, Z2o, Z4j, Nat.le_add_right, Z5h, Z5i, Z6z, Nat.le_refl, Z5v, Z5u, Z2s, ↓Zx, ↓Zs, ↓Zt, ↓Zw, ↓Zy, ↓Zu, ↓Zv, ↓Zz, ↓Z10, ↓Zl, ↓Z2, ↓Zo, ↓Z3, ↓Zr, ↓Zg, ↓Zc, ↓Zb, ↓Ze, ↓Zd, ↓Zp, ↓Z9, ↓Za, ↓Zm, ↓Zi, ↓Z5, ↓Z6, ↓Zf, ↓Z1, ↓Z7, ↓Z8, ↓Z0, ↓Z4, ↓Zq, ↓Zh, ↓Zk, ↓Zj, ↓Zn, ↓Z64, ↓Z66, ↓Z63, ↓Z65, ↓Z7f, ↓Z7g, ↓Z7e, ↓Z2x, ↓Z2y, ↓Z2w, ↓Z1e, ↓Z1f, ↓Z1d, Z4c, Z1a, ↓Z8a, ↓Z8b, ↓Z89, ↓Z78, ↓Z79, ↓Z77, ↓Z3e, ↓Z3c, ↓Z3d, Z5c, Z5b, Z5g, Z5e, Z5f, Z5d, ↓Z3y, ↓Z3z, ↓Z3x, Z3u, Z3w, Z3v, ↓Z7b, ↓Z7a, ↓Z7d, ↓Z7c, ↓Z1z, ↓Z1y, ↓Z21, ↓Z20, ↓Z6o, ↓Z6p, ↓Z4s, ↓Z4t, Z2p, ↓Z3o, ↓Z3p, Z3s, Z3n, Z3q, Z3r, Z5p, Z5q, Z5o, Z5n, Z5r, Z1n, Z1m, Z1l, Z1k, Z1j, Z1p, Z1g, Z1t, Z1o, Z1r, Z1s, Z1q, Z1h, Z1i, Z88, Z87, Z4d, Z4e, Z4f, Z5y, Z4b, Z4a, Z49, Z48, Z16, Z17, Z15, Z6a, Z6b, Z69, ↓Z68, ↓Z67, Z2q, Z22, Z23, Z25, Z24, Z60, Z5z, Z55, Z56, ↓Z1b, ↓Z1c, Z81, Z80, Z7x, Z84, Z7y, Z83, Z7z, Z82, Z86, Z85, Z5a, Z59, Z7w, Z7t, Z7v, Z7u, Z4r, Z4q, Z4p, Z62, Z61, Z6v, Z6y, Z6w, Z6x, Z40, Z41, Z74, Z72, Z73, Z6u, Z6t, Z2v, Z2u, Z5x, Z5w, Z2r, Z71, Z70, Z6d, Z6c, Z6k, Z6j, Z6l, Z6m, Z6i, Z6h, Z6g, Z6n, Z6f, Z6e, Z58, Z57, Z7p, Z7o, Z7q, Z7r, Z7n, Z7m, Z7l, Z7s, Z7k, Z7j, Z7h, Z7i, Z54, Z53, Z5m, Z11, Z4y, Z4z, Z4x, Z51, Z4w, Z4v, Z4u, Z50, Z12, Z75, Z76, Z43, Z42, Z4o, Z4n, Z4l, Z4m, Z19, Z18, Z29, Z2b, Z2a, Z28, Z2c, Z27, Z26, Z5t, Z3t, Z6r, ↓Z6s, ↓Z6q, Z2t, Z47, Z44, Z45, Z46, Z3m, Z3k, Z3l, Z3j, Z1v, Z1u, Z1w, Z1x, List.any_cons, List.any_nil, Bool.or_true, Bool.true_or, Bool.or_false, Bool.false_or, Bool.and_false, Bool.false_and, Nat.reduceBEq, Z5k, Z5j, Z5l, Z3f, ↓Z39, ↓Z3b, ↓Z3a, Z4i, Z4h, Z4g, Z5s, Nat.reduceLeDiff, Int.reduceLT, Int.reduceLE, Int.reduceAdd, Int.reduceToNat, Int.reduceNeg, Int.cast_ofNat_Int, Nat.reduceLT, List.drop_succ_cons, List.take_succ_cons, List.singleton_append, Nat.zero_add, List.set_cons_zero, List.set_cons_succ, List.drop_nil, List.take_nil, Option.map_some, Option.map_none, Option.getD_some, Option.getD_none, Option.bind_some, List.cons_append, List.nil_append, List.append_nil, List.map_cons, List.map_nil, List.range_zero, List.take_zero, List.flatten_nil, List.filter_nil, List.length_nil, List.length_cons, List.drop_zero, List.not_mem_nil, List.mem_cons, Bool.true_eq_false, Bool.false_eq_true, ↓reduceIte, Nat.reduceEqDiff, Nat.reduceAdd, List.getElem?_toArray, List.toList_toArray, List.getElem?_cons_zero, List.getElem?_cons_succ, decide_eq_true_eq, Z52, beq_self_eq_true, beq_true, decide_true, decide_false, Bool.not_true, Bool.not_false, true_and, and_true, or_false, false_or, Bool.and_eq_true, Bool.and_true, Bool.true_and, reduceCtorEq, not_false_eq_true, rv34, T34, b34, zeroX, P34]
  try rfl
theorem Num_k (n : Int) (K : An → Prop) : CallK Tryd.prog pr 34 [.of (ci n)] [] K ↔ K ⟨false, [.agg [xint 2, xint n, xstr ByteArray.empty]], []⟩ := Gives.k (Num_call n) K
theorem numV_ok (n : Int) (h : small64 n = true) : VOk (numV n) := ⟨rfl, h, Nat.zero_le _⟩
end Go.Proofs.YtiepbejeiijpmaaDoor
namespace Go.Proofs
open Go.Shelf
def Tryd.laysM171_ren : Go.Shelf.Ren := ⟨fun | 171 => 83 | 243 => 91 | 246 => 99 | 283 => 107 | 284 => 108 | 285 => 109 | 286 => 110 | 129 => 118 | 317 => 117 | 318 => 119 | 319 => 120 | 320 => 121 | 337 => 124 | 338 => 125 | n => n, fun | 3 => 3 | 9 => 9 | 2 => 2 | 4 => 4 | 171 => 102 | 0 => 0 | 53 => 103 | 37 => 81 | 5 => 5 | 173 => 106 | 212 => 115 | 51 => 116 | 20 => 20 | 213 => 117 | 46 => 99 | 232 => 122 | 233 => 123 | n => n, fun | 17 => 3 | 18 => 4 | 19 => 5 | n => n⟩
theorem Tryd.laysM171 : Go.Proofs.LaysM.n171 Tryd.prog Tryd.laysM171_ren := {
  mixed := by kernel_rfl
  f129 := Tryd.func118.trans (congrArg some (by kernel_rfl))
  f171 := Tryd.func83.trans (congrArg some (by kernel_rfl))
  f243 := Tryd.func91.trans (congrArg some (by kernel_rfl))
  f246 := Tryd.func99.trans (congrArg some (by kernel_rfl))
  f283 := Tryd.func107.trans (congrArg some (by kernel_rfl))
  f284 := Tryd.func108.trans (congrArg some (by kernel_rfl))
  f285 := Tryd.func109.trans (congrArg some (by kernel_rfl))
  f286 := Tryd.func110.trans (congrArg some (by kernel_rfl))
  f317 := Tryd.func117.trans (congrArg some (by kernel_rfl))
  f318 := Tryd.func119.trans (congrArg some (by kernel_rfl))
  f319 := Tryd.func120.trans (congrArg some (by kernel_rfl))
  f320 := Tryd.func121.trans (congrArg some (by kernel_rfl))
  f337 := Tryd.func124.trans (congrArg some (by kernel_rfl))
  f338 := Tryd.func125.trans (congrArg some (by kernel_rfl))
  t0 := Tryd.underlying0
  a0 := Tryd.isAgg0
  z0 := Tryd.sizeOf0
  v0 := Tryd.zeroValue0
  t2 := Tryd.underlying2
  a2 := Tryd.isAgg2
  z2 := Tryd.sizeOf2
  v2 := Tryd.zeroValue2
  t3 := Tryd.underlying3
  a3 := Tryd.isAgg3
  z3 := Tryd.sizeOf3
  v3 := Tryd.zeroValue3
  t4 := Tryd.underlying4
  a4 := Tryd.isAgg4
  z4 := Tryd.sizeOf4
  v4 := Tryd.zeroValue4
  t5 := Tryd.underlying5
  a5 := Tryd.isAgg5
  z5 := Tryd.sizeOf5
  v5 := Tryd.zeroValue5
  t9 := Tryd.underlying9
  a9 := Tryd.isAgg9
  z9 := Tryd.sizeOf9
  v9 := Tryd.zeroValue9
  t20 := Tryd.underlying20
  a20 := Tryd.isAgg20
  z20 := Tryd.sizeOf20
  v20 := Tryd.zeroValue20
  t37 := Tryd.underlying81
  a37 := Tryd.isAgg81
  z37 := Tryd.sizeOf81
  v37 := Tryd.zeroValue81
  t46 := Tryd.underlying99
  a46 := Tryd.isAgg99
  z46 := Tryd.sizeOf99
  v46 := Tryd.zeroValue99
  t51 := Tryd.underlying116
  a51 := Tryd.isAgg116
  z51 := Tryd.sizeOf116
  v51 := Tryd.zeroValue116
  t53 := Tryd.underlying103
  a53 := Tryd.isAgg103
  z53 := Tryd.sizeOf103
  v53 := Tryd.zeroValue103
  t171 := Tryd.underlying102
  a171 := Tryd.isAgg102
  z171 := Tryd.sizeOf102
  v171 := Tryd.zeroValue102
  t173 := Tryd.underlying106
  a173 := Tryd.isAgg106
  z173 := Tryd.sizeOf106
  v173 := Tryd.zeroValue106
  t212 := Tryd.underlying115
  a212 := Tryd.isAgg115
  z212 := Tryd.sizeOf115
  v212 := Tryd.zeroValue115
  t213 := Tryd.underlying117
  a213 := Tryd.isAgg117
  z213 := Tryd.sizeOf117
  t232 := Tryd.underlying122
  a232 := Tryd.isAgg122
  z232 := Tryd.sizeOf122
  v232 := Tryd.zeroValue122
  t233 := Tryd.underlying123
  a233 := Tryd.isAgg123
  z233 := Tryd.sizeOf123
  v233 := Tryd.zeroValue123
  g17 := by kernel_rfl
  g18 := by kernel_rfl
  g19 := by kernel_rfl
  i0 := by kernel_rfl
  i2 := by kernel_rfl
  i3 := by kernel_rfl
  i4 := by kernel_rfl
  i5 := by kernel_rfl
  i9 := by kernel_rfl
  i20 := by kernel_rfl
  i37 := by kernel_rfl
  i46 := by kernel_rfl
  i51 := by kernel_rfl
  i53 := by kernel_rfl
  i171 := by kernel_rfl
  i173 := by kernel_rfl
  i212 := by kernel_rfl
  i232 := by kernel_rfl
  i233 := by kernel_rfl
  m17 := by kernel_rfl
  m18 := by kernel_rfl
  m19 := by kernel_rfl }
open Go.RowKit Go.Sort Go.Lib in
/-- strconv.Itoa: "Itoa is equivalent to FormatInt(int64(i), 10).": i's DECIMAL NUMERAL ('Lib.itoa': a '-' where i is negative, then the digits), FOR EVERY int. The world behind the call: the world before it, new blocks behind the heap (the library's 'var a [24]byte'), draws. (LAID: no walk: one application.) -/
theorem Tryd.strconv_Itoa (n : Int) (h0 : -9223372036854775808 ≤ n) (h1 : n ≤ 9223372036854775807) (w : World) (htab : Lib.TabIs Tryd.prog w "internal/strconv.uint64pow10" .u64 Lib.pow10Tab) :
    Calls Tryd.prog 83 #[.int .i64 n] w fun e w' => e = .returned (.string ⟨(Lib.itoa n).toArray⟩) ∧ ∃ k os, w' = grow (w.drewN k) os := Any.strconv_Itoa Tryd.laysM171 n h0 h1 w htab
def Tryd.lays106_ren : Go.Shelf.Ren := ⟨fun | 106 => 54 | 213 => 79 | 265 => 90 | n => n, fun | 9 => 9 | 3 => 3 | n => n, fun | n => n⟩
theorem Tryd.lays106 : Go.Proofs.Lays.n106 Tryd.prog Tryd.lays106_ren := {
  mixed := by kernel_rfl
  f106 := Tryd.func54.trans (congrArg some (by kernel_rfl))
  f213 := Tryd.func79.trans (congrArg some (by kernel_rfl))
  f265 := Tryd.func90.trans (congrArg some (by kernel_rfl))
  t3 := Tryd.underlying3
  a3 := Tryd.isAgg3
  z3 := Tryd.sizeOf3
  v3 := Tryd.zeroValue3
  t9 := Tryd.underlying9
  a9 := Tryd.isAgg9
  z9 := Tryd.sizeOf9
  v9 := Tryd.zeroValue9 }
open Go.RowKit in
/-- strings.Compare: "Compare returns an integer comparing two strings lexicographically. The result will be 0 if a == b, -1 if a < b, and +1 if a > b.": IT RETURNS 'Lib.compareBytes a b'; the world is as it was. (LAID: no walk: one application.) -/
theorem Tryd.strings_Compare (a b : ByteArray) (w : World) :
    Calls Tryd.prog 54 #[.string a, .string b] w fun e w' => e = .returned (.int .i64 (Lib.compareBytes a.data.toList b.data.toList)) ∧ w' = w := Any.strings_Compare Tryd.lays106 a b w
def Tryd.laysGw15_ren : Go.Shelf.Ren := ⟨fun | 15 => 58 | 20 => 81 | n => n, fun | 9 => 9 | 23 => 61 | 3 => 3 | 4 => 4 | 0 => 0 | 21 => 21 | n => n, fun | n => n⟩
theorem Tryd.laysGw15 : Go.Proofs.LaysGw.n15 Tryd.prog Tryd.laysGw15_ren := {
  mixed := by kernel_rfl
  f15 := Tryd.func58.trans (congrArg some (by kernel_rfl))
  f20 := Tryd.func81.trans (congrArg some (by kernel_rfl))
  t0 := Tryd.underlying0
  a0 := Tryd.isAgg0
  z0 := Tryd.sizeOf0
  v0 := Tryd.zeroValue0
  i0 := by kernel_rfl
  t3 := Tryd.underlying3
  a3 := Tryd.isAgg3
  z3 := Tryd.sizeOf3
  v3 := Tryd.zeroValue3
  i3 := by kernel_rfl
  t4 := Tryd.underlying4
  a4 := Tryd.isAgg4
  z4 := Tryd.sizeOf4
  v4 := Tryd.zeroValue4
  i4 := by kernel_rfl
  t9 := Tryd.underlying9
  a9 := Tryd.isAgg9
  z9 := Tryd.sizeOf9
  v9 := Tryd.zeroValue9
  i9 := by kernel_rfl
  t21 := Tryd.underlying21
  a21 := Tryd.isAgg21
  z21 := Tryd.sizeOf21
  v21 := Tryd.zeroValue21
  i21 := by kernel_rfl
  t23 := Tryd.underlying61
  a23 := Tryd.isAgg61
  z23 := Tryd.sizeOf61
  v23 := Tryd.zeroValue61
  i23 := by kernel_rfl }
open Go.RowKit Go.Lib in
theorem Tryd.strings_IndexFunc_grows (g : Nat) (lb : Array Value) (eg : ∀ args w, (callFunc g args).run Tryd.prog w = .ok (.enter g args) w) (p : Nat → Bool) (s : ByteArray) (w : World) (hp : PredGrows Tryd.prog g lb p w) :
    Calls Tryd.prog 58 #[.string s, .func (.func g) #[] lb] w fun e w' => e = .returned (.int .i64 (Lib.idxFunc p true s)) ∧ Below w.heap.size w w' := Any.strings_IndexFunc_grows Tryd.laysGw15 g lb eg p s w hp
def Tryd.lays155_ren : Go.Shelf.Ren := ⟨fun | 155 => 66 | 154 => 84 | 138 => 92 | 165 => 93 | 143 => 94 | 166 => 87 | 197 => 95 | 169 => 89 | 195 => 100 | 218 => 101 | 240 => 98 | 241 => 102 | 219 => 103 | 260 => 104 | 276 => 106 | 277 => 111 | 217 => 112 | 225 => 113 | 224 => 114 | 267 => 115 | 266 => 122 | 314 => 123 | n => n, fun | 9 => 9 | 3 => 3 | 4 => 4 | 72 => 83 | 0 => 0 | 76 => 86 | 105 => 91 | 21 => 21 | 5 => 5 | 70 => 80 | 20 => 20 | 37 => 81 | 75 => 85 | 127 => 95 | 164 => 100 | 46 => 99 | 119 => 110 | 139 => 113 | 138 => 112 | 146 => 119 | 51 => 116 | 80 => 89 | n => n, fun | 1 => 0 | 3 => 1 | 4 => 2 | n => n⟩
theorem Tryd.lays155 : Go.Proofs.Lays.n155 Tryd.prog Tryd.lays155_ren := {
  mixed := by kernel_rfl
  f138 := Tryd.func92.trans (congrArg some (by kernel_rfl))
  f143 := Tryd.func94.trans (congrArg some (by kernel_rfl))
  f154 := Tryd.func84.trans (congrArg some (by kernel_rfl))
  f155 := Tryd.func66.trans (congrArg some (by kernel_rfl))
  f165 := Tryd.func93.trans (congrArg some (by kernel_rfl))
  f166 := Tryd.func87.trans (congrArg some (by kernel_rfl))
  f169 := Tryd.func89.trans (congrArg some (by kernel_rfl))
  f195 := Tryd.func100.trans (congrArg some (by kernel_rfl))
  f197 := Tryd.func95.trans (congrArg some (by kernel_rfl))
  f217 := Tryd.func112.trans (congrArg some (by kernel_rfl))
  f218 := Tryd.func101.trans (congrArg some (by kernel_rfl))
  f219 := Tryd.func103.trans (congrArg some (by kernel_rfl))
  f224 := Tryd.func114.trans (congrArg some (by kernel_rfl))
  f225 := Tryd.func113.trans (congrArg some (by kernel_rfl))
  f240 := Tryd.func98.trans (congrArg some (by kernel_rfl))
  f241 := Tryd.func102.trans (congrArg some (by kernel_rfl))
  f260 := Tryd.func104.trans (congrArg some (by kernel_rfl))
  f266 := Tryd.func122.trans (congrArg some (by kernel_rfl))
  f267 := Tryd.func115.trans (congrArg some (by kernel_rfl))
  f276 := Tryd.func106.trans (congrArg some (by kernel_rfl))
  f277 := Tryd.func111.trans (congrArg some (by kernel_rfl))
  f314 := Tryd.func123.trans (congrArg some (by kernel_rfl))
  t0 := Tryd.underlying0
  a0 := Tryd.isAgg0
  z0 := Tryd.sizeOf0
  v0 := Tryd.zeroValue0
  t3 := Tryd.underlying3
  a3 := Tryd.isAgg3
  z3 := Tryd.sizeOf3
  v3 := Tryd.zeroValue3
  t4 := Tryd.underlying4
  a4 := Tryd.isAgg4
  z4 := Tryd.sizeOf4
  v4 := Tryd.zeroValue4
  t5 := Tryd.underlying5
  a5 := Tryd.isAgg5
  z5 := Tryd.sizeOf5
  v5 := Tryd.zeroValue5
  t9 := Tryd.underlying9
  a9 := Tryd.isAgg9
  z9 := Tryd.sizeOf9
  v9 := Tryd.zeroValue9
  t20 := Tryd.underlying20
  a20 := Tryd.isAgg20
  z20 := Tryd.sizeOf20
  v20 := Tryd.zeroValue20
  t21 := Tryd.underlying21
  a21 := Tryd.isAgg21
  z21 := Tryd.sizeOf21
  v21 := Tryd.zeroValue21
  t37 := Tryd.underlying81
  a37 := Tryd.isAgg81
  z37 := Tryd.sizeOf81
  v37 := Tryd.zeroValue81
  t46 := Tryd.underlying99
  a46 := Tryd.isAgg99
  z46 := Tryd.sizeOf99
  v46 := Tryd.zeroValue99
  t51 := Tryd.underlying116
  a51 := Tryd.isAgg116
  z51 := Tryd.sizeOf116
  v51 := Tryd.zeroValue116
  t70 := Tryd.underlying80
  a70 := Tryd.isAgg80
  z70 := Tryd.sizeOf80
  v70 := Tryd.zeroValue80
  t72 := Tryd.underlying83
  a72 := Tryd.isAgg83
  z72 := Tryd.sizeOf83
  v72 := Tryd.zeroValue83
  t75 := Tryd.underlying85
  a75 := Tryd.isAgg85
  z75 := Tryd.sizeOf85
  v75 := Tryd.zeroValue85
  t76 := Tryd.underlying86
  a76 := Tryd.isAgg86
  z76 := Tryd.sizeOf86
  v76 := Tryd.zeroValue86
  t105 := Tryd.underlying91
  a105 := Tryd.isAgg91
  z105 := Tryd.sizeOf91
  v105 := Tryd.zeroValue91
  t119 := Tryd.underlying110
  a119 := Tryd.isAgg110
  z119 := Tryd.sizeOf110
  t127 := Tryd.underlying95
  a127 := Tryd.isAgg95
  z127 := Tryd.sizeOf95
  v127 := Tryd.zeroValue95
  t138 := Tryd.underlying112
  a138 := Tryd.isAgg112
  z138 := Tryd.sizeOf112
  v138 := Tryd.zeroValue112
  t139 := Tryd.underlying113
  a139 := Tryd.isAgg113
  z139 := Tryd.sizeOf113
  v139 := Tryd.zeroValue113
  t146 := Tryd.underlying119
  a146 := Tryd.isAgg119
  z146 := Tryd.sizeOf119
  v146 := Tryd.zeroValue119
  t164 := Tryd.underlying100
  a164 := Tryd.isAgg100
  z164 := Tryd.sizeOf100
  v164 := Tryd.zeroValue100
  g1 := by kernel_rfl
  g3 := by kernel_rfl
  g4 := by kernel_rfl }
theorem Tryd.Builder_Extra_155 : Builder.Extra Tryd.prog Tryd.lays155_ren := {
  sizeBuilder := by kernel_rfl
  liesBuilder := by kernel_rfl
  t5 := Tryd.underlying5
  a5 := Tryd.isAgg5
  z5 := Tryd.sizeOf5
  v5 := Tryd.zeroValue5
  infoByte := by kernel_rfl
  cellsByte := by kernel_rfl
  sizeByte := by kernel_rfl
  neB5 := by decide }
open Go.RowKit Go.Lib in
theorem Tryd.strings_ReplaceAll (s old new : ByteArray) (m : Int) (w : World) (hs : s.size < 4294967281) (hm : w.cell? ⟨0, 0, none⟩ = some (.int .i64 m)) (h1 : 1 ≤ old.size) (hlen : s.size + Lib.countB s old * new.size ≤ 140737488355328) :
    Calls Tryd.prog 66 #[.string s, .string old, .string new] w fun e w' =>
      e = .returned (.string ⟨(Lib.replaceAll s.data.toList old.data.toList new.data.toList).toArray⟩) ∧ Below w.heap.size w w' := Any.strings_ReplaceAll Tryd.lays155 Tryd.Builder_Extra_155 s old new m w hs hm h1 hlen
end Go.Proofs
namespace Go.Proofs.YtiepbejeiijpmaaDoor
open Go Go.RowKit Go.Pe

theorem infoBuilder : (Tryd.prog.info? 83).map (·.size) = some 2 := by kernel_rfl
theorem liesBuilder : liesAt Tryd.prog Tryd.prog.depth 83 (2 / Tryd.prog.cellsOf 83) 0 83 1 = true := by kernel_rfl

set_option maxHeartbeats 1000000 in
set_option maxRecDepth 100000 in
theorem check_used (b : Nat) (w : World) (h0 : w.cell? ⟨b, 0, none⟩ = some (.pointer (some ⟨b, 0, none⟩))) :
    Calls Tryd.prog 98 #[.pointer (some ⟨b, 0, none⟩)] w fun e w' => e = .returned (.tuple #[]) ∧ w' = w := by
  obtain ⟨j, hj, _⟩ := Option.map_eq_some_iff.1 infoBuilder
  go_enter Tryd.func98, Tryd.ntmps98
  go_wp2
  rw [Lib.run_neq_ptr_same w _ Tryd.underlying80 hj]
  go_wp2
  go_end0
  exact ⟨rfl, rfl⟩
set_option maxHeartbeats 1000000 in
set_option maxRecDepth 100000 in
theorem check_fresh (b : Nat) (w : World) (h0 : w.cell? ⟨b, 0, none⟩ = some (.pointer none)) (hsh : w.shape? b = some (83, 2)) (hfz : w.frozen? ⟨b, 0, none⟩ = false) :
    Calls Tryd.prog 98 #[.pointer (some ⟨b, 0, none⟩)] w fun e w' => e = .returned (.tuple #[]) ∧ w' = w.setCell ⟨b, 0, none⟩ (.pointer (some ⟨b, 0, none⟩)) := by
  obtain ⟨j, hj, hjs⟩ := Option.map_eq_some_iff.1 infoBuilder
  go_enter Tryd.func98, Tryd.ntmps98
  go_wp2
  rw [Lib.run_to_unsafe w ⟨b, 0, none⟩ Tryd.underlying80 Tryd.underlying100 hj (by rw [hjs]; decide) hsh (Nat.zero_lt_succ 1)]
  simp only [Result.andThen]
  rw [Oper.upon_value]
  go_wp2
  rw [run_callFunc_extern Tryd.func106 (by kernel_rfl) (by kernel_rfl) (by kernel_rfl) (e := Extern.AbiNoEscape.same) (by kernel_rfl)]
  rw [Lib.run_noEscape]
  simp only [Result.andThen]
  rw [Oper.upon_value]
  go_wp2
  rw [Lib.run_from_unsafe w ⟨b, 0, none⟩ Tryd.underlying100 Tryd.underlying80 hj hsh liesBuilder]
  simp only [Result.andThen]
  rw [Oper.upon_value]
  go_wp2
  go_end0
  exact ⟨rfl, rfl⟩
/-- A Builder's block, and its row. -/
structure BAt (b : Nat) (p v : Value) (bs : List Value) (w : World) : Prop where
  blk : w.heap[b]? = some (.cells #[p, v] 83 (0, 0))
  own : w.ownsRow 0 5 1 v bs.length bs
  ne : v.ownBlock ≠ some b
theorem BAt.lt {b : Nat} {p v : Value} {bs : List Value} {w : World} (h : BAt b p v bs w) : b < w.heap.size := (Array.getElem?_eq_some_iff.1 h.blk).1
/-- What a writing method leaves: its block and its row alone turn. -/
structure BPost (b : Nat) (v : Value) (w w' : World) (v' : Value) (bs' : List Value) : Prop where
  at' : BAt b (.pointer (some ⟨b, 0, none⟩)) v' bs' w'
  size : w.heap.size ≤ w'.heap.size
  os : w'.os = w.os
  tape : w'.tape = w.tape
  output : w'.output = w.output
  row : (v'.ownBlock = v.ownBlock ∧ ∀ k, k < w.heap.size → k ≠ b → some k ≠ v.ownBlock → w'.heap[k]? = w.heap[k]?) ∨ ((∃ g, v'.ownBlock = some g ∧ w.heap.size ≤ g) ∧ ∀ k, k < w.heap.size → k ≠ b → w'.heap[k]? = w.heap[k]?)
/-- What copyCheck leaves. -/
structure CPost (b : Nat) (v : Value) (w w' : World) (bs : List Value) : Prop where
  at' : BAt b (.pointer (some ⟨b, 0, none⟩)) v bs w'
  size : w'.heap.size = w.heap.size
  os : w'.os = w.os
  tape : w'.tape = w.tape
  output : w'.output = w.output
  rest : ∀ k, k ≠ b → w'.heap[k]? = w.heap[k]?

theorem setCell_other (w : World) (b o : Nat) (x : Value) (k : Nat) (h : k ≠ b) : (w.setCell ⟨b, o, none⟩ x).heap[k]? = w.heap[k]? := by
  simp only [World.setCell, Array.getElem?_modify]
  rw [if_neg (Ne.symm h)]
theorem setCell_size (w : World) (b o : Nat) (x : Value) : (w.setCell ⟨b, o, none⟩ x).heap.size = w.heap.size := by simp [World.setCell]

/-- copyCheck: the address is laid. -/
theorem check (b : Nat) (p v : Value) (bs : List Value) (w : World) (hp : p = .pointer none ∨ p = .pointer (some ⟨b, 0, none⟩)) (h : BAt b p v bs w) :
    Calls Tryd.prog 98 #[.pointer (some ⟨b, 0, none⟩)] w fun e w' => e = .returned (.tuple #[]) ∧ CPost b v w w' bs := by
  rcases hp with rfl | rfl
  · refine (check_fresh b w (by rw [Lib.cell_of_heap h.blk]; rfl) (by simp [World.shape?, h.blk]) (Lib.frozen_of_heap h.blk 0)).mono ?_
    rintro e w' ⟨rfl, rfl⟩
    refine ⟨rfl, ⟨?_, ?_, h.ne⟩, setCell_size w b 0 _, rfl, rfl, rfl, fun k hk => setCell_other w b 0 _ k hk⟩
    · simp [World.setCell, Array.getElem?_modify, h.blk]
    · exact h.own.kept (row := some b) ⟨rfl, rfl, rfl, by simp [World.setCell], fun k _ hk => setCell_other w b 0 _ k (fun e => hk (by simp [e]))⟩ (Or.inr h.ne)
  · refine (check_used b w (by rw [Lib.cell_of_heap h.blk]; rfl)).mono ?_
    rintro e w' ⟨rfl, rfl⟩
    exact ⟨rfl, h, rfl, rfl, rfl, rfl, fun _ _ => rfl⟩

/-- A string's bytes appended to a row: the row is the old one, or a new one. -/
theorem append_str {P : Program} (w : World) (t u ty e : TypeId) (i : TypeInfo) (ht : P.underlying t = some (.slice e)) (hu : P.underlying u = some .string) (hi : P.info? e = some i) (hz : i.zero = some (.int .u8 0))
    (hsize : i.size = 1) (hby : i.bytes = 1) (v : Value) (n : Nat) (xs : List Value) (hown : w.ownsRow 0 e 1 v n xs) (s : ByteArray) (hb : n + s.size ≤ 4294967296) :
    ∃ v' w', (Builtin.append_ #[t, u] ty #[v, .string s]).run P w = .ok v' w' ∧ w'.ownsRow 0 e 1 v' (n + s.size) (xs ++ Lib.strCells s) ∧ ((w.grownBy w' v.ownBlock ∧ v'.ownBlock = v.ownBlock) ∨ (w.grownBy w' none ∧ v'.ownBlock = some w.heap.size)) := by
  obtain ⟨v', w', hr, h2, h3, h4⟩ := Lib.run_append_own_string (P := P) w 0 t u ty e i ht hu hi hz hsize hby v n xs hown s (by unfold maxLen; omega) (by omega) (Nat.zero_le _)
  refine ⟨v', w', hr, h2, ?_⟩
  rcases hown.2 with ⟨rfl, rfl⟩ | ⟨g, cap, cur, rfl, hbg, hg, hnc, hcm, hcs, htake⟩
  · by_cases hm : s.size = 0
    · exact .inl ⟨h3, by rw [h4.2 ⟨rfl, hm⟩]⟩
    · have hr2 := run_append_nil_string (P := P) w t u ty e i (.int .u8 0) ht hu hi hz s (by omega) (by omega) (by rw [hby]; omega)
      rw [hr] at hr2
      cases hr2
      exact .inr ⟨⟨rfl, rfl, rfl, by simp, fun k hk _ => Lib.alloc_old w.drew _ k hk⟩, rfl⟩
  · by_cases hroom : n + s.size ≤ cap
    · have hr2 := Lib.run_append_room_string (P := P) w t u ty e i ht hu hi hsize g n cap cur hg s hroom (by omega)
      rw [hr] at hr2
      cases hr2
      exact .inl ⟨h3, rfl⟩
    · have hr2 := Lib.run_append_grow_string (P := P) w t u ty e i (.int .u8 0) ht hu hi hz ⟨g, 0, none⟩ n cap xs (by rw [hsize]; simpa using hown.1) (hown.cells (g := g) rfl) s (by omega) (by omega) (by rw [hby]; exact growslice_fits (by omega) (by omega))
      rw [hr] at hr2
      cases hr2
      exact .inr ⟨⟨rfl, rfl, rfl, by simp, fun k hk _ => Lib.alloc_old w.drew _ k hk⟩, rfl⟩
theorem infoByte0 : (Tryd.prog.info? 5).map (fun i => (i.zero, i.size, i.bytes)) = some (some (.int .u8 0), 1, 1) := by kernel_rfl
theorem infoByte : ∃ i, Tryd.prog.info? 5 = some i ∧ i.zero = some (.int .u8 0) ∧ i.size = 1 ∧ i.bytes = 1 := by
  obtain ⟨i, hi, he⟩ := Option.map_eq_some_iff.1 infoByte0
  simp only [Prod.mk.injEq] at he
  exact ⟨i, hi, he⟩
theorem wp_append_str {P : Program} {w : World} {ops : Array Oper} {rest : List Oper} {o : Oper} {a : Act} {Q : Exit → Act → World → Prop} (hgd : o.guard = none) (sl x : Operand) (t u : TypeId)
    (ho : o.op = .call { callee := .builtin .append, args := #[sl, x], argTypes := #[t, u] })
    (e : TypeId) (i : TypeInfo) (ht : P.underlying t = some (.slice e)) (hu : P.underlying u = some .string) (hi : P.info? e = some i) (hz : i.zero = some (.int .u8 0))
    (hsize : i.size = 1) (hby : i.bytes = 1)
    (v : Value) (n : Nat) (xs : List Value) (hs : a.eval sl = v) (hown : w.ownsRow 0 e 1 v n xs) (s : ByteArray) (hx : a.eval x = .string s) (hb : n + s.size ≤ 4294967296)
    (h : ∀ v' w', w'.ownsRow 0 e 1 v' (n + s.size) (xs ++ Lib.strCells s) → ((w.grownBy w' v.ownBlock ∧ v'.ownBlock = v.ownBlock) ∨ (w.grownBy w' none ∧ v'.ownBlock = some w.heap.size)) → wpList P ops Q rest (a.put o.dst v') w') : wpList P ops Q (o :: rest) a w := by
  refine wpList_plain hgd fun K hK => ?_
  obtain ⟨v', w', hr, h2, h3⟩ := append_str (P := P) w t u o.type e i ht hu hi hz hsize hby v n xs hown s hb
  unfold Oper.wp execOp
  simp only [ho, resolve, invoke, builtin, Sem.run_bind, Sem.run_pure, Result.andThen_ok, List.map_toArray, List.map_cons, List.map_nil, hs, hx, hr]
  exact hK _ _ (h v' w' h2 h3)
theorem wp_append_row {P : Program} {w : World} {ops : Array Oper} {rest : List Oper} {o : Oper} {a : Act} {Q : Exit → Act → World → Prop} (hgd : o.guard = none) (sl x : Operand) (t : TypeId)
    (ho : o.op = .call { callee := .builtin .append, args := #[sl, x], argTypes := #[t, t] })
    (e : TypeId) (d : TD) (ht : P.underlying t = some (.slice e)) (hd : TT.of P e = some d) (hz : d.size = 1) (hby : d.bytes ≤ 32768)
    (v : Value) (n : Nat) (xs : List Value) (hs : a.eval sl = v) (hown : w.ownsRow 0 e 1 v n xs) (b off m c : Nat) (news : List Value) (hx : a.eval x = .slice (some ⟨b, off, none⟩) m c) (hl : news.length = m)
    (hnews : ∀ i u, news[i]? = some u → w.cell? ⟨b, off + i, none⟩ = some u) (h1 : ∀ u ∈ news, u.oneCell' = true) (hb : n + m ≤ LIM)
    (h : ∀ v' w', w'.ownsRow 0 e 1 v' (n + m) (xs ++ news) → ((w.grownBy w' v.ownBlock ∧ v'.ownBlock = v.ownBlock) ∨ (w.grownBy w' none ∧ v'.ownBlock = some w.heap.size)) → wpList P ops Q rest (a.put o.dst v') w') : wpList P ops Q (o :: rest) a w := by
  refine wpList_plain hgd fun K hK => ?_
  obtain ⟨v', w', hr, h2, h3⟩ := run_append_at (P := P) (w := w) (t := t) (ty := o.type) (c := c) ht hd (by omega) (by rw [hz]; exact hown) (A := some ⟨b, off, none⟩) (m := m) (news := news) (by rw [hz]; omega) (fun _ => ⟨b, off, rfl, hnews⟩) h1 hb hby (Nat.zero_le _)
  rw [hz] at h2
  unfold Oper.wp execOp
  simp only [ho, resolve, invoke, builtin, Sem.run_bind, Sem.run_pure, Result.andThen_ok, List.map_toArray, List.map_cons, List.map_nil, hs, hx, hr]
  exact hK _ _ (h v' w' h2 h3)
/-- What is laid into 'buf'. -/
theorem CPost.put {b : Nat} {v v' : Value} {bs bs' : List Value} {w w1 w2 : World} (h1 : CPost b v w w1 bs) (hown : w2.ownsRow 0 5 1 v' bs'.length bs') (hg : (w1.grownBy w2 v.ownBlock ∧ v'.ownBlock = v.ownBlock) ∨ (w1.grownBy w2 none ∧ ∃ g, v'.ownBlock = some g ∧ w1.heap.size ≤ g)) :
    BPost b v w (w2.setCell ⟨b, 1, none⟩ v') v' bs' ∧ w2.heap[b]? = some (.cells #[.pointer (some ⟨b, 0, none⟩), v] 83 (0, 0)) := by
  have hb2 : w2.heap[b]? = some (.cells #[.pointer (some ⟨b, 0, none⟩), v] 83 (0, 0)) := by
    rcases hg with ⟨hg, _⟩ | ⟨hg, _⟩
    · rw [hg.block b h1.at'.lt (fun e => h1.at'.ne e.symm)]
      exact h1.at'.blk
    · rw [hg.block b h1.at'.lt (by simp)]
      exact h1.at'.blk
  have hne : v'.ownBlock ≠ some b := by
    rcases hg with ⟨_, h⟩ | ⟨_, g, h, hl⟩
    · rw [h]; exact h1.at'.ne
    · rw [h]
      intro e
      have := h1.at'.lt
      simp only [Option.some.injEq] at e
      omega
  have hos : w2.os = w1.os ∧ w2.tape = w1.tape ∧ w2.output = w1.output ∧ w1.heap.size ≤ w2.heap.size := by
    rcases hg with ⟨hg, _⟩ | ⟨hg, _⟩ <;> exact ⟨hg.os, hg.tape, hg.output, hg.size⟩
  refine ⟨⟨⟨?_, ?_, hne⟩, ?_, hos.1.trans h1.os, hos.2.1.trans h1.tape, hos.2.2.1.trans h1.output, ?_⟩, hb2⟩
  · simp [World.setCell, Array.getElem?_modify, hb2]
  · exact hown.kept (row := some b) ⟨rfl, rfl, rfl, by simp [World.setCell], fun k _ hk => setCell_other w2 b 1 _ k (fun e => hk (by simp [e]))⟩ (Or.inr hne)
  · rw [setCell_size]; have := h1.size; omega
  · rcases hg with ⟨hg, h⟩ | ⟨hg, g, h, hl⟩
    · refine .inl ⟨h, fun k hk hkb hkv => ?_⟩
      rw [setCell_other w2 b 1 _ k hkb, hg.block k (by rw [h1.size]; exact hk) hkv]
      exact h1.rest k hkb
    · refine .inr ⟨⟨g, h, by rw [← h1.size]; exact hl⟩, fun k hk hkb => ?_⟩
      rw [setCell_other w2 b 1 _ k hkb, hg.block k (by rw [h1.size]; exact hk) (by simp)]
      exact h1.rest k hkb

set_option maxHeartbeats 2000000 in
set_option maxRecDepth 100000 in
theorem writeString (b : Nat) (p v : Value) (bs : List Value) (s : ByteArray) (w : World) (hp : p = .pointer none ∨ p = .pointer (some ⟨b, 0, none⟩)) (h : BAt b p v bs w) (hlen : bs.length + s.size ≤ 4294967296) :
    Calls Tryd.prog 87 #[.pointer (some ⟨b, 0, none⟩), .string s] w fun e w' => e = .returned (.tuple #[.int .i64 s.size, .nilIface]) ∧ ∃ v', BPost b v w w' v' (bs ++ Lib.strCells s) := by
  obtain ⟨i0, hi, hz0, hz1, hz2⟩ := infoByte
  go_enter Tryd.func87, Tryd.ntmps87
  go_wp2_with (go_at_call 98; refine (check b p v bs _ hp h).mono ?_)
  rintro e w1 ⟨rfl, h1⟩
  have c0 : w1.cell? ⟨b, 0, none⟩ = some (.pointer (some ⟨b, 0, none⟩)) := by rw [Lib.cell_of_heap h1.at'.blk]; rfl
  have c1 : w1.cell? ⟨b, 1, none⟩ = some v := by rw [Lib.cell_of_heap h1.at'.blk]; rfl
  go_wp2_with (at_builtin; refine wp_append_str rfl _ _ 81 9 rfl 5 i0 Tryd.underlying81 Tryd.underlying9 hi hz0 hz1 hz2 _ _ _ rfl h1.at'.own s rfl hlen ?_)
  intro v' w2 hown' hgrow
  obtain ⟨hpost, hb2⟩ := h1.put (v' := v') (bs' := bs ++ Lib.strCells s) (w2 := w2) (by simpa [Lib.strCells_length] using hown') (hgrow.elim .inl fun e => .inr ⟨e.1, _, e.2, Nat.le_refl _⟩)
  have d0 : w2.cell? ⟨b, 0, none⟩ = some (.pointer (some ⟨b, 0, none⟩)) := by rw [Lib.cell_of_heap hb2]; rfl
  have d1 : w2.cell? ⟨b, 1, none⟩ = some v := by rw [Lib.cell_of_heap hb2]; rfl
  have f1 : w2.frozen? ⟨b, 1, none⟩ = false := Lib.frozen_of_heap hb2 1
  obtain ⟨ao, n', cap, rfl⟩ : ∃ ao n' cap, v' = .slice ao n' cap := by
    rcases hown'.2 with ⟨hv, _⟩ | ⟨g, cap, cur, hv, _⟩
    · exact ⟨_, _, _, hv⟩
    · exact ⟨_, _, _, hv⟩
  go_wp2
  go_ret2
  exact ⟨rfl, _, hpost⟩

set_option maxHeartbeats 2000000 in
set_option maxRecDepth 100000 in
theorem writeByte (b : Nat) (p v : Value) (bs : List Value) (c : Int) (w : World) (hp : p = .pointer none ∨ p = .pointer (some ⟨b, 0, none⟩)) (h : BAt b p v bs w) (hlen : bs.length + 1 ≤ 4294967296) :
    Calls Tryd.prog 88 #[.pointer (some ⟨b, 0, none⟩), .int .u8 c] w fun e w' => e = .returned .nilIface ∧ ∃ v', BPost b v w w' v' (bs ++ [.int .u8 c]) := by
  obtain ⟨i0, hi, hz0, hz1, hz2⟩ := infoByte
  go_enter Tryd.func88, Tryd.ntmps88
  go_wp2_with (go_at_call 98; refine (check b p v bs _ hp h).mono ?_)
  rintro e w1 ⟨rfl, h1⟩
  have c0 : w1.cell? ⟨b, 0, none⟩ = some (.pointer (some ⟨b, 0, none⟩)) := by rw [Lib.cell_of_heap h1.at'.blk]; rfl
  have c1 : w1.cell? ⟨b, 1, none⟩ = some v := by rw [Lib.cell_of_heap h1.at'.blk]; rfl
  have hblt := h1.at'.lt
  go_wp2_with (at_builtin; refine wp_append_row rfl _ _ 81 rfl 5 _ Tryd.underlying81 T5 rfl (by decide) _ _ _ rfl (h1.at'.own.alloc _) w1.heap.size 0 1 1 [.int .u8 c] rfl rfl ?c1 ?c2 ?c3 ?_)
  case c1 =>
    intro j u hj
    match j, hj with
    | 0, hj => simp at hj; subst hj; simp
  case c2 => intro u hu; simp at hu; subst hu; rfl
  case c3 => unfold LIM; omega
  intro v' w2 hown' hgrow
  have hgrow1 : (w1.grownBy w2 v.ownBlock ∧ v'.ownBlock = v.ownBlock) ∨ (w1.grownBy w2 none ∧ ∃ g, v'.ownBlock = some g ∧ w1.heap.size ≤ g) := by
    rcases hgrow with ⟨hg, h⟩ | ⟨hg, h⟩
    · exact .inl ⟨⟨hg.os, hg.tape, hg.output, by have := hg.size; simp at this; omega, fun k hk hne => by rw [hg.block k (by simp; omega) hne, Lib.alloc_old w1 _ k hk]⟩, h⟩
    · exact .inr ⟨⟨hg.os, hg.tape, hg.output, by have := hg.size; simp at this; omega, fun k hk hne => by rw [hg.block k (by simp; omega) hne, Lib.alloc_old w1 _ k hk]⟩, _, h, by simp⟩
  obtain ⟨hpost, hb2⟩ := h1.put (v' := v') (bs' := bs ++ [.int .u8 c]) (w2 := w2) (by simpa using hown') hgrow1
  have d0 : w2.cell? ⟨b, 0, none⟩ = some (.pointer (some ⟨b, 0, none⟩)) := by rw [Lib.cell_of_heap hb2]; rfl
  have d1 : w2.cell? ⟨b, 1, none⟩ = some v := by rw [Lib.cell_of_heap hb2]; rfl
  have f1 : w2.frozen? ⟨b, 1, none⟩ = false := Lib.frozen_of_heap hb2 1
  obtain ⟨ao, n', cap, rfl⟩ : ∃ ao n' cap, v' = .slice ao n' cap := by
    rcases hown'.2 with ⟨hv, _⟩ | ⟨g, cap, cur, hv, _⟩
    · exact ⟨_, _, _, hv⟩
    · exact ⟨_, _, _, hv⟩
  go_wp2
  go_ret
  exact ⟨rfl, _, hpost⟩

/-- What String leaves: its row alone turns. -/
structure SPost (v : Value) (w w' : World) : Prop where
  grown : ∀ k, k < w.heap.size → some k ≠ v.ownBlock → w'.heap[k]? = w.heap[k]?
  size : w.heap.size ≤ w'.heap.size
  os : w'.os = w.os
  tape : w'.tape = w.tape
  output : w'.output = w.output
  cell : ∀ c o, c < w.heap.size → w'.cell? ⟨c, o, none⟩ = w.cell? ⟨c, o, none⟩
theorem SPost.drew (v : Value) (w : World) : SPost v w w.drew := ⟨fun _ _ _ => rfl, Nat.le_refl _, rfl, rfl, rfl, fun _ _ _ => rfl⟩
theorem cell_freeze (w : World) (p : Addr) (n c o : Nat) : (w.freeze p n).cell? ⟨c, o, none⟩ = w.cell? ⟨c, o, none⟩ := by
  unfold World.freeze
  split
  · rfl
  · simp only [World.cell?, Array.getElem?_modify]
    by_cases e : p.block = c
    · rw [if_pos e]
      cases w.heap[c]? with
      | none => rfl
      | some ob => cases ob <;> rfl
    · rw [if_neg e]
theorem SPost.alloc (v : Value) (w : World) (o : Obj) : SPost v w (w.drew.alloc o) := ⟨fun k hk _ => Lib.alloc_old w.drew _ k hk, by simp, rfl, rfl, rfl, fun c o hc => World.cell?_of_block (a := ⟨c, o, none⟩) (Lib.alloc_old w.drew _ c hc)⟩
theorem SPost.freeze {g n c m : Nat} (w : World) : SPost (.slice (some ⟨g, 0, none⟩) n c) w (w.drew.freeze ⟨g, 0, none⟩ m) := by
  unfold World.freeze
  split
  · exact SPost.drew _ w
  · refine ⟨fun k hk hne => ?_, by simp, rfl, rfl, rfl, fun c o _ => ?_⟩
    · have : ¬ g = k := fun e => hne (by simp [Value.ownBlock, e])
      simp only [Array.getElem?_modify]
      rw [if_neg this]
      rfl
    · have := cell_freeze w.drew ⟨g, 0, none⟩ m c o
      unfold World.freeze at this
      rename_i hm _
      rw [if_neg hm] at this
      exact this

theorem cellsByte : Tryd.prog.cellsOf 5 = 1 := by kernel_rfl
set_option maxHeartbeats 2000000 in
set_option maxRecDepth 100000 in
theorem string_some (b g cap : Nat) (p : Value) (cur : Array Value) (l : List UInt8) (w : World) (h0 : l ≠ []) (h : BAt b p (.slice (some ⟨g, 0, none⟩) l.length cap) (Lib.byteCells l) w) (hg : w.heap[g]? = some (.cells cur 5 (0, 0))) (hnc : l.length ≤ cap) (hcm : cap ≤ maxLen) (hcs : cur.size = cap * 1) :
    Calls Tryd.prog 89 #[.pointer (some ⟨b, 0, none⟩)] w fun e w' => e = .returned (.string ⟨l.toArray⟩) ∧ SPost (.slice (some ⟨g, 0, none⟩) l.length cap) w w' := by
  have hl0 : l.length ≠ 0 := by simpa using h0
  have hown := h.own
  have c1 : w.drew.cell? ⟨b, 1, none⟩ = some (.slice (some ⟨g, 0, none⟩) l.length cap) := by
    have : w.drew.heap[b]? = some (.cells #[p, .slice (some ⟨g, 0, none⟩) l.length cap] 83 (0, 0)) := h.blk
    rw [Lib.cell_of_heap this]; rfl
  have hSD : (Builtin.unsafeSliceData_ #[81] 95 #[.slice (some ⟨g, 0, none⟩) l.length cap]).run Tryd.prog w.drew = .ok (.pointer (some ⟨g, 0, none⟩)) w.drew :=
    Lib.run_unsafeSliceData_row _ _ _ _ _ _ (by omega)
  have hUS : (Builtin.unsafeString_ #[95, 3] 9 #[.pointer (some ⟨g, 0, none⟩), .int .i64 l.length]).run Tryd.prog w.drew = .ok (.string ⟨l.toArray⟩) (w.drew.freeze ⟨g, 0, none⟩ l.length) := by
    refine Lib.run_unsafeString_row w.drew 95 3 9 5 Tryd.underlying95 cellsByte g cur.size (by have hg' : w.drew.heap[g]? = some (.cells cur 5 (0, 0)) := hg; simp [World.shape?, hg']) l h0 (by omega) (by unfold maxLen at hcm; omega) ?_
    intro j x hx
    exact hown.cells (g := g) rfl j (.int .u8 x.toNat) (by simp [Lib.byteCells, hx])
  clear hown h
  have hmixed := mixed
  go_enter Tryd.func89, Tryd.ntmps89
  go_wp2
  go_region_o
  all_goals (go_wp2; go_ret; exact ⟨rfl, SPost.freeze w⟩)

set_option maxHeartbeats 2000000 in
set_option maxRecDepth 100000 in
theorem string_nil (b : Nat) (p : Value) (w : World) (hbk : w.heap[b]? = some (.cells #[p, .slice none 0 0] 83 (0, 0))) :
    Calls Tryd.prog 89 #[.pointer (some ⟨b, 0, none⟩)] w fun e w' => e = .returned (.string ⟨#[]⟩) ∧ SPost (.slice none 0 0) w w' := by
  have hUS : ∀ (W : World) (q : Option Addr), (Builtin.unsafeString_ #[95, 3] 9 #[.pointer q, .int .i64 0]).run Tryd.prog W = .ok (.string .empty) W := fun W q => Lib.run_unsafeString_none W _ _ _ q
  have c1 : w.drew.cell? ⟨b, 1, none⟩ = some (.slice none 0 0) := by
    have : w.drew.heap[b]? = some (.cells #[p, .slice none 0 0] 83 (0, 0)) := hbk
    rw [Lib.cell_of_heap this]; rfl
  have hSD : (Builtin.unsafeSliceData_ #[81] 95 #[.slice none 0 0]).run Tryd.prog w.drew = .ok (.pointer none) w.drew := rfl
  have hmixed := mixed
  go_enter Tryd.func89, Tryd.ntmps89
  go_wp2
  go_region_o
  all_goals (go_wp2; go_ret; exact ⟨rfl, SPost.drew _ w⟩)

set_option maxHeartbeats 2000000 in
set_option maxRecDepth 100000 in
theorem string_room (b g cap : Nat) (p : Value) (w : World) (hc0 : cap ≠ 0) (hbk : w.heap[b]? = some (.cells #[p, .slice (some ⟨g, 0, none⟩) 0 cap] 83 (0, 0))) :
    Calls Tryd.prog 89 #[.pointer (some ⟨b, 0, none⟩)] w fun e w' => e = .returned (.string ⟨#[]⟩) ∧ SPost (.slice (some ⟨g, 0, none⟩) 0 cap) w w' := by
  have hUS : ∀ (W : World) (q : Option Addr), (Builtin.unsafeString_ #[95, 3] 9 #[.pointer q, .int .i64 0]).run Tryd.prog W = .ok (.string .empty) W := fun W q => Lib.run_unsafeString_none W _ _ _ q
  have c1 : w.drew.cell? ⟨b, 1, none⟩ = some (.slice (some ⟨g, 0, none⟩) 0 cap) := by
    have : w.drew.heap[b]? = some (.cells #[p, .slice (some ⟨g, 0, none⟩) 0 cap] 83 (0, 0)) := hbk
    rw [Lib.cell_of_heap this]; rfl
  have hSD : (Builtin.unsafeSliceData_ #[81] 95 #[.slice (some ⟨g, 0, none⟩) 0 cap]).run Tryd.prog w.drew = .ok (.pointer (some ⟨g, 0, none⟩)) w.drew :=
    Lib.run_unsafeSliceData_row _ _ _ _ _ _ hc0
  clear hc0
  have hmixed := mixed
  go_enter Tryd.func89, Tryd.ntmps89
  go_wp2
  go_region_o
  all_goals (go_wp2; go_ret; exact ⟨rfl, SPost.drew _ w⟩)

set_option maxHeartbeats 2000000 in
set_option maxRecDepth 100000 in
theorem string_noroom (b g : Nat) (p : Value) (cur : Array Value) (w : World) (hbk : w.heap[b]? = some (.cells #[p, .slice (some ⟨g, 0, none⟩) 0 0] 83 (0, 0))) (hg : w.heap[g]? = some (.cells cur 5 (0, 0))) :
    Calls Tryd.prog 89 #[.pointer (some ⟨b, 0, none⟩)] w fun e w' => e = .returned (.string ⟨#[]⟩) ∧ SPost (.slice (some ⟨g, 0, none⟩) 0 0) w w' := by
  have hUS : ∀ (W : World) (q : Option Addr), (Builtin.unsafeString_ #[95, 3] 9 #[.pointer q, .int .i64 0]).run Tryd.prog W = .ok (.string .empty) W := fun W q => Lib.run_unsafeString_none W _ _ _ q
  have hlt : b < w.heap.size := (Array.getElem?_eq_some_iff.1 hbk).1
  have c1 : w.drew.cell? ⟨b, 1, none⟩ = some (.slice (some ⟨g, 0, none⟩) 0 0) := by
    have : w.drew.heap[b]? = some (.cells #[p, .slice (some ⟨g, 0, none⟩) 0 0] 83 (0, 0)) := hbk
    rw [Lib.cell_of_heap this]; rfl
  have hSD : (Builtin.unsafeSliceData_ #[81] 95 #[.slice (some ⟨g, 0, none⟩) 0 0]).run Tryd.prog w.drew = .ok (.pointer (some ⟨w.drew.heap.size, 0, none⟩)) (w.drew.alloc (.view ⟨g, 0, none⟩ 5)) :=
    Lib.run_unsafeSliceData_zero w.drew _ _ 5 Tryd.underlying95 ⟨g, 0, none⟩ 0 (5, cur.size) (by have hg' : w.drew.heap[g]? = some (.cells cur 5 (0, 0)) := hg; simp [World.shape?, hg'])
  have c2 : (w.drew.alloc (.view ⟨g, 0, none⟩ 5)).cell? ⟨b, 1, none⟩ = some (.slice (some ⟨g, 0, none⟩) 0 0) := by
    have : (w.drew.alloc (.view ⟨g, 0, none⟩ 5)).heap[b]? = _ := (Lib.alloc_old w.drew _ b hlt).trans hbk
    rw [Lib.cell_of_heap this]; rfl
  have c3 : (w.alloc (.view ⟨g, 0, none⟩ 5)).drew.cell? ⟨b, 1, none⟩ = some (.slice (some ⟨g, 0, none⟩) 0 0) := c2
  have c0 : w.cell? ⟨b, 1, none⟩ = some (.slice (some ⟨g, 0, none⟩) 0 0) := c1
  have hmixed := mixed
  go_enter Tryd.func89, Tryd.ntmps89
  go_wp2
  go_region_o
  all_goals (go_wp2; go_ret; exact ⟨rfl, SPost.alloc _ w _⟩)

theorem stringOf (b : Nat) (p v : Value) (l : List UInt8) (w : World) (h : BAt b p v (Lib.byteCells l) w) :
    Calls Tryd.prog 89 #[.pointer (some ⟨b, 0, none⟩)] w fun e w' => e = .returned (.string ⟨l.toArray⟩) ∧ SPost v w w' := by
  have hown := h.own
  rw [Lib.byteCells_length] at hown
  rcases hown.2 with ⟨rfl, hz⟩ | ⟨g, cap, cur, rfl, _, hg, hnc, hcm, hcs, _⟩
  · obtain rfl := List.eq_nil_of_length_eq_zero hz
    exact string_nil b p w h.blk
  · by_cases hl : l = []
    · subst hl
      by_cases hc : cap = 0
      · subst hc
        exact string_noroom b g p cur w h.blk hg
      · exact string_room b g cap p w hc h.blk
    · exact string_some b g cap p cur l w hl h hg hnc hcm hcs
end Go.Proofs.YtiepbejeiijpmaaDoor
namespace Go.Proofs.YtiepbejeiijpmaaDoor
open Go Go.RowKit Go.Pe

set_option maxHeartbeats 2000000 in
set_option maxRecDepth 100000 in
theorem often_walk (m n : Int) (hm : 0 ≤ m ∧ m ≤ 4194304) (hn : 0 ≤ n ∧ n ≤ 4194304) (all : Bool) (w : World) :
    Calls Tryd.prog 22 #[.int .i64 m, .int .i64 n, .bool all] w fun e w' => e = .returned (.agg #[.int .i64 (oftL m n all).1, .int .i64 (oftL m n all).2.1, .int .i64 (oftL m n all).2.2]) ∧ Below w.heap.size w w' := by
  go_enter Tryd.func22, Tryd.ntmps22
  have h3 : ∀ W, (Builtin.min_ #[3, 3, 3] 3 #[.int .i64 m, .int .i64 n, .int .i64 1]).run Tryd.prog W = .ok (.int .i64 (min (min m n) 1)) W := by
    intro W
    simp only [Builtin.min_, List.foldlM_cons, List.foldlM_nil, Builtin.min2, Sem.run_bind, Sem.run_pure, Result.andThen_ok]
    have : (if 1 < (if n < m then n else m) then (1 : Int) else (if n < m then n else m)) = min (min m n) 1 := by
      split <;> split <;> omega
    rw [this]
  cases all
  · go_wp2
    refine bodyPost_ret (results_cell_row (p := 6) (ty := 29) rfl _ _ w.heap.size 29 _ (0, 0) _ rfl (heap_alloc_new w _) Tryd.underlying29 rfl (by kernel_rfl)) rfl ?_
    exact ⟨by simp only [oftL, Bool.false_eq_true, if_false, Int.min_assoc], (Below.refl _ w).alloc (Nat.le_refl _) _⟩
  · go_wp2
    refine bodyPost_ret (results_cell_row (p := 6) (ty := 29) rfl _ _ w.heap.size 29 _ (0, 0) _ rfl (heap_alloc_new w _) Tryd.underlying29 rfl (by kernel_rfl)) rfl ?_
    exact ⟨by simp only [oftL, if_true], (Below.refl _ w).alloc (Nat.le_refl _) _⟩
end Go.Proofs.YtiepbejeiijpmaaDoor
namespace Go.Proofs.YtiepbejeiijpmaaDoor
open Go Go.Pe Go.Tab Go.RowKit

/-- The table that Itoa reads. -/
def tabName : String := "internal/strconv.uint64pow10"
theorem repl_byC (m : Mem) : ∀ (l : List UInt8) (vs : List Value), RepL m (byC l) vs → vs = Lib.byteCells l
  | [], vs, h => by simpa [byC, RepL, Lib.byteCells] using h
  | b :: l, vs, h => by
    simp only [byC, List.map_cons, RepL, Rep] at h
    obtain ⟨v, r, rfl, ⟨rfl, _⟩, h2⟩ := h
    rw [repl_byC m l r h2]
    rfl
theorem byC_repl (m : Mem) : ∀ l : List UInt8, RepL m (byC l) (Lib.byteCells l)
  | [] => rfl
  | b :: l => ⟨_, _, rfl, ⟨rfl, rfl⟩, byC_repl m l⟩
theorem bytes_one (l : List UInt8) (u : Value) (h : u ∈ Lib.byteCells l) : u.oneCell' = true := by
  simp only [Lib.byteCells, List.mem_map] at h
  obtain ⟨b, _, rfl⟩ := h
  rfl

/-- What a Builder is in memory. -/
theorem bld_at {G : GP} {k : Know} {ow : Own} {w : World} {xs0 : List X} {l : List UInt8} (hp : Hp ⟨G, k.m, Given k ow⟩ k ow w w [.var 83 xs0]) (hl : bldOf [.var 83 xs0] = some l) :
    ∃ b p v, k.μ 0 = some b ∧ (p = .pointer none ∨ p = .pointer (some ⟨b, 0, none⟩)) ∧ BAt b p v (Lib.byteCells l) w ∧ (v.ownBlock = none ∨ ow (.cell 0 1) = some (v, 5, 1, l.length)) := by
  obtain ⟨b, hb, _, _, hbm, vs, hh, _, hvs⟩ := hp.obj 0 _ rfl
  unfold bldOf at hl
  split at hl
  · rename_i e
    simp only [List.cons.injEq, Ob.var.injEq, true_and, and_true] at e
    subst e
    simp only [Option.some.injEq] at hl
    subst hl
    simp only [RepXs, RepX, Rep] at hvs
    obtain ⟨v1, r1, rfl, ⟨rfl, _⟩, v2, r2, rfl, rfl, rfl⟩ := hvs
    exact ⟨b, _, _, hb, .inl rfl, ⟨hh, World.ownsRow_nil w 0 _ 1, by simp [Value.ownBlock]⟩, .inl rfl⟩
  · rename_i cs n e
    simp only [List.cons.injEq, Ob.var.injEq, true_and, and_true] at e
    subst e
    obtain rfl := unby_eq cs l hl
    simp only [RepXs, RepX] at hvs
    obtain ⟨v1, r1, rfl, ⟨b', hb', rfl⟩, v2, r2, rfl, ⟨ho, hcl, hrep⟩, rfl⟩ := hvs
    obtain rfl := Option.some.inj (hb.symm.trans hb')
    obtain rfl : n = l.length := by rw [byC_length] at hcl; omega
    obtain ⟨⟨xs, hown⟩, htok⟩ := hp.tok _ _ _ _ _ ho
    have hxs : xs = Lib.byteCells l := by
      simp only [Rep] at hrep
      obtain ⟨a, cp, us, rfl, _, hul, hum⟩ := hrep
      rw [← repl_byC _ _ _ hul]
      have e1 : us.length = xs.length := by rw [hul.length, hown.1, hcl]
      apply List.ext_getElem?
      intro i
      by_cases hi : i < us.length
      · have hne : us ≠ [] := by rintro rfl; simp at hi
        obtain ⟨b1, o, rfl, hc⟩ := hum hne
        rcases hown.2 with ⟨h0, _⟩ | ⟨g, cap2, cur, hv, _⟩
        · cases h0
        · simp only [Value.slice.injEq, Option.some.injEq, Addr.mk.injEq] at hv
          obtain ⟨⟨rfl, rfl, _⟩, _, rfl⟩ := hv
          have hu : us[i]? = some us[i] := by simp [hi]
          have hc1 := (hp.mem _ _ _ (hc i _ hu)).1
          have hx2 : xs[i]? = some (xs[i]'(by omega)) := by simp [show i < xs.length by omega]
          have hc2 := hown.cells (g := b1) rfl i _ hx2
          rw [Addr.add_lit] at hc2
          rw [hu, hx2, Option.some.inj (hc2.symm.trans hc1)]
      · rw [List.getElem?_eq_none (by omega), List.getElem?_eq_none (by omega)]
    subst hxs
    refine ⟨b, _, _, hb, .inr rfl, ⟨hh, by rw [Lib.byteCells_length]; exact hown, fun e => (htok b e).2.2 0 hb⟩, .inr ho⟩
  · cases hl

/-- The right of a Builder's buffer turns. -/
def owB (ow : Own) (v : Value) (n : Nat) : Own := fun t => if t = .cell 0 1 then some (v, 5, 1, n) else ow t
theorem bld_after {G : GP} {k : Know} {ow : Own} {w w' : World} {xs0 : List X} {l l' : List UInt8} {b : Nat} {v v' : Value} {p : Value} (hp : Hp ⟨G, k.m, Given k ow⟩ k ow w w [.var 83 xs0]) (hb : k.μ 0 = some b)
    (hB : BAt b p v (Lib.byteCells l) w) (hv : v.ownBlock = none ∨ ow (.cell 0 1) = some (v, 5, 1, l.length)) (h : BPost b v w w' v' (Lib.byteCells (l ++ l'))) :
    ∃ k', Hp ⟨G, k.m, Given k ow⟩ k' (owB ow v' (l ++ l').length) w w' [.var 83 (bld (l ++ l'))] ∧ k.m.le k'.m ∧ k'.μ = k.μ := by
  have hbl := Lib.byteCells_length (l ++ l')
  obtain ⟨_, hb', _, hblt, hbm, _⟩ := hp.obj 0 _ rfl
  obtain rfl := Option.some.inj (hb.symm.trans hb')
  let m' : Mem := fun c o => if some c = v'.ownBlock ∧ o < (l ++ l').length then (Lib.byteCells (l ++ l'))[o]? else k.m c o
  have hdom : ∀ r c, k.μ r = some c → r = 0 ∧ c = b := fun r c hr => by
    have := hp.dom r c hr
    simp only [List.length_singleton, Nat.lt_one_iff] at this
    subst this
    exact ⟨rfl, Option.some.inj (hr.symm.trans hb)⟩
  -- the old row, if there is one, is given
  have hold : ∀ g, v.ownBlock = some g → Given k ow g ∧ (∀ o, l.length ≤ o → k.m g o = none) ∧ ∀ t u e z n, t ≠ .cell 0 1 → ow t = some (u, e, z, n) → u.ownBlock ≠ some g := fun g hg => by
    rcases hv with h0 | h0
    · rw [h0] at hg; cases hg
    · obtain ⟨_, ht⟩ := hp.tok _ _ _ _ _ h0
      exact ⟨.inr ⟨_, _, _, _, _, h0, hg⟩, by simpa using (ht g hg).2.1, fun t u e z n hne h1 => hp.tokne _ _ _ _ _ _ _ _ _ _ h0 h1 (Ne.symm hne) g hg⟩
  have hnew : ∀ g, v'.ownBlock = some g → v.ownBlock = some g ∨ w.heap.size ≤ g := fun g hg => by
    rcases h.row with ⟨h1, _⟩ | ⟨⟨g', h1, h2⟩, _⟩
    · exact .inl (h1 ▸ hg)
    · rw [h1] at hg; exact .inr (Option.some.inj hg ▸ h2)
  have hsame : ∀ c, c < w.heap.size → c ≠ b → (some c ≠ v.ownBlock ∨ some c ≠ v'.ownBlock) → w'.heap[c]? = w.heap[c]? := fun c hc hcb hcv => by
    rcases h.row with ⟨h1, h2⟩ | ⟨_, h2⟩
    · exact h2 c hc hcb (by rw [h1] at hcv; exact hcv.elim id id)
    · exact h2 c hc hcb
  have hrow : ∀ c o u, v'.ownBlock = some c → (Lib.byteCells (l ++ l'))[o]? = some u → w'.cell? ⟨c, o, none⟩ = some u := fun c o u hc hu => by
    have := h.at'.own.cells (g := c) hc o u hu
    rwa [Addr.add_lit, Nat.zero_add] at this
  have hle : k.m.le m' := fun c o u hu => by
    simp only [m']
    split
    · rename_i hc
      rcases hnew c hc.1.symm with h1 | h1
      · have ho : o < l.length := by
          rcases Nat.lt_or_ge o l.length with h2 | h2
          · exact h2
          · rw [(hold c h1).2.1 o h2] at hu; cases hu
        have hx : (Lib.byteCells l)[o]? = some ((Lib.byteCells l)[o]'(by rw [Lib.byteCells_length]; exact ho)) := by simp [Lib.byteCells_length, ho]
        have h2 := hB.own.cells (g := c) h1 o _ hx
        rw [Addr.add_lit, Nat.zero_add] at h2
        have h3 := (hp.mem c o u hu).1
        have e := Option.some.inj (h2.symm.trans h3)
        simp only [Lib.byteCells, List.map_append]
        rw [List.getElem?_append_left (by simpa using ho)]
        rw [← e]
        exact hx
      · have := mem_lt hp.mem hu
        omega
    · exact hu
  refine ⟨⟨m', k.μ⟩, ?_, hle, rfl⟩
  exact {
    good := hp.good
    below := ⟨h.os, h.tape, h.output, h.size, fun c hc hm => hsame c hc (fun e => hm (.inl ⟨0, by rw [e]; exact hb⟩)) (.inl fun e => hm (hold c e.symm).1)⟩
    mem := fun c o u hu => by
      simp only [m'] at hu
      split at hu
      · rename_i hc
        exact ⟨hrow c o u hc.1.symm hu, bytes_one _ u (List.mem_of_getElem? hu)⟩
      · rename_i hc
        obtain ⟨h1, h2⟩ := hp.mem c o u hu
        have hlt := mem_lt hp.mem hu
        refine ⟨(World.cell?_of_block (a := ⟨c, o, none⟩) (hsame c hlt ?_ ?_)).trans h1, h2⟩
        · rintro rfl; rw [hbm o] at hu; cases hu
        · by_cases e : some c = v'.ownBlock
          · left
            intro e2
            have : ¬ o < (l ++ l').length := fun h3 => hc ⟨e, h3⟩
            rw [(hold c e2.symm).2.1 o (by simp at this; omega)] at hu
            cases hu
          · exact .inr e
    obj := fun r ob hr => by
      match r, hr with
      | 0, hr =>
        simp only [List.getElem?_cons_zero, Option.some.injEq] at hr
        subst hr
        refine ⟨b, hb, .inr (.inl ⟨0, hb⟩), h.at'.lt, fun o => ?_, [.pointer (some ⟨b, 0, none⟩), v'], h.at'.blk, ?_, ?_⟩
        · simp only [m']
          rw [if_neg fun e => h.at'.ne e.1.symm]
          exact hbm o
        · intro u hu
          simp only [List.mem_cons, List.not_mem_nil, or_false] at hu
          rcases hu with rfl | rfl
          · rfl
          · rcases h.at'.own.2 with ⟨rfl, _⟩ | ⟨g, cap, cur, rfl, _⟩ <;> rfl
        · refine ⟨_, _, rfl, ⟨b, hb, rfl⟩, _, _, rfl, ⟨?_, ?_, ?_⟩, rfl⟩
          · simp [owB]
          · rw [byC_length]; omega
          · have hown := h.at'.own
            rw [hbl] at hown
            rcases hown.2 with ⟨e1, e2⟩ | ⟨g, cap, cur, e1, _, _, hnc, _⟩
            · have : l ++ l' = [] := List.eq_nil_of_length_eq_zero e2
              rw [this, e1]
              exact ⟨none, 0, [], rfl, Nat.le_refl _, rfl, fun h => absurd rfl h⟩
            · refine ⟨_, cap, Lib.byteCells (l ++ l'), e1, hnc, byC_repl _ _, fun _ => ⟨g, 0, rfl, fun i u hu => ?_⟩⟩
              simp only [m', Nat.zero_add]
              rw [if_pos ⟨by rw [e1]; rfl, by rw [← hbl]; exact (List.getElem?_eq_some_iff.1 hu).1⟩]
              exact hu
    dom := hp.dom
    inj := hp.inj
    tok := fun t u e z n ht => by
      simp only [owB] at ht
      split at ht
      · simp only [Option.some.injEq, Prod.mk.injEq] at ht
        obtain ⟨rfl, rfl, rfl, rfl⟩ := ht
        refine ⟨⟨_, by have := h.at'.own; rw [hbl] at this; exact this⟩, fun g hg => ⟨?_, fun o ho => ?_, fun r hr => ?_⟩⟩
        · rcases hnew g hg with h1 | h1
          · exact .inr (hold g h1).1
          · exact .inl h1
        · simp only [m']
          rw [if_neg fun e => by have := e.2; omega]
          rcases hnew g hg with h1 | h1
          · exact (hold g h1).2.1 o (by simp at ho; omega)
          · cases hm : k.m g o with
            | none => rfl
            | some u => have := mem_lt hp.mem hm; omega
        · obtain ⟨_, rfl⟩ := hdom r g hr
          exact h.at'.ne hg
      · rename_i hne
        obtain ⟨⟨xs, h1⟩, h2⟩ := hp.tok t u e z n ht
        refine ⟨⟨xs, ownsRow_keep (fun g hg hlt => hsame g hlt (fun e => (h2 g hg).2.2 0 (by rw [e]; exact hb)) (.inl fun e => (hold g e.symm).2.2 t u _ _ _ hne ht hg)) h1⟩, fun g hg => ⟨(h2 g hg).1, fun o ho => ?_, (h2 g hg).2.2⟩⟩
        simp only [m']
        rw [if_neg]
        · exact (h2 g hg).2.1 o ho
        · rintro ⟨e, _⟩
          rcases hnew g e.symm with h3 | h3
          · exact (hold g h3).2.2 t u _ _ _ hne ht hg
          · have := (hp.tlt ht hg).2; omega
    tokne := fun t t' u e z n u' e' z' n' ht ht' hne g hg hg' => by
      have key : ∀ t u e z n, t ≠ .cell 0 1 → ow t = some (u, e, z, n) → u.ownBlock = some g → v'.ownBlock = some g → False := fun t u e z n h0 h1 h2 h3 => by
        rcases hnew g h3 with h4 | h4
        · exact (hold g h4).2.2 t u _ _ _ h0 h1 h2
        · have := (hp.tlt h1 h2).2; omega
      simp only [owB] at ht ht'
      split at ht
      · rename_i e1
        simp only [Option.some.injEq, Prod.mk.injEq] at ht
        obtain ⟨rfl, rfl, rfl, rfl⟩ := ht
        split at ht'
        · rename_i e2
          exact hne (e1.trans e2.symm)
        · rename_i e2
          exact key t' u' _ _ _ e2 ht' hg' hg
      · rename_i e1
        split at ht'
        · simp only [Option.some.injEq, Prod.mk.injEq] at ht'
          obtain ⟨rfl, rfl, rfl, rfl⟩ := ht'
          exact key t u _ _ _ e1 ht hg hg'
        · exact hp.tokne t t' _ _ _ _ _ _ _ _ ht ht' hne g hg hg'
    m0 := fun c o u hu hc hm => by
      simp only [m'] at hu
      split at hu
      · rename_i e
        rcases hnew c e.1.symm with h3 | h3
        · exact absurd (hold c h3).1 hm
        · omega
      · exact hu }

/-- What is given of the table. -/
def GT : GP where
  holds w := Lib.TabIs Tryd.prog w tabName .u64 Lib.pow10Tab ∧ ∃ m, w.cell? ⟨0, 0, none⟩ = some (.int .i64 m)
  blk b := Tryd.prog.globalNamed tabName = some b ∨ b = 0
  keep w w' h hk := by
    obtain ⟨h, m, hm⟩ := h
    refine ⟨?_, m, (World.cell?_of_block (a := ⟨0, 0, none⟩) (hk 0 (.inr rfl))).trans hm⟩
    unfold Lib.TabIs World.var? at h ⊢
    cases hg : Tryd.prog.globalNamed tabName with
    | none => rw [hg] at h; cases h
    | some g =>
      rw [hg] at h
      simp only [Option.bind_some] at h ⊢
      rw [hk g (.inl hg)]
      exact h

theorem itoa_sound (xs : List X) (obs : List Ob) (an : An) (h : itoaP xs obs = some an) : Sound Tryd.prog GT 83 xs obs an := by
  unfold itoaP at h
  split at h
  · rename_i n
    split at h
    · rename_i hn
      simp only [Option.some.injEq] at h
      subst h
      simp only [small64, decide_eq_true_eq] at hn
      intro fn hf k ow w vs hp hold hcl hvs
      simp only [RepXs, RepX, Rep] at hvs
      obtain ⟨v, r, rfl, ⟨rfl, _⟩, rfl⟩ := hvs
      refine (Tryd.strconv_Itoa n hn.1 hn.2 w hp.table.1).mono ?_
      rintro e w' ⟨rfl, kk, os, rfl⟩
      exact ⟨k, ow, [_], rfl, hp.grow (Lib.below_grow _ _ (Nat.le_refl _) _ _), Mem.le_refl _, Nat.le_refl _, fun _ _ => rfl, hold, hcl, _, _, rfl, ⟨rfl, rfl⟩, rfl⟩
    · cases h
  · cases h

theorem bld_obs {obs : List Ob} {l : List UInt8} (h : bldOf obs = some l) : ∃ xs0, obs = [.var 83 xs0] := by
  unfold bldOf at h
  split at h
  · exact ⟨_, rfl⟩
  · exact ⟨_, rfl⟩
  · cases h
theorem owB_old {ow : Own} (hold : ∀ t p, ow t = some p → t.older 1 fun _ => False) (v : Value) (n : Nat) : ∀ t p, owB ow v n t = some p → t.older 1 fun _ => False := fun t p ht => by
  simp only [owB] at ht
  split at ht
  · rename_i e; subst e; trivial
  · exact hold t p ht
theorem owB_cl {ow : Own} {m : Nat} (hm : 0 < m) (hcl : ∀ r off p, ow (.cell r off) = some p → r < m) (v : Value) (n : Nat) : ∀ r off p, owB ow v n (.cell r off) = some p → r < m := fun r off p ht => by
  simp only [owB] at ht
  split at ht
  · rename_i e; cases e; exact hm
  · exact hcl r off p ht

theorem ws_sound (xs : List X) (obs : List Ob) (an : An) (h : wsP xs obs = some an) : Sound Tryd.prog GT 87 xs obs an := by
  unfold wsP at h
  split at h
  · rename_i s
    simp only [Option.bind_eq_some_iff] at h
    obtain ⟨l, hl, h⟩ := h
    split at h
    · rename_i hlen
      simp only [Option.some.injEq] at h
      subst h
      obtain ⟨xs0, rfl⟩ := bld_obs hl
      intro fn hf k ow w vs hp hold hcl hvs
      obtain ⟨b, p, v, hb, hpp, hB, hv⟩ := bld_at hp hl
      simp only [RepXs, RepX, Rep] at hvs
      obtain ⟨v1, r1, rfl, ⟨b', hb', rfl⟩, v2, r2, rfl, ⟨rfl, _⟩, rfl⟩ := hvs
      obtain rfl := Option.some.inj (hb.symm.trans hb')
      refine (writeString b p v (Lib.byteCells l) s w hpp hB (by rw [Lib.byteCells_length]; exact hlen)).mono ?_
      rintro e w' ⟨rfl, v', hpost⟩
      have hpost' : BPost b v w w' v' (Lib.byteCells (l ++ s.data.toList)) := by
        have : Lib.byteCells (l ++ s.data.toList) = Lib.byteCells l ++ Lib.strCells s := by simp [Lib.byteCells, Lib.strCells]
        rw [this]; exact hpost
      obtain ⟨k', g1, g2, g3⟩ := bld_after hp hb hB hv hpost'
      exact ⟨k', _, [.int .i64 s.size, .nilIface], rfl, g1, g2, Nat.le_refl _, fun r _ => by rw [g3], owB_old hold _ _, owB_cl Nat.zero_lt_one hcl _ _, _, _, rfl, ⟨rfl, rfl⟩, _, _, rfl, ⟨rfl, rfl⟩, rfl⟩
    · cases h
  · cases h

theorem wb_sound (xs : List X) (obs : List Ob) (an : An) (h : wbP xs obs = some an) : Sound Tryd.prog GT 88 xs obs an := by
  unfold wbP at h
  split at h
  · rename_i n
    simp only [Option.bind_eq_some_iff] at h
    obtain ⟨l, hl, h⟩ := h
    split at h
    · rename_i hlen
      simp only [Option.some.injEq] at h
      subst h
      obtain ⟨hlen, hn0, hn1⟩ := hlen
      obtain ⟨xs0, rfl⟩ := bld_obs hl
      intro fn hf k ow w vs hp hold hcl hvs
      obtain ⟨b, p, v, hb, hpp, hB, hv⟩ := bld_at hp hl
      simp only [RepXs, RepX, Rep] at hvs
      obtain ⟨v1, r1, rfl, ⟨b', hb', rfl⟩, v2, r2, rfl, ⟨rfl, _⟩, rfl⟩ := hvs
      obtain rfl := Option.some.inj (hb.symm.trans hb')
      refine (writeByte b p v (Lib.byteCells l) n w hpp hB (by rw [Lib.byteCells_length]; exact hlen)).mono ?_
      rintro e w' ⟨rfl, v', hpost⟩
      have hpost' : BPost b v w w' v' (Lib.byteCells (l ++ [UInt8.ofNat n.toNat])) := by
        have : Lib.byteCells (l ++ [UInt8.ofNat n.toNat]) = Lib.byteCells l ++ [.int .u8 n] := by
          have : ((UInt8.ofNat n.toNat).toNat : Int) = n := by simp; omega
          simp only [Lib.byteCells, List.map_append, List.map_cons, List.map_nil, this]
        rw [this]; exact hpost
      obtain ⟨k', g1, g2, g3⟩ := bld_after hp hb hB hv hpost'
      exact ⟨k', _, [.nilIface], rfl, g1, g2, Nat.le_refl _, fun r _ => by rw [g3], owB_old hold _ _, owB_cl Nat.zero_lt_one hcl _ _, _, _, rfl, ⟨rfl, rfl⟩, rfl⟩
    · cases h
  · cases h

theorem bs_sound (xs : List X) (obs : List Ob) (an : An) (h : bsP xs obs = some an) : Sound Tryd.prog GT 89 xs obs an := by
  unfold bsP at h
  split at h
  · simp only [Option.map_eq_some_iff] at h
    obtain ⟨l, hl, rfl⟩ := h
    obtain ⟨xs0, rfl⟩ := bld_obs hl
    intro fn hf k ow w vs hp hold hcl hvs
    obtain ⟨b, p, v, hb, hpp, hB, hv⟩ := bld_at hp hl
    simp only [RepXs, RepX] at hvs
    obtain ⟨v1, r1, rfl, ⟨b', hb', rfl⟩, rfl⟩ := hvs
    obtain rfl := Option.some.inj (hb.symm.trans hb')
    refine (stringOf b p v l w hB).mono ?_
    rintro e w' ⟨rfl, hpost⟩
    obtain ⟨_, hb', _, hblt, hbm, _⟩ := hp.obj 0 _ rfl
    obtain rfl := Option.some.inj (hb.symm.trans hb')
    have hgiven : ∀ g, v.ownBlock = some g → Given k ow g := fun g hg => by
      rcases hv with h0 | h0
      · rw [h0] at hg; cases hg
      · exact .inr ⟨_, _, _, _, _, h0, hg⟩
    refine ⟨k, ow.del (.cell 0 1), [_], rfl, ?_, Mem.le_refl _, Nat.le_refl _, fun _ _ => rfl, fun t p ht => ?_, fun r off p ht => ?_, _, _, rfl, ⟨rfl, rfl⟩, rfl⟩
    · exact {
        good := hp.good
        below := ⟨hpost.os, hpost.tape, hpost.output, hpost.size, fun c hc hm => hpost.grown c hc fun e => hm (hgiven c e.symm)⟩
        mem := fun c o u hu => ⟨(hpost.cell c o (mem_lt hp.mem hu)).trans (hp.mem c o u hu).1, (hp.mem c o u hu).2⟩
        obj := fun r ob hr => by
          match r, hr with
          | 0, hr =>
            simp only [List.getElem?_cons_zero, Option.some.injEq] at hr
            subst hr
            refine ⟨b, hb, .inr (.inl ⟨0, hb⟩), Nat.lt_of_lt_of_le hblt hpost.size, hbm, [p, v], ?_, ?_, ?_⟩
            · rw [hpost.grown b hblt fun e => hB.ne e.symm]
              exact hB.blk
            · intro u hu
              simp only [List.mem_cons, List.not_mem_nil, or_false] at hu
              rcases hu with rfl | rfl
              · rcases hpp with rfl | rfl <;> rfl
              · rcases hB.own.2 with ⟨rfl, _⟩ | ⟨g, cap, cur, rfl, _⟩ <;> rfl
            · exact ⟨_, _, rfl, trivial, _, _, rfl, trivial, rfl⟩
        dom := hp.dom
        inj := hp.inj
        tok := fun t u e z n ht => by
          simp only [Own.del] at ht
          split at ht
          · cases ht
          · rename_i hne
            obtain ⟨⟨xs, h1⟩, h2⟩ := hp.tok t u e z n ht
            refine ⟨⟨xs, ownsRow_keep (fun g hg hlt => hpost.grown g hlt fun e => ?_) h1⟩, h2⟩
            rcases hv with h0 | h0
            · rw [h0] at e; cases e
            · exact hp.tokne _ _ _ _ _ _ _ _ _ _ h0 ht (Ne.symm hne) g e.symm hg
        tokne := fun t t' u e z n u' e' z' n' ht ht' => by
          simp only [Own.del] at ht ht'
          split at ht
          · cases ht
          · split at ht'
            · cases ht'
            · exact hp.tokne t t' _ _ _ _ _ _ _ _ ht ht'
        m0 := hp.m0 }
    · simp only [Own.del] at ht
      split at ht
      · cases ht
      · exact hold t p ht
    · simp only [Own.del] at ht
      split at ht
      · cases ht
      · exact hcl r off p ht
  · cases h

theorem often_sound (xs : List X) (obs : List Ob) (an : An) (h : oftenP xs obs = some an) : Sound Tryd.prog GT 22 xs obs an := by
  unfold oftenP at h
  split at h
  · rename_i m n all
    split at h
    · rename_i hmn
      simp only [Option.some.injEq] at h
      subst h
      intro fn hf k ow w vs hp hold hcl hvs
      simp only [RepXs, RepX, Rep] at hvs
      obtain ⟨v, r, rfl, ⟨rfl, _⟩, v2, r2, rfl, ⟨rfl, _⟩, v3, r3, rfl, ⟨rfl, _⟩, rfl⟩ := hvs
      refine (often_walk m n ⟨hmn.1, hmn.2.1⟩ ⟨hmn.2.2.1, hmn.2.2.2⟩ all w).mono ?_
      rintro e w' ⟨rfl, hB⟩
      exact ⟨k, ow, [_], rfl, hp.grow hB, Mem.le_refl _, Nat.le_refl _, fun _ _ => rfl, hold, hcl, _, _, rfl, ⟨[_, _, _], rfl, by simp [Value.oneCell'], ⟨_, _, rfl, ⟨rfl, rfl⟩, _, _, rfl, ⟨rfl, rfl⟩, _, _, rfl, ⟨rfl, rfl⟩, rfl⟩⟩, rfl⟩
    · cases h
  · cases h

theorem sc_sound (xs : List X) (obs : List Ob) (an : An) (h : scP xs obs = some an) : Sound Tryd.prog GT 54 xs obs an := by
  unfold scP at h
  split at h
  · rename_i a b
    simp only [Option.some.injEq] at h
    subst h
    intro fn hf k ow w vs hp hold hcl hvs
    simp only [RepXs, RepX, Rep] at hvs
    obtain ⟨v, r, rfl, ⟨rfl, _⟩, v2, r2, rfl, ⟨rfl, _⟩, rfl⟩ := hvs
    refine (Tryd.strings_Compare a b w).mono ?_
    rintro e w' ⟨rfl, rfl⟩
    exact ⟨k, ow, [_], rfl, hp, Mem.le_refl _, Nat.le_refl _, fun _ _ => rfl, hold, hcl, _, _, rfl, ⟨rfl, rfl⟩, rfl⟩
  · cases h

theorem odd_walk (r : Nat) (w : World) : Calls Tryd.prog 59 #[.int .i32 (r : Int)] w fun e w' => e = .returned (.bool (oddR r)) ∧ Below w.heap.size w w' := by
  unfold oddR
  by_cases h1 : (r : Int) < 32
  · have h2 : r < 32 := by omega
    go_enter Tryd.func59, Tryd.ntmps59
    go_wp2
    go_ret
    exact ⟨by simp [h2], .refl _ _⟩
  · have h2 : ¬ r < 32 := by omega
    by_cases h3 : (126 : Int) < r
    · have h4 : 126 < r := by omega
      go_enter Tryd.func59, Tryd.ntmps59
      go_wp2
      go_ret
      exact ⟨by simp [h4], .refl _ _⟩
    · have h4 : ¬ 126 < r := by omega
      go_enter Tryd.func59, Tryd.ntmps59
      go_wp2
      go_ret
      exact ⟨by simp [h2, h4], .refl _ _⟩
theorem ix_sound (xs : List X) (obs : List Ob) (an : An) (h : ixP xs obs = some an) : Sound Tryd.prog GT 58 xs obs an := by
  unfold ixP at h
  split at h
  · rename_i s f
    split at h
    · rename_i hf
      subst hf
      simp only [Option.some.injEq] at h
      subst h
      intro fn hf k ow w vs hp hold hcl hvs
      simp only [RepXs, RepX, Rep, RepL] at hvs
      obtain ⟨v, r, rfl, ⟨rfl, _⟩, v2, r2, rfl, ⟨us, rfl, rfl⟩, rfl⟩ := hvs
      refine (Tryd.strings_IndexFunc_grows 59 #[] (enters_of Tryd.func59 (by kernel_rfl) rfl) oddR s w fun W x _ _ => odd_walk x W).mono ?_
      rintro e w' ⟨rfl, hB⟩
      exact ⟨k, ow, [_], rfl, hp.grow hB, Mem.le_refl _, Nat.le_refl _, fun _ _ => rfl, hold, hcl, _, _, rfl, ⟨rfl, rfl⟩, rfl⟩
    · cases h
  · cases h
theorem ra_sound (xs : List X) (obs : List Ob) (an : An) (h : raP xs obs = some an) : Sound Tryd.prog GT 66 xs obs an := by
  unfold raP at h
  split at h
  · rename_i s a b
    split at h
    · rename_i hc
      simp only [Option.some.injEq] at h
      subst h
      intro fn hf k ow w vs hp hold hcl hvs
      simp only [RepXs, RepX, Rep] at hvs
      obtain ⟨v, r, rfl, ⟨rfl, _⟩, v2, r2, rfl, ⟨rfl, _⟩, v3, r3, rfl, ⟨rfl, _⟩, rfl⟩ := hvs
      obtain ⟨m, hm⟩ := hp.table.2
      refine (Tryd.strings_ReplaceAll s a b m w hc.1 hm hc.2.1 hc.2.2).mono ?_
      rintro e w' ⟨rfl, hB⟩
      exact ⟨k, ow, [_], rfl, hp.grow hB, Mem.le_refl _, Nat.le_refl _, fun _ _ => rfl, hold, hcl, _, _, rfl, ⟨rfl, rfl⟩, rfl⟩
    · cases h
  · cases h

/-- What is given holds, the sort left out. -/
theorem prB_sound {b : Bool} (hs : b = true → ∀ xs obs an, sortedP xs obs = some an → Sound Tryd.prog GT 41 xs obs an) : PrSound Tryd.prog GT (prB b) where
  prim f xs obs an h := by
    replace h : prims b f xs obs = some an := h
    unfold prims at h
    split at h
    · rename_i e; subst e; exact itoa_sound xs obs an h
    split at h
    · rename_i e; subst e; exact ws_sound xs obs an h
    split at h
    · rename_i e; subst e; exact wb_sound xs obs an h
    split at h
    · rename_i e; subst e; exact bs_sound xs obs an h
    split at h
    · rename_i e; subst e; exact often_sound xs obs an h
    split at h
    · rename_i e; subst e; exact sc_sound xs obs an h
    split at h
    · rename_i e; subst e; exact ix_sound xs obs an h
    split at h
    · rename_i e; subst e; exact ra_sound xs obs an h
    split at h
    · rename_i e
      subst e
      split at h
      · rename_i hb; exact hs hb xs obs an h
      · cases h
    · cases h
theorem pr0_sound : PrSound Tryd.prog GT (prB false) := prB_sound fun h => by cases h
end Go.Proofs.YtiepbejeiijpmaaDoor

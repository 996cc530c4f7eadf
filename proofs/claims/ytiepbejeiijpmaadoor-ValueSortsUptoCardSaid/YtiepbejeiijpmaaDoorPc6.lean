/-
  The document's answer for values (chapter 3), by the evaluator: orders of values and rows, copies. Conditions: none.
-/
import Derived.Test.YtiepbejeiijpmaaDoorPc5
import Derived.Lib.ItoaNum
import Derived.Lib.Bytealg
import Derived.Lib.Replace
import Derived.Lib.DecodeN
import Derived.Shelf.GgClosure.StringsIndexFunc
namespace Go.Tab

/-- What an order is. -/
structure IsOrd {α : Type} (f : α → α → Int) : Prop where
  sgn : ∀ a b, f a b = -1 ∨ f a b = 0 ∨ f a b = 1
  zero : ∀ a b, f a b = 0 ↔ a = b
  anti : ∀ a b, f a b = - f b a
  tr : ∀ a b c, f a b ≤ 0 → f b c ≤ 0 → f a c ≤ 0

theorem IsOrd.self {α : Type} {f : α → α → Int} (h : IsOrd f) (a : α) : f a a = 0 := (h.zero a a).2 rfl
theorem IsOrd.lt_tr {α : Type} {f : α → α → Int} (h : IsOrd f) {a b c : α} (h1 : f a b < 0) (h2 : f b c < 0) : f a c < 0 := by
  have h3 := h.tr a b c (by omega) (by omega)
  rcases Int.lt_or_eq_of_le h3 with h4 | h4
  · exact h4
  · have := (h.zero a c).1 h4
    subst this
    have := h.anti a b
    omega

def ints (a b : Int) : Int := if a < b then -1 else if b < a then 1 else 0
theorem ints_ord : IsOrd ints where
  sgn := fun a b => by unfold ints; split <;> (try split) <;> omega
  zero := fun a b => by unfold ints; split <;> (try split) <;> omega
  anti := fun a b => by unfold ints; split <;> split <;> (try split) <;> (try split) <;> omega
  tr := fun a b c => by unfold ints; repeat' split
                        all_goals omega

/-- Item by item, the shorter one first. -/
def lexL {α : Type} (f : α → α → Int) : List α → List α → Int
  | [], [] => 0
  | [], _ :: _ => -1
  | _ :: _, [] => 1
  | a :: r, b :: q => if f a b = 0 then lexL f r q else f a b

theorem lexL_ord {α : Type} {f : α → α → Int} (h : IsOrd f) : IsOrd (lexL f) where
  sgn := fun a => by
    induction a with
    | nil => intro b; cases b <;> simp [lexL]
    | cons x r ih =>
      intro b
      cases b with
      | nil => simp [lexL]
      | cons y q =>
        simp only [lexL]
        split
        · exact ih q
        · exact h.sgn x y
  zero := fun a => by
    induction a with
    | nil => intro b; cases b <;> simp [lexL]
    | cons x r ih =>
      intro b
      cases b with
      | nil => simp [lexL]
      | cons y q =>
        simp only [lexL]
        split
        · rename_i hxy
          rw [ih q, List.cons.injEq]
          simp [(h.zero x y).1 hxy]
        · rename_i hxy
          simp only [hxy, false_iff, List.cons.injEq, not_and]
          intro e
          exact (hxy ((h.zero x y).2 e)).elim
  anti := fun a => by
    induction a with
    | nil => intro b; cases b <;> simp [lexL]
    | cons x r ih =>
      intro b
      cases b with
      | nil => simp [lexL]
      | cons y q =>
        have := h.anti x y
        simp only [lexL]
        split
        · rw [if_pos (by omega)]; exact ih q
        · rw [if_neg (by omega)]; exact this
  tr := fun a => by
    induction a with
    | nil => intro b c _ _; cases c <;> simp [lexL]
    | cons x r ih =>
      intro b c h1 h2
      cases b with
      | nil => simp [lexL] at h1
      | cons y q =>
        cases c with
        | nil => simp [lexL] at h2
        | cons z t =>
          simp only [lexL] at h1 h2 ⊢
          split at h1
          · rename_i e1
            obtain rfl := (h.zero x y).1 e1
            split at h2
            · rename_i e2; rw [if_pos e2]; exact ih q t h1 h2
            · rename_i e2; rw [if_neg e2]; exact h2
          · rename_i e1
            split at h2
            · rename_i e2
              obtain rfl := (h.zero y z).1 e2
              rw [if_neg e1]; exact h1
            · rename_i e2
              have := h.lt_tr (a := x) (b := y) (c := z) (by omega) (by omega)
              rw [if_neg (by omega)]
              omega

def byteO (a b : UInt8) : Int := ints a.toNat b.toNat
theorem byteO_ord : IsOrd byteO where
  sgn := fun a b => ints_ord.sgn _ _
  zero := fun a b => by unfold byteO; rw [ints_ord.zero, ← UInt8.toNat_inj]; omega
  anti := fun a b => ints_ord.anti _ _
  tr := fun a b c => ints_ord.tr _ _ _
/-- Texts, byte by byte. -/
def texts : List UInt8 → List UInt8 → Int := lexL byteO
theorem texts_ord : IsOrd texts := lexL_ord byteO_ord

/-- A value: kind, number, text. -/
structure V where
  k : Int
  n : Int
  s : ByteArray
  deriving DecidableEq

def V.t (v : V) : List UInt8 := v.s.data.toList
theorem toList_inj {a b : ByteArray} : a.data.toList = b.data.toList ↔ a = b := by
  constructor
  · intro h
    cases a with
    | mk x => cases b with
      | mk y => simp at h; rw [h]
  · rintro rfl; rfl

def order (a b : V) : Int := if a.k = b.k then (if a.n = b.n then texts a.t b.t else ints a.n b.n) else ints a.k b.k
theorem order_ord : IsOrd order where
  sgn := fun a b => by
    unfold order
    split
    · split
      · exact texts_ord.sgn _ _
      · exact ints_ord.sgn _ _
    · exact ints_ord.sgn _ _
  zero := fun a b => by
    unfold order
    cases a; cases b
    simp only [V.mk.injEq, V.t]
    split
    · rename_i h1
      split
      · rename_i h2; rw [texts_ord.zero, toList_inj]; simp [h1, h2]
      · rename_i h2; rw [ints_ord.zero]; simp [h2]
    · rename_i h1; rw [ints_ord.zero]; simp [h1]
  anti := fun a b => by
    unfold order
    by_cases h1 : a.k = b.k
    · by_cases h2 : a.n = b.n
      · rw [if_pos h1, if_pos h2, if_pos h1.symm, if_pos h2.symm]; exact texts_ord.anti _ _
      · rw [if_pos h1, if_neg h2, if_pos h1.symm, if_neg (Ne.symm h2)]; exact ints_ord.anti _ _
    · rw [if_neg h1, if_neg (Ne.symm h1)]; exact ints_ord.anti _ _
  tr := fun a b c h1 h2 => by
    unfold order at *
    unfold ints at *
    have ht := texts_ord.tr a.t b.t c.t
    repeat' split at h1
    all_goals (repeat' split at h2)
    all_goals (repeat' split)
    all_goals (first | omega | exact ht h1 h2)

/-- Rows, value by value. -/
def ords : List V → List V → Int := lexL order
theorem ords_ord : IsOrd ords := lexL_ord order_ord
end Go.Tab
namespace Go.Tab
section
variable {α : Type} {f : α → α → Int}

/-- One more, behind all that stand ahead of it or are level. -/
def insF (f : α → α → Int) (x : α) : List α → List α
  | [] => [x]
  | y :: l => if f y x ≤ 0 then y :: insF f x l else x :: y :: l
def sortBy (f : α → α → Int) (l : List α) : List α := l.foldl (fun acc x => insF f x acc) []
def Rises (f : α → α → Int) (l : List α) : Prop := l.Pairwise fun a b => f a b ≤ 0

theorem insF_perm (x : α) : ∀ l : List α, (insF f x l).Perm (x :: l)
  | [] => .refl _
  | y :: l => by
    unfold insF
    split
    · exact ((insF_perm x l).cons y).trans (.swap x y l)
    · exact .refl _
theorem insF_mem (x z : α) (l : List α) : z ∈ insF f x l ↔ z = x ∨ z ∈ l := by rw [(insF_perm x l).mem_iff, List.mem_cons]
theorem insF_rises (h : IsOrd f) (x : α) : ∀ l : List α, Rises f l → Rises f (insF f x l)
  | [], _ => by simp [Rises, insF]
  | y :: l, hl => by
    unfold Rises at hl
    rw [List.pairwise_cons] at hl
    unfold insF
    split
    · rename_i hy
      refine List.pairwise_cons.2 ⟨fun z hz => ?_, insF_rises h x l hl.2⟩
      rcases (insF_mem x z l).1 hz with rfl | hz
      · exact hy
      · exact hl.1 z hz
    · rename_i hy
      have hxy : f x y ≤ 0 := by have := h.anti x y; omega
      refine List.pairwise_cons.2 ⟨fun z hz => ?_, List.pairwise_cons.2 hl⟩
      rcases List.mem_cons.1 hz with rfl | hz
      · exact hxy
      · exact h.tr x y z hxy (hl.1 z hz)
theorem foldl_ins (h : IsOrd f) : ∀ (l acc : List α), Rises f acc → Rises f (l.foldl (fun acc x => insF f x acc) acc) ∧ (l.foldl (fun acc x => insF f x acc) acc).Perm (l ++ acc)
  | [], acc, ha => ⟨ha, .refl _⟩
  | x :: l, acc, ha => by
    obtain ⟨h1, h2⟩ := foldl_ins h l (insF f x acc) (insF_rises h x acc ha)
    refine ⟨h1, h2.trans ?_⟩
    refine ((insF_perm x acc).append_left l).trans ?_
    exact List.perm_middle
theorem sortBy_rises (h : IsOrd f) (l : List α) : Rises f (sortBy f l) := (foldl_ins h l [] List.Pairwise.nil).1
theorem sortBy_perm (h : IsOrd f) (l : List α) : (sortBy f l).Perm l := by
  have := (foldl_ins h l [] List.Pairwise.nil).2
  rwa [List.append_nil] at this
/-- Sorted, and the same bag: the same list. -/
theorem rises_unique (h : IsOrd f) {l q : List α} (hl : Rises f l) (hq : Rises f q) (hp : l.Perm q) : l = q :=
  List.Perm.eq_of_pairwise (fun a b _ _ h1 h2 => (h.zero a b).1 (by have := h.anti a b; omega)) hl hq hp
theorem sortBy_unique (h : IsOrd f) {l q : List α} (hl : Rises f l) (hp : l.Perm q) : l = sortBy f q := rises_unique h hl (sortBy_rises h q) (hp.trans (sortBy_perm h q).symm)
theorem sortBy_perm_eq (h : IsOrd f) {l q : List α} (hp : l.Perm q) : sortBy f l = sortBy f q := sortBy_unique h (sortBy_rises h l) ((sortBy_perm h l).trans hp)
theorem sortBy_of_rises (h : IsOrd f) {l : List α} (hl : Rises f l) : sortBy f l = l := (sortBy_unique h hl (.refl _)).symm
end
def sortF : List (List V) → List (List V) := sortBy ords
theorem texts_cmp : ∀ a b : List UInt8, Lib.compareBytes a b = texts a b
  | [], [] => rfl
  | [], _ :: _ => rfl
  | _ :: _, [] => rfl
  | a :: l, b :: q => by
    have ih := texts_cmp l q
    unfold texts at ih ⊢
    simp only [Lib.compareBytes, lexL, byteO, ints, UInt8.lt_iff_toNat_lt, Int.ofNat_lt, ih]
    by_cases h1 : a.toNat < b.toNat
    · simp [h1]
    · by_cases h2 : b.toNat < a.toNat
      · simp [h1, h2]
      · simp [h1, h2]
end Go.Tab
namespace Go.Tab

/-- A text with its quotes doubled. -/
def quoteL : List UInt8 → List UInt8
  | [] => []
  | b :: r => if b = 39 then 39 :: 39 :: quoteL r else b :: quoteL r
theorem quoteL_len : ∀ l : List UInt8, (quoteL l).length ≤ 2 * l.length
  | [] => Nat.le_refl _
  | b :: l => by
    have := quoteL_len l
    unfold quoteL
    split <;> simp only [List.length_cons] <;> omega
theorem replaceK_quote : ∀ (s : List UInt8) (k : Nat), s.count 39 ≤ k → Lib.replaceK [39] [39, 39] k s = quoteL s
  | [], 0, _ => rfl
  | [], k + 1, _ => by simp [Lib.replaceK, Lib.index, quoteL]
  | b :: l, k, h => by
    by_cases hb : b = 39
    · subst hb
      rw [List.count_cons_self] at h
      obtain ⟨k, rfl⟩ : ∃ q, k = q + 1 := ⟨k - 1, by omega⟩
      have ih := replaceK_quote l k (by omega)
      have hi : Lib.index (39 :: l) [39] = 0 := by simp [Lib.index]
      rw [Lib.replaceK_hit [39] [39, 39] k (39 :: l) 0 (by simpa using hi)]
      simp only [List.take_zero, List.nil_append, List.length_cons, List.length_nil, Nat.zero_add, List.drop_succ_cons, List.drop_zero, ih, quoteL, if_true]
      rfl
    · rw [List.count_cons_of_ne (fun e => hb e)] at h
      have e1 : quoteL (b :: l) = b :: quoteL l := by simp [quoteL, hb]
      rw [e1]
      cases k with
      | zero =>
        have ih := replaceK_quote l 0 h
        simp only [Lib.replaceK] at ih ⊢
        rw [← ih]
      | succ k =>
        have ih := replaceK_quote l (k + 1) h
        rw [← ih]
        have hp : ¬ ([39] : List UInt8).isPrefixOf (b :: l) = true := by simp; exact fun e => hb e.symm
        have hi : Lib.index (b :: l) [39] = if Lib.index l [39] == -1 then -1 else Lib.index l [39] + 1 := by rw [Lib.index, if_neg hp]
        have hge := Lib.index_ge l [39]
        by_cases hm : Lib.index l [39] = -1
        · simp [Lib.replaceK, hi, hm]
        · obtain ⟨i, hi2⟩ : ∃ i : Nat, Lib.index l [39] = i := ⟨(Lib.index l [39]).toNat, by omega⟩
          have hi3 : Lib.index (b :: l) [39] = ((i + 1 : Nat) : Int) := by rw [hi, if_neg (by simpa using hm), hi2]; rfl
          rw [Lib.replaceK_hit _ _ k _ _ hi2, Lib.replaceK_hit _ _ k _ _ hi3]
          simp only [List.take_succ_cons, List.cons_append, List.length_cons, List.length_nil, Nat.zero_add, List.drop_succ_cons]
theorem replaceAll_quote (s : List UInt8) : Lib.replaceAll s [39] [39, 39] = quoteL s := by
  unfold Lib.replaceAll Lib.replace
  rw [if_neg (by decide)]
  refine replaceK_quote s _ ?_
  unfold Lib.replaceNum
  rw [if_pos (.inl (by decide)), Lib.count_one]
  exact Nat.le_refl _

def okB (b : UInt8) : Bool := decide (32 ≤ b.toNat) && decide (b.toNat ≤ 126)
def plainB (s : ByteArray) : Bool := s.data.toList.all okB && decide (s.size ≤ 100)
def inB (n : Int) : Bool := decide (-1000000000000000 ≤ n) && decide (n ≤ 1000000000000000)
def rightB (v : V) : Bool :=
  if v.k = 0 then decide (v.n = 0) && decide (v.s = ByteArray.empty)
  else if v.k = 1 then (decide (v.n = 0) || decide (v.n = 1)) && decide (v.s = ByteArray.empty)
  else if v.k = 2 then inB v.n && decide (v.s = ByteArray.empty)
  else if v.k = 3 then decide (v.n = 0) && plainB v.s
  else false
/-- What value.odd says of a rune. -/
def oddR (r : Nat) : Bool := decide (r < 32) || decide (126 < r)
theorem decodeN_big (n b0 b1 b2 b3 : Nat) (h : 128 ≤ b0) : 126 < (Lib.decodeN n b0 b1 b2 b3).1 := by
  unfold Lib.decodeN
  repeat' split
  all_goals omega
theorem decode_ascii (s : ByteArray) (i : Nat) (h : (s.get! i).toNat < 128) : Utf8.decode s i = ((s.get! i).toNat, 1) := by
  rw [Lib.decode_at, Lib.decodeN, if_pos h]
theorem get_list (s : ByteArray) (i : Nat) (h : i < s.size) : s.data.toList[i]? = some (s.get! i) := by
  obtain ⟨⟨l⟩⟩ := s
  have h : i < l.length := h
  show l[i]? = some ((⟨l⟩ : Array UInt8)[i]!)
  rw [List.getElem?_eq_getElem h, getElem!_pos (⟨l⟩ : Array UInt8) i h]
  rfl
theorem idx_plain (s : ByteArray) : ∀ (f pos : Nat), s.size ≤ pos + f → (Lib.idxFuncFrom oddR true s f pos < 0 ↔ (s.data.toList.drop pos).all okB = true)
  | 0, pos, h => by
    have : s.data.toList.drop pos = [] := List.drop_eq_nil_of_le (by simp only [Array.length_toList]; exact h)
    rw [this]
    simp [Lib.idxFuncFrom]
  | f + 1, pos, h => by
    unfold Lib.idxFuncFrom
    by_cases hp : pos < s.size
    · rw [if_pos hp]
      have hg := get_list s pos hp
      obtain ⟨hl, hg2⟩ := List.getElem?_eq_some_iff.1 hg
      rw [List.drop_eq_getElem_cons hl, hg2, List.all_cons]
      by_cases hb : (s.get! pos).toNat < 128
      · rw [decode_ascii s pos hb]
        simp only
        by_cases ho : oddR (s.get! pos).toNat = true
        · rw [if_pos ho]
          have : okB (s.get! pos) = false := by
            simp only [oddR, Bool.or_eq_true, decide_eq_true_eq] at ho
            simp only [okB, Bool.and_eq_false_iff, decide_eq_false_iff_not]
            omega
          rw [this]
          simp
        · rw [if_neg ho]
          have : okB (s.get! pos) = true := by
            simp only [oddR, Bool.or_eq_true, decide_eq_true_eq] at ho
            simp only [okB, Bool.and_eq_true, decide_eq_true_eq]
            omega
          rw [this, Bool.true_and]
          exact idx_plain s f (pos + 1) (by omega)
      · have ho : oddR (Utf8.decode s pos).1 = true := by
          rw [Lib.decode_at]
          have := decodeN_big (s.size - pos) (s.get! pos).toNat (s.get! (pos + 1)).toNat (s.get! (pos + 2)).toNat (s.get! (pos + 3)).toNat (by omega)
          simp only [oddR, Bool.or_eq_true, decide_eq_true_eq]
          exact .inr this
        rw [if_pos ho]
        have : okB (s.get! pos) = false := by
          simp only [okB, Bool.and_eq_false_iff, decide_eq_false_iff_not]
          omega
        rw [this]
        simp
    · rw [if_neg hp]
      have : s.data.toList.drop pos = [] := List.drop_eq_nil_of_le (by simp only [Array.length_toList]; exact Nat.le_of_not_lt hp)
      rw [this]
      simp
theorem idx_all (s : ByteArray) : Lib.idxFunc oddR true s < 0 ↔ s.data.toList.all okB = true := by
  have := idx_plain s s.size 0 (by omega)
  simpa [Lib.idxFunc] using this

def nullS : ByteArray := ⟨#[110, 117, 108, 108]⟩
def trueS : ByteArray := ⟨#[116, 114, 117, 101]⟩
def falseS : ByteArray := ⟨#[102, 97, 108, 115, 101]⟩
def strL (l : List UInt8) : ByteArray := ⟨l.toArray⟩
def textS (v : V) : ByteArray := if v.k = 1 then (if v.n = 0 then falseS else trueS) else if v.k = 2 then strL (Lib.itoa v.n) else if v.k = 3 then strL (39 :: quoteL v.t ++ [39]) else nullS
end Go.Tab
namespace Go.Proofs.YtiepbejeiijpmaaDoor
open Go Go.Pe Go.Tab

def byC (l : List UInt8) : List C := l.map fun b => .lit (.int .u8 b.toNat)
def unby : List C → Option (List UInt8)
  | [] => some []
  | .lit (.int .u8 n) :: r => if n = (UInt8.ofNat n.toNat).toNat then (unby r).map (UInt8.ofNat n.toNat :: ·) else none
  | _ => none
theorem unby_eq : ∀ (cs : List C) (l : List UInt8), unby cs = some l → cs = byC l
  | [], l, h => by simp only [unby, Option.some.injEq] at h; subst h; rfl
  | c :: cs, l, h => by
    unfold unby at h
    split at h
    · rename_i e; cases e
    · rename_i n r e
      cases e
      split at h
      · rename_i hn
        simp only [Option.map_eq_some_iff] at h
        obtain ⟨l', h', rfl⟩ := h
        rw [unby_eq _ l' h']
        simp only [byC, List.map_cons]
        rw [← hn]
      · cases h
    · cases h
theorem byC_length (l : List UInt8) : (byC l).length = l.length := by simp [byC]
def str (l : List UInt8) : ByteArray := ⟨l.toArray⟩

/-- A Builder: its address, and its bytes. -/
def bld (l : List UInt8) : List X := [.ptr 0 0, .own (.cell 0 1) 5 1 (byC l) l.length]
/-- What a Builder holds. -/
def bldOf : List Ob → Option (List UInt8)
  | [.var 83 [.of (.lit (.pointer none)), .nil]] => some []
  | [.var 83 [.ptr 0 0, .own (.cell 0 1) 5 1 cs _]] => unby cs
  | _ => none

def small64 (n : Int) : Bool := decide (-9223372036854775808 ≤ n ∧ n ≤ 9223372036854775807)
def itoaP (xs : List X) (obs : List Ob) : Option An := match xs, obs with
  | [.of (.lit (.int .i64 n))], [] => if small64 n then some ⟨false, [xstr (str (Lib.itoa n))], []⟩ else none
  | _, _ => none
def wsP (xs : List X) (obs : List Ob) : Option An := match xs with
  | [.ptr 0 0, .of (.lit (.string s))] => (bldOf obs).bind fun l => if l.length + s.size ≤ LIM then some ⟨false, [xint s.size, .of (.lit .nilIface)], [.var 83 (bld (l ++ s.data.toList))]⟩ else none
  | _ => none
def wbP (xs : List X) (obs : List Ob) : Option An := match xs with
  | [.ptr 0 0, .of (.lit (.int .u8 n))] => (bldOf obs).bind fun l => if l.length + 1 ≤ LIM ∧ 0 ≤ n ∧ n < 256 then some ⟨false, [.of (.lit .nilIface)], [.var 83 (bld (l ++ [UInt8.ofNat n.toNat]))]⟩ else none
  | _ => none
def bsP (xs : List X) (obs : List Ob) : Option An := match xs with
  | [.ptr 0 0] => (bldOf obs).map fun l => ⟨false, [xstr (str l)], [.var 83 [.of .any, .of .any]]⟩
  | _ => none
def oftL (m n : Int) (all : Bool) : Int × Int × Int := if all then (m + n, min m n, max (m - n) 0) else (min (m + n) 1, min (min m n) 1, min m (max (1 - n) 0))
def oftenP (xs : List X) (obs : List Ob) : Option An := match xs, obs with
  | [.of (.lit (.int .i64 m)), .of (.lit (.int .i64 n)), .of (.lit (.bool all))], [] =>
    if 0 ≤ m ∧ m ≤ 4194304 ∧ 0 ≤ n ∧ n ≤ 4194304 then some ⟨false, [.agg [xint (oftL m n all).1, xint (oftL m n all).2.1, xint (oftL m n all).2.2]], []⟩ else none
  | _, _ => none
def scP (xs : List X) (obs : List Ob) : Option An := match xs, obs with
  | [.of (.lit (.string a)), .of (.lit (.string b))], [] => some ⟨false, [xint (Lib.compareBytes a.data.toList b.data.toList)], []⟩
  | _, _ => none
def valC (v : V) : List C := [ci v.k, ci v.n, cstr v.s]
def valsC (r : List V) : List C := (r.map valC).flatten
def rowC (r : List V) : C := .sl (valsC r) r.length
def rowsC (l : List (List V)) : C := .sl (l.map rowC) l.length
/-- How much a row holds. -/
def wt (r : List V) : Nat := (r.map fun v => v.s.size + 3).sum
structure VOk (v : V) : Prop where
  k : small64 v.k = true
  n : small64 v.n = true
  s : v.s.size ≤ 1048576
structure ROk (r : List V) : Prop where
  wt : wt r ≤ 1048576
  v : ∀ v ∈ r, VOk v
/-- Rows, out of data. -/
def unvals : List C → Option (List V)
  | [] => some []
  | .lit (.int .i64 k) :: .lit (.int .i64 n) :: .lit (.string s) :: r => (unvals r).map (⟨k, n, s⟩ :: ·)
  | _ => none
def unrow : C → Option (List V)
  | .sl cs n => (unvals cs).bind fun l => if n = l.length then some l else none
  | _ => none
def unrowL : List C → Option (List (List V))
  | [] => some []
  | c :: r => (unrow c).bind fun l => (unrowL r).map (l :: ·)
def unrows : C → Option (List (List V))
  | .sl cs n => (unrowL cs).bind fun l => if n = l.length then some l else none
  | _ => none
theorem unvals_at : ∀ r : List V, unvals (valsC r) = some r
  | [] => rfl
  | v :: r => by
    have h := unvals_at r
    unfold valsC at h ⊢
    simp only [List.map_cons, List.flatten_cons, valC, List.cons_append, List.nil_append, unvals, h, Option.map_some]
theorem unrow_at (r : List V) : unrow (rowC r) = some r := by simp [unrow, rowC, unvals_at]
theorem unrowL_at : ∀ l : List (List V), unrowL (l.map rowC) = some l
  | [] => rfl
  | r :: l => by simp [unrowL, unrow_at, unrowL_at l]
theorem unrows_at (l : List (List V)) : unrows (rowsC l) = some l := by simp [unrows, rowsC, unrowL_at]
theorem unvals_eq : ∀ (n : Nat) (cs : List C) (r : List V), cs.length ≤ n → unvals cs = some r → cs = valsC r
  | 0, cs, r, hn, h => by
    obtain rfl : cs = [] := List.eq_nil_of_length_eq_zero (by omega)
    simp only [unvals, Option.some.injEq] at h
    subst h
    rfl
  | n + 1, cs, r, hn, h => by
    unfold unvals at h
    split at h
    · simp only [Option.some.injEq] at h; subst h; rfl
    · simp only [Option.map_eq_some_iff] at h
      obtain ⟨q, hq, rfl⟩ := h
      rename_i r'
      rw [unvals_eq n r' q (by simp only [List.length_cons] at hn; omega) hq]
      rfl
    · cases h
theorem unrow_eq {c : C} {r : List V} (h : unrow c = some r) : c = rowC r := by
  unfold unrow at h
  split at h
  · simp only [Option.bind_eq_some_iff] at h
    obtain ⟨l, h1, h2⟩ := h
    split at h2
    · rename_i hn
      cases h2
      rw [unvals_eq _ _ _ (Nat.le_refl _) h1, hn]
      rfl
    · cases h2
  · cases h
theorem unrowL_eq : ∀ (cs : List C) (l : List (List V)), unrowL cs = some l → cs = l.map rowC
  | [], l, h => by simp only [unrowL, Option.some.injEq] at h; subst h; rfl
  | c :: cs, l, h => by
    simp only [unrowL, Option.bind_eq_some_iff, Option.map_eq_some_iff] at h
    obtain ⟨r, h1, q, h2, rfl⟩ := h
    rw [unrow_eq h1, unrowL_eq cs q h2]
    rfl
theorem unrows_eq {c : C} {l : List (List V)} (h : unrows c = some l) : c = rowsC l := by
  unfold unrows at h
  split at h
  · simp only [Option.bind_eq_some_iff] at h
    obtain ⟨l', h1, h2⟩ := h
    split at h2
    · rename_i hn
      cases h2
      rw [unrowL_eq _ _ h1, hn]
      rfl
    · cases h2
  · cases h
/-- Rows that may be told. -/
def okV (v : V) : Bool := small64 v.k && small64 v.n && decide (v.s.size ≤ 1048576)
def okRow (r : List V) : Bool := decide (wt r ≤ 1048576) && r.all okV
def okRows (l : List (List V)) : Bool := decide (l.length ≤ 1048576) && l.all okRow
/-- How many rows are sorted at most. -/
def maxSort : Nat := 1048576
def sortedP (xs : List X) (obs : List Ob) : Option An := match xs, obs with
  | [.of c], [] => (unrows c).bind fun l => if okRows l = true ∧ l.length ≤ maxSort then some ⟨false, [.of (rowsC (sortF l))], []⟩ else none
  | _, _ => none
def ixP (xs : List X) (obs : List Ob) : Option An := match xs, obs with
  | [.of (.lit (.string s)), .of (.fn f [])], [] => if f = 59 then some ⟨false, [xint (Lib.idxFunc oddR true s)], []⟩ else none
  | _, _ => none
def raP (xs : List X) (obs : List Ob) : Option An := match xs, obs with
  | [.of (.lit (.string s)), .of (.lit (.string a)), .of (.lit (.string b))], [] =>
    if s.size < 4294967281 ∧ 1 ≤ a.size ∧ s.size + Lib.countB s a * b.size ≤ 140737488355328 then some ⟨false, [xstr (str (Lib.replaceAll s.data.toList a.data.toList b.data.toList))], []⟩ else none
  | _, _ => none
def prims (full : Bool) : Orc := fun f xs obs =>
  if f = 83 then itoaP xs obs
  else if f = 87 then wsP xs obs
  else if f = 88 then wbP xs obs
  else if f = 89 then bsP xs obs
  else if f = 22 then oftenP xs obs
  else if f = 54 then scP xs obs
  else if f = 58 then ixP xs obs
  else if f = 66 then raP xs obs
  else if f = 41 then (if full = true then sortedP xs obs else none)
  else none

/-- What is given, in this seat: with the sort, or without. -/
def prB (full : Bool) : Pr := ⟨prims full, objF, tkF⟩
abbrev pr : Pr := prB true
theorem pr_obj (b : Bool) (f : Nat) : (prB b).obj f = objF f := rfl
abbrev G1 (f : Nat) (xs : List X) (x : X) : Prop := Gives Tryd.prog pr f xs [] ⟨false, [x], []⟩
abbrev GB (b : Bool) (f : Nat) (xs : List X) (x : X) : Prop := Gives Tryd.prog (prB b) f xs [] ⟨false, [x], []⟩
theorem by_body {full : Bool} {f n : Nat} {b : Code} {xs : List X} {obs : List Ob} {an : An} (hp : prims full f xs obs = none) (hok : fnOk Tryd.prog f = true) (hb : bodyOf Tryd.prog f = b) (har : arity Tryd.prog f = n) (hl : Nat.ble xs.length n = true)
    (h : WC Tryd.prog (prB full) b (initS xs obs) (endQ Tryd.prog f obs.length an)) : Gives Tryd.prog (prB full) f xs obs an :=
  Gives.of_body hp hok (by rw [har]; exact Nat.le_of_ble_eq_true hl) (by rw [hb]; exact h)
end Go.Proofs.YtiepbejeiijpmaaDoor
namespace Go.Proofs.YtiepbejeiijpmaaDoor
open Go Go.Pe Go.Tab
theorem ints_call (a b : Int) : G1 56 [xint a, xint b] (xint (ints a b)) := by
  refine by_body rfl ok56 body56 ar56 rfl ?_
  simp -implicitDefEqProofs only [Tryd.f56, Z2i, Z2n, Z2g, Z2h, Z2k, Z2l, Z2m, Z2j, Z2f, Z2d, Z2e, Z3i, Z3h, Z3g, Nat.zero_mul, Nat.reduceMul, Z4k, Z13, Z14, List.length_map, Z35, Z34, Z37, Z33, Z36, Z31, Z38, Z32, Z30, Z2z, Tk.nm.injEq, Tk.cell.injEq, false_and, and_false, Z2o, Z4j, Nat.le_add_right, Z5h, Z5i, Z6z, Nat.le_refl, Z5v, Z5u, Z2s, ↓Zx, ↓Zs, ↓Zt, ↓Zw, ↓Zy, ↓Zu, ↓Zv, ↓Zz, ↓Z10, ↓Zl, ↓Z2, ↓Zo, ↓Z3, ↓Zr, ↓Zg, ↓Zc, ↓Zb, ↓Ze, ↓Zd, ↓Zp, ↓Z9, ↓Za, ↓Zm, ↓Zi, ↓Z5, ↓Z6, ↓Zf, ↓Z1, ↓Z7, ↓Z8, ↓Z0, ↓Z4, ↓Zq, ↓Zh, ↓Zk, ↓Zj, ↓Zn, ↓Z64, ↓Z66, ↓Z63, ↓Z65, ↓Z7f, ↓Z7g, ↓Z7e, ↓Z2x, ↓Z2y, ↓Z2w, ↓Z1e, ↓Z1f, ↓Z1d, Z4c, Z1a, ↓Z8a, ↓Z8b, ↓Z89, ↓Z78, ↓Z79, ↓Z77, ↓Z3e, ↓Z3c, ↓Z3d, Z5c, Z5b, Z5g, Z5e, Z5f, Z5d, ↓Z3y, ↓Z3z, ↓Z3x, Z3u, Z3w, Z3v, ↓Z7b, ↓Z7a, ↓Z7d, ↓Z7c, ↓Z1z, ↓Z1y, ↓Z21, ↓Z20, ↓Z6o, ↓Z6p, ↓Z4s, ↓Z4t, Z2p, ↓Z3o, ↓Z3p, Z3s, Z3n, Z3q, Z3r, Z5p, Z5q, Z5o, Z5n, Z5r, Z1n, Z1m, Z1l, Z1k, Z1j, Z1p, Z1g, Z1t, Z1o, Z1r, Z1s, Z1q, Z1h, Z1i, Z88, Z87, Z4d, Z4e, Z4f, Z5y, Z4b, Z4a, Z49, Z48, Z16, Z17, Z15, Z6a, Z6b, Z69, ↓Z68, ↓Z67, Z2q, Z22, Z23, Z25, Z24, Z60, Z5z, Z55, Z56, ↓Z1b, ↓Z1c, Z81, Z80, Z7x, Z84, Z7y, Z83, Z7z, Z82, Z86, Z85, Z5a, Z59, Z7w, Z7t, Z7v, Z7u, Z4r, Z4q, Z4p, Z62, Z61, Z6v, Z6y, Z6w, Z6x, Z40, Z41, Z74, Z72, Z73, Z6u, Z6t, Z2v, Z2u, Z5x, Z5w, Z2r, Z71, Z70, Z6d, Z6c, Z6k, Z6j, Z6l, Z6m, Z6i, Z6h, Z6g, Z6n, Z6f, Z6e, Z58, Z57, Z7p, Z7o, Z7q, Z7r, Z7n, Z7m, Z7l, Z7s, Z7k, Z7j, Z7h, Z7i, Z54, Z53, Z5m, Z11, Z4y, Z4z, Z4x, Z51, Z4w, Z4v, Z4u, Z50, Z12, Z75, Z76, Z43, Z42, Z4o, Z4n, Z4l, Z4m, Z19, Z18, Z29, Z2b, Z2a, Z28, Z2c, Z27, Z26, Z5t, Z3t, Z6r, ↓Z6s, ↓Z6q, Z2t, Z47, Z44, Z45, Z46, Z3m, Z3k, Z3l, Z3j, Z1v, Z1u, Z1w, Z1x, List.any_cons, List.any_nil, Bool.or_true, Bool.true_or, Bool.or_false, Bool.false_or, Bool.and_false, Bool.false_and, Nat.reduceBEq, Z5k, Z5j, Z5l, Z3f, ↓Z39, ↓Z3b, ↓Z3a, Z4i, Z4h, Z4g, Z5s, Nat.reduceLeDiff, Int.reduceLT, Int.reduceLE, Int.reduceAdd, Int.reduceToNat, Int.reduceNeg, Int.cast_ofNat_Int, Nat.reduceLT, List.drop_succ_cons, List.take_succ_cons, List.singleton_append, Nat.zero_add, List.set_cons_zero, List.set_cons_succ, List.drop_nil, List.take_nil, Option.map_some, Option.map_none, Option.getD_some, Option.getD_none, Option.bind_some, List.cons_append, List.nil_append, List.append_nil, List.map_cons, List.map_nil, List.range_zero, List.take_zero, List.flatten_nil, List.filter_nil, List.length_nil, List.length_cons, List.drop_zero, List.not_mem_nil, List.mem_cons, Bool.true_eq_false, Bool.false_eq_true, ↓reduceIte, Nat.reduceEqDiff, Nat.reduceAdd, List.getElem?_toArray, List.toList_toArray, List.getElem?_cons_zero, List.getElem?_cons_succ, decide_eq_true_eq, Z52, beq_self_eq_true, beq_true, decide_true, decide_false, Bool.not_true, Bool.not_false, true_and, and_true, or_false, false_or, Bool.and_eq_true, Bool.and_true, Bool.true_and, reduceCtorEq, not_false_eq_true, rv56]
  unfold ints
  repeat' split
  all_goals first | rfl | omega

theorem at8_lt (s : ByteArray) (k : Nat) : at8 s k < 256 := UInt8.toNat_lt _
theorem drop_at8 (s : ByteArray) (k : Nat) (h : k < s.size) : ∃ x : UInt8, s.data.toList.drop k = x :: s.data.toList.drop (k + 1) ∧ x.toNat = at8 s k := by
  have hl : k < s.data.toList.length := by simpa using h
  refine ⟨s.data.toList[k], List.drop_eq_getElem_cons hl, ?_⟩
  unfold at8
  rw [List.getD_eq_getElem?_getD, List.getElem?_eq_getElem hl]
  rfl
theorem drop_all (s : ByteArray) (k : Nat) (h : s.size ≤ k) : s.data.toList.drop k = [] := List.drop_eq_nil_of_le (by simpa using h)
theorem texts_nil : texts [] [] = 0 := rfl
theorem texts_nc (x : UInt8) (r : List UInt8) : texts [] (x :: r) = -1 := rfl
theorem texts_cn (x : UInt8) (r : List UInt8) : texts (x :: r) [] = 1 := rfl
theorem texts_cc (x y : UInt8) (r q : List UInt8) : texts (x :: r) (y :: q) = if x = y then texts r q else ints x.toNat y.toNat := by
  show (if byteO x y = 0 then lexL byteO r q else byteO x y) = _
  by_cases h : x = y
  · rw [if_pos ((byteO_ord.zero x y).2 h), if_pos h]; rfl
  · rw [if_neg (fun e => h ((byteO_ord.zero x y).1 e)), if_neg h]; rfl

theorem texts_call (a b : ByteArray) (ha : a.size ≤ LIM) (hb : b.size ≤ LIM) : G1 57 [xstr a, xstr b] (xint (texts a.data.toList b.data.toList)) := by
  unfold LIM at ha hb
  refine by_body rfl ok57 body57 ar57 rfl ?_
  simp -implicitDefEqProofs only [Tryd.f57, Z2i, Z2n, Z2g, Z2h, Z2k, Z2l, Z2m, Z2j, Z2f, Z2d, Z2e, Z3i, Z3h, Z3g, Nat.zero_mul, Nat.reduceMul, Z4k, Z13, Z14, List.length_map, Z35, Z34, Z37, Z33, Z36, Z31, Z38, Z32, Z30, Z2z, Tk.nm.injEq, Tk.cell.injEq, false_and, and_false, Z2o, Z4j, Nat.le_add_right, Z5h, Z5i, Z6z, Nat.le_refl, Z5v, Z5u, Z2s, ↓Zx, ↓Zs, ↓Zt, ↓Zw, ↓Zy, ↓Zu, ↓Zv, ↓Zz, ↓Z10, ↓Zl, ↓Z2, ↓Zo, ↓Z3, ↓Zr, ↓Zg, ↓Zc, ↓Zb, ↓Ze, ↓Zd, ↓Zp, ↓Z9, ↓Za, ↓Zm, ↓Zi, ↓Z5, ↓Z6, ↓Zf, ↓Z1, ↓Z7, ↓Z8, ↓Z0, ↓Z4, ↓Zq, ↓Zh, ↓Zk, ↓Zj, ↓Zn, ↓Z64, ↓Z66, ↓Z63, ↓Z65, ↓Z7f, ↓Z7g, ↓Z7e, ↓Z2x, ↓Z2y, ↓Z2w, ↓Z1e, ↓Z1f, ↓Z1d, Z4c, Z1a, ↓Z8a, ↓Z8b, ↓Z89, ↓Z78, ↓Z79, ↓Z77, ↓Z3e, ↓Z3c, ↓Z3d, Z5c, Z5b, Z5g, Z5e, Z5f, Z5d, ↓Z3y, ↓Z3z, ↓Z3x, Z3u, Z3w, Z3v, ↓Z7b, ↓Z7a, ↓Z7d, ↓Z7c, ↓Z1z, ↓Z1y, ↓Z21, ↓Z20, ↓Z6o, ↓Z6p, ↓Z4s, ↓Z4t, Z2p, ↓Z3o, ↓Z3p, Z3s, Z3n, Z3q, Z3r, Z5p, Z5q, Z5o, Z5n, Z5r, Z1n, Z1m, Z1l, Z1k, Z1j, Z1p, Z1g, Z1t, Z1o, Z1r, Z1s, Z1q, Z1h, Z1i, Z88, Z87, Z4d, Z4e, Z4f, Z5y, Z4b, Z4a, Z49, Z48, Z16, Z17, Z15, Z6a, Z6b, Z69, ↓Z68, ↓Z67, Z2q, Z22, Z23, Z25, Z24, Z60, Z5z, Z55, Z56, ↓Z1b, ↓Z1c, Z81, Z80, Z7x, Z84, Z7y, Z83, Z7z, Z82, Z86, Z85, Z5a, Z59, Z7w, Z7t, Z7v, Z7u, Z4r, Z4q, Z4p, Z62, Z61, Z6v, Z6y, Z6w, Z6x, Z40, Z41, Z74, Z72, Z73, Z6u, Z6t, Z2v, Z2u, Z5x, Z5w, Z2r, Z71, Z70, Z6d, Z6c, Z6k, Z6j, Z6l, Z6m, Z6i, Z6h, Z6g, Z6n, Z6f, Z6e, Z58, Z57, Z7p, Z7o, Z7q, Z7r, Z7n, Z7m, Z7l, Z7s, Z7k, Z7j, Z7h, Z7i, Z54, Z53, Z5m, Z11, Z4y, Z4z, Z4x, Z51, Z4w, Z4v, Z4u, Z50, Z12, Z75, Z76, Z43, Z42, Z4o, Z4n, Z4l, Z4m, Z19, Z18, Z29, Z2b, Z2a, Z28, Z2c, Z27, Z26, Z5t, Z3t, Z6r, ↓Z6s, ↓Z6q, Z2t, Z47, Z44, Z45, Z46, Z3m, Z3k, Z3l, Z3j, Z1v, Z1u, Z1w, Z1x, List.any_cons, List.any_nil, Bool.or_true, Bool.true_or, Bool.or_false, Bool.false_or, Bool.and_false, Bool.false_and, Nat.reduceBEq, Z5k, Z5j, Z5l, Z3f, ↓Z39, ↓Z3b, ↓Z3a, Z4i, Z4h, Z4g, Z5s, Nat.reduceLeDiff, Int.reduceLT, Int.reduceLE, Int.reduceAdd, Int.reduceToNat, Int.reduceNeg, Int.cast_ofNat_Int, Nat.reduceLT, List.drop_succ_cons, List.take_succ_cons, List.singleton_append, Nat.zero_add, List.set_cons_zero, List.set_cons_succ, List.drop_nil, List.take_nil, Option.map_some, Option.map_none, Option.getD_some, Option.getD_none, Option.bind_some, List.cons_append, List.nil_append, List.append_nil, List.map_cons, List.map_nil, List.range_zero, List.take_zero, List.flatten_nil, List.filter_nil, List.length_nil, List.length_cons, List.drop_zero, List.not_mem_nil, List.mem_cons, Bool.true_eq_false, Bool.false_eq_true, ↓reduceIte, Nat.reduceEqDiff, Nat.reduceAdd, List.getElem?_toArray, List.toList_toArray, List.getElem?_cons_zero, List.getElem?_cons_succ, decide_eq_true_eq, Z52, beq_self_eq_true, beq_true, decide_true, decide_false, Bool.not_true, Bool.not_false, true_and, and_true, or_false, false_or, Bool.and_eq_true, Bool.and_true, Bool.true_and, reduceCtorEq, not_false_eq_true, rv57, U9, U3]
  refine WC_inv _ _ (fun m s => ∃ k : Nat, k ≤ a.size ∧ k ≤ b.size ∧ m = a.size - k ∧ s.fr 0 = xstr a ∧ s.fr 1 = xstr b ∧ s.fr 5 = xint k ∧ s.objs = [] ∧ texts a.data.toList b.data.toList = texts (a.data.toList.drop k) (b.data.toList.drop k)) ?_ a.size _ ?_
  · rintro m s ⟨k, hk1, hk2, rfl, h0, h1, h5, ho, ht⟩
    by_cases c1 : k < a.size
    · by_cases c2 : k < b.size
      · have hw : IntKind.i64.wrap (↑k + 1) = ((k + 1 : Nat) : Int) := by rw [wrap64_ok _ (by omega) (by omega)]; rfl
        have hw1 : IntKind.i64.wrap ((at8 a k : Nat) : Int) = (at8 a k : Int) := wrap64_ok _ (by omega) (by have := at8_lt a k; omega)
        have hw2 : IntKind.i64.wrap ((at8 b k : Nat) : Int) = (at8 b k : Int) := wrap64_ok _ (by omega) (by have := at8_lt b k; omega)
        simp -implicitDefEqProofs only [Z2i, Z2n, Z2g, Z2h, Z2k, Z2l, Z2m, Z2j, Z2f, Z2d, Z2e, Z3i, Z3h, Z3g, Nat.zero_mul, Nat.reduceMul, Z4k, Z13, Z14, List.length_map, Z35, Z34, Z37, Z33, Z36, Z31, Z38, Z32, Z30, Z2z, Tk.nm.injEq, Tk.cell.injEq, false_and, and_false, Z2o, Z4j, Nat.le_add_right, Z5h, Z5i, Z6z, Nat.le_refl, Z5v, Z5u, Z2s, ↓Zx, ↓Zs, ↓Zt, ↓Zw, ↓Zy, ↓Zu, ↓Zv, ↓Zz, ↓Z10, ↓Zl, ↓Z2, ↓Zo, ↓Z3, ↓Zr, ↓Zg, ↓Zc, ↓Zb, ↓Ze, ↓Zd, ↓Zp, ↓Z9, ↓Za, ↓Zm, ↓Zi, ↓Z5, ↓Z6, ↓Zf, ↓Z1, ↓Z7, ↓Z8, ↓Z0, ↓Z4, ↓Zq, ↓Zh, ↓Zk, ↓Zj, ↓Zn, ↓Z64, ↓Z66, ↓Z63, ↓Z65, ↓Z7f, ↓Z7g, ↓Z7e, ↓Z2x, ↓Z2y, ↓Z2w, ↓Z1e, ↓Z1f, ↓Z1d, Z4c, Z1a, ↓Z8a, ↓Z8b, ↓Z89, ↓Z78, ↓Z79, ↓Z77, ↓Z3e, ↓Z3c, ↓Z3d, Z5c, Z5b, Z5g, Z5e, Z5f, Z5d, ↓Z3y, ↓Z3z, ↓Z3x, Z3u, Z3w, Z3v, ↓Z7b, ↓Z7a, ↓Z7d, ↓Z7c, ↓Z1z, ↓Z1y, ↓Z21, ↓Z20, ↓Z6o, ↓Z6p, ↓Z4s, ↓Z4t, Z2p, ↓Z3o, ↓Z3p, Z3s, Z3n, Z3q, Z3r, Z5p, Z5q, Z5o, Z5n, Z5r, Z1n, Z1m, Z1l, Z1k, Z1j, Z1p, Z1g, Z1t, Z1o, Z1r, Z1s, Z1q, Z1h, Z1i, Z88, Z87, Z4d, Z4e, Z4f, Z5y, Z4b, Z4a, Z49, Z48, Z16, Z17, Z15, Z6a, Z6b, Z69, ↓Z68, ↓Z67, Z2q, Z22, Z23, Z25, Z24, Z60, Z5z, Z55, Z56, ↓Z1b, ↓Z1c, Z81, Z80, Z7x, Z84, Z7y, Z83, Z7z, Z82, Z86, Z85, Z5a, Z59, Z7w, Z7t, Z7v, Z7u, Z4r, Z4q, Z4p, Z62, Z61, Z6v, Z6y, Z6w, Z6x, Z40, Z41, Z74, Z72, Z73, Z6u, Z6t, Z2v, Z2u, Z5x, Z5w, Z2r, Z71, Z70, Z6d, Z6c, Z6k, Z6j, Z6l, Z6m, Z6i, Z6h, Z6g, Z6n, Z6f, Z6e, Z58, Z57, Z7p, Z7o, Z7q, Z7r, Z7n, Z7m, Z7l, Z7s, Z7k, Z7j, Z7h, Z7i, Z54, Z53, Z5m, Z11, Z4y, Z4z, Z4x, Z51, Z4w, Z4v, Z4u, Z50, Z12, Z75, Z76, Z43, Z42, Z4o, Z4n, Z4l, Z4m, Z19, Z18, Z29, Z2b, Z2a, Z28, Z2c, Z27, Z26, Z5t, Z3t, Z6r, ↓Z6s, ↓Z6q, Z2t, Z47, Z44, Z45, Z46, Z3m, Z3k, Z3l, Z3j, Z1v, Z1u, Z1w, Z1x, List.any_cons, List.any_nil, Bool.or_true, Bool.true_or, Bool.or_false, Bool.false_or, Bool.and_false, Bool.false_and, Nat.reduceBEq, Z5k, Z5j, Z5l, Z3f, ↓Z39, ↓Z3b, ↓Z3a, Z4i, Z4h, Z4g, Z5s, Nat.reduceLeDiff, Int.reduceLT, Int.reduceLE, Int.reduceAdd, Int.reduceToNat, Int.reduceNeg, Int.cast_ofNat_Int, Nat.reduceLT, List.drop_succ_cons, List.take_succ_cons, List.singleton_append, Nat.zero_add, List.set_cons_zero, List.set_cons_succ, List.drop_nil, List.take_nil, Option.map_some, Option.map_none, Option.getD_some, Option.getD_none, Option.bind_some, List.cons_append, List.nil_append, List.append_nil, List.map_cons, List.map_nil, List.range_zero, List.take_zero, List.flatten_nil, List.filter_nil, List.length_nil, List.length_cons, List.drop_zero, List.not_mem_nil, List.mem_cons, Bool.true_eq_false, Bool.false_eq_true, ↓reduceIte, Nat.reduceEqDiff, Nat.reduceAdd, List.getElem?_toArray, List.toList_toArray, List.getElem?_cons_zero, List.getElem?_cons_succ, decide_eq_true_eq, Z52, beq_self_eq_true, beq_true, decide_true, decide_false, Bool.not_true, Bool.not_false, true_and, and_true, or_false, false_or, Bool.and_eq_true, Bool.and_true, Bool.true_and, reduceCtorEq, not_false_eq_true, h0, h1, h5, ho, index_str U9, convert_int T5 U3, U9, U3, U4, U5, Int.ofNat_lt, Int.toNat_natCast, c1, c2, pr_obj, obj56, call56, hw, hw1, hw2, rv57, Tryd.f57, Gives.k (ints_call _ _)]
        obtain ⟨x, hx, hx2⟩ := drop_at8 a k c1
        obtain ⟨y, hy, hy2⟩ := drop_at8 b k c2
        refine ⟨by omega, by omega, ?_⟩
        split
        · rename_i hne
          refine ⟨by omega, by omega, ?_⟩
          rw [ht, hx, hy]
          have : ¬ x = y := fun e => hne (by rw [← hx2, ← hy2, e])
          simp only [texts_cc, this, if_false, hx2, hy2]
        · rename_i heq
          refine ⟨_, ?_, k + 1, by omega, by omega, rfl, rfl, ?_⟩
          · omega
          · rw [ht, hx, hy]
            have : x = y := UInt8.toNat_inj.1 (by omega)
            simp only [texts_cc, this, if_true]
      · simp -implicitDefEqProofs only [Z2i, Z2n, Z2g, Z2h, Z2k, Z2l, Z2m, Z2j, Z2f, Z2d, Z2e, Z3i, Z3h, Z3g, Nat.zero_mul, Nat.reduceMul, Z4k, Z13, Z14, List.length_map, Z35, Z34, Z37, Z33, Z36, Z31, Z38, Z32, Z30, Z2z, Tk.nm.injEq, Tk.cell.injEq, false_and, and_false, Z2o, Z4j, Nat.le_add_right, Z5h, Z5i, Z6z, Nat.le_refl, Z5v, Z5u, Z2s, ↓Zx, ↓Zs, ↓Zt, ↓Zw, ↓Zy, ↓Zu, ↓Zv, ↓Zz, ↓Z10, ↓Zl, ↓Z2, ↓Zo, ↓Z3, ↓Zr, ↓Zg, ↓Zc, ↓Zb, ↓Ze, ↓Zd, ↓Zp, ↓Z9, ↓Za, ↓Zm, ↓Zi, ↓Z5, ↓Z6, ↓Zf, ↓Z1, ↓Z7, ↓Z8, ↓Z0, ↓Z4, ↓Zq, ↓Zh, ↓Zk, ↓Zj, ↓Zn, ↓Z64, ↓Z66, ↓Z63, ↓Z65, ↓Z7f, ↓Z7g, ↓Z7e, ↓Z2x, ↓Z2y, ↓Z2w, ↓Z1e, ↓Z1f, ↓Z1d, Z4c, Z1a, ↓Z8a, ↓Z8b, ↓Z89, ↓Z78, ↓Z79, ↓Z77, ↓Z3e, ↓Z3c, ↓Z3d, Z5c, Z5b, Z5g, Z5e, Z5f, Z5d, ↓Z3y, ↓Z3z, ↓Z3x, Z3u, Z3w, Z3v, ↓Z7b, ↓Z7a, ↓Z7d, ↓Z7c, ↓Z1z, ↓Z1y, ↓Z21, ↓Z20, ↓Z6o, ↓Z6p, ↓Z4s, ↓Z4t, Z2p, ↓Z3o, ↓Z3p, Z3s, Z3n, Z3q, Z3r, Z5p, Z5q, Z5o, Z5n, Z5r, Z1n, Z1m, Z1l, Z1k, Z1j, Z1p, Z1g, Z1t, Z1o, Z1r, Z1s, Z1q, Z1h, Z1i, Z88, Z87, Z4d, Z4e, Z4f, Z5y, Z4b, Z4a, Z49, Z48, Z16, Z17, Z15, Z6a, Z6b, Z69, ↓Z68, ↓Z67, Z2q, Z22, Z23, Z25, Z24, Z60, Z5z, Z55, Z56, ↓Z1b, ↓Z1c, Z81, Z80, Z7x, Z84, Z7y, Z83, Z7z, Z82, Z86, Z85, Z5a, Z59, Z7w, Z7t, Z7v, Z7u, Z4r, Z4q, Z4p, Z62, Z61, Z6v, Z6y, Z6w, Z6x, Z40, Z41, Z74, Z72, Z73, Z6u, Z6t, Z2v, Z2u, Z5x, Z5w, Z2r, Z71, Z70, Z6d, Z6c, Z6k, Z6j, Z6l, Z6m, Z6i, Z6h, Z6g, Z6n, Z6f, Z6e, Z58, Z57, Z7p, Z7o, Z7q, Z7r, Z7n, Z7m, Z7l, Z7s, Z7k, Z7j, Z7h, Z7i, Z54, Z53, Z5m, Z11, Z4y, Z4z, Z4x, Z51, Z4w, Z4v, Z4u, Z50, Z12, Z75, Z76, Z43, Z42, Z4o, Z4n, Z4l, Z4m, Z19, Z18, Z29, Z2b, Z2a, Z28, Z2c, Z27, Z26, Z5t, Z3t, Z6r, ↓Z6s, ↓Z6q, Z2t, Z47, Z44, Z45, Z46, Z3m, Z3k, Z3l, Z3j, Z1v, Z1u, Z1w, Z1x, List.any_cons, List.any_nil, Bool.or_true, Bool.true_or, Bool.or_false, Bool.false_or, Bool.and_false, Bool.false_and, Nat.reduceBEq, Z5k, Z5j, Z5l, Z3f, ↓Z39, ↓Z3b, ↓Z3a, Z4i, Z4h, Z4g, Z5s, Nat.reduceLeDiff, Int.reduceLT, Int.reduceLE, Int.reduceAdd, Int.reduceToNat, Int.reduceNeg, Int.cast_ofNat_Int, Nat.reduceLT, List.drop_succ_cons, List.take_succ_cons, List.singleton_append, Nat.zero_add, List.set_cons_zero, List.set_cons_succ, List.drop_nil, List.take_nil, Option.map_some, Option.map_none, Option.getD_some, Option.getD_none, Option.bind_some, List.cons_append, List.nil_append, List.append_nil, List.map_cons, List.map_nil, List.range_zero, List.take_zero, List.flatten_nil, List.filter_nil, List.length_nil, List.length_cons, List.drop_zero, List.not_mem_nil, List.mem_cons, Bool.true_eq_false, Bool.false_eq_true, ↓reduceIte, Nat.reduceEqDiff, Nat.reduceAdd, List.getElem?_toArray, List.toList_toArray, List.getElem?_cons_zero, List.getElem?_cons_succ, decide_eq_true_eq, Z52, beq_self_eq_true, beq_true, decide_true, decide_false, Bool.not_true, Bool.not_false, true_and, and_true, or_false, false_or, Bool.and_eq_true, Bool.and_true, Bool.true_and, reduceCtorEq, not_false_eq_true, h0, h1, h5, ho, U9, U3, U4, Int.ofNat_lt, c1, c2, pr_obj, obj56, call56, rv57, Tryd.f57, Gives.k (ints_call _ _)]
        obtain ⟨x, hx, hx2⟩ := drop_at8 a k c1
        have hk : b.size = k := by omega
        rw [ht, hx, drop_all b k (by omega)]
        simp only [texts_cn, ints]
        rw [if_neg (by omega), if_pos (by omega)]
    · simp -implicitDefEqProofs only [Z2i, Z2n, Z2g, Z2h, Z2k, Z2l, Z2m, Z2j, Z2f, Z2d, Z2e, Z3i, Z3h, Z3g, Nat.zero_mul, Nat.reduceMul, Z4k, Z13, Z14, List.length_map, Z35, Z34, Z37, Z33, Z36, Z31, Z38, Z32, Z30, Z2z, Tk.nm.injEq, Tk.cell.injEq, false_and, and_false, Z2o, Z4j, Nat.le_add_right, Z5h, Z5i, Z6z, Nat.le_refl, Z5v, Z5u, Z2s, ↓Zx, ↓Zs, ↓Zt, ↓Zw, ↓Zy, ↓Zu, ↓Zv, ↓Zz, ↓Z10, ↓Zl, ↓Z2, ↓Zo, ↓Z3, ↓Zr, ↓Zg, ↓Zc, ↓Zb, ↓Ze, ↓Zd, ↓Zp, ↓Z9, ↓Za, ↓Zm, ↓Zi, ↓Z5, ↓Z6, ↓Zf, ↓Z1, ↓Z7, ↓Z8, ↓Z0, ↓Z4, ↓Zq, ↓Zh, ↓Zk, ↓Zj, ↓Zn, ↓Z64, ↓Z66, ↓Z63, ↓Z65, ↓Z7f, ↓Z7g, ↓Z7e, ↓Z2x, ↓Z2y, ↓Z2w, ↓Z1e, ↓Z1f, ↓Z1d, Z4c, Z1a, ↓Z8a, ↓Z8b, ↓Z89, ↓Z78, ↓Z79, ↓Z77, ↓Z3e, ↓Z3c, ↓Z3d, Z5c, Z5b, Z5g, Z5e, Z5f, Z5d, ↓Z3y, ↓Z3z, ↓Z3x, Z3u, Z3w, Z3v, ↓Z7b, ↓Z7a, ↓Z7d, ↓Z7c, ↓Z1z, ↓Z1y, ↓Z21, ↓Z20, ↓Z6o, ↓Z6p, ↓Z4s, ↓Z4t, Z2p, ↓Z3o, ↓Z3p, Z3s, Z3n, Z3q, Z3r, Z5p, Z5q, Z5o, Z5n, Z5r, Z1n, Z1m, Z1l, Z1k, Z1j, Z1p, Z1g, Z1t, Z1o, Z1r, Z1s, Z1q, Z1h, Z1i, Z88, Z87, Z4d, Z4e, Z4f, Z5y, Z4b, Z4a, Z49, Z48, Z16, Z17, Z15, Z6a, Z6b, Z69, ↓Z68, ↓Z67, Z2q, Z22, Z23, Z25, Z24, Z60, Z5z, Z55, Z56, ↓Z1b, ↓Z1c, Z81, Z80, Z7x, Z84, Z7y, Z83, Z7z, Z82, Z86, Z85, Z5a, Z59, Z7w, Z7t, Z7v, Z7u, Z4r, Z4q, Z4p, Z62, Z61, Z6v, Z6y, Z6w, Z6x, Z40, Z41, Z74, Z72, Z73, Z6u, Z6t, Z2v, Z2u, Z5x, Z5w, Z2r, Z71, Z70, Z6d, Z6c, Z6k, Z6j, Z6l, Z6m, Z6i, Z6h, Z6g, Z6n, Z6f, Z6e, Z58, Z57, Z7p, Z7o, Z7q, Z7r, Z7n, Z7m, Z7l, Z7s, Z7k, Z7j, Z7h, Z7i, Z54, Z53, Z5m, Z11, Z4y, Z4z, Z4x, Z51, Z4w, Z4v, Z4u, Z50, Z12, Z75, Z76, Z43, Z42, Z4o, Z4n, Z4l, Z4m, Z19, Z18, Z29, Z2b, Z2a, Z28, Z2c, Z27, Z26, Z5t, Z3t, Z6r, ↓Z6s, ↓Z6q, Z2t, Z47, Z44, Z45, Z46, Z3m, Z3k, Z3l, Z3j, Z1v, Z1u, Z1w, Z1x, List.any_cons, List.any_nil, Bool.or_true, Bool.true_or, Bool.or_false, Bool.false_or, Bool.and_false, Bool.false_and, Nat.reduceBEq, Z5k, Z5j, Z5l, Z3f, ↓Z39, ↓Z3b, ↓Z3a, Z4i, Z4h, Z4g, Z5s, Nat.reduceLeDiff, Int.reduceLT, Int.reduceLE, Int.reduceAdd, Int.reduceToNat, Int.reduceNeg, Int.cast_ofNat_Int, Nat.reduceLT, List.drop_succ_cons, List.take_succ_cons, List.singleton_append, Nat.zero_add, List.set_cons_zero, List.set_cons_succ, List.drop_nil, List.take_nil, Option.map_some, Option.map_none, Option.getD_some, Option.getD_none, Option.bind_some, List.cons_append, List.nil_append, List.append_nil, List.map_cons, List.map_nil, List.range_zero, List.take_zero, List.flatten_nil, List.filter_nil, List.length_nil, List.length_cons, List.drop_zero, List.not_mem_nil, List.mem_cons, Bool.true_eq_false, Bool.false_eq_true, ↓reduceIte, Nat.reduceEqDiff, Nat.reduceAdd, List.getElem?_toArray, List.toList_toArray, List.getElem?_cons_zero, List.getElem?_cons_succ, decide_eq_true_eq, Z52, beq_self_eq_true, beq_true, decide_true, decide_false, Bool.not_true, Bool.not_false, true_and, and_true, or_false, false_or, Bool.and_eq_true, Bool.and_true, Bool.true_and, reduceCtorEq, not_false_eq_true, h0, h1, h5, ho, U9, U3, U4, Int.ofNat_lt, c1, pr_obj, obj56, call56, rv57, Tryd.f57, Gives.k (ints_call _ _)]
      rw [ht, drop_all a k (by omega)]
      by_cases c2 : k < b.size
      · obtain ⟨y, hy, hy2⟩ := drop_at8 b k c2
        rw [hy]
        simp only [texts_nc, ints]
        rw [if_pos (by omega)]
      · rw [drop_all b k (by omega)]
        simp only [texts_nil, ints]
        rw [if_neg (by omega), if_neg (by omega)]
  · exact ⟨0, by omega, by omega, by omega, by simp -implicitDefEqProofs only [Z2i, Z2n, Z2g, Z2h, Z2k, Z2l, Z2m, Z2j, Z2f, Z2d, Z2e, Z3i, Z3h, Z3g, Nat.zero_mul, Nat.reduceMul, Z4k, Z13, Z14, List.length_map, Z35, Z34, Z37, Z33, Z36, Z31, Z38, Z32, Z30, Z2z, Tk.nm.injEq, Tk.cell.injEq, false_and, and_false, Z2o, Z4j, Nat.le_add_right, Z5h, Z5i, Z6z, Nat.le_refl, Z5v, Z5u, Z2s, ↓Zx, ↓Zs, ↓Zt, ↓Zw, ↓Zy, ↓Zu, ↓Zv, ↓Zz, ↓Z10, ↓Zl, ↓Z2, ↓Zo, ↓Z3, ↓Zr, ↓Zg, ↓Zc, ↓Zb, ↓Ze, ↓Zd, ↓Zp, ↓Z9, ↓Za, ↓Zm, ↓Zi, ↓Z5, ↓Z6, ↓Zf, ↓Z1, ↓Z7, ↓Z8, ↓Z0, ↓Z4, ↓Zq, ↓Zh, ↓Zk, ↓Zj, ↓Zn, ↓Z64, ↓Z66, ↓Z63, ↓Z65, ↓Z7f, ↓Z7g, ↓Z7e, ↓Z2x, ↓Z2y, ↓Z2w, ↓Z1e, ↓Z1f, ↓Z1d, Z4c, Z1a, ↓Z8a, ↓Z8b, ↓Z89, ↓Z78, ↓Z79, ↓Z77, ↓Z3e, ↓Z3c, ↓Z3d, Z5c, Z5b, Z5g, Z5e, Z5f, Z5d, ↓Z3y, ↓Z3z, ↓Z3x, Z3u, Z3w, Z3v, ↓Z7b, ↓Z7a, ↓Z7d, ↓Z7c, ↓Z1z, ↓Z1y, ↓Z21, ↓Z20, ↓Z6o, ↓Z6p, ↓Z4s, ↓Z4t, Z2p, ↓Z3o, ↓Z3p, Z3s, Z3n, Z3q, Z3r, Z5p, Z5q, Z5o, Z5n, Z5r, Z1n, Z1m, Z1l, Z1k, Z1j, Z1p, Z1g, Z1t, Z1o, Z1r, Z1s, Z1q, Z1h, Z1i, Z88, Z87, Z4d, Z4e, Z4f, Z5y, Z4b, Z4a, Z49, Z48, Z16, Z17, Z15, Z6a, Z6b, Z69, ↓Z68, ↓Z67, Z2q, Z22, Z23, Z25, Z24, Z60, Z5z, Z55, Z56, ↓Z1b, ↓Z1c, Z81, Z80, Z7x, Z84, Z7y, Z83, Z7z, Z82, Z86, Z85, Z5a, Z59, Z7w, Z7t, Z7v, Z7u, Z4r, Z4q, Z4p, Z62, Z61, Z6v, Z6y, Z6w, Z6x, Z40, Z41, Z74, Z72, Z73, Z6u, Z6t, Z2v, Z2u, Z5x, Z5w, Z2r, Z71, Z70, Z6d, Z6c, Z6k, Z6j, Z6l, Z6m, Z6i, Z6h, Z6g, Z6n, Z6f, Z6e, Z58, Z57, Z7p, Z7o, Z7q, Z7r, Z7n, Z7m, Z7l, Z7s, Z7k, Z7j, Z7h, Z7i, Z54, Z53, Z5m, Z11, Z4y, Z4z, Z4x, Z51, Z4w, Z4v, Z4u, Z50, Z12, Z75, Z76, Z43, Z42, Z4o, Z4n, Z4l, Z4m, Z19, Z18, Z29, Z2b, Z2a, Z28, Z2c, Z27, Z26, Z5t, Z3t, Z6r, ↓Z6s, ↓Z6q, Z2t, Z47, Z44, Z45, Z46, Z3m, Z3k, Z3l, Z3j, Z1v, Z1u, Z1w, Z1x, List.any_cons, List.any_nil, Bool.or_true, Bool.true_or, Bool.or_false, Bool.false_or, Bool.and_false, Bool.false_and, Nat.reduceBEq, Z5k, Z5j, Z5l, Z3f, ↓Z39, ↓Z3b, ↓Z3a, Z4i, Z4h, Z4g, Z5s, Nat.reduceLeDiff, Int.reduceLT, Int.reduceLE, Int.reduceAdd, Int.reduceToNat, Int.reduceNeg, Int.cast_ofNat_Int, Nat.reduceLT, List.drop_succ_cons, List.take_succ_cons, List.singleton_append, Nat.zero_add, List.set_cons_zero, List.set_cons_succ, List.drop_nil, List.take_nil, Option.map_some, Option.map_none, Option.getD_some, Option.getD_none, Option.bind_some, List.cons_append, List.nil_append, List.append_nil, List.map_cons, List.map_nil, List.range_zero, List.take_zero, List.flatten_nil, List.filter_nil, List.length_nil, List.length_cons, List.drop_zero, List.not_mem_nil, List.mem_cons, Bool.true_eq_false, Bool.false_eq_true, ↓reduceIte, Nat.reduceEqDiff, Nat.reduceAdd, List.getElem?_toArray, List.toList_toArray, List.getElem?_cons_zero, List.getElem?_cons_succ, decide_eq_true_eq, Z52, beq_self_eq_true, beq_true, decide_true, decide_false, Bool.not_true, Bool.not_false, true_and, and_true, or_false, false_or, Bool.and_eq_true, Bool.and_true, Bool.true_and, reduceCtorEq, not_false_eq_true], by simp -implicitDefEqProofs only [Z2i, Z2n, Z2g, Z2h, Z2k, Z2l, Z2m, Z2j, Z2f, Z2d, Z2e, Z3i, Z3h, Z3g, Nat.zero_mul, Nat.reduceMul, Z4k, Z13, Z14, List.length_map, Z35, Z34, Z37, Z33, Z36, Z31, Z38, Z32, Z30, Z2z, Tk.nm.injEq, Tk.cell.injEq, false_and, and_false, Z2o, Z4j, Nat.le_add_right, Z5h, Z5i, Z6z, Nat.le_refl, Z5v, Z5u, Z2s, ↓Zx, ↓Zs, ↓Zt, ↓Zw, ↓Zy, ↓Zu, ↓Zv, ↓Zz, ↓Z10, ↓Zl, ↓Z2, ↓Zo, ↓Z3, ↓Zr, ↓Zg, ↓Zc, ↓Zb, ↓Ze, ↓Zd, ↓Zp, ↓Z9, ↓Za, ↓Zm, ↓Zi, ↓Z5, ↓Z6, ↓Zf, ↓Z1, ↓Z7, ↓Z8, ↓Z0, ↓Z4, ↓Zq, ↓Zh, ↓Zk, ↓Zj, ↓Zn, ↓Z64, ↓Z66, ↓Z63, ↓Z65, ↓Z7f, ↓Z7g, ↓Z7e, ↓Z2x, ↓Z2y, ↓Z2w, ↓Z1e, ↓Z1f, ↓Z1d, Z4c, Z1a, ↓Z8a, ↓Z8b, ↓Z89, ↓Z78, ↓Z79, ↓Z77, ↓Z3e, ↓Z3c, ↓Z3d, Z5c, Z5b, Z5g, Z5e, Z5f, Z5d, ↓Z3y, ↓Z3z, ↓Z3x, Z3u, Z3w, Z3v, ↓Z7b, ↓Z7a, ↓Z7d, ↓Z7c, ↓Z1z, ↓Z1y, ↓Z21, ↓Z20, ↓Z6o, ↓Z6p, ↓Z4s, ↓Z4t, Z2p, ↓Z3o, ↓Z3p, Z3s, Z3n, Z3q, Z3r, Z5p, Z5q, Z5o, Z5n, Z5r, Z1n, Z1m, Z1l, Z1k, Z1j, Z1p, Z1g, Z1t, Z1o, Z1r, Z1s, Z1q, Z1h, Z1i, Z88, Z87, Z4d, Z4e, Z4f, Z5y, Z4b, Z4a, Z49, Z48, Z16, Z17, Z15, Z6a, Z6b, Z69, ↓Z68, ↓Z67, Z2q, Z22, Z23, Z25, Z24, Z60, Z5z, Z55, Z56, ↓Z1b, ↓Z1c, Z81, Z80, Z7x, Z84, Z7y, Z83, Z7z, Z82, Z86, Z85, Z5a, Z59, Z7w, Z7t, Z7v, Z7u, Z4r, Z4q, Z4p, Z62, Z61, Z6v, Z6y, Z6w, Z6x, Z40, Z41, Z74, Z72, Z73, Z6u, Z6t, Z2v, Z2u, Z5x, Z5w, Z2r, Z71, Z70, Z6d, Z6c, Z6k, Z6j, Z6l, Z6m, Z6i, Z6h, Z6g, Z6n, Z6f, Z6e, Z58, Z57, Z7p, Z7o, Z7q, Z7r, Z7n, Z7m, Z7l, Z7s, Z7k, Z7j, Z7h, Z7i, Z54, Z53, Z5m, Z11, Z4y, Z4z, Z4x, Z51, Z4w, Z4v, Z4u, Z50, Z12, Z75, Z76, Z43, Z42, Z4o, Z4n, Z4l, Z4m, Z19, Z18, Z29, Z2b, Z2a, Z28, Z2c, Z27, Z26, Z5t, Z3t, Z6r, ↓Z6s, ↓Z6q, Z2t, Z47, Z44, Z45, Z46, Z3m, Z3k, Z3l, Z3j, Z1v, Z1u, Z1w, Z1x, List.any_cons, List.any_nil, Bool.or_true, Bool.true_or, Bool.or_false, Bool.false_or, Bool.and_false, Bool.false_and, Nat.reduceBEq, Z5k, Z5j, Z5l, Z3f, ↓Z39, ↓Z3b, ↓Z3a, Z4i, Z4h, Z4g, Z5s, Nat.reduceLeDiff, Int.reduceLT, Int.reduceLE, Int.reduceAdd, Int.reduceToNat, Int.reduceNeg, Int.cast_ofNat_Int, Nat.reduceLT, List.drop_succ_cons, List.take_succ_cons, List.singleton_append, Nat.zero_add, List.set_cons_zero, List.set_cons_succ, List.drop_nil, List.take_nil, Option.map_some, Option.map_none, Option.getD_some, Option.getD_none, Option.bind_some, List.cons_append, List.nil_append, List.append_nil, List.map_cons, List.map_nil, List.range_zero, List.take_zero, List.flatten_nil, List.filter_nil, List.length_nil, List.length_cons, List.drop_zero, List.not_mem_nil, List.mem_cons, Bool.true_eq_false, Bool.false_eq_true, ↓reduceIte, Nat.reduceEqDiff, Nat.reduceAdd, List.getElem?_toArray, List.toList_toArray, List.getElem?_cons_zero, List.getElem?_cons_succ, decide_eq_true_eq, Z52, beq_self_eq_true, beq_true, decide_true, decide_false, Bool.not_true, Bool.not_false, true_and, and_true, or_false, false_or, Bool.and_eq_true, Bool.and_true, Bool.true_and, reduceCtorEq, not_false_eq_true], by simp -implicitDefEqProofs only [Z2i, Z2n, Z2g, Z2h, Z2k, Z2l, Z2m, Z2j, Z2f, Z2d, Z2e, Z3i, Z3h, Z3g, Nat.zero_mul, Nat.reduceMul, Z4k, Z13, Z14, List.length_map, Z35, Z34, Z37, Z33, Z36, Z31, Z38, Z32, Z30, Z2z, Tk.nm.injEq, Tk.cell.injEq, false_and, and_false, Z2o, Z4j, Nat.le_add_right, Z5h, Z5i, Z6z, Nat.le_refl, Z5v, Z5u, Z2s, ↓Zx, ↓Zs, ↓Zt, ↓Zw, ↓Zy, ↓Zu, ↓Zv, ↓Zz, ↓Z10, ↓Zl, ↓Z2, ↓Zo, ↓Z3, ↓Zr, ↓Zg, ↓Zc, ↓Zb, ↓Ze, ↓Zd, ↓Zp, ↓Z9, ↓Za, ↓Zm, ↓Zi, ↓Z5, ↓Z6, ↓Zf, ↓Z1, ↓Z7, ↓Z8, ↓Z0, ↓Z4, ↓Zq, ↓Zh, ↓Zk, ↓Zj, ↓Zn, ↓Z64, ↓Z66, ↓Z63, ↓Z65, ↓Z7f, ↓Z7g, ↓Z7e, ↓Z2x, ↓Z2y, ↓Z2w, ↓Z1e, ↓Z1f, ↓Z1d, Z4c, Z1a, ↓Z8a, ↓Z8b, ↓Z89, ↓Z78, ↓Z79, ↓Z77, ↓Z3e, ↓Z3c, ↓Z3d, Z5c, Z5b, Z5g, Z5e, Z5f, Z5d, ↓Z3y, ↓Z3z, ↓Z3x, Z3u, Z3w, Z3v, ↓Z7b, ↓Z7a, ↓Z7d, ↓Z7c, ↓Z1z, ↓Z1y, ↓Z21, ↓Z20, ↓Z6o, ↓Z6p, ↓Z4s, ↓Z4t, Z2p, ↓Z3o, ↓Z3p, Z3s, Z3n, Z3q, Z3r, Z5p, Z5q, Z5o, Z5n, Z5r, Z1n, Z1m, Z1l, Z1k, Z1j, Z1p, Z1g, Z1t, Z1o, Z1r, Z1s, Z1q, Z1h, Z1i, Z88, Z87, Z4d, Z4e, Z4f, Z5y, Z4b, Z4a, Z49, Z48, Z16, Z17, Z15, Z6a, Z6b, Z69, ↓Z68, ↓Z67, Z2q, Z22, Z23, Z25, Z24, Z60, Z5z, Z55, Z56, ↓Z1b, ↓Z1c, Z81, Z80, Z7x, Z84, Z7y, Z83, Z7z, Z82, Z86, Z85, Z5a, Z59, Z7w, Z7t, Z7v, Z7u, Z4r, Z4q, Z4p, Z62, Z61, Z6v, Z6y, Z6w, Z6x, Z40, Z41, Z74, Z72, Z73, Z6u, Z6t, Z2v, Z2u, Z5x, Z5w, Z2r, Z71, Z70, Z6d, Z6c, Z6k, Z6j, Z6l, Z6m, Z6i, Z6h, Z6g, Z6n, Z6f, Z6e, Z58, Z57, Z7p, Z7o, Z7q, Z7r, Z7n, Z7m, Z7l, Z7s, Z7k, Z7j, Z7h, Z7i, Z54, Z53, Z5m, Z11, Z4y, Z4z, Z4x, Z51, Z4w, Z4v, Z4u, Z50, Z12, Z75, Z76, Z43, Z42, Z4o, Z4n, Z4l, Z4m, Z19, Z18, Z29, Z2b, Z2a, Z28, Z2c, Z27, Z26, Z5t, Z3t, Z6r, ↓Z6s, ↓Z6q, Z2t, Z47, Z44, Z45, Z46, Z3m, Z3k, Z3l, Z3j, Z1v, Z1u, Z1w, Z1x, List.any_cons, List.any_nil, Bool.or_true, Bool.true_or, Bool.or_false, Bool.false_or, Bool.and_false, Bool.false_and, Nat.reduceBEq, Z5k, Z5j, Z5l, Z3f, ↓Z39, ↓Z3b, ↓Z3a, Z4i, Z4h, Z4g, Z5s, Nat.reduceLeDiff, Int.reduceLT, Int.reduceLE, Int.reduceAdd, Int.reduceToNat, Int.reduceNeg, Int.cast_ofNat_Int, Nat.reduceLT, List.drop_succ_cons, List.take_succ_cons, List.singleton_append, Nat.zero_add, List.set_cons_zero, List.set_cons_succ, List.drop_nil, List.take_nil, Option.map_some, Option.map_none, Option.getD_some, Option.getD_none, Option.bind_some, List.cons_append, List.nil_append, List.append_nil, List.map_cons, List.map_nil, List.range_zero, List.take_zero, List.flatten_nil, List.filter_nil, List.length_nil, List.length_cons, List.drop_zero, List.not_mem_nil, List.mem_cons, Bool.true_eq_false, Bool.false_eq_true, ↓reduceIte, Nat.reduceEqDiff, Nat.reduceAdd, List.getElem?_toArray, List.toList_toArray, List.getElem?_cons_zero, List.getElem?_cons_succ, decide_eq_true_eq, Z52, beq_self_eq_true, beq_true, decide_true, decide_false, Bool.not_true, Bool.not_false, true_and, and_true, or_false, false_or, Bool.and_eq_true, Bool.and_true, Bool.true_and, reduceCtorEq, not_false_eq_true] <;> rfl, by simp -implicitDefEqProofs only [Z2i, Z2n, Z2g, Z2h, Z2k, Z2l, Z2m, Z2j, Z2f, Z2d, Z2e, Z3i, Z3h, Z3g, Nat.zero_mul, Nat.reduceMul, Z4k, Z13, Z14, List.length_map, Z35, Z34, Z37, Z33, Z36, Z31, Z38, Z32, Z30, Z2z, Tk.nm.injEq, Tk.cell.injEq, false_and, and_false, Z2o, Z4j, Nat.le_add_right, Z5h, Z5i, Z6z, Nat.le_refl, Z5v, Z5u, Z2s, ↓Zx, ↓Zs, ↓Zt, ↓Zw, ↓Zy, ↓Zu, ↓Zv, ↓Zz, ↓Z10, ↓Zl, ↓Z2, ↓Zo, ↓Z3, ↓Zr, ↓Zg, ↓Zc, ↓Zb, ↓Ze, ↓Zd, ↓Zp, ↓Z9, ↓Za, ↓Zm, ↓Zi, ↓Z5, ↓Z6, ↓Zf, ↓Z1, ↓Z7, ↓Z8, ↓Z0, ↓Z4, ↓Zq, ↓Zh, ↓Zk, ↓Zj, ↓Zn, ↓Z64, ↓Z66, ↓Z63, ↓Z65, ↓Z7f, ↓Z7g, ↓Z7e, ↓Z2x, ↓Z2y, ↓Z2w, ↓Z1e, ↓Z1f, ↓Z1d, Z4c, Z1a, ↓Z8a, ↓Z8b, ↓Z89, ↓Z78, ↓Z79, ↓Z77, ↓Z3e, ↓Z3c, ↓Z3d, Z5c, Z5b, Z5g, Z5e, Z5f, Z5d, ↓Z3y, ↓Z3z, ↓Z3x, Z3u, Z3w, Z3v, ↓Z7b, ↓Z7a, ↓Z7d, ↓Z7c, ↓Z1z, ↓Z1y, ↓Z21, ↓Z20, ↓Z6o, ↓Z6p, ↓Z4s, ↓Z4t, Z2p, ↓Z3o, ↓Z3p, Z3s, Z3n, Z3q, Z3r, Z5p, Z5q, Z5o, Z5n, Z5r, Z1n, Z1m, Z1l, Z1k, Z1j, Z1p, Z1g, Z1t, Z1o, Z1r, Z1s, Z1q, Z1h, Z1i, Z88, Z87, Z4d, Z4e, Z4f, Z5y, Z4b, Z4a, Z49, Z48, Z16, Z17, Z15, Z6a, Z6b, Z69, ↓Z68, ↓Z67, Z2q, Z22, Z23, Z25, Z24, Z60, Z5z, Z55, Z56, ↓Z1b, ↓Z1c, Z81, Z80, Z7x, Z84, Z7y, Z83, Z7z, Z82, Z86, Z85, Z5a, Z59, Z7w, Z7t, Z7v, Z7u, Z4r, Z4q, Z4p, Z62, Z61, Z6v, Z6y, Z6w, Z6x, Z40, Z41, Z74, Z72, Z73, Z6u, Z6t, Z2v, Z2u, Z5x, Z5w, Z2r, Z71, Z70, Z6d, Z6c, Z6k, Z6j, Z6l, Z6m, Z6i, Z6h, Z6g, Z6n, Z6f, Z6e, Z58, Z57, Z7p, Z7o, Z7q, Z7r, Z7n, Z7m, Z7l, Z7s, Z7k, Z7j, Z7h, Z7i, Z54, Z53, Z5m, Z11, Z4y, Z4z, Z4x, Z51, Z4w, Z4v, Z4u, Z50, Z12, Z75, Z76, Z43, Z42, Z4o, Z4n, Z4l, Z4m, Z19, Z18, Z29, Z2b, Z2a, Z28, Z2c, Z27, Z26, Z5t, Z3t, Z6r, ↓Z6s, ↓Z6q, Z2t, Z47, Z44, Z45, Z46, Z3m, Z3k, Z3l, Z3j, Z1v, Z1u, Z1w, Z1x, List.any_cons, List.any_nil, Bool.or_true, Bool.true_or, Bool.or_false, Bool.false_or, Bool.and_false, Bool.false_and, Nat.reduceBEq, Z5k, Z5j, Z5l, Z3f, ↓Z39, ↓Z3b, ↓Z3a, Z4i, Z4h, Z4g, Z5s, Nat.reduceLeDiff, Int.reduceLT, Int.reduceLE, Int.reduceAdd, Int.reduceToNat, Int.reduceNeg, Int.cast_ofNat_Int, Nat.reduceLT, List.drop_succ_cons, List.take_succ_cons, List.singleton_append, Nat.zero_add, List.set_cons_zero, List.set_cons_succ, List.drop_nil, List.take_nil, Option.map_some, Option.map_none, Option.getD_some, Option.getD_none, Option.bind_some, List.cons_append, List.nil_append, List.append_nil, List.map_cons, List.map_nil, List.range_zero, List.take_zero, List.flatten_nil, List.filter_nil, List.length_nil, List.length_cons, List.drop_zero, List.not_mem_nil, List.mem_cons, Bool.true_eq_false, Bool.false_eq_true, ↓reduceIte, Nat.reduceEqDiff, Nat.reduceAdd, List.getElem?_toArray, List.toList_toArray, List.getElem?_cons_zero, List.getElem?_cons_succ, decide_eq_true_eq, Z52, beq_self_eq_true, beq_true, decide_true, decide_false, Bool.not_true, Bool.not_false, true_and, and_true, or_false, false_or, Bool.and_eq_true, Bool.and_true, Bool.true_and, reduceCtorEq, not_false_eq_true], by simp⟩
end Go.Proofs.YtiepbejeiijpmaaDoor
namespace Go.Proofs.YtiepbejeiijpmaaDoor
open Go Go.Pe Go.Tab

def valX (v : V) : C := .agg (valC v)

theorem wt_cons (v : V) (r : List V) : wt (v :: r) = v.s.size + 3 + wt r := by simp [wt]
theorem len_wt : ∀ r : List V, 3 * r.length ≤ wt r
  | [] => by simp [wt]
  | v :: r => by have := len_wt r; rw [wt_cons]; simp only [List.length_cons]; omega
theorem ROk.len {r : List V} (h : ROk r) : r.length ≤ 1048576 := by have := len_wt r; have := h.wt; omega

theorem valsC_length : ∀ r : List V, (valsC r).length = r.length * 3
  | [] => rfl
  | v :: r => by
    have := valsC_length r
    unfold valsC at this ⊢
    simp only [List.map_cons, List.flatten_cons, List.length_append, this, List.length_cons]
    show 3 + _ = _
    omega
theorem valsC_cons (v : V) (r : List V) : valsC (v :: r) = valC v ++ valsC r := by simp [valsC]
theorem valsC_drop : ∀ (r : List V) (k : Nat), (valsC r).drop (k * 3) = valsC (r.drop k)
  | r, 0 => by simp
  | [], k + 1 => by simp [valsC]
  | v :: r, k + 1 => by
    rw [List.drop_succ_cons, ← valsC_drop r k, valsC_cons]
    have : (k + 1) * 3 = (valC v).length + k * 3 := by show _ = 3 + _; omega
    rw [this, ← List.drop_drop, List.drop_left]
theorem drop_getD {α : Type} {l : List α} {k : Nat} (h : k < l.length) : l.drop k = l[k] :: l.drop (k + 1) := List.drop_eq_getElem_cons h

section
variable (l : List (List V)) (k : Nat) (tk : Tk) (e z : Nat)
theorem len_rows : lenX (some (.slice 28)) (.of (rowsC l)) = out (xint l.length) := rfl
theorem ia_rows (h : k < l.length) : indexAddrX (TT.of Tryd.prog) 22 (.of (rowsC l)) (xint k) = out (.of (.ref ((l.map rowC).drop k))) := by
  rw [indexAddr_sl E22 (l.map rowC) l.length k _ rfl]
  rw [if_pos ⟨by omega, by omega, by simp, by decide⟩]
  simp
theorem ld_rows (h : k < l.length) (objs : List Ob) : loadX (TT.of Tryd.prog) objs 28 (.of (.ref ((l.map rowC).drop k))) = out (.of (rowC l[k])) := by
  rw [Z4i, drop_getD (by simpa using h)]
  simp [pieceC, T28, outO, out]
end

section
variable (r : List V) (k : Nat) (tk : Tk) (e z : Nat)
theorem len_row : lenX (some (.slice 34)) (.of (rowC r)) = out (xint r.length) := rfl
theorem ia_row (h : k < r.length) : indexAddrX (TT.of Tryd.prog) 28 (.of (rowC r)) (xint k) = out (.of (.ref (valsC (r.drop k)))) := by
  rw [indexAddr_sl E28 (valsC r) r.length k _ rfl]
  rw [if_pos ⟨by omega, by omega, valsC_length r, by decide⟩]
  simp only [Int.toNat_natCast]
  rw [valsC_drop]
theorem ld_row (h : k < r.length) (objs : List Ob) : loadX (TT.of Tryd.prog) objs 34 (.of (.ref (valsC (r.drop k)))) = out (.of (valX r[k])) := by
  rw [Z4i, drop_getD h, valsC_cons]
  simp [pieceC, T34, outO, out, valC, valX]
end
theorem cells_val (v : V) : cellsX (.of (valX v)) = some [xint v.k, xint v.n, xstr v.s] := rfl
theorem wrapS (n : Nat) (h : n < 4611686018427387904) : IntKind.i64.wrap ((n : Int) + 1) = ((n + 1 : Nat) : Int) := by rw [wrap64_ok _ (by omega) (by omega)]; rfl
section
variable (tk t : Tk) (l q : List (List V)) (r : List V)
theorem bs_rows : buildSliceX tk 0 (Pe.elemOf (TT.of Tryd.prog) 22) (some []) = out (.own tk 28 1 [] 0) := bs_0 E22 (by decide) (by decide) tk
theorem bs_rows1o (e z n : Nat) (cs : List C) : buildSliceX tk 1 (Pe.elemOf (TT.of Tryd.prog) 22) (some [(0, [.own t e z cs n])]) = out (.own tk 28 1 [.sl cs n] 1) := bs_1 E22 rfl rfl tk _
theorem bs_row : buildSliceX tk 0 (Pe.elemOf (TT.of Tryd.prog) 28) (some []) = out (.own tk 34 3 [] 0) := bs_0 E28 (by decide) (by decide) tk
theorem ap_row_0 (h : r.length ≤ LIM) : appendX (TT.of Tryd.prog) tk 28 28 (.own t 34 3 [] 0) (.of (rowC r)) = some (.own tk 34 3 (valsC r) r.length, some t) := by
  have := ap_own E28 (by decide) (by decide) tk t [] 0 (.of (rowC r)) (valsC r) r.length rfl (valsC_length r) (by omega)
  simpa using this
theorem ap_rows_0 (h : q.length ≤ LIM) : appendX (TT.of Tryd.prog) tk 22 22 (.own t 28 1 [] 0) (.of (rowsC q)) = some (.own tk 28 1 (q.map rowC) q.length, some t) := by
  have := ap_own E22 (by decide) (by decide) tk t [] 0 (.of (rowsC q)) (q.map rowC) q.length rfl (by simp) (by omega)
  simpa using this
theorem ap_rows (h : l.length + q.length ≤ LIM) : appendX (TT.of Tryd.prog) tk 22 22 (.own t 28 1 (l.map rowC) l.length) (.of (rowsC q)) = some (.own tk 28 1 ((l ++ q).map rowC) (l ++ q).length, some t) := by
  have := ap_own E22 (by decide) (by decide) tk t (l.map rowC) l.length (.of (rowsC q)) (q.map rowC) q.length rfl (by simp) h
  rw [List.map_append, List.length_append]
  exact this
theorem ap_rows1 (t' : Tk) (h : l.length + 1 ≤ LIM) : appendX (TT.of Tryd.prog) tk 22 22 (.own t 28 1 (l.map rowC) l.length) (.own t' 28 1 [rowC r] 1) = some (.own tk 28 1 ((l ++ [r]).map rowC) (l ++ [r]).length, some t) := by
  have := ap_own E22 (by decide) (by decide) tk t (l.map rowC) l.length (.own t' 28 1 [rowC r] 1) [rowC r] 1 rfl rfl h
  rw [List.map_append, List.length_append]
  exact this
theorem ap_rows1s (t' : Tk) (h : l.length + 1 ≤ LIM) : appendX (TT.of Tryd.prog) tk 22 22 (.own t 28 1 (l.map rowC) l.length) (.own t' 28 1 [.sl (valsC r) r.length] 1) = some (.own tk 28 1 ((l ++ [r]).map rowC) (l ++ [r]).length, some t) := ap_rows1 tk t l r t' h
end
end Go.Proofs.YtiepbejeiijpmaaDoor
namespace Go.Proofs.YtiepbejeiijpmaaDoor
open Go Go.Pe Go.Tab

theorem texts_k (a b : ByteArray) (K : An → Prop) (ha : a.size ≤ 1048576) (hb : b.size ≤ 1048576) : CallK Tryd.prog pr 57 [xstr a, xstr b] [] K ↔ K ⟨false, [xint (texts a.data.toList b.data.toList)], []⟩ :=
  Gives.k (texts_call a b (by unfold LIM; omega) (by unfold LIM; omega)) K

theorem an_int {a b : Int} (h : a = b) : some (An.mk false [xint a] []) = some ⟨false, [xint b], []⟩ := by rw [h]
theorem an_bool {a b : Bool} (h : a = b) : some (An.mk false [xbool a] []) = some ⟨false, [xbool b], []⟩ := by rw [h]

theorem Order_call (a b : V) (ha : VOk a) (hb : VOk b) : G1 31 [.of (valX a), .of (valX b)] (xint (order a b)) := by
  refine by_body rfl ok31 body31 ar31 rfl ?_
  have h1 := ha.s
  have h2 := hb.s
  simp -implicitDefEqProofs only [Tryd.f31, Z2i, Z2n, Z2g, Z2h, Z2k, Z2l, Z2m, Z2j, Z2f, Z2d, Z2e, Z3i, Z3h, Z3g, Nat.zero_mul, Nat.reduceMul, Z4k, Z13, Z14, List.length_map, Z35, Z34, Z37, Z33, Z36, Z31, Z38, Z32, Z30, Z2z, Tk.nm.injEq, Tk.cell.injEq, false_and, and_false, Z2o, Z4j, Nat.le_add_right, Z5h, Z5i, Z6z, Nat.le_refl, Z5v, Z5u, Z2s, ↓Zx, ↓Zs, ↓Zt, ↓Zw, ↓Zy, ↓Zu, ↓Zv, ↓Zz, ↓Z10, ↓Zl, ↓Z2, ↓Zo, ↓Z3, ↓Zr, ↓Zg, ↓Zc, ↓Zb, ↓Ze, ↓Zd, ↓Zp, ↓Z9, ↓Za, ↓Zm, ↓Zi, ↓Z5, ↓Z6, ↓Zf, ↓Z1, ↓Z7, ↓Z8, ↓Z0, ↓Z4, ↓Zq, ↓Zh, ↓Zk, ↓Zj, ↓Zn, ↓Z64, ↓Z66, ↓Z63, ↓Z65, ↓Z7f, ↓Z7g, ↓Z7e, ↓Z2x, ↓Z2y, ↓Z2w, ↓Z1e, ↓Z1f, ↓Z1d, Z4c, Z1a, ↓Z8a, ↓Z8b, ↓Z89, ↓Z78, ↓Z79, ↓Z77, ↓Z3e, ↓Z3c, ↓Z3d, Z5c, Z5b, Z5g, Z5e, Z5f, Z5d, ↓Z3y, ↓Z3z, ↓Z3x, Z3u, Z3w, Z3v, ↓Z7b, ↓Z7a, ↓Z7d, ↓Z7c, ↓Z1z, ↓Z1y, ↓Z21, ↓Z20, ↓Z6o, ↓Z6p, ↓Z4s, ↓Z4t, Z2p, ↓Z3o, ↓Z3p, Z3s, Z3n, Z3q, Z3r, Z5p, Z5q, Z5o, Z5n, Z5r, Z1n, Z1m, Z1l, Z1k, Z1j, Z1p, Z1g, Z1t, Z1o, Z1r, Z1s, Z1q, Z1h, Z1i, Z88, Z87, Z4d, Z4e, Z4f, Z5y, Z4b, Z4a, Z49, Z48, Z16, Z17, Z15, Z6a, Z6b, Z69, ↓Z68, ↓Z67, Z2q, Z22, Z23, Z25, Z24, Z60, Z5z, Z55, Z56, ↓Z1b, ↓Z1c, Z81, Z80, Z7x, Z84, Z7y, Z83, Z7z, Z82, Z86, Z85, Z5a, Z59, Z7w, Z7t, Z7v, Z7u, Z4r, Z4q, Z4p, Z62, Z61, Z6v, Z6y, Z6w, Z6x, Z40, Z41, Z74, Z72, Z73, Z6u, Z6t, Z2v, Z2u, Z5x, Z5w, Z2r, Z71, Z70, Z6d, Z6c, Z6k, Z6j, Z6l, Z6m, Z6i, Z6h, Z6g, Z6n, Z6f, Z6e, Z58, Z57, Z7p, Z7o, Z7q, Z7r, Z7n, Z7m, Z7l, Z7s, Z7k, Z7j, Z7h, Z7i, Z54, Z53, Z5m, Z11, Z4y, Z4z, Z4x, Z51, Z4w, Z4v, Z4u, Z50, Z12, Z75, Z76, Z43, Z42, Z4o, Z4n, Z4l, Z4m, Z19, Z18, Z29, Z2b, Z2a, Z28, Z2c, Z27, Z26, Z5t, Z3t, Z6r, ↓Z6s, ↓Z6q, Z2t, Z47, Z44, Z45, Z46, Z3m, Z3k, Z3l, Z3j, Z1v, Z1u, Z1w, Z1x, List.any_cons, List.any_nil, Bool.or_true, Bool.true_or, Bool.or_false, Bool.false_or, Bool.and_false, Bool.false_and, Nat.reduceBEq, Z5k, Z5j, Z5l, Z3f, ↓Z39, ↓Z3b, ↓Z3a, Z4i, Z4h, Z4g, Z5s, Nat.reduceLeDiff, Int.reduceLT, Int.reduceLE, Int.reduceAdd, Int.reduceToNat, Int.reduceNeg, Int.cast_ofNat_Int, Nat.reduceLT, List.drop_succ_cons, List.take_succ_cons, List.singleton_append, Nat.zero_add, List.set_cons_zero, List.set_cons_succ, List.drop_nil, List.take_nil, Option.map_some, Option.map_none, Option.getD_some, Option.getD_none, Option.bind_some, List.cons_append, List.nil_append, List.append_nil, List.map_cons, List.map_nil, List.range_zero, List.take_zero, List.flatten_nil, List.filter_nil, List.length_nil, List.length_cons, List.drop_zero, List.not_mem_nil, List.mem_cons, Bool.true_eq_false, Bool.false_eq_true, ↓reduceIte, Nat.reduceEqDiff, Nat.reduceAdd, List.getElem?_toArray, List.toList_toArray, List.getElem?_cons_zero, List.getElem?_cons_succ, decide_eq_true_eq, Z52, beq_self_eq_true, beq_true, decide_true, decide_false, Bool.not_true, Bool.not_false, true_and, and_true, or_false, false_or, Bool.and_eq_true, Bool.and_true, Bool.true_and, reduceCtorEq, not_false_eq_true, rv31, T34, cells_val, boxO, T3, T9, U3, U9, fa34_0, fa34_1, fa34_2, P3, P9, pr_obj, obj56, obj57, call56, call57, Gives.k (ints_call _ _), texts_k, h1, h2]
  by_cases e1 : a.k = b.k
  · rw [if_neg (by simpa using e1)]
    by_cases e2 : a.n = b.n
    · rw [if_neg (by simpa using e2)]
      exact an_int (by unfold order; rw [if_pos e1, if_pos e2]; rfl)
    · rw [if_pos (by simpa using e2)]
      exact an_int (by unfold order; rw [if_pos e1, if_neg e2])
  · rw [if_pos (by simpa using e1)]
    exact an_int (by unfold order; rw [if_neg e1])

theorem Order_k (a b : V) (K : An → Prop) (ha : VOk a) (hb : VOk b) : CallK Tryd.prog pr 31 [.of (valX a), .of (valX b)] [] K ↔ K ⟨false, [xint (order a b)], []⟩ := Gives.k (Order_call a b ha hb) K

theorem ords_nn : ords [] [] = 0 := rfl
theorem ords_nc (x : V) (r : List V) : ords [] (x :: r) = -1 := rfl
theorem ords_cn (x : V) (r : List V) : ords (x :: r) [] = 1 := rfl
theorem ords_cc (x y : V) (r q : List V) : ords (x :: r) (y :: q) = if order x y = 0 then ords r q else order x y := rfl

theorem Orders_call (a b : List V) (ha : ROk a) (hb : ROk b) : G1 46 [.of (rowC a), .of (rowC b)] (xint (ords a b)) := by
  have la := ha.len
  have lb := hb.len
  refine by_body rfl ok46 body46 ar46 rfl ?_
  simp -implicitDefEqProofs only [Tryd.f46, Z2i, Z2n, Z2g, Z2h, Z2k, Z2l, Z2m, Z2j, Z2f, Z2d, Z2e, Z3i, Z3h, Z3g, Nat.zero_mul, Nat.reduceMul, Z4k, Z13, Z14, List.length_map, Z35, Z34, Z37, Z33, Z36, Z31, Z38, Z32, Z30, Z2z, Tk.nm.injEq, Tk.cell.injEq, false_and, and_false, Z2o, Z4j, Nat.le_add_right, Z5h, Z5i, Z6z, Nat.le_refl, Z5v, Z5u, Z2s, ↓Zx, ↓Zs, ↓Zt, ↓Zw, ↓Zy, ↓Zu, ↓Zv, ↓Zz, ↓Z10, ↓Zl, ↓Z2, ↓Zo, ↓Z3, ↓Zr, ↓Zg, ↓Zc, ↓Zb, ↓Ze, ↓Zd, ↓Zp, ↓Z9, ↓Za, ↓Zm, ↓Zi, ↓Z5, ↓Z6, ↓Zf, ↓Z1, ↓Z7, ↓Z8, ↓Z0, ↓Z4, ↓Zq, ↓Zh, ↓Zk, ↓Zj, ↓Zn, ↓Z64, ↓Z66, ↓Z63, ↓Z65, ↓Z7f, ↓Z7g, ↓Z7e, ↓Z2x, ↓Z2y, ↓Z2w, ↓Z1e, ↓Z1f, ↓Z1d, Z4c, Z1a, ↓Z8a, ↓Z8b, ↓Z89, ↓Z78, ↓Z79, ↓Z77, ↓Z3e, ↓Z3c, ↓Z3d, Z5c, Z5b, Z5g, Z5e, Z5f, Z5d, ↓Z3y, ↓Z3z, ↓Z3x, Z3u, Z3w, Z3v, ↓Z7b, ↓Z7a, ↓Z7d, ↓Z7c, ↓Z1z, ↓Z1y, ↓Z21, ↓Z20, ↓Z6o, ↓Z6p, ↓Z4s, ↓Z4t, Z2p, ↓Z3o, ↓Z3p, Z3s, Z3n, Z3q, Z3r, Z5p, Z5q, Z5o, Z5n, Z5r, Z1n, Z1m, Z1l, Z1k, Z1j, Z1p, Z1g, Z1t, Z1o, Z1r, Z1s, Z1q, Z1h, Z1i, Z88, Z87, Z4d, Z4e, Z4f, Z5y, Z4b, Z4a, Z49, Z48, Z16, Z17, Z15, Z6a, Z6b, Z69, ↓Z68, ↓Z67, Z2q, Z22, Z23, Z25, Z24, Z60, Z5z, Z55, Z56, ↓Z1b, ↓Z1c, Z81, Z80, Z7x, Z84, Z7y, Z83, Z7z, Z82, Z86, Z85, Z5a, Z59, Z7w, Z7t, Z7v, Z7u, Z4r, Z4q, Z4p, Z62, Z61, Z6v, Z6y, Z6w, Z6x, Z40, Z41, Z74, Z72, Z73, Z6u, Z6t, Z2v, Z2u, Z5x, Z5w, Z2r, Z71, Z70, Z6d, Z6c, Z6k, Z6j, Z6l, Z6m, Z6i, Z6h, Z6g, Z6n, Z6f, Z6e, Z58, Z57, Z7p, Z7o, Z7q, Z7r, Z7n, Z7m, Z7l, Z7s, Z7k, Z7j, Z7h, Z7i, Z54, Z53, Z5m, Z11, Z4y, Z4z, Z4x, Z51, Z4w, Z4v, Z4u, Z50, Z12, Z75, Z76, Z43, Z42, Z4o, Z4n, Z4l, Z4m, Z19, Z18, Z29, Z2b, Z2a, Z28, Z2c, Z27, Z26, Z5t, Z3t, Z6r, ↓Z6s, ↓Z6q, Z2t, Z47, Z44, Z45, Z46, Z3m, Z3k, Z3l, Z3j, Z1v, Z1u, Z1w, Z1x, List.any_cons, List.any_nil, Bool.or_true, Bool.true_or, Bool.or_false, Bool.false_or, Bool.and_false, Bool.false_and, Nat.reduceBEq, Z5k, Z5j, Z5l, Z3f, ↓Z39, ↓Z3b, ↓Z3a, Z4i, Z4h, Z4g, Z5s, Nat.reduceLeDiff, Int.reduceLT, Int.reduceLE, Int.reduceAdd, Int.reduceToNat, Int.reduceNeg, Int.cast_ofNat_Int, Nat.reduceLT, List.drop_succ_cons, List.take_succ_cons, List.singleton_append, Nat.zero_add, List.set_cons_zero, List.set_cons_succ, List.drop_nil, List.take_nil, Option.map_some, Option.map_none, Option.getD_some, Option.getD_none, Option.bind_some, List.cons_append, List.nil_append, List.append_nil, List.map_cons, List.map_nil, List.range_zero, List.take_zero, List.flatten_nil, List.filter_nil, List.length_nil, List.length_cons, List.drop_zero, List.not_mem_nil, List.mem_cons, Bool.true_eq_false, Bool.false_eq_true, ↓reduceIte, Nat.reduceEqDiff, Nat.reduceAdd, List.getElem?_toArray, List.toList_toArray, List.getElem?_cons_zero, List.getElem?_cons_succ, decide_eq_true_eq, Z52, beq_self_eq_true, beq_true, decide_true, decide_false, Bool.not_true, Bool.not_false, true_and, and_true, or_false, false_or, Bool.and_eq_true, Bool.and_true, Bool.true_and, reduceCtorEq, not_false_eq_true, rv46]
  refine WC_inv _ _ (fun m s => ∃ k : Nat, k ≤ a.length ∧ k ≤ b.length ∧ m = a.length - k ∧ s.fr 0 = .of (rowC a) ∧ s.fr 1 = .of (rowC b) ∧ s.fr 5 = xint k ∧ s.objs = [] ∧ ords a b = ords (a.drop k) (b.drop k)) ?_ a.length _ ?_
  · rintro m s ⟨k, hk1, hk2, rfl, h0, h1, h5, ho, ht⟩
    have hw := wrapS k (by omega)
    by_cases c1 : k < a.length
    · by_cases c2 : k < b.length
      · have va := ha.v _ (List.getElem_mem c1)
        have vb := hb.v _ (List.getElem_mem c2)
        simp -implicitDefEqProofs only [Z2i, Z2n, Z2g, Z2h, Z2k, Z2l, Z2m, Z2j, Z2f, Z2d, Z2e, Z3i, Z3h, Z3g, Nat.zero_mul, Nat.reduceMul, Z4k, Z13, Z14, List.length_map, Z35, Z34, Z37, Z33, Z36, Z31, Z38, Z32, Z30, Z2z, Tk.nm.injEq, Tk.cell.injEq, false_and, and_false, Z2o, Z4j, Nat.le_add_right, Z5h, Z5i, Z6z, Nat.le_refl, Z5v, Z5u, Z2s, ↓Zx, ↓Zs, ↓Zt, ↓Zw, ↓Zy, ↓Zu, ↓Zv, ↓Zz, ↓Z10, ↓Zl, ↓Z2, ↓Zo, ↓Z3, ↓Zr, ↓Zg, ↓Zc, ↓Zb, ↓Ze, ↓Zd, ↓Zp, ↓Z9, ↓Za, ↓Zm, ↓Zi, ↓Z5, ↓Z6, ↓Zf, ↓Z1, ↓Z7, ↓Z8, ↓Z0, ↓Z4, ↓Zq, ↓Zh, ↓Zk, ↓Zj, ↓Zn, ↓Z64, ↓Z66, ↓Z63, ↓Z65, ↓Z7f, ↓Z7g, ↓Z7e, ↓Z2x, ↓Z2y, ↓Z2w, ↓Z1e, ↓Z1f, ↓Z1d, Z4c, Z1a, ↓Z8a, ↓Z8b, ↓Z89, ↓Z78, ↓Z79, ↓Z77, ↓Z3e, ↓Z3c, ↓Z3d, Z5c, Z5b, Z5g, Z5e, Z5f, Z5d, ↓Z3y, ↓Z3z, ↓Z3x, Z3u, Z3w, Z3v, ↓Z7b, ↓Z7a, ↓Z7d, ↓Z7c, ↓Z1z, ↓Z1y, ↓Z21, ↓Z20, ↓Z6o, ↓Z6p, ↓Z4s, ↓Z4t, Z2p, ↓Z3o, ↓Z3p, Z3s, Z3n, Z3q, Z3r, Z5p, Z5q, Z5o, Z5n, Z5r, Z1n, Z1m, Z1l, Z1k, Z1j, Z1p, Z1g, Z1t, Z1o, Z1r, Z1s, Z1q, Z1h, Z1i, Z88, Z87, Z4d, Z4e, Z4f, Z5y, Z4b, Z4a, Z49, Z48, Z16, Z17, Z15, Z6a, Z6b, Z69, ↓Z68, ↓Z67, Z2q, Z22, Z23, Z25, Z24, Z60, Z5z, Z55, Z56, ↓Z1b, ↓Z1c, Z81, Z80, Z7x, Z84, Z7y, Z83, Z7z, Z82, Z86, Z85, Z5a, Z59, Z7w, Z7t, Z7v, Z7u, Z4r, Z4q, Z4p, Z62, Z61, Z6v, Z6y, Z6w, Z6x, Z40, Z41, Z74, Z72, Z73, Z6u, Z6t, Z2v, Z2u, Z5x, Z5w, Z2r, Z71, Z70, Z6d, Z6c, Z6k, Z6j, Z6l, Z6m, Z6i, Z6h, Z6g, Z6n, Z6f, Z6e, Z58, Z57, Z7p, Z7o, Z7q, Z7r, Z7n, Z7m, Z7l, Z7s, Z7k, Z7j, Z7h, Z7i, Z54, Z53, Z5m, Z11, Z4y, Z4z, Z4x, Z51, Z4w, Z4v, Z4u, Z50, Z12, Z75, Z76, Z43, Z42, Z4o, Z4n, Z4l, Z4m, Z19, Z18, Z29, Z2b, Z2a, Z28, Z2c, Z27, Z26, Z5t, Z3t, Z6r, ↓Z6s, ↓Z6q, Z2t, Z47, Z44, Z45, Z46, Z3m, Z3k, Z3l, Z3j, Z1v, Z1u, Z1w, Z1x, List.any_cons, List.any_nil, Bool.or_true, Bool.true_or, Bool.or_false, Bool.false_or, Bool.and_false, Bool.false_and, Nat.reduceBEq, Z5k, Z5j, Z5l, Z3f, ↓Z39, ↓Z3b, ↓Z3a, Z4i, Z4h, Z4g, Z5s, Nat.reduceLeDiff, Int.reduceLT, Int.reduceLE, Int.reduceAdd, Int.reduceToNat, Int.reduceNeg, Int.cast_ofNat_Int, Nat.reduceLT, List.drop_succ_cons, List.take_succ_cons, List.singleton_append, Nat.zero_add, List.set_cons_zero, List.set_cons_succ, List.drop_nil, List.take_nil, Option.map_some, Option.map_none, Option.getD_some, Option.getD_none, Option.bind_some, List.cons_append, List.nil_append, List.append_nil, List.map_cons, List.map_nil, List.range_zero, List.take_zero, List.flatten_nil, List.filter_nil, List.length_nil, List.length_cons, List.drop_zero, List.not_mem_nil, List.mem_cons, Bool.true_eq_false, Bool.false_eq_true, ↓reduceIte, Nat.reduceEqDiff, Nat.reduceAdd, List.getElem?_toArray, List.toList_toArray, List.getElem?_cons_zero, List.getElem?_cons_succ, decide_eq_true_eq, Z52, beq_self_eq_true, beq_true, decide_true, decide_false, Bool.not_true, Bool.not_false, true_and, and_true, or_false, false_or, Bool.and_eq_true, Bool.and_true, Bool.true_and, reduceCtorEq, not_false_eq_true, h0, h1, h5, ho, U28, U3, len_row, ia_row a k c1, ia_row b k c2, ld_row a k c1, ld_row b k c2, Z6a, Order_k _ _ _ va vb, pr_obj, obj31, call31, Int.ofNat_lt, c1, c2, hw, rv46, Tryd.f46]
        rw [drop_getD c1, drop_getD c2, ords_cc] at ht
        split
        · rename_i hne
          exact an_int (by rw [ht, if_neg hne])
        · rename_i heq
          refine ⟨_, ?_, k + 1, by omega, by omega, rfl, rfl, ?_⟩
          · omega
          · rw [ht, if_pos (by simpa using heq)]
      · simp -implicitDefEqProofs only [Z2i, Z2n, Z2g, Z2h, Z2k, Z2l, Z2m, Z2j, Z2f, Z2d, Z2e, Z3i, Z3h, Z3g, Nat.zero_mul, Nat.reduceMul, Z4k, Z13, Z14, List.length_map, Z35, Z34, Z37, Z33, Z36, Z31, Z38, Z32, Z30, Z2z, Tk.nm.injEq, Tk.cell.injEq, false_and, and_false, Z2o, Z4j, Nat.le_add_right, Z5h, Z5i, Z6z, Nat.le_refl, Z5v, Z5u, Z2s, ↓Zx, ↓Zs, ↓Zt, ↓Zw, ↓Zy, ↓Zu, ↓Zv, ↓Zz, ↓Z10, ↓Zl, ↓Z2, ↓Zo, ↓Z3, ↓Zr, ↓Zg, ↓Zc, ↓Zb, ↓Ze, ↓Zd, ↓Zp, ↓Z9, ↓Za, ↓Zm, ↓Zi, ↓Z5, ↓Z6, ↓Zf, ↓Z1, ↓Z7, ↓Z8, ↓Z0, ↓Z4, ↓Zq, ↓Zh, ↓Zk, ↓Zj, ↓Zn, ↓Z64, ↓Z66, ↓Z63, ↓Z65, ↓Z7f, ↓Z7g, ↓Z7e, ↓Z2x, ↓Z2y, ↓Z2w, ↓Z1e, ↓Z1f, ↓Z1d, Z4c, Z1a, ↓Z8a, ↓Z8b, ↓Z89, ↓Z78, ↓Z79, ↓Z77, ↓Z3e, ↓Z3c, ↓Z3d, Z5c, Z5b, Z5g, Z5e, Z5f, Z5d, ↓Z3y, ↓Z3z, ↓Z3x, Z3u, Z3w, Z3v, ↓Z7b, ↓Z7a, ↓Z7d, ↓Z7c, ↓Z1z, ↓Z1y, ↓Z21, ↓Z20, ↓Z6o, ↓Z6p, ↓Z4s, ↓Z4t, Z2p, ↓Z3o, ↓Z3p, Z3s, Z3n, Z3q, Z3r, Z5p, Z5q, Z5o, Z5n, Z5r, Z1n, Z1m, Z1l, Z1k, Z1j, Z1p, Z1g, Z1t, Z1o, Z1r, Z1s, Z1q, Z1h, Z1i, Z88, Z87, Z4d, Z4e, Z4f, Z5y, Z4b, Z4a, Z49, Z48, Z16, Z17, Z15, Z6a, Z6b, Z69, ↓Z68, ↓Z67, Z2q, Z22, Z23, Z25, Z24, Z60, Z5z, Z55, Z56, ↓Z1b, ↓Z1c, Z81, Z80, Z7x, Z84, Z7y, Z83, Z7z, Z82, Z86, Z85, Z5a, Z59, Z7w, Z7t, Z7v, Z7u, Z4r, Z4q, Z4p, Z62, Z61, Z6v, Z6y, Z6w, Z6x, Z40, Z41, Z74, Z72, Z73, Z6u, Z6t, Z2v, Z2u, Z5x, Z5w, Z2r, Z71, Z70, Z6d, Z6c, Z6k, Z6j, Z6l, Z6m, Z6i, Z6h, Z6g, Z6n, Z6f, Z6e, Z58, Z57, Z7p, Z7o, Z7q, Z7r, Z7n, Z7m, Z7l, Z7s, Z7k, Z7j, Z7h, Z7i, Z54, Z53, Z5m, Z11, Z4y, Z4z, Z4x, Z51, Z4w, Z4v, Z4u, Z50, Z12, Z75, Z76, Z43, Z42, Z4o, Z4n, Z4l, Z4m, Z19, Z18, Z29, Z2b, Z2a, Z28, Z2c, Z27, Z26, Z5t, Z3t, Z6r, ↓Z6s, ↓Z6q, Z2t, Z47, Z44, Z45, Z46, Z3m, Z3k, Z3l, Z3j, Z1v, Z1u, Z1w, Z1x, List.any_cons, List.any_nil, Bool.or_true, Bool.true_or, Bool.or_false, Bool.false_or, Bool.and_false, Bool.false_and, Nat.reduceBEq, Z5k, Z5j, Z5l, Z3f, ↓Z39, ↓Z3b, ↓Z3a, Z4i, Z4h, Z4g, Z5s, Nat.reduceLeDiff, Int.reduceLT, Int.reduceLE, Int.reduceAdd, Int.reduceToNat, Int.reduceNeg, Int.cast_ofNat_Int, Nat.reduceLT, List.drop_succ_cons, List.take_succ_cons, List.singleton_append, Nat.zero_add, List.set_cons_zero, List.set_cons_succ, List.drop_nil, List.take_nil, Option.map_some, Option.map_none, Option.getD_some, Option.getD_none, Option.bind_some, List.cons_append, List.nil_append, List.append_nil, List.map_cons, List.map_nil, List.range_zero, List.take_zero, List.flatten_nil, List.filter_nil, List.length_nil, List.length_cons, List.drop_zero, List.not_mem_nil, List.mem_cons, Bool.true_eq_false, Bool.false_eq_true, ↓reduceIte, Nat.reduceEqDiff, Nat.reduceAdd, List.getElem?_toArray, List.toList_toArray, List.getElem?_cons_zero, List.getElem?_cons_succ, decide_eq_true_eq, Z52, beq_self_eq_true, beq_true, decide_true, decide_false, Bool.not_true, Bool.not_false, true_and, and_true, or_false, false_or, Bool.and_eq_true, Bool.and_true, Bool.true_and, reduceCtorEq, not_false_eq_true, h0, h1, h5, ho, U28, U3, len_row, Int.ofNat_lt, c1, c2, pr_obj, obj56, call56, rv46, Tryd.f46, Gives.k (ints_call _ _)]
        refine an_int ?_
        rw [ht, drop_getD c1, List.drop_eq_nil_of_le (by omega : b.length ≤ k), ords_cn]
        unfold ints
        rw [if_neg (by omega), if_pos (by omega)]
    · simp -implicitDefEqProofs only [Z2i, Z2n, Z2g, Z2h, Z2k, Z2l, Z2m, Z2j, Z2f, Z2d, Z2e, Z3i, Z3h, Z3g, Nat.zero_mul, Nat.reduceMul, Z4k, Z13, Z14, List.length_map, Z35, Z34, Z37, Z33, Z36, Z31, Z38, Z32, Z30, Z2z, Tk.nm.injEq, Tk.cell.injEq, false_and, and_false, Z2o, Z4j, Nat.le_add_right, Z5h, Z5i, Z6z, Nat.le_refl, Z5v, Z5u, Z2s, ↓Zx, ↓Zs, ↓Zt, ↓Zw, ↓Zy, ↓Zu, ↓Zv, ↓Zz, ↓Z10, ↓Zl, ↓Z2, ↓Zo, ↓Z3, ↓Zr, ↓Zg, ↓Zc, ↓Zb, ↓Ze, ↓Zd, ↓Zp, ↓Z9, ↓Za, ↓Zm, ↓Zi, ↓Z5, ↓Z6, ↓Zf, ↓Z1, ↓Z7, ↓Z8, ↓Z0, ↓Z4, ↓Zq, ↓Zh, ↓Zk, ↓Zj, ↓Zn, ↓Z64, ↓Z66, ↓Z63, ↓Z65, ↓Z7f, ↓Z7g, ↓Z7e, ↓Z2x, ↓Z2y, ↓Z2w, ↓Z1e, ↓Z1f, ↓Z1d, Z4c, Z1a, ↓Z8a, ↓Z8b, ↓Z89, ↓Z78, ↓Z79, ↓Z77, ↓Z3e, ↓Z3c, ↓Z3d, Z5c, Z5b, Z5g, Z5e, Z5f, Z5d, ↓Z3y, ↓Z3z, ↓Z3x, Z3u, Z3w, Z3v, ↓Z7b, ↓Z7a, ↓Z7d, ↓Z7c, ↓Z1z, ↓Z1y, ↓Z21, ↓Z20, ↓Z6o, ↓Z6p, ↓Z4s, ↓Z4t, Z2p, ↓Z3o, ↓Z3p, Z3s, Z3n, Z3q, Z3r, Z5p, Z5q, Z5o, Z5n, Z5r, Z1n, Z1m, Z1l, Z1k, Z1j, Z1p, Z1g, Z1t, Z1o, Z1r, Z1s, Z1q, Z1h, Z1i, Z88, Z87, Z4d, Z4e, Z4f, Z5y, Z4b, Z4a, Z49, Z48, Z16, Z17, Z15, Z6a, Z6b, Z69, ↓Z68, ↓Z67, Z2q, Z22, Z23, Z25, Z24, Z60, Z5z, Z55, Z56, ↓Z1b, ↓Z1c, Z81, Z80, Z7x, Z84, Z7y, Z83, Z7z, Z82, Z86, Z85, Z5a, Z59, Z7w, Z7t, Z7v, Z7u, Z4r, Z4q, Z4p, Z62, Z61, Z6v, Z6y, Z6w, Z6x, Z40, Z41, Z74, Z72, Z73, Z6u, Z6t, Z2v, Z2u, Z5x, Z5w, Z2r, Z71, Z70, Z6d, Z6c, Z6k, Z6j, Z6l, Z6m, Z6i, Z6h, Z6g, Z6n, Z6f, Z6e, Z58, Z57, Z7p, Z7o, Z7q, Z7r, Z7n, Z7m, Z7l, Z7s, Z7k, Z7j, Z7h, Z7i, Z54, Z53, Z5m, Z11, Z4y, Z4z, Z4x, Z51, Z4w, Z4v, Z4u, Z50, Z12, Z75, Z76, Z43, Z42, Z4o, Z4n, Z4l, Z4m, Z19, Z18, Z29, Z2b, Z2a, Z28, Z2c, Z27, Z26, Z5t, Z3t, Z6r, ↓Z6s, ↓Z6q, Z2t, Z47, Z44, Z45, Z46, Z3m, Z3k, Z3l, Z3j, Z1v, Z1u, Z1w, Z1x, List.any_cons, List.any_nil, Bool.or_true, Bool.true_or, Bool.or_false, Bool.false_or, Bool.and_false, Bool.false_and, Nat.reduceBEq, Z5k, Z5j, Z5l, Z3f, ↓Z39, ↓Z3b, ↓Z3a, Z4i, Z4h, Z4g, Z5s, Nat.reduceLeDiff, Int.reduceLT, Int.reduceLE, Int.reduceAdd, Int.reduceToNat, Int.reduceNeg, Int.cast_ofNat_Int, Nat.reduceLT, List.drop_succ_cons, List.take_succ_cons, List.singleton_append, Nat.zero_add, List.set_cons_zero, List.set_cons_succ, List.drop_nil, List.take_nil, Option.map_some, Option.map_none, Option.getD_some, Option.getD_none, Option.bind_some, List.cons_append, List.nil_append, List.append_nil, List.map_cons, List.map_nil, List.range_zero, List.take_zero, List.flatten_nil, List.filter_nil, List.length_nil, List.length_cons, List.drop_zero, List.not_mem_nil, List.mem_cons, Bool.true_eq_false, Bool.false_eq_true, ↓reduceIte, Nat.reduceEqDiff, Nat.reduceAdd, List.getElem?_toArray, List.toList_toArray, List.getElem?_cons_zero, List.getElem?_cons_succ, decide_eq_true_eq, Z52, beq_self_eq_true, beq_true, decide_true, decide_false, Bool.not_true, Bool.not_false, true_and, and_true, or_false, false_or, Bool.and_eq_true, Bool.and_true, Bool.true_and, reduceCtorEq, not_false_eq_true, h0, h1, h5, ho, U28, U3, len_row, Int.ofNat_lt, c1, pr_obj, obj56, call56, rv46, Tryd.f46, Gives.k (ints_call _ _)]
      refine an_int ?_
      rw [ht, List.drop_eq_nil_of_le (by omega : a.length ≤ k)]
      unfold ints
      by_cases c2 : k < b.length
      · rw [drop_getD c2, ords_nc, if_pos (by omega)]
      · rw [List.drop_eq_nil_of_le (by omega : b.length ≤ k), ords_nn, if_neg (by omega), if_neg (by omega)]
  · exact ⟨0, by omega, by omega, by omega, by simp -implicitDefEqProofs only [Z2i, Z2n, Z2g, Z2h, Z2k, Z2l, Z2m, Z2j, Z2f, Z2d, Z2e, Z3i, Z3h, Z3g, Nat.zero_mul, Nat.reduceMul, Z4k, Z13, Z14, List.length_map, Z35, Z34, Z37, Z33, Z36, Z31, Z38, Z32, Z30, Z2z, Tk.nm.injEq, Tk.cell.injEq, false_and, and_false, Z2o, Z4j, Nat.le_add_right, Z5h, Z5i, Z6z, Nat.le_refl, Z5v, Z5u, Z2s, ↓Zx, ↓Zs, ↓Zt, ↓Zw, ↓Zy, ↓Zu, ↓Zv, ↓Zz, ↓Z10, ↓Zl, ↓Z2, ↓Zo, ↓Z3, ↓Zr, ↓Zg, ↓Zc, ↓Zb, ↓Ze, ↓Zd, ↓Zp, ↓Z9, ↓Za, ↓Zm, ↓Zi, ↓Z5, ↓Z6, ↓Zf, ↓Z1, ↓Z7, ↓Z8, ↓Z0, ↓Z4, ↓Zq, ↓Zh, ↓Zk, ↓Zj, ↓Zn, ↓Z64, ↓Z66, ↓Z63, ↓Z65, ↓Z7f, ↓Z7g, ↓Z7e, ↓Z2x, ↓Z2y, ↓Z2w, ↓Z1e, ↓Z1f, ↓Z1d, Z4c, Z1a, ↓Z8a, ↓Z8b, ↓Z89, ↓Z78, ↓Z79, ↓Z77, ↓Z3e, ↓Z3c, ↓Z3d, Z5c, Z5b, Z5g, Z5e, Z5f, Z5d, ↓Z3y, ↓Z3z, ↓Z3x, Z3u, Z3w, Z3v, ↓Z7b, ↓Z7a, ↓Z7d, ↓Z7c, ↓Z1z, ↓Z1y, ↓Z21, ↓Z20, ↓Z6o, ↓Z6p, ↓Z4s, ↓Z4t, Z2p, ↓Z3o, ↓Z3p, Z3s, Z3n, Z3q, Z3r, Z5p, Z5q, Z5o, Z5n, Z5r, Z1n, Z1m, Z1l, Z1k, Z1j, Z1p, Z1g, Z1t, Z1o, Z1r, Z1s, Z1q, Z1h, Z1i, Z88, Z87, Z4d, Z4e, Z4f, Z5y, Z4b, Z4a, Z49, Z48, Z16, Z17, Z15, Z6a, Z6b, Z69, ↓Z68, ↓Z67, Z2q, Z22, Z23, Z25, Z24, Z60, Z5z, Z55, Z56, ↓Z1b, ↓Z1c, Z81, Z80, Z7x, Z84, Z7y, Z83, Z7z, Z82, Z86, Z85, Z5a, Z59, Z7w, Z7t, Z7v, Z7u, Z4r, Z4q, Z4p, Z62, Z61, Z6v, Z6y, Z6w, Z6x, Z40, Z41, Z74, Z72, Z73, Z6u, Z6t, Z2v, Z2u, Z5x, Z5w, Z2r, Z71, Z70, Z6d, Z6c, Z6k, Z6j, Z6l, Z6m, Z6i, Z6h, Z6g, Z6n, Z6f, Z6e, Z58, Z57, Z7p, Z7o, Z7q, Z7r, Z7n, Z7m, Z7l, Z7s, Z7k, Z7j, Z7h, Z7i, Z54, Z53, Z5m, Z11, Z4y, Z4z, Z4x, Z51, Z4w, Z4v, Z4u, Z50, Z12, Z75, Z76, Z43, Z42, Z4o, Z4n, Z4l, Z4m, Z19, Z18, Z29, Z2b, Z2a, Z28, Z2c, Z27, Z26, Z5t, Z3t, Z6r, ↓Z6s, ↓Z6q, Z2t, Z47, Z44, Z45, Z46, Z3m, Z3k, Z3l, Z3j, Z1v, Z1u, Z1w, Z1x, List.any_cons, List.any_nil, Bool.or_true, Bool.true_or, Bool.or_false, Bool.false_or, Bool.and_false, Bool.false_and, Nat.reduceBEq, Z5k, Z5j, Z5l, Z3f, ↓Z39, ↓Z3b, ↓Z3a, Z4i, Z4h, Z4g, Z5s, Nat.reduceLeDiff, Int.reduceLT, Int.reduceLE, Int.reduceAdd, Int.reduceToNat, Int.reduceNeg, Int.cast_ofNat_Int, Nat.reduceLT, List.drop_succ_cons, List.take_succ_cons, List.singleton_append, Nat.zero_add, List.set_cons_zero, List.set_cons_succ, List.drop_nil, List.take_nil, Option.map_some, Option.map_none, Option.getD_some, Option.getD_none, Option.bind_some, List.cons_append, List.nil_append, List.append_nil, List.map_cons, List.map_nil, List.range_zero, List.take_zero, List.flatten_nil, List.filter_nil, List.length_nil, List.length_cons, List.drop_zero, List.not_mem_nil, List.mem_cons, Bool.true_eq_false, Bool.false_eq_true, ↓reduceIte, Nat.reduceEqDiff, Nat.reduceAdd, List.getElem?_toArray, List.toList_toArray, List.getElem?_cons_zero, List.getElem?_cons_succ, decide_eq_true_eq, Z52, beq_self_eq_true, beq_true, decide_true, decide_false, Bool.not_true, Bool.not_false, true_and, and_true, or_false, false_or, Bool.and_eq_true, Bool.and_true, Bool.true_and, reduceCtorEq, not_false_eq_true], by simp -implicitDefEqProofs only [Z2i, Z2n, Z2g, Z2h, Z2k, Z2l, Z2m, Z2j, Z2f, Z2d, Z2e, Z3i, Z3h, Z3g, Nat.zero_mul, Nat.reduceMul, Z4k, Z13, Z14, List.length_map, Z35, Z34, Z37, Z33, Z36, Z31, Z38, Z32, Z30, Z2z, Tk.nm.injEq, Tk.cell.injEq, false_and, and_false, Z2o, Z4j, Nat.le_add_right, Z5h, Z5i, Z6z, Nat.le_refl, Z5v, Z5u, Z2s, ↓Zx, ↓Zs, ↓Zt, ↓Zw, ↓Zy, ↓Zu, ↓Zv, ↓Zz, ↓Z10, ↓Zl, ↓Z2, ↓Zo, ↓Z3, ↓Zr, ↓Zg, ↓Zc, ↓Zb, ↓Ze, ↓Zd, ↓Zp, ↓Z9, ↓Za, ↓Zm, ↓Zi, ↓Z5, ↓Z6, ↓Zf, ↓Z1, ↓Z7, ↓Z8, ↓Z0, ↓Z4, ↓Zq, ↓Zh, ↓Zk, ↓Zj, ↓Zn, ↓Z64, ↓Z66, ↓Z63, ↓Z65, ↓Z7f, ↓Z7g, ↓Z7e, ↓Z2x, ↓Z2y, ↓Z2w, ↓Z1e, ↓Z1f, ↓Z1d, Z4c, Z1a, ↓Z8a, ↓Z8b, ↓Z89, ↓Z78, ↓Z79, ↓Z77, ↓Z3e, ↓Z3c, ↓Z3d, Z5c, Z5b, Z5g, Z5e, Z5f, Z5d, ↓Z3y, ↓Z3z, ↓Z3x, Z3u, Z3w, Z3v, ↓Z7b, ↓Z7a, ↓Z7d, ↓Z7c, ↓Z1z, ↓Z1y, ↓Z21, ↓Z20, ↓Z6o, ↓Z6p, ↓Z4s, ↓Z4t, Z2p, ↓Z3o, ↓Z3p, Z3s, Z3n, Z3q, Z3r, Z5p, Z5q, Z5o, Z5n, Z5r, Z1n, Z1m, Z1l, Z1k, Z1j, Z1p, Z1g, Z1t, Z1o, Z1r, Z1s, Z1q, Z1h, Z1i, Z88, Z87, Z4d, Z4e, Z4f, Z5y, Z4b, Z4a, Z49, Z48, Z16, Z17, Z15, Z6a, Z6b, Z69, ↓Z68, ↓Z67, Z2q, Z22, Z23, Z25, Z24, Z60, Z5z, Z55, Z56, ↓Z1b, ↓Z1c, Z81, Z80, Z7x, Z84, Z7y, Z83, Z7z, Z82, Z86, Z85, Z5a, Z59, Z7w, Z7t, Z7v, Z7u, Z4r, Z4q, Z4p, Z62, Z61, Z6v, Z6y, Z6w, Z6x, Z40, Z41, Z74, Z72, Z73, Z6u, Z6t, Z2v, Z2u, Z5x, Z5w, Z2r, Z71, Z70, Z6d, Z6c, Z6k, Z6j, Z6l, Z6m, Z6i, Z6h, Z6g, Z6n, Z6f, Z6e, Z58, Z57, Z7p, Z7o, Z7q, Z7r, Z7n, Z7m, Z7l, Z7s, Z7k, Z7j, Z7h, Z7i, Z54, Z53, Z5m, Z11, Z4y, Z4z, Z4x, Z51, Z4w, Z4v, Z4u, Z50, Z12, Z75, Z76, Z43, Z42, Z4o, Z4n, Z4l, Z4m, Z19, Z18, Z29, Z2b, Z2a, Z28, Z2c, Z27, Z26, Z5t, Z3t, Z6r, ↓Z6s, ↓Z6q, Z2t, Z47, Z44, Z45, Z46, Z3m, Z3k, Z3l, Z3j, Z1v, Z1u, Z1w, Z1x, List.any_cons, List.any_nil, Bool.or_true, Bool.true_or, Bool.or_false, Bool.false_or, Bool.and_false, Bool.false_and, Nat.reduceBEq, Z5k, Z5j, Z5l, Z3f, ↓Z39, ↓Z3b, ↓Z3a, Z4i, Z4h, Z4g, Z5s, Nat.reduceLeDiff, Int.reduceLT, Int.reduceLE, Int.reduceAdd, Int.reduceToNat, Int.reduceNeg, Int.cast_ofNat_Int, Nat.reduceLT, List.drop_succ_cons, List.take_succ_cons, List.singleton_append, Nat.zero_add, List.set_cons_zero, List.set_cons_succ, List.drop_nil, List.take_nil, Option.map_some, Option.map_none, Option.getD_some, Option.getD_none, Option.bind_some, List.cons_append, List.nil_append, List.append_nil, List.map_cons, List.map_nil, List.range_zero, List.take_zero, List.flatten_nil, List.filter_nil, List.length_nil, List.length_cons, List.drop_zero, List.not_mem_nil, List.mem_cons, Bool.true_eq_false, Bool.false_eq_true, ↓reduceIte, Nat.reduceEqDiff, Nat.reduceAdd, List.getElem?_toArray, List.toList_toArray, List.getElem?_cons_zero, List.getElem?_cons_succ, decide_eq_true_eq, Z52, beq_self_eq_true, beq_true, decide_true, decide_false, Bool.not_true, Bool.not_false, true_and, and_true, or_false, false_or, Bool.and_eq_true, Bool.and_true, Bool.true_and, reduceCtorEq, not_false_eq_true], by simp -implicitDefEqProofs only [Z2i, Z2n, Z2g, Z2h, Z2k, Z2l, Z2m, Z2j, Z2f, Z2d, Z2e, Z3i, Z3h, Z3g, Nat.zero_mul, Nat.reduceMul, Z4k, Z13, Z14, List.length_map, Z35, Z34, Z37, Z33, Z36, Z31, Z38, Z32, Z30, Z2z, Tk.nm.injEq, Tk.cell.injEq, false_and, and_false, Z2o, Z4j, Nat.le_add_right, Z5h, Z5i, Z6z, Nat.le_refl, Z5v, Z5u, Z2s, ↓Zx, ↓Zs, ↓Zt, ↓Zw, ↓Zy, ↓Zu, ↓Zv, ↓Zz, ↓Z10, ↓Zl, ↓Z2, ↓Zo, ↓Z3, ↓Zr, ↓Zg, ↓Zc, ↓Zb, ↓Ze, ↓Zd, ↓Zp, ↓Z9, ↓Za, ↓Zm, ↓Zi, ↓Z5, ↓Z6, ↓Zf, ↓Z1, ↓Z7, ↓Z8, ↓Z0, ↓Z4, ↓Zq, ↓Zh, ↓Zk, ↓Zj, ↓Zn, ↓Z64, ↓Z66, ↓Z63, ↓Z65, ↓Z7f, ↓Z7g, ↓Z7e, ↓Z2x, ↓Z2y, ↓Z2w, ↓Z1e, ↓Z1f, ↓Z1d, Z4c, Z1a, ↓Z8a, ↓Z8b, ↓Z89, ↓Z78, ↓Z79, ↓Z77, ↓Z3e, ↓Z3c, ↓Z3d, Z5c, Z5b, Z5g, Z5e, Z5f, Z5d, ↓Z3y, ↓Z3z, ↓Z3x, Z3u, Z3w, Z3v, ↓Z7b, ↓Z7a, ↓Z7d, ↓Z7c, ↓Z1z, ↓Z1y, ↓Z21, ↓Z20, ↓Z6o, ↓Z6p, ↓Z4s, ↓Z4t, Z2p, ↓Z3o, ↓Z3p, Z3s, Z3n, Z3q, Z3r, Z5p, Z5q, Z5o, Z5n, Z5r, Z1n, Z1m, Z1l, Z1k, Z1j, Z1p, Z1g, Z1t, Z1o, Z1r, Z1s, Z1q, Z1h, Z1i, Z88, Z87, Z4d, Z4e, Z4f, Z5y, Z4b, Z4a, Z49, Z48, Z16, Z17, Z15, Z6a, Z6b, Z69, ↓Z68, ↓Z67, Z2q, Z22, Z23, Z25, Z24, Z60, Z5z, Z55, Z56, ↓Z1b, ↓Z1c, Z81, Z80, Z7x, Z84, Z7y, Z83, Z7z, Z82, Z86, Z85, Z5a, Z59, Z7w, Z7t, Z7v, Z7u, Z4r, Z4q, Z4p, Z62, Z61, Z6v, Z6y, Z6w, Z6x, Z40, Z41, Z74, Z72, Z73, Z6u, Z6t, Z2v, Z2u, Z5x, Z5w, Z2r, Z71, Z70, Z6d, Z6c, Z6k, Z6j, Z6l, Z6m, Z6i, Z6h, Z6g, Z6n, Z6f, Z6e, Z58, Z57, Z7p, Z7o, Z7q, Z7r, Z7n, Z7m, Z7l, Z7s, Z7k, Z7j, Z7h, Z7i, Z54, Z53, Z5m, Z11, Z4y, Z4z, Z4x, Z51, Z4w, Z4v, Z4u, Z50, Z12, Z75, Z76, Z43, Z42, Z4o, Z4n, Z4l, Z4m, Z19, Z18, Z29, Z2b, Z2a, Z28, Z2c, Z27, Z26, Z5t, Z3t, Z6r, ↓Z6s, ↓Z6q, Z2t, Z47, Z44, Z45, Z46, Z3m, Z3k, Z3l, Z3j, Z1v, Z1u, Z1w, Z1x, List.any_cons, List.any_nil, Bool.or_true, Bool.true_or, Bool.or_false, Bool.false_or, Bool.and_false, Bool.false_and, Nat.reduceBEq, Z5k, Z5j, Z5l, Z3f, ↓Z39, ↓Z3b, ↓Z3a, Z4i, Z4h, Z4g, Z5s, Nat.reduceLeDiff, Int.reduceLT, Int.reduceLE, Int.reduceAdd, Int.reduceToNat, Int.reduceNeg, Int.cast_ofNat_Int, Nat.reduceLT, List.drop_succ_cons, List.take_succ_cons, List.singleton_append, Nat.zero_add, List.set_cons_zero, List.set_cons_succ, List.drop_nil, List.take_nil, Option.map_some, Option.map_none, Option.getD_some, Option.getD_none, Option.bind_some, List.cons_append, List.nil_append, List.append_nil, List.map_cons, List.map_nil, List.range_zero, List.take_zero, List.flatten_nil, List.filter_nil, List.length_nil, List.length_cons, List.drop_zero, List.not_mem_nil, List.mem_cons, Bool.true_eq_false, Bool.false_eq_true, ↓reduceIte, Nat.reduceEqDiff, Nat.reduceAdd, List.getElem?_toArray, List.toList_toArray, List.getElem?_cons_zero, List.getElem?_cons_succ, decide_eq_true_eq, Z52, beq_self_eq_true, beq_true, decide_true, decide_false, Bool.not_true, Bool.not_false, true_and, and_true, or_false, false_or, Bool.and_eq_true, Bool.and_true, Bool.true_and, reduceCtorEq, not_false_eq_true] <;> rfl, by simp -implicitDefEqProofs only [Z2i, Z2n, Z2g, Z2h, Z2k, Z2l, Z2m, Z2j, Z2f, Z2d, Z2e, Z3i, Z3h, Z3g, Nat.zero_mul, Nat.reduceMul, Z4k, Z13, Z14, List.length_map, Z35, Z34, Z37, Z33, Z36, Z31, Z38, Z32, Z30, Z2z, Tk.nm.injEq, Tk.cell.injEq, false_and, and_false, Z2o, Z4j, Nat.le_add_right, Z5h, Z5i, Z6z, Nat.le_refl, Z5v, Z5u, Z2s, ↓Zx, ↓Zs, ↓Zt, ↓Zw, ↓Zy, ↓Zu, ↓Zv, ↓Zz, ↓Z10, ↓Zl, ↓Z2, ↓Zo, ↓Z3, ↓Zr, ↓Zg, ↓Zc, ↓Zb, ↓Ze, ↓Zd, ↓Zp, ↓Z9, ↓Za, ↓Zm, ↓Zi, ↓Z5, ↓Z6, ↓Zf, ↓Z1, ↓Z7, ↓Z8, ↓Z0, ↓Z4, ↓Zq, ↓Zh, ↓Zk, ↓Zj, ↓Zn, ↓Z64, ↓Z66, ↓Z63, ↓Z65, ↓Z7f, ↓Z7g, ↓Z7e, ↓Z2x, ↓Z2y, ↓Z2w, ↓Z1e, ↓Z1f, ↓Z1d, Z4c, Z1a, ↓Z8a, ↓Z8b, ↓Z89, ↓Z78, ↓Z79, ↓Z77, ↓Z3e, ↓Z3c, ↓Z3d, Z5c, Z5b, Z5g, Z5e, Z5f, Z5d, ↓Z3y, ↓Z3z, ↓Z3x, Z3u, Z3w, Z3v, ↓Z7b, ↓Z7a, ↓Z7d, ↓Z7c, ↓Z1z, ↓Z1y, ↓Z21, ↓Z20, ↓Z6o, ↓Z6p, ↓Z4s, ↓Z4t, Z2p, ↓Z3o, ↓Z3p, Z3s, Z3n, Z3q, Z3r, Z5p, Z5q, Z5o, Z5n, Z5r, Z1n, Z1m, Z1l, Z1k, Z1j, Z1p, Z1g, Z1t, Z1o, Z1r, Z1s, Z1q, Z1h, Z1i, Z88, Z87, Z4d, Z4e, Z4f, Z5y, Z4b, Z4a, Z49, Z48, Z16, Z17, Z15, Z6a, Z6b, Z69, ↓Z68, ↓Z67, Z2q, Z22, Z23, Z25, Z24, Z60, Z5z, Z55, Z56, ↓Z1b, ↓Z1c, Z81, Z80, Z7x, Z84, Z7y, Z83, Z7z, Z82, Z86, Z85, Z5a, Z59, Z7w, Z7t, Z7v, Z7u, Z4r, Z4q, Z4p, Z62, Z61, Z6v, Z6y, Z6w, Z6x, Z40, Z41, Z74, Z72, Z73, Z6u, Z6t, Z2v, Z2u, Z5x, Z5w, Z2r, Z71, Z70, Z6d, Z6c, Z6k, Z6j, Z6l, Z6m, Z6i, Z6h, Z6g, Z6n, Z6f, Z6e, Z58, Z57, Z7p, Z7o, Z7q, Z7r, Z7n, Z7m, Z7l, Z7s, Z7k, Z7j, Z7h, Z7i, Z54, Z53, Z5m, Z11, Z4y, Z4z, Z4x, Z51, Z4w, Z4v, Z4u, Z50, Z12, Z75, Z76, Z43, Z42, Z4o, Z4n, Z4l, Z4m, Z19, Z18, Z29, Z2b, Z2a, Z28, Z2c, Z27, Z26, Z5t, Z3t, Z6r, ↓Z6s, ↓Z6q, Z2t, Z47, Z44, Z45, Z46, Z3m, Z3k, Z3l, Z3j, Z1v, Z1u, Z1w, Z1x, List.any_cons, List.any_nil, Bool.or_true, Bool.true_or, Bool.or_false, Bool.false_or, Bool.and_false, Bool.false_and, Nat.reduceBEq, Z5k, Z5j, Z5l, Z3f, ↓Z39, ↓Z3b, ↓Z3a, Z4i, Z4h, Z4g, Z5s, Nat.reduceLeDiff, Int.reduceLT, Int.reduceLE, Int.reduceAdd, Int.reduceToNat, Int.reduceNeg, Int.cast_ofNat_Int, Nat.reduceLT, List.drop_succ_cons, List.take_succ_cons, List.singleton_append, Nat.zero_add, List.set_cons_zero, List.set_cons_succ, List.drop_nil, List.take_nil, Option.map_some, Option.map_none, Option.getD_some, Option.getD_none, Option.bind_some, List.cons_append, List.nil_append, List.append_nil, List.map_cons, List.map_nil, List.range_zero, List.take_zero, List.flatten_nil, List.filter_nil, List.length_nil, List.length_cons, List.drop_zero, List.not_mem_nil, List.mem_cons, Bool.true_eq_false, Bool.false_eq_true, ↓reduceIte, Nat.reduceEqDiff, Nat.reduceAdd, List.getElem?_toArray, List.toList_toArray, List.getElem?_cons_zero, List.getElem?_cons_succ, decide_eq_true_eq, Z52, beq_self_eq_true, beq_true, decide_true, decide_false, Bool.not_true, Bool.not_false, true_and, and_true, or_false, false_or, Bool.and_eq_true, Bool.and_true, Bool.true_and, reduceCtorEq, not_false_eq_true], by simp⟩
theorem Orders_k (a b : List V) (K : An → Prop) (ha : ROk a) (hb : ROk b) : CallK Tryd.prog pr 46 [.of (rowC a), .of (rowC b)] [] K ↔ K ⟨false, [xint (ords a b)], []⟩ := Gives.k (Orders_call a b ha hb) K
end Go.Proofs.YtiepbejeiijpmaaDoor

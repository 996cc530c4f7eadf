/-
  What is given of the library's functions holds. Conditions: none.
-/
import Derived.Test.YtcmgabicladmlaaDoorPa6
import Derived.Lib.ItoaNum
import Derived.Lib.Replace
import Derived.Lib.DecodeN
import Derived.Shelf.GgClosure.StringsIndexFunc
import Derived.Lib.Join
import Derived.Lib.IndexMore
import Derived.Lib.AppendIntMem
import Derived.Lib.AppendStr
namespace Go.Tab

/-- What an order is. -/
structure IsOrd {α : Type} (f : α → α → Int) : Prop where
  sgn : ∀ a b, f a b = -1 ∨ f a b = 0 ∨ f a b = 1
  zero : ∀ a b, f a b = 0 ↔ a = b
  anti : ∀ a b, f a b = - f b a
  tr : ∀ a b c, f a b ≤ 0 → f b c ≤ 0 → f a c ≤ 0

/-- A value: kind, number, text. -/
structure V where
  k : Int
  n : Int
  s : ByteArray
  deriving DecidableEq

def V.t (v : V) : List UInt8 := v.s.data.toList
theorem toList_inj {a b : ByteArray} : a.data.toList = b.data.toList ↔ a = b := by
  constructor
  · intro h
    cases a with
    | mk x => cases b with
      | mk y => simp at h; rw [h]
  · rintro rfl; rfl

end Go.Tab
namespace Go.Tab

theorem nDigits_le : ∀ (k u : Nat), u < 10 ^ k → 1 ≤ k → Lib.nDigits u ≤ k
  | 0, u, _, h => by omega
  | k + 1, u, h, _ => by
    rw [Lib.nDigits]
    split
    · omega
    · rename_i h1
      have : 1 ≤ k := by
        rcases Nat.eq_zero_or_pos k with e | e
        · subst e; simp at h; omega
        · exact e
      have := nDigits_le k (u / 10) (by rw [Nat.pow_succ] at h; omega) this
      omega
theorem itoa_len (n : Int) (h1 : -9223372036854775808 ≤ n) (h2 : n ≤ 9223372036854775807) : (Lib.itoa n).length ≤ 20 := by
  unfold Lib.itoa
  split
  · rw [List.length_cons, Lib.decDigits_length]
    have := nDigits_le 19 n.natAbs (by omega) (by omega)
    omega
  · rw [Lib.decDigits_length]
    have := nDigits_le 19 n.toNat (by omega) (by omega)
    omega

/-- The numeral, read back. -/
def undec (l : List UInt8) : Nat := l.foldl (fun a b => a * 10 + (b.toNat - 48)) 0
theorem undec_dec : ∀ u : Nat, undec (Lib.decDigits u) = u := by
  intro u
  induction u using Nat.strongRecOn with
  | _ u ih =>
    have key : ∀ d : Nat, d < 10 → (UInt8.ofNat (48 + d)).toNat - 48 = d := by
      intro d hd
      simp
      omega
    rw [Lib.decDigits]
    split
    · rename_i h
      simp only [undec, List.foldl_cons, List.foldl_nil, Nat.zero_mul, Nat.zero_add]
      exact key u h
    · rename_i h
      unfold undec
      rw [List.foldl_append]
      have := ih (u / 10) (by omega)
      unfold undec at this
      rw [this]
      simp only [List.foldl_cons, List.foldl_nil, key _ (Nat.mod_lt u (by omega))]
      omega
theorem decDigits_ne (u : Nat) : ∀ r, Lib.decDigits u ≠ 45 :: r := by
  intro r e
  have h : ∀ u : Nat, ∀ b ∈ Lib.decDigits u, 48 ≤ b.toNat := by
    intro u
    induction u using Nat.strongRecOn with
    | _ u ih =>
      intro b hb
      rw [Lib.decDigits] at hb
      split at hb
      · rename_i h
        simp only [List.mem_singleton] at hb
        subst hb
        simp; omega
      · rename_i h
        rcases List.mem_append.1 hb with h1 | h1
        · exact ih (u / 10) (by omega) b h1
        · simp only [List.mem_singleton] at h1
          subst h1
          have := Nat.mod_lt u (show 10 > 0 by omega)
          simp; omega
  have := h u 45 (by rw [e]; simp)
  simp at this
theorem itoa_inj {a b : Int} (h : Lib.itoa a = Lib.itoa b) : a = b := by
  unfold Lib.itoa at h
  split at h
  · split at h
    · have := congrArg undec (List.cons.inj h).2
      rw [undec_dec, undec_dec] at this
      omega
    · exact (decDigits_ne _ _ h.symm).elim
  · split at h
    · exact (decDigits_ne _ _ h).elim
    · have := congrArg undec h
      rw [undec_dec, undec_dec] at this
      omega

end Go.Tab
namespace Go.Tab

/-- A text with its quotes doubled. -/
def quoteL : List UInt8 → List UInt8
  | [] => []
  | b :: r => if b = 39 then 39 :: 39 :: quoteL r else b :: quoteL r
theorem quoteL_len : ∀ l : List UInt8, (quoteL l).length ≤ 2 * l.length
  | [] => Nat.le_refl _
  | b :: l => by
    have := quoteL_len l
    unfold quoteL
    split <;> simp only [List.length_cons] <;> omega
theorem quoteL_snoc : ∀ (l : List UInt8) (b : UInt8), quoteL (l ++ [b]) = quoteL l ++ (if b = 39 then [39, 39] else [b])
  | [], b => by unfold quoteL; split <;> simp_all [quoteL]
  | a :: l, b => by
    have := quoteL_snoc l b
    simp only [List.cons_append, quoteL, this]
    split <;> rfl
theorem replaceK_quote : ∀ (s : List UInt8) (k : Nat), s.count 39 ≤ k → Lib.replaceK [39] [39, 39] k s = quoteL s
  | [], 0, _ => rfl
  | [], k + 1, _ => by simp [Lib.replaceK, Lib.index, quoteL]
  | b :: l, k, h => by
    by_cases hb : b = 39
    · subst hb
      rw [List.count_cons_self] at h
      obtain ⟨k, rfl⟩ : ∃ q, k = q + 1 := ⟨k - 1, by omega⟩
      have ih := replaceK_quote l k (by omega)
      have hi : Lib.index (39 :: l) [39] = 0 := by simp [Lib.index]
      rw [Lib.replaceK_hit [39] [39, 39] k (39 :: l) 0 (by simpa using hi)]
      simp only [List.take_zero, List.nil_append, List.length_cons, List.length_nil, Nat.zero_add, List.drop_succ_cons, List.drop_zero, ih, quoteL, if_true]
      rfl
    · rw [List.count_cons_of_ne (fun e => hb e)] at h
      have e1 : quoteL (b :: l) = b :: quoteL l := by simp [quoteL, hb]
      rw [e1]
      cases k with
      | zero =>
        have ih := replaceK_quote l 0 h
        simp only [Lib.replaceK] at ih ⊢
        rw [← ih]
      | succ k =>
        have ih := replaceK_quote l (k + 1) h
        rw [← ih]
        have hp : ¬ ([39] : List UInt8).isPrefixOf (b :: l) = true := by simp; exact fun e => hb e.symm
        have hi : Lib.index (b :: l) [39] = if Lib.index l [39] == -1 then -1 else Lib.index l [39] + 1 := by rw [Lib.index, if_neg hp]
        have hge := Lib.index_ge l [39]
        by_cases hm : Lib.index l [39] = -1
        · simp [Lib.replaceK, hi, hm]
        · obtain ⟨i, hi2⟩ : ∃ i : Nat, Lib.index l [39] = i := ⟨(Lib.index l [39]).toNat, by omega⟩
          have hi3 : Lib.index (b :: l) [39] = ((i + 1 : Nat) : Int) := by rw [hi, if_neg (by simpa using hm), hi2]; rfl
          rw [Lib.replaceK_hit _ _ k _ _ hi2, Lib.replaceK_hit _ _ k _ _ hi3]
          simp only [List.take_succ_cons, List.cons_append, List.length_cons, List.length_nil, Nat.zero_add, List.drop_succ_cons]
theorem replaceAll_quote (s : List UInt8) : Lib.replaceAll s [39] [39, 39] = quoteL s := by
  unfold Lib.replaceAll Lib.replace
  rw [if_neg (by decide)]
  refine replaceK_quote s _ ?_
  unfold Lib.replaceNum
  rw [if_pos (.inl (by decide)), Lib.count_one]
  exact Nat.le_refl _

def nullS : ByteArray := ⟨#[110, 117, 108, 108]⟩
def trueS : ByteArray := ⟨#[116, 114, 117, 101]⟩
def falseS : ByteArray := ⟨#[102, 97, 108, 115, 101]⟩
def strL (l : List UInt8) : ByteArray := ⟨l.toArray⟩
theorem strL_inj {a b : List UInt8} (h : strL a = strL b) : a = b := by
  have := congrArg (fun s : ByteArray => s.data.toList) h
  simpa [strL] using this
def textS (v : V) : ByteArray := if v.k = 1 then (if v.n = 0 then falseS else trueS) else if v.k = 2 then strL (Lib.itoa v.n) else if v.k = 3 then strL (39 :: quoteL v.t ++ [39]) else nullS
end Go.Tab
namespace Go.Tab
open Go Go.Pe

structure Cl where
  tb : List UInt8
  nm : List UInt8
  ty : Int
  deriving DecidableEq
inductive Tm where
  | mk (op : Int) (v : V) (dep at' : Int) (nm : List UInt8) (kids : List Tm) (sub : C) (ty : Int)
inductive Pn where
  | mk (op : Int) (tb ix : List UInt8) (cols : List Cl) (kids : List Pn) (terms lk rk : List Tm) (r : Nat → C) (est cost : Int)

def textL (v : V) : List UInt8 := (textS v).data.toList
theorem strL_textL (v : V) : strL (textL v) = textS v := by simp [strL, textL]

/-- A column's text. -/
def colL (cols : List Cl) (d a : Int) : List UInt8 :=
  if d ≠ 0 ∨ a < 0 ∨ (cols.length : Int) ≤ a then [36] ++ Lib.itoa d ++ [46] ++ Lib.itoa a
  else match cols[a.toNat]? with
    | some c => if c.tb = [] then c.nm else c.tb ++ [46] ++ c.nm
    | none => []
def signT : List (Int × List UInt8) := [(5, [43]), (6, [45]), (7, [42]), (8, [47]), (9, [37]), (10, [124, 124]), (11, [61]), (12, [60, 62]), (13, [60]), (14, [60, 61]), (15, [62]), (16, [62, 61]), (17, [97, 110, 100]), (18, [111, 114]), (20, [108, 105, 107, 101])]
def lookT : List (Int × List UInt8) → Int → Option (List UInt8)
  | [], _ => none
  | p :: l, n => if p.1 = n then some p.2 else lookT l n
def wordT : List (Int × List UInt8) := [(1, [115, 99, 97, 110]), (2, [115, 101, 101, 107]), (3, [114, 111, 119, 115]), (4, [102, 105, 108, 116, 101, 114]), (5, [112, 114, 111, 106, 101, 99, 116]), (6, [110, 101, 115, 116]), (7, [104, 97, 115, 104]), (8, [109, 101, 114, 103, 101]), (9, [108, 101, 102, 116]), (10, [104, 97, 115, 104, 108, 101, 102, 116]), (11, [103, 114, 111, 117, 112]), (12, [100, 105, 115, 116, 105, 110, 99, 116]), (13, [117, 110, 105, 111, 110]), (14, [105, 110, 116, 101, 114]), (15, [101, 120, 99, 101, 112, 116]), (16, [115, 111, 114, 116]), (17, [108, 105, 109, 105, 116]), (18, [112, 105, 99, 107])]
def caseF : List UInt8 → List (List UInt8) → List UInt8
  | o, a :: b :: r => caseF (o ++ [32, 119, 104, 101, 110, 32] ++ a ++ [32, 116, 104, 101, 110, 32] ++ b) r
  | o, [a] => o ++ [32, 101, 108, 115, 101, 32] ++ a ++ [32, 101, 110, 100, 41]
  | o, [] => o ++ [32, 101, 110, 100, 41]
/-- A term's text, by its kids' texts. -/
def opText (cols : List Cl) (op : Int) (v : V) (d a : Int) (nm : List UInt8) (ks : List (List UInt8)) : List UInt8 :=
  if op = 1 then textL v
  else if op = 2 then colL cols d a
  else if op = 24 then nm ++ [40] ++ Lib.join ks [44, 32] ++ [41]
  else if op = 26 then [40, 113, 117, 101, 114, 121, 41]
  else if op = 27 then [40, 101, 120, 105, 115, 116, 115, 32, 113, 117, 101, 114, 121, 41]
  else match ks with
    | [] => [63]
    | [x] => if op = 3 then [40, 45, 32] ++ x ++ [41] else if op = 4 then [40, 110, 111, 116, 32] ++ x ++ [41] else if op = 19 then [40] ++ x ++ [32, 105, 115, 32, 110, 117, 108, 108, 41] else if op = 28 then [40] ++ x ++ [32, 105, 110, 32, 113, 117, 101, 114, 121, 41] else [63]
    | [x, y] => match lookT signT op with
      | some s => [40] ++ x ++ [32] ++ s ++ [32] ++ y ++ [41]
      | none => if op = 21 then [40] ++ x ++ [32, 105, 110, 32, 40] ++ Lib.join [y] [44, 32] ++ [41, 41] else if op = 23 then caseF [40, 99, 97, 115, 101] [x, y] else [63]
    | x :: y :: z :: r =>
      if op = 21 then [40] ++ x ++ [32, 105, 110, 32, 40] ++ Lib.join (y :: z :: r) [44, 32] ++ [41, 41]
      else if op = 23 then caseF [40, 99, 97, 115, 101] (x :: y :: z :: r)
      else if op = 22 ∧ r = [] then [40] ++ x ++ [32, 98, 101, 116, 119, 101, 101, 110, 32] ++ y ++ [32, 97, 110, 100, 32] ++ z ++ [41]
      else [63]
mutual
def textF (cols : List Cl) : Tm → List UInt8
  | .mk op v d a nm ks _ _ => opText cols op v d a nm (textsF cols ks)
def textsF (cols : List Cl) : List Tm → List (List UInt8)
  | [] => []
  | t :: r => textF cols t :: textsF cols r
end
def Pn.op : Pn → Int | .mk op .. => op
def Pn.cols : Pn → List Cl | .mk _ _ _ cols .. => cols
def Pn.kids : Pn → List Pn | .mk _ _ _ _ kids .. => kids
def innerC : Pn → List Cl
  | .mk _ _ _ cols kids .. => if kids = [] then cols else (kids.map Pn.cols).flatten
def kidC (kids : List Pn) (i : Nat) : List Cl := match kids[i]? with
  | some k => k.cols
  | none => []
def keysL (kids : List Pn) (lk rk : List Tm) : List UInt8 := Lib.join (List.zipWith (fun l r => textF (kidC kids 0) l ++ [32, 61, 32] ++ textF (kidC kids 1) r) lk rk) [44, 32]
def wordL (op : Int) : List UInt8 := (lookT wordT op).getD [112, 108, 97, 110]
def termsL (p : Pn) (terms : List Tm) : List UInt8 := [91] ++ Lib.join (textsF (innerC p) terms) [59, 32] ++ [93]
mutual
def Tm.wt : Tm → Nat
  | .mk _ v _ _ nm ks _ _ => v.s.size + nm.length + Tm.wts ks + 10
def Tm.wts : List Tm → Nat
  | [] => 0
  | t :: r => t.wt + Tm.wts r
end
def Cl.wt (c : Cl) : Nat := c.tb.length + c.nm.length + 3
theorem itoa_short (n : Int) (h1 : -9223372036854775808 ≤ n) (h2 : n ≤ 9223372036854775807) : (Lib.itoa n).length ≤ 20 := by
  have hd : ∀ u : Nat, u < 10000000000000000000 → (Lib.decDigits u).length ≤ 19 := fun u hu => by
    rw [Lib.decDigits_length]
    have : ∀ k u : Nat, u < 10 ^ (k + 1) → Lib.nDigits u ≤ k + 1 := by
      intro k
      induction k with
      | zero => intro u hu; unfold Lib.nDigits; simp at hu; simp [hu]
      | succ k ih =>
        intro u hu
        unfold Lib.nDigits
        split
        · omega
        · have := ih (u / 10) (by rw [Nat.pow_succ] at hu; omega)
          omega
    exact this 18 u (by simpa using hu)
  unfold Lib.itoa
  split
  · have := hd n.natAbs (by omega)
    simp only [List.length_cons]
    omega
  · have := hd n.toNat (by omega)
    omega
def I64 (n : Int) : Prop := -9223372036854775808 ≤ n ∧ n ≤ 9223372036854775807
theorem textL_len (v : V) (h : I64 v.n) : (textL v).length ≤ 2 * v.s.size + 20 := by
  have e : (textL v).length = (textS v).size := by simp [textL]
  rw [e]
  unfold textS
  have hs : ∀ l : List UInt8, (strL l).size = l.length := fun l => by simp [strL, ByteArray.size]
  split
  · split
    · exact Nat.le_trans (show falseS.size ≤ 20 by decide) (Nat.le_add_left ..)
    · exact Nat.le_trans (show trueS.size ≤ 20 by decide) (Nat.le_add_left ..)
  · split
    · rw [hs]
      have := itoa_short v.n h.1 h.2
      omega
    · split
      · rw [hs]
        have := quoteL_len v.t
        have e2 : v.t.length = v.s.size := by simp [V.t]
        simp only [List.length_append, List.length_cons, List.length_nil]
        omega
      · exact Nat.le_trans (show nullS.size ≤ 20 by decide) (Nat.le_add_left ..)
end Go.Tab
namespace Go.Tab
open Go Go.Pe

structure Ac where
  k : Int
  w : Int
  n : Int
  t : List UInt8
  deriving DecidableEq
def ac0 : Ac := ⟨0, 0, 0, []⟩
/-- May an act be? -/
def mayA (a : Ac) : Bool :=
  if a.k = 1 then decide (0 ≤ a.w ∧ a.w ≤ 3 ∧ a.n = 0 ∧ (10 : UInt8) ∉ a.t)
  else if a.k = 2 then decide (a.w = 0 ∧ -1 ≤ a.n ∧ a.n ≤ 65536 ∧ a.t = [])
  else if a.k = 4 then decide (a.w = 0 ∧ 0 ≤ a.n ∧ a.n ≤ 2000 ∧ a.t = [])
  else if a.k = 3 ∨ a.k = 5 then decide (a.w = 0 ∧ a.n = 0 ∧ a.t = [])
  else false
def lineA (a : Ac) : List UInt8 :=
  if a.k = 1 then Lib.itoa a.w ++ [58, 32] ++ a.t
  else if a.k = 2 then [112, 111, 119, 101, 114, 32] ++ Lib.itoa a.n
  else if a.k = 4 then [102, 108, 117, 115, 104, 32] ++ Lib.itoa a.n
  else if a.k = 3 then [111, 112, 101, 110]
  else [99, 104, 101, 99, 107, 112, 111, 105, 110, 116]
def linesA (l : List Ac) : List UInt8 := (l.map fun a => lineA a ++ [10]).flatten
def printA (l : List Ac) : List UInt8 × Int := if l.all mayA then (linesA l, 0) else ([], 1)
/-- The number that digits tell. -/
noncomputable def numA (s : List UInt8) : Option Int := by
  classical exact if h : ∃ n : Int, -1000000000000000 ≤ n ∧ n ≤ 1000000000000000 ∧ Lib.itoa n = s then some h.choose else none
/-- Cut at the first ": ". -/
def cutA : List UInt8 → Option (List UInt8 × List UInt8)
  | 58 :: 32 :: r => some ([], r)
  | x :: r => (cutA r).map fun p => (x :: p.1, p.2)
  | [] => none
def toldA (a : Ac) : Ac × Int := if mayA a then (a, 0) else (ac0, 1)
noncomputable def oneA (s : List UInt8) : Ac × Int :=
  if s = [111, 112, 101, 110] then (⟨3, 0, 0, []⟩, 0)
  else if s = [99, 104, 101, 99, 107, 112, 111, 105, 110, 116] then (⟨5, 0, 0, []⟩, 0)
  else if s.take 6 = [112, 111, 119, 101, 114, 32] then (match numA (s.drop 6) with | some n => toldA ⟨2, 0, n, []⟩ | none => (ac0, 2))
  else if s.take 6 = [102, 108, 117, 115, 104, 32] then (match numA (s.drop 6) with | some n => toldA ⟨4, 0, n, []⟩ | none => (ac0, 2))
  else match cutA s with
    | some (h, r) => (match numA h with | some n => toldA ⟨1, n, 0, r⟩ | none => (ac0, 2))
    | none => (ac0, 2)
/-- The first line, and the rest; none: no line feed. -/
def lineCut : List UInt8 → Option (List UInt8 × List UInt8)
  | [] => none
  | x :: r => if x = 10 then some ([], r) else (lineCut r).map fun p => (x :: p.1, p.2)
theorem lineCut_len : ∀ {s a r : List UInt8}, lineCut s = some (a, r) → r.length < s.length
  | [], _, _, h => by cases h
  | x :: s, a, r, h => by
    unfold lineCut at h
    split at h
    · cases h; simp
    · simp only [Option.map_eq_some_iff, Prod.mk.injEq] at h
      obtain ⟨⟨a', r'⟩, h1, _, rfl⟩ := h
      have := lineCut_len h1
      simp only [List.length_cons]
      omega
/-- Acts read, so many lines already behind. -/
noncomputable def readA (fuel : Nat) (out : List Ac) (s : List UInt8) : List Ac × Nat × Int := match fuel with
  | 0 => (out, 0, 0)
  | f + 1 => if s = [] then (out, 0, 0) else match lineCut s with
    | none => ([], out.length + 1, 3)
    | some (a, r) => if (oneA a).2 = 0 then readA f (out ++ [(oneA a).1]) r else ([], out.length + 1, (oneA a).2)
noncomputable def parseA (s : List UInt8) : List Ac × Nat × Int := readA (s.length + 1) [] s

theorem numA_itoa {n : Int} (h1 : -1000000000000000 ≤ n) (h2 : n ≤ 1000000000000000) : numA (Lib.itoa n) = some n := by
  unfold numA
  have h : ∃ m : Int, -1000000000000000 ≤ m ∧ m ≤ 1000000000000000 ∧ Lib.itoa m = Lib.itoa n := ⟨n, h1, h2, rfl⟩
  rw [dif_pos h]
  exact congrArg some (itoa_inj h.choose_spec.2.2)
theorem numA_some {s : List UInt8} {n : Int} (h : numA s = some n) : -1000000000000000 ≤ n ∧ n ≤ 1000000000000000 ∧ Lib.itoa n = s := by
  unfold numA at h
  split at h
  · rename_i h'
    cases h
    exact h'.choose_spec
  · cases h
theorem cutA_some : ∀ {s h r : List UInt8}, cutA s = some (h, r) → s = h ++ [58, 32] ++ r
  | [], _, _, e => by simp [cutA] at e
  | x :: s, h, r, e => by
    unfold cutA at e
    split at e
    · rename_i e1
      cases e1
      cases e
      rfl
    · rename_i y s' e1 e2
      cases e2
      simp only [Option.map_eq_some_iff, Prod.mk.injEq] at e
      obtain ⟨⟨h', r'⟩, e3, rfl, rfl⟩ := e
      rw [cutA_some e3]
      rfl
    · rename_i e2; cases e2
theorem itoa_d (w : Int) (h0 : 0 ≤ w) (h3 : w ≤ 3) : ∃ d : UInt8, Lib.itoa w = [d] ∧ 48 ≤ d ∧ d ≤ 51 := by
  have : w = 0 ∨ w = 1 ∨ w = 2 ∨ w = 3 := by omega
  have e : ∀ n : Nat, n < 10 → Lib.itoa (n : Int) = [UInt8.ofNat (48 + n)] := fun n h => by
    unfold Lib.itoa
    rw [if_neg (by omega), Int.toNat_natCast, Lib.decDigits, dif_pos h]
  rcases this with rfl | rfl | rfl | rfl
  · exact ⟨48, e 0 (by decide), by decide, by decide⟩
  · exact ⟨49, e 1 (by decide), by decide, by decide⟩
  · exact ⟨50, e 2 (by decide), by decide, by decide⟩
  · exact ⟨51, e 3 (by decide), by decide, by decide⟩
theorem dec_plain : ∀ u : Nat, (10 : UInt8) ∉ Lib.decDigits u
  | u => by
    unfold Lib.decDigits
    have hd : ∀ k : Nat, k < 10 → (10 : UInt8) ≠ UInt8.ofNat (48 + k) := by decide
    split
    · rename_i h
      simp only [List.mem_cons, List.not_mem_nil, or_false]
      exact hd u h
    · rename_i h
      have := dec_plain (u / 10)
      simp only [List.mem_append, List.mem_cons, List.not_mem_nil, or_false, not_or]
      exact ⟨this, hd _ (by omega)⟩
theorem itoa_plain (n : Int) : (10 : UInt8) ∉ Lib.itoa n := by
  unfold Lib.itoa
  split
  · simp only [List.mem_cons, not_or]
    exact ⟨by decide, dec_plain _⟩
  · exact dec_plain _
theorem may_cases {a : Ac} (h : mayA a = true) : (a.k = 1 ∧ 0 ≤ a.w ∧ a.w ≤ 3 ∧ a.n = 0 ∧ (10 : UInt8) ∉ a.t) ∨ (a.k = 2 ∧ a.w = 0 ∧ -1 ≤ a.n ∧ a.n ≤ 65536 ∧ a.t = []) ∨ (a.k = 4 ∧ a.w = 0 ∧ 0 ≤ a.n ∧ a.n ≤ 2000 ∧ a.t = []) ∨ ((a.k = 3 ∨ a.k = 5) ∧ a.w = 0 ∧ a.n = 0 ∧ a.t = []) := by
  unfold mayA at h
  split at h
  · rename_i e
    exact .inl ⟨e, by simpa using of_decide_eq_true h⟩
  · split at h
    · rename_i e
      exact .inr (.inl ⟨e, of_decide_eq_true h⟩)
    · split at h
      · rename_i e
        exact .inr (.inr (.inl ⟨e, of_decide_eq_true h⟩))
      · split at h
        · rename_i e
          exact .inr (.inr (.inr ⟨e, of_decide_eq_true h⟩))
        · cases h
theorem line_plain {a : Ac} (h : mayA a = true) : (10 : UInt8) ∉ lineA a := by
  rcases may_cases h with ⟨e, _, _, _, h5⟩ | ⟨e, _⟩ | ⟨e, _⟩ | ⟨e, _⟩
  · unfold lineA
    rw [if_pos e]
    simp only [List.mem_append, not_or]
    exact ⟨⟨itoa_plain _, by decide⟩, h5⟩
  · unfold lineA
    rw [if_neg (by omega), if_pos e]
    simp only [List.mem_append, not_or]
    exact ⟨by decide, itoa_plain _⟩
  · unfold lineA
    rw [if_neg (by omega), if_neg (by omega), if_pos e]
    simp only [List.mem_append, not_or]
    exact ⟨by decide, itoa_plain _⟩
  · unfold lineA
    rw [if_neg (by omega), if_neg (by omega), if_neg (by omega)]
    split <;> decide
theorem one_line {a : Ac} (h : mayA a = true) : oneA (lineA a) = (a, 0) := by
  have hm := h
  obtain ⟨k, w, n, t⟩ := a
  rcases may_cases h with ⟨e, h1, h2, h3, h5⟩ | ⟨e, h1, h2, h3, h5⟩ | ⟨e, h1, h2, h3, h5⟩ | ⟨e, h1, h3, h5⟩
  · simp only at e h1 h2 h3 h5
    subst e; subst h3
    obtain ⟨d, hd, hd1, hd2⟩ := itoa_d w h1 h2
    have hl : lineA ⟨1, w, 0, t⟩ = d :: 58 :: 32 :: t := by simp [lineA, hd]
    have hn : numA [d] = some w := by rw [← hd]; exact numA_itoa (by omega) (by omega)
    have n1 : d ≠ 111 := fun e => by subst e; revert hd2; decide
    have n2 : d ≠ 99 := fun e => by subst e; revert hd2; decide
    have n3 : d ≠ 112 := fun e => by subst e; revert hd2; decide
    have n4 : d ≠ 102 := fun e => by subst e; revert hd2; decide
    have n5 : d ≠ 58 := fun e => by subst e; revert hd2; decide
    have hc : cutA (d :: 58 :: 32 :: t) = some ([d], t) := by
      rw [cutA]
      · rfl
      · intro r e1 _
        exact n5 e1
    rw [hl]
    unfold oneA
    rw [if_neg (by simp [n1]), if_neg (by simp [n2]), if_neg (by simp [n3]), if_neg (by simp [n4]), hc]
    simp only [hn]
    unfold toldA
    rw [if_pos hm]
  · simp only at e h1 h2 h3 h5
    subst e; subst h1; subst h5
    have hl : lineA ⟨2, 0, n, []⟩ = [112, 111, 119, 101, 114, 32] ++ Lib.itoa n := by simp [lineA]
    rw [hl]
    unfold oneA
    rw [if_neg (by simp), if_neg (by simp), if_pos (by simp)]
    have hd : ([112, 111, 119, 101, 114, 32] ++ Lib.itoa n).drop 6 = Lib.itoa n := by simp
    rw [hd, numA_itoa (by omega) (by omega)]
    simp only
    unfold toldA
    rw [if_pos hm]
  · simp only at e h1 h2 h3 h5
    subst e; subst h1; subst h5
    have hl : lineA ⟨4, 0, n, []⟩ = [102, 108, 117, 115, 104, 32] ++ Lib.itoa n := by simp [lineA]
    rw [hl]
    unfold oneA
    rw [if_neg (by simp), if_neg (by simp), if_neg (by simp), if_pos (by simp)]
    have hd : ([102, 108, 117, 115, 104, 32] ++ Lib.itoa n).drop 6 = Lib.itoa n := by simp
    rw [hd, numA_itoa (by omega) (by omega)]
    simp only
    unfold toldA
    rw [if_pos hm]
  · simp only at e h1 h3 h5
    subst h1; subst h3; subst h5
    rcases e with rfl | rfl
    · have hl : lineA ⟨3, 0, 0, []⟩ = [111, 112, 101, 110] := by simp [lineA]
      rw [hl]
      unfold oneA
      rw [if_pos rfl]
    · have hl : lineA ⟨5, 0, 0, []⟩ = [99, 104, 101, 99, 107, 112, 111, 105, 110, 116] := by simp [lineA]
      rw [hl]
      unfold oneA
      rw [if_neg (by decide), if_pos rfl]
theorem lineCut_plain : ∀ {a : List UInt8} (r : List UInt8), (10 : UInt8) ∉ a → lineCut (a ++ 10 :: r) = some (a, r)
  | [], r, _ => by simp [lineCut]
  | x :: a, r, h => by
    simp only [List.mem_cons, not_or] at h
    rw [List.cons_append, lineCut, if_neg (fun e => h.1 e.symm), lineCut_plain r h.2]
    rfl
theorem lineCut_some : ∀ {s a r : List UInt8}, lineCut s = some (a, r) → s = a ++ 10 :: r ∧ (10 : UInt8) ∉ a
  | [], _, _, h => by cases h
  | x :: s, a, r, h => by
    unfold lineCut at h
    split at h
    · rename_i e
      cases h
      exact ⟨by rw [e]; rfl, by simp⟩
    · rename_i e
      simp only [Option.map_eq_some_iff, Prod.mk.injEq] at h
      obtain ⟨⟨a', r'⟩, h1, rfl, rfl⟩ := h
      obtain ⟨h2, h3⟩ := lineCut_some h1
      refine ⟨by rw [h2]; rfl, ?_⟩
      simp only [List.mem_cons, not_or]
      exact ⟨fun e' => e e'.symm, h3⟩
theorem read_lines : ∀ (l : List Ac) (fuel : Nat) (out : List Ac), (∀ a ∈ l, mayA a = true) → (linesA l).length < fuel → readA fuel out (linesA l) = (out ++ l, 0, 0)
  | [], 0, _, _, h => absurd h (by simp)
  | [], f + 1, out, _, _ => by simp [readA, linesA]
  | a :: l, 0, _, _, h => absurd h (by simp)
  | a :: l, f + 1, out, hm, h => by
    have ha := hm a (List.mem_cons_self ..)
    have e : linesA (a :: l) = lineA a ++ 10 :: linesA l := by simp [linesA]
    rw [e] at h ⊢
    rw [readA, if_neg (by simp), lineCut_plain _ (line_plain ha)]
    simp only [one_line ha, if_true]
    rw [read_lines l f (out ++ [a]) (fun b hb => hm b (List.mem_cons_of_mem _ hb)) (by simp only [List.length_append, List.length_cons] at h; omega)]
    simp
theorem parse_print (l : List Ac) (h : l.all mayA = true) : parseA (linesA l) = (l, 0, 0) := by
  unfold parseA
  rw [read_lines l _ [] (fun a ha => List.all_eq_true.1 h a ha) (Nat.lt_succ_self _)]
  rfl
theorem told_ok {a b : Ac} (h : toldA a = (b, 0)) : mayA b = true ∧ b = a := by
  unfold toldA at h
  split at h
  · rename_i e
    cases h
    exact ⟨e, rfl⟩
  · simp at h
theorem one_back {s : List UInt8} (h : (oneA s).2 = 0) : mayA (oneA s).1 = true ∧ lineA (oneA s).1 = s := by
  have h1 : oneA s = ((oneA s).1, 0) := by rw [← h]
  generalize (oneA s).1 = a at h1
  unfold oneA at h1
  split at h1
  · rename_i e
    cases h1
    exact ⟨by decide, by rw [e]; rfl⟩
  · split at h1
    · rename_i e
      cases h1
      exact ⟨by decide, by rw [e]; rfl⟩
    · split at h1
      · rename_i e
        split at h1
        · rename_i n hn
          obtain ⟨h2, rfl⟩ := told_ok h1
          refine ⟨h2, ?_⟩
          have h3 := (numA_some hn).2.2
          have h4 := List.take_append_drop 6 s
          rw [e, ← h3] at h4
          exact h4
        · simp at h1
      · split at h1
        · rename_i e
          split at h1
          · rename_i n hn
            obtain ⟨h2, rfl⟩ := told_ok h1
            refine ⟨h2, ?_⟩
            have h3 := (numA_some hn).2.2
            have h4 := List.take_append_drop 6 s
            rw [e, ← h3] at h4
            exact h4
          · simp at h1
        · split at h1
          · rename_i hh rr hc
            split at h1
            · rename_i n hn
              obtain ⟨h2, rfl⟩ := told_ok h1
              refine ⟨h2, ?_⟩
              have h3 := (numA_some hn).2.2
              rw [cutA_some hc, ← h3]
              rfl
            · simp at h1
          · simp at h1
theorem read_back : ∀ (fuel : Nat) (out : List Ac) (s : List UInt8), s.length < fuel → ((readA fuel out s).2.2 = 0 → ∃ l, readA fuel out s = (out ++ l, 0, 0) ∧ l.all mayA = true ∧ linesA l = s) ∧ ((readA fuel out s).2.2 ≠ 0 → (readA fuel out s).1 = [] ∧ 1 ≤ (readA fuel out s).2.1)
  | 0, _, _, h => absurd h (by omega)
  | f + 1, out, s, h => by
    rw [readA]
    by_cases hs : s = []
    · subst hs
      rw [if_pos rfl]
      exact ⟨fun _ => ⟨[], by simp, rfl, rfl⟩, fun h => absurd rfl h⟩
    · rw [if_neg hs]
      cases hc : lineCut s with
      | none => exact ⟨fun h => by simp at h, fun _ => ⟨rfl, by simp⟩⟩
      | some p =>
        obtain ⟨a, r⟩ := p
        obtain ⟨e1, e2⟩ := lineCut_some hc
        have hl := lineCut_len hc
        simp only
        by_cases ho : (oneA a).2 = 0
        · rw [if_pos ho]
          obtain ⟨m1, m2⟩ := one_back ho
          have ih := read_back f (out ++ [(oneA a).1]) r (by omega)
          refine ⟨fun h0 => ?_, ih.2⟩
          obtain ⟨l, l1, l2, l3⟩ := ih.1 h0
          refine ⟨(oneA a).1 :: l, by rw [l1]; simp, by rw [List.all_cons, m1, l2]; rfl, ?_⟩
          rw [e1, ← l3]
          simp [linesA, m2]
        · rw [if_neg ho]
          exact ⟨fun h0 => absurd h0 ho, fun _ => ⟨rfl, by simp⟩⟩
end Go.Tab
namespace Go.Tab
open Go Go.Pe

theorem cut_nil (sep : List UInt8) (h : sep ≠ []) : Lib.cut [] sep = ([], [], false) := by
  unfold Lib.cut Lib.index
  cases sep with
  | nil => exact absurd rfl h
  | cons c r => rfl
theorem cut_cons (b : UInt8) (l sep : List UInt8) : Lib.cut (b :: l) sep = if sep.isPrefixOf (b :: l) = true then ([], (b :: l).drop sep.length, true) else if (Lib.cut l sep).2.2 = true then (b :: (Lib.cut l sep).1, (Lib.cut l sep).2.1, true) else (b :: l, [], false) := by
  have hg := Lib.index_ge l sep
  unfold Lib.cut
  rw [Lib.index]
  by_cases h1 : sep.isPrefixOf (b :: l) = true
  · rw [if_pos h1, if_pos h1, if_pos (by decide)]
    simp
  · rw [if_neg h1, if_neg h1]
    by_cases h2 : Lib.index l sep = -1
    · rw [h2]
      rfl
    · have h3 : (Lib.index l sep == -1) = false := by simpa using h2
      have h4 : 0 ≤ Lib.index l sep := by omega
      have h5 : 0 ≤ Lib.index l sep + 1 := by omega
      simp only [h3, Bool.false_eq_true, if_false, h4, h5, if_true]
      obtain ⟨i, hi⟩ : ∃ i : Nat, Lib.index l sep = i := ⟨_, (Int.toNat_of_nonneg h4).symm⟩
      rw [hi]
      have e : ((i : Int) + 1).toNat = i + 1 := by omega
      rw [e, Int.toNat_natCast, List.take_succ_cons, show i + 1 + sep.length = (i + sep.length) + 1 by omega, List.drop_succ_cons]
theorem cut_lf : ∀ s : List UInt8, Lib.cut s [10] = match lineCut s with
    | some (a, r) => (a, r, true)
    | none => (s, [], false)
  | [] => cut_nil [10] (by simp)
  | b :: l => by
    rw [cut_cons, cut_lf l, lineCut]
    by_cases h : b = 10
    · subst h
      rw [if_pos (by simp), if_pos rfl]
      rfl
    · rw [if_neg (by simp [List.isPrefixOf]; exact fun e => h e.symm), if_neg h]
      cases lineCut l with
      | none => rfl
      | some p => rfl
theorem cut_cs : ∀ s : List UInt8, Lib.cut s [58, 32] = match cutA s with
    | some (a, r) => (a, r, true)
    | none => (s, [], false)
  | [] => cut_nil [58, 32] (by simp)
  | b :: l => by
    rw [cut_cons, cut_cs l]
    by_cases h : ∃ r, b = 58 ∧ l = 32 :: r
    · obtain ⟨r, rfl, rfl⟩ := h
      rw [if_pos (by simp), cutA]
      rfl
    · have h1 : ¬ [58, 32].isPrefixOf (b :: l) = true := by
        intro h2
        apply h
        cases l with
        | nil => simp [List.isPrefixOf] at h2
        | cons c r =>
          simp only [List.isPrefixOf, Bool.and_eq_true, beq_iff_eq, Bool.and_true] at h2
          exact ⟨r, h2.1.symm, by rw [h2.2]⟩
      rw [if_neg h1]
      have h2 : cutA (b :: l) = (cutA l).map fun p => (b :: p.1, p.2) := by
        rw [cutA]
        intro r e1 e2
        exact h ⟨r, e1, e2⟩
      rw [h2]
      cases cutA l with
      | none => rfl
      | some p => rfl
theorem contains_lf : ∀ s : List UInt8, Lib.contains s [10] = decide ((10 : UInt8) ∈ s)
  | [] => rfl
  | b :: l => by
    have ih := contains_lf l
    have hg := Lib.index_ge l [10]
    unfold Lib.contains at ih ⊢
    rw [Lib.index]
    by_cases h : b = 10
    · subst h
      rw [if_pos (by simp [List.isPrefixOf])]
      simp
    · rw [if_neg (by simp [List.isPrefixOf]; exact fun e => h e.symm)]
      by_cases h2 : Lib.index l [10] = -1
      · rw [h2] at ih ⊢
        have h3 : (10 : UInt8) ∉ l := by simpa using ih
        have h5 : ¬ (10 : UInt8) = b := fun e => h e.symm
        simp [h3, h5]
      · have h3 : (Lib.index l [10] == -1) = false := by simpa using h2
        rw [h3, if_neg (by decide)]
        have h4 : (10 : UInt8) ∈ l := by
          have : decide (0 ≤ Lib.index l [10]) = true := decide_eq_true (by omega)
          rw [this] at ih
          simpa using ih.symm
        rw [decide_eq_true (show 0 ≤ Lib.index l [10] + 1 by omega), decide_eq_true (List.mem_cons_of_mem _ h4)]
/-- A cut, sought from place to place. -/
theorem cutA_cons (b : UInt8) (l : List UInt8) (h : ¬ (b = 58 ∧ l.head? = some 32)) : cutA (b :: l) = (cutA l).map fun p => (b :: p.1, p.2) := by
  rw [cutA]
  intro r e1 e2
  exact h ⟨e1, by rw [e2]; rfl⟩
theorem cutA_step (s : List UInt8) : ∀ i : Nat, i ≤ s.length → (∀ j, j < i → ¬ (s[j]? = some 58 ∧ s[j + 1]? = some 32)) → cutA s = (cutA (s.drop i)).map fun p => (s.take i ++ p.1, p.2)
  | 0, _, _ => by
    simp only [List.drop_zero, List.take_zero, List.nil_append]
    cases cutA s <;> rfl
  | i + 1, hi, h => by
    rw [cutA_step s i (by omega) (fun j hj => h j (by omega))]
    have hlt : i < s.length := by omega
    have e := List.drop_eq_getElem_cons hlt
    have hn := h i (Nat.lt_succ_self i)
    rw [List.getElem?_eq_getElem hlt] at hn
    rw [e, cutA_cons _ _ (by
      rintro ⟨h1, h2⟩
      refine hn ⟨by rw [h1], ?_⟩
      rw [← h2, List.head?_drop])]
    rw [List.take_succ_eq_append_getElem hlt]
    cases cutA (s.drop (i + 1)) with
    | none => rfl
    | some p => simp only [Option.map_some, List.append_assoc, List.cons_append, List.nil_append]
theorem cutA_hit (s : List UInt8) (i : Nat) (h : ∀ j, j < i → ¬ (s[j]? = some 58 ∧ s[j + 1]? = some 32)) (h1 : s[i]? = some 58) (h2 : s[i + 1]? = some 32) : cutA s = some (s.take i, s.drop (i + 2)) := by
  obtain ⟨hi, e1⟩ := List.getElem?_eq_some_iff.1 h1
  obtain ⟨hi2, e2⟩ := List.getElem?_eq_some_iff.1 h2
  rw [cutA_step s i (by omega) h, List.drop_eq_getElem_cons hi, List.drop_eq_getElem_cons hi2, e1, e2, cutA]
  simp
theorem cutA_miss (s : List UInt8) (h : ∀ j, j + 1 < s.length → ¬ (s[j]? = some 58 ∧ s[j + 1]? = some 32)) : cutA s = none := by
  rw [cutA_step s s.length (Nat.le_refl _) (fun j hj h' => by
    by_cases h3 : j + 1 < s.length
    · exact h j h3 h'
    · have := List.getElem?_eq_none (l := s) (i := j + 1) (by omega)
      rw [this] at h'
      cases h'.2), List.drop_length]
  rfl
end Go.Tab
namespace Go.Tab
open Go Go.Pe

/-- Acts read, so many lines already behind. -/
noncomputable def restA (out : List Ac) (s : List UInt8) : List Ac × Nat × Int := readA (s.length + 1) out s
theorem read_fuel : ∀ (f : Nat) (out : List Ac) (s : List UInt8), s.length < f → readA f out s = restA out s
  | 0, _, _, h => absurd h (by omega)
  | f + 1, out, s, h => by
    unfold restA
    rw [readA, readA]
    split
    · rfl
    · cases hc : lineCut s with
      | none => rfl
      | some p =>
        obtain ⟨a, r⟩ := p
        have hl := lineCut_len hc
        simp only
        split
        · rw [read_fuel f _ r (by omega), read_fuel s.length _ r hl]
        · rfl
  termination_by f => f
theorem parse_rest (s : List UInt8) : parseA s = restA [] s := rfl
theorem rest_nil (out : List Ac) : restA out [] = (out, 0, 0) := by
  unfold restA
  rw [readA, if_pos rfl]
theorem rest_none {out : List Ac} {s : List UInt8} (hs : s ≠ []) (h : lineCut s = none) : restA out s = ([], out.length + 1, 3) := by
  unfold restA
  rw [readA, if_neg hs, h]
theorem rest_ok {out : List Ac} {s a r : List UInt8} (h : lineCut s = some (a, r)) (ho : (oneA a).2 = 0) : restA out s = restA (out ++ [(oneA a).1]) r := by
  have hs : s ≠ [] := fun e => by rw [e] at h; cases h
  have hl := lineCut_len h
  unfold restA
  rw [readA, if_neg hs, h]
  simp only
  rw [if_pos ho, read_fuel _ _ _ hl]
  rfl
theorem rest_bad {out : List Ac} {s a r : List UInt8} (h : lineCut s = some (a, r)) (ho : (oneA a).2 ≠ 0) : restA out s = ([], out.length + 1, (oneA a).2) := by
  have hs : s ≠ [] := fun e => by rw [e] at h; cases h
  unfold restA
  rw [readA, if_neg hs, h]
  simp only
  rw [if_neg ho]
/-- A line, sought from place to place. -/
theorem line_hit (s : List UInt8) (n i : Nat) (hn : n ≤ i) (h : ∀ j, n ≤ j → j < i → s[j]? ≠ some 10) (h1 : s[i]? = some 10) : lineCut (s.drop n) = some ((s.take i).drop n, s.drop (i + 1)) := by
  obtain ⟨hi, e1⟩ := List.getElem?_eq_some_iff.1 h1
  have e : s.drop n = (s.take i).drop n ++ 10 :: s.drop (i + 1) := by
    conv => lhs; rw [← List.take_append_drop i s]
    rw [List.drop_append_of_le_length (by rw [List.length_take]; omega), List.drop_eq_getElem_cons hi, e1]
  rw [e]
  refine lineCut_plain _ fun hm => ?_
  obtain ⟨k, hk, e2⟩ := List.getElem_of_mem hm
  rw [List.getElem_drop, List.getElem_take] at e2
  have hk2 : n + k < i := by
    rw [List.length_drop, List.length_take] at hk
    omega
  exact h (n + k) (by omega) hk2 (by rw [List.getElem?_eq_getElem (by omega), e2])
theorem line_miss : ∀ s : List UInt8, (∀ j : Nat, s[j]? ≠ some (10 : UInt8)) → lineCut s = none
  | [], _ => rfl
  | x :: s, h => by
    have h0 := h 0
    rw [List.getElem?_cons_zero] at h0
    rw [lineCut, if_neg (fun e => h0 (by rw [e])), line_miss s (fun j => by have := h (j + 1); rwa [List.getElem?_cons_succ] at this)]
    rfl
end Go.Tab
namespace Go.Tab
open Go Go.Pe

theorem join_snoc (sep x : List UInt8) : ∀ l : List (List UInt8), l ≠ [] → Lib.join (l ++ [x]) sep = Lib.join l sep ++ sep ++ x
  | [], h => absurd rfl h
  | y :: r, _ => by
    rw [List.cons_append, Lib.join_cons, Lib.join_cons]
    simp only [Lib.joinTail, List.map_append, List.flatten_append, List.map_cons, List.map_nil, List.flatten_cons, List.flatten_nil, List.append_nil, List.append_assoc]
/-- The pieces of a node's line. -/
def p1 (op : Int) : List (List UInt8) := [wordL op]
def p2 (op : Int) (tb : List UInt8) : List (List UInt8) := if tb = [] then p1 op else p1 op ++ [tb]
def p3 (op : Int) (tb ix : List UInt8) : List (List UInt8) := if op = 2 then p2 op tb ++ [[98, 121], ix] else p2 op tb
def p4 (op : Int) (tb ix : List UInt8) (kids : List Pn) (lk rk : List Tm) : List (List UInt8) := if lk ≠ [] ∧ rk ≠ [] then p3 op tb ix ++ [[111, 110], keysL kids lk rk] else p3 op tb ix
def p5 (p : Pn) : List (List UInt8) := match p with
  | .mk op tb ix cols kids terms lk rk r est cost => if terms = [] then p4 op tb ix kids lk rk else p4 op tb ix kids lk rk ++ [termsL (.mk op tb ix cols kids terms lk rk r est cost) terms]
end Go.Tab
namespace Go.Tab
open Go Go.Pe

structure Rp where
  k : Int
  e : Int
  n : Int
  cols : List Cl
  rows : List (List V)
  text : List (List UInt8)
def colN (c : Cl) : List UInt8 := if c.tb = [] then c.nm else c.tb ++ [46] ++ c.nm
def rowN (x : List V) : List UInt8 := Lib.join ([114, 111, 119] :: x.map textL) [32]
/-- A reply's lines. -/
def linesR (r : Rp) : List (List UInt8) :=
  [[114, 101, 112, 108, 121, 32] ++ Lib.itoa r.k ++ [32] ++ Lib.itoa r.e ++ [32] ++ Lib.itoa r.n] ++
    (if r.cols = [] then [] else [Lib.join ([99, 111, 108, 115] :: r.cols.map colN) [32]]) ++ r.rows.map rowN ++ r.text.map fun t => [116, 101, 120, 116, 32] ++ t
/-- Joined one by one, as the document does. -/
def plusF {α : Type} (f : α → List UInt8) : List UInt8 → List α → List UInt8
  | o, [] => o
  | o, x :: l => plusF f (o ++ [32] ++ f x) l
theorem plusF_join {α : Type} (f : α → List UInt8) (l : List α) : ∀ (pre : List (List UInt8)), pre ≠ [] → plusF f (Lib.join pre [32]) l = Lib.join (pre ++ l.map f) [32] := by
  induction l with
  | nil => intro pre _; simp [plusF]
  | cons x l ih =>
    intro pre hp
    rw [plusF, ← join_snoc _ _ _ hp, ih (pre ++ [f x]) (by simp)]
    simp
theorem plusF_one {α : Type} (f : α → List UInt8) (o : List UInt8) (l : List α) : plusF f o l = Lib.join (o :: l.map f) [32] := by
  have h := plusF_join f l [o] (by simp)
  rw [Lib.join_one] at h
  exact h
theorem plusF_take {α : Type} (f : α → List UInt8) (o : List UInt8) (l : List α) (k : Nat) (h : k < l.length) : plusF f o (l.take (k + 1)) = plusF f o (l.take k) ++ [32] ++ f l[k] := by
  rw [plusF_one, plusF_one, List.take_succ_eq_append_getElem h, List.map_append, ← List.cons_append]
  exact join_snoc _ _ _ (by simp)
end Go.Tab
namespace Go.Tab
open Go Go.Pe

def digF (n : Nat) (c : UInt8) : Nat := if 48 ≤ c ∧ c ≤ 57 then 10 * n + (c.toNat - 48) else n
theorem dig_at : ∀ k : Nat, k < 10 → (48 : UInt8) ≤ UInt8.ofNat (48 + k) ∧ UInt8.ofNat (48 + k) ≤ 57 ∧ (UInt8.ofNat (48 + k)).toNat - 48 = k := by decide
theorem dig_dec : ∀ u : Nat, (Lib.decDigits u).foldl digF 0 = u
  | u => by
    unfold Lib.decDigits
    split
    · rename_i h
      obtain ⟨h1, h2, h3⟩ := dig_at u h
      simp only [List.foldl_cons, List.foldl_nil, digF]
      rw [if_pos ⟨h1, h2⟩, h3]
      omega
    · rename_i h
      obtain ⟨h1, h2, h3⟩ := dig_at (u % 10) (Nat.mod_lt _ (by decide))
      rw [List.foldl_append, dig_dec (u / 10)]
      simp only [List.foldl_cons, List.foldl_nil, digF]
      rw [if_pos ⟨h1, h2⟩, h3]
      omega
theorem nDig_le : ∀ k u : Nat, u < 10 ^ (k + 1) → Lib.nDigits u ≤ k + 1 := by
  intro k
  induction k with
  | zero => intro u hu; unfold Lib.nDigits; simp at hu; simp [hu]
  | succ k ih =>
    intro u hu
    unfold Lib.nDigits
    split
    · omega
    · have := ih (u / 10) (by rw [Nat.pow_succ] at hu; omega)
      omega
theorem dec_len (u : Nat) (h : u ≤ 1000000000000000) : (Lib.decDigits u).length ≤ 16 := by
  rw [Lib.decDigits_length]
  exact nDig_le 15 u (by omega)
theorem dec_head (u : Nat) : ∃ c r, Lib.decDigits u = c :: r ∧ 48 ≤ c ∧ c ≤ 57 := by
  match u with
  | u =>
    unfold Lib.decDigits
    split
    · rename_i h
      obtain ⟨h1, h2, _⟩ := dig_at u h
      exact ⟨_, [], rfl, h1, h2⟩
    · rename_i h
      obtain ⟨c, r, e, h1, h2⟩ := dec_head (u / 10)
      exact ⟨c, r ++ [UInt8.ofNat (48 + u % 10)], by rw [e]; rfl, h1, h2⟩
/-- What the digits of a text make, with its sign. -/
def digS (s : List UInt8) : Int := if s.head? = some 45 then -((s.foldl digF 0 : Nat) : Int) else ((s.foldl digF 0 : Nat) : Int)
theorem digS_itoa (n : Int) : digS (Lib.itoa n) = n := by
  unfold Lib.itoa
  split
  · rename_i h
    unfold digS
    rw [List.head?_cons, if_pos rfl, List.foldl_cons]
    have e : digF 0 45 = 0 := by decide
    rw [e, dig_dec]
    omega
  · rename_i h
    obtain ⟨c, r, e, h1, h2⟩ := dec_head n.toNat
    unfold digS
    rw [if_neg (by rw [e]; intro h3; simp only [List.head?_cons, Option.some.injEq] at h3; subst h3; exact absurd h1 (by decide)), dig_dec]
    omega
/-- The document's way to a number is the number's text read back. -/
noncomputable def refN (s : List UInt8) : Option Int := if 17 < s.length then none else if -1000000000000000 ≤ digS s ∧ digS s ≤ 1000000000000000 ∧ Lib.itoa (digS s) = s then some (digS s) else none
theorem refN_eq (s : List UInt8) : refN s = numA s := by
  cases h : numA s with
  | some n =>
    obtain ⟨h1, h2, h3⟩ := numA_some h
    have hd : digS s = n := by rw [← h3]; exact digS_itoa n
    have hl : s.length ≤ 17 := by
      rw [← h3]
      unfold Lib.itoa
      split
      · have := dec_len n.natAbs (by omega)
        simp only [List.length_cons]
        omega
      · have := dec_len n.toNat (by omega)
        omega
    unfold refN
    rw [if_neg (by omega), if_pos ⟨by omega, by omega, by rw [hd]; exact h3⟩, hd]
  | none =>
    unfold refN
    split
    · rfl
    · split
      · rename_i h1
        have := numA_itoa h1.1 h1.2.1
        rw [h1.2.2, h] at this
        cases this
      · rfl
end Go.Tab
namespace Go.Proofs.YtcmgabicladmlaaDoor
open Go Go.Pe Go.Tab

def str (l : List UInt8) : ByteArray := ⟨l.toArray⟩
def small64 (n : Int) : Bool := decide (-9223372036854775808 ≤ n ∧ n ≤ 9223372036854775807)

def itoaP (xs : List X) (obs : List Ob) : Option An := match xs, obs with
  | [.of (.lit (.int .i64 n))], [] => if small64 n then some ⟨false, [xstr (str (Lib.itoa n))], []⟩ else none
  | _, _ => none
def raP (xs : List X) (obs : List Ob) : Option An := match xs, obs with
  | [.of (.lit (.string s)), .of (.lit (.string a)), .of (.lit (.string b))], [] =>
    if s.size < 4294967281 ∧ 1 ≤ a.size ∧ s.size + Lib.countB s a * b.size ≤ 140737488355328 then some ⟨false, [xstr (str (Lib.replaceAll s.data.toList a.data.toList b.data.toList))], []⟩ else none
  | _, _ => none
/-- Texts, out of data. -/
def unstrs : List C → Option (List ByteArray)
  | [] => some []
  | .lit (.string s) :: r => (unstrs r).map (s :: ·)
  | _ => none
def strsC (l : List ByteArray) : List C := l.map fun s => cstr s
theorem unstrs_at : ∀ l : List ByteArray, unstrs (strsC l) = some l
  | [] => rfl
  | s :: l => by
    have h := unstrs_at l
    unfold strsC at h ⊢
    simp only [List.map_cons, unstrs, h, Option.map_some]
theorem unstrs_eq : ∀ (cs : List C) (l : List ByteArray), unstrs cs = some l → cs = strsC l
  | [], l, h => by simp only [unstrs, Option.some.injEq] at h; subst h; rfl
  | c :: cs, l, h => by
    unfold unstrs at h
    split at h
    · rename_i e; cases e
    · rename_i s r e
      cases e
      simp only [Option.map_eq_some_iff] at h
      obtain ⟨q, hq, rfl⟩ := h
      rw [unstrs_eq _ q hq]
      rfl
    · cases h
def joinP (xs : List X) (obs : List Ob) : Option An := match xs, obs with
  | [.of (.sl cs n), .of (.lit (.string sep))], [] => (unstrs cs).bind fun l =>
    if n = l.length ∧ l.length ≤ 140737488355328 ∧ (Lib.join (l.map (·.data.toList)) sep.data.toList).length ≤ 140737488355328 then some ⟨false, [xstr ⟨(Lib.join (l.map (·.data.toList)) sep.data.toList).toArray⟩], []⟩ else none
  | _, _ => none
def cutP (xs : List X) (obs : List Ob) : Option An := match xs, obs with
  | [.of (.lit (.string s)), .of (.lit (.string sep))], [] =>
    if s.size < 4294967281 then some ⟨false, [xstr ⟨(Lib.cut s.data.toList sep.data.toList).1.toArray⟩, xstr ⟨(Lib.cut s.data.toList sep.data.toList).2.1.toArray⟩, xbool (Lib.cut s.data.toList sep.data.toList).2.2], []⟩ else none
  | _, _ => none
def contP (xs : List X) (obs : List Ob) : Option An := match xs, obs with
  | [.of (.lit (.string s)), .of (.lit (.string sub))], [] => if s.size < 4294967281 then some ⟨false, [xbool (Lib.contains s.data.toList sub.data.toList)], []⟩ else none
  | _, _ => none
def acC (a : Ac) : List C := [ci a.k, ci a.w, ci a.n, cstr (strL a.t)]
/-- Two of the program's own functions, found apart. -/
def mayP (xs : List X) (obs : List Ob) : Option An := match xs, obs with
  | [.of (.agg [.lit (.int .i64 k), .lit (.int .i64 w), .lit (.int .i64 n), .lit (.string s)])], [] =>
    if s.size < 4294967281 then some ⟨false, [xbool (mayA ⟨k, w, n, s.data.toList⟩)], []⟩ else none
  | _, _ => none
noncomputable def oneP (xs : List X) (obs : List Ob) : Option An := match xs, obs with
  | [.of (.lit (.string s))], [] => if s.size < 4294967281 then some ⟨false, [.of (.agg (acC (oneA s.data.toList).1)), xint (oneA s.data.toList).2], []⟩ else none
  | _, _ => none
def valC (v : V) : List C := [ci v.k, ci v.n, cstr v.s]
structure VOk (v : V) : Prop where
  k : small64 v.k = true
  n : small64 v.n = true
  s : v.s.size ≤ 1048576
def prims0 : Orc := fun f xs obs =>
  if f = 36 then itoaP xs obs
  else if f = 41 then raP xs obs
  else if f = 23 then joinP xs obs
  else if f = 18 then cutP xs obs
  else if f = 27 then contP xs obs
  else none
noncomputable def prims : Orc := fun f xs obs =>
  if f = 14 then mayP xs obs
  else if f = 19 then oneP xs obs
  else prims0 f xs obs

/-- What is given, in this seat: first of the library alone. -/
def pr0 : Pr := ⟨prims0, objF, tkF⟩
theorem pr0_obj (f : Nat) : pr0.obj f = objF f := rfl
noncomputable def pr : Pr := ⟨prims, objF, tkF⟩
theorem pr_obj (f : Nat) : pr.obj f = objF f := rfl
abbrev G1 (f : Nat) (xs : List X) (x : X) : Prop := Gives Tryd.prog pr f xs [] ⟨false, [x], []⟩
abbrev GN (f : Nat) (xs : List X) (rs : List X) : Prop := Gives Tryd.prog pr f xs [] ⟨false, rs, []⟩
theorem by_body {f n : Nat} {b : Code} {xs : List X} {obs : List Ob} {an : An} (hp : prims f xs obs = none) (hok : fnOk Tryd.prog f = true) (hb : bodyOf Tryd.prog f = b) (har : arity Tryd.prog f = n) (hl : Nat.ble xs.length n = true)
    (h : WC Tryd.prog pr b (initS xs obs) (endQ Tryd.prog f obs.length an)) : Gives Tryd.prog pr f xs obs an :=
  Gives.of_body hp hok (by rw [har]; exact Nat.le_of_ble_eq_true hl) (by rw [hb]; exact h)
theorem by_body0 {f n : Nat} {b : Code} {xs : List X} {obs : List Ob} {an : An} (hp : prims0 f xs obs = none) (hok : fnOk Tryd.prog f = true) (hb : bodyOf Tryd.prog f = b) (har : arity Tryd.prog f = n) (hl : Nat.ble xs.length n = true)
    (h : WC Tryd.prog pr0 b (initS xs obs) (endQ Tryd.prog f obs.length an)) : Gives Tryd.prog pr0 f xs obs an :=
  Gives.of_body hp hok (by rw [har]; exact Nat.le_of_ble_eq_true hl) (by rw [hb]; exact h)
end Go.Proofs.YtcmgabicladmlaaDoor
namespace Go.Proofs.YtcmgabicladmlaaDoor
open Go Go.Pe Go.Tab Go.RowKit

def tabName : String := "internal/strconv.uint64pow10"
/-- What is given of the table, and of the one cell that is read. -/
def GT : GP where
  holds w := Lib.TabIs Tryd.prog w tabName .u64 Lib.pow10Tab ∧ (∃ m, w.cell? ⟨0, 0, none⟩ = some (.int .i64 m)) ∧ (∃ ev, w.cell? ⟨1, 0, none⟩ = some ev ∧ (ev = .nilIface ∨ ∃ te pe, ev = .iface te pe)) ∧ ∃ ev, w.cell? ⟨2, 0, none⟩ = some ev ∧ (ev = .nilIface ∨ ∃ te pe, ev = .iface te pe)
  blk b := Tryd.prog.globalNamed tabName = some b ∨ b = 0 ∨ b = 1 ∨ b = 2
  keep w w' h hk := by
    obtain ⟨h, ⟨m, hm⟩, ⟨e1, he1, h1⟩, e2, he2, h2⟩ := h
    refine ⟨?_, ⟨m, (World.cell?_of_block (a := ⟨0, 0, none⟩) (hk 0 (.inr (.inl rfl)))).trans hm⟩, ⟨e1, (World.cell?_of_block (a := ⟨1, 0, none⟩) (hk 1 (.inr (.inr (.inl rfl))))).trans he1, h1⟩, e2, (World.cell?_of_block (a := ⟨2, 0, none⟩) (hk 2 (.inr (.inr (.inr rfl))))).trans he2, h2⟩
    unfold Lib.TabIs World.var? at h ⊢
    cases hg : Tryd.prog.globalNamed tabName with
    | none => rw [hg] at h; cases h
    | some g =>
      rw [hg] at h
      simp only [Option.bind_some] at h ⊢
      rw [hk g (.inl hg)]
      exact h
theorem GTlt {W : World} (h : GT.holds W) {c : Nat} (hc : GT.blk c) : c < W.heap.size := by
  obtain ⟨h1, ⟨m, h2⟩, ⟨e1, h3, _⟩, e2, h4, _⟩ := h
  rcases hc with hc | rfl | rfl | rfl
  · unfold Lib.TabIs World.var? at h1
    rw [hc] at h1
    simp only [Option.bind_some] at h1
    rcases Nat.lt_or_ge c W.heap.size with h3 | h3
    · exact h3
    · rw [Array.getElem?_eq_none h3] at h1
      cases h1
  · exact World.block_lt_of_cell? (a := ⟨0, 0, none⟩) W h2
  · exact World.block_lt_of_cell? (a := ⟨1, 0, none⟩) W h3
  · exact World.block_lt_of_cell? (a := ⟨2, 0, none⟩) W h4
theorem GTgrow {w w' : World} (h : GT.holds w) (hB : Below w.heap.size w w') : GT.holds w' := GT.keep w w' h fun b hb => hB.block b (GTlt h hb)

theorem itoa_sound (xs : List X) (obs : List Ob) (an : An) (h : itoaP xs obs = some an) : Sound Tryd.prog GT 36 xs obs an := by
  unfold itoaP at h
  split at h
  · rename_i n
    split at h
    · rename_i hn
      simp only [Option.some.injEq] at h
      subst h
      simp only [small64, decide_eq_true_eq] at hn
      intro fn hf k ow w vs hp hold hcl hvs
      simp only [RepXs, RepX, Rep] at hvs
      obtain ⟨v, r, rfl, ⟨rfl, _⟩, rfl⟩ := hvs
      refine (Tryd.strconv_Itoa n hn.1 hn.2 w hp.table.1).mono ?_
      rintro e w' ⟨rfl, kk, os, rfl⟩
      exact ⟨k, ow, [_], rfl, hp.grow (Lib.below_grow _ _ (Nat.le_refl _) _ _), Mem.le_refl _, Nat.le_refl _, fun _ _ => rfl, hold, hcl, _, _, rfl, ⟨rfl, rfl⟩, rfl⟩
    · cases h
  · cases h
theorem ra_sound (xs : List X) (obs : List Ob) (an : An) (h : raP xs obs = some an) : Sound Tryd.prog GT 41 xs obs an := by
  unfold raP at h
  split at h
  · rename_i s a b
    split at h
    · rename_i hc
      simp only [Option.some.injEq] at h
      subst h
      intro fn hf k ow w vs hp hold hcl hvs
      simp only [RepXs, RepX, Rep] at hvs
      obtain ⟨v, r, rfl, ⟨rfl, _⟩, v2, r2, rfl, ⟨rfl, _⟩, v3, r3, rfl, ⟨rfl, _⟩, rfl⟩ := hvs
      obtain ⟨m, hm⟩ := hp.table.2.1
      refine (Tryd.strings_ReplaceAll s a b m w hc.1 hm hc.2.1 hc.2.2).mono ?_
      rintro e w' ⟨rfl, hB⟩
      exact ⟨k, ow, [_], rfl, hp.grow hB, Mem.le_refl _, Nat.le_refl _, fun _ _ => rfl, hold, hcl, _, _, rfl, ⟨rfl, rfl⟩, rfl⟩
    · cases h
  · cases h
theorem cut_sound (xs : List X) (obs : List Ob) (an : An) (h : cutP xs obs = some an) : Sound Tryd.prog GT 18 xs obs an := by
  unfold cutP at h
  split at h
  · rename_i s a
    split at h
    · rename_i hc
      simp only [Option.some.injEq] at h
      subst h
      intro fn hf k ow w vs hp hold hcl hvs
      simp only [RepXs, RepX, Rep] at hvs
      obtain ⟨v, r, rfl, ⟨rfl, _⟩, v2, r2, rfl, ⟨rfl, _⟩, rfl⟩ := hvs
      obtain ⟨m, hm⟩ := hp.table.2.1
      refine (Tryd.strings_Cut s a m w hc hm).mono ?_
      rintro e w' ⟨rfl, n, rfl⟩
      exact ⟨k, ow, [_, _, _], rfl, hp.grow ⟨rfl, rfl, rfl, Nat.le_refl _, fun _ _ => rfl⟩, Mem.le_refl _, Nat.le_refl _, fun _ _ => rfl, hold, hcl, _, _, rfl, ⟨rfl, rfl⟩, _, _, rfl, ⟨rfl, rfl⟩, _, _, rfl, ⟨rfl, rfl⟩, rfl⟩
    · cases h
  · cases h
theorem cont_sound (xs : List X) (obs : List Ob) (an : An) (h : contP xs obs = some an) : Sound Tryd.prog GT 27 xs obs an := by
  unfold contP at h
  split at h
  · rename_i s a
    split at h
    · rename_i hc
      simp only [Option.some.injEq] at h
      subst h
      intro fn hf k ow w vs hp hold hcl hvs
      simp only [RepXs, RepX, Rep] at hvs
      obtain ⟨v, r, rfl, ⟨rfl, _⟩, v2, r2, rfl, ⟨rfl, _⟩, rfl⟩ := hvs
      obtain ⟨m, hm⟩ := hp.table.2.1
      refine (Tryd.strings_Contains s a m w hc hm).mono ?_
      rintro e w' ⟨rfl, rfl⟩
      exact ⟨k, ow, [_], rfl, hp, Mem.le_refl _, Nat.le_refl _, fun _ _ => rfl, hold, hcl, _, _, rfl, ⟨rfl, rfl⟩, rfl⟩
    · cases h
  · cases h
theorem strs_rep {m : Mem} : ∀ (l : List ByteArray) (vs : List Value), RepL m (strsC l) vs → vs = l.map Value.string
  | [], vs, h => by simpa [strsC, RepL] using h
  | s :: l, vs, h => by
    simp only [strsC, List.map_cons, RepL, Rep] at h
    obtain ⟨v, r, rfl, ⟨rfl, _⟩, h⟩ := h
    rw [strs_rep l r h]
    rfl
theorem join_sound (xs : List X) (obs : List Ob) (an : An) (h : joinP xs obs = some an) : Sound Tryd.prog GT 23 xs obs an := by
  unfold joinP at h
  split at h
  · rename_i cs n sep
    simp only [Option.bind_eq_some_iff] at h
    obtain ⟨l, hl, h⟩ := h
    split at h
    · rename_i hc
      simp only [Option.some.injEq] at h
      subst h
      obtain ⟨rfl, hc1, hc2⟩ := hc
      rw [unstrs_eq _ _ hl]
      intro fn hf k ow w vs hp hold hcl hvs
      simp only [RepXs, RepX, Rep] at hvs
      obtain ⟨v, r, rfl, ⟨a, cap, us, rfl, hcap, hus, hmem⟩, v2, r2, rfl, ⟨rfl, _⟩, rfl⟩ := hvs
      have hus' := strs_rep l us hus
      subst hus'
      have key : Calls Tryd.prog 23 #[.slice a l.length cap, .string sep] w fun e w' => e = .returned (.string ⟨(Lib.join (l.map (·.data.toList)) sep.data.toList).toArray⟩) ∧ Below w.heap.size w w' := by
        by_cases hne : l = []
        · subst hne
          refine (Tryd.strings_Join_none a cap sep w).mono ?_
          rintro e w' ⟨rfl, rfl⟩
          exact ⟨rfl, Below.refl _ _⟩
        · obtain ⟨b, o, rfl, hcell⟩ := hmem (by simpa using hne)
          have hat : ∀ (j : Nat) x, l[j]? = some x → w.cell? ⟨b, o + j, none⟩ = some (.string x) := fun j x hj => (hp.mem _ _ _ (hcell j _ (by simp [hj]))).1
          have hb : b < w.heap.size := by
            cases l with
            | nil => exact absurd rfl hne
            | cons x r =>
              have := hat 0 x rfl
              unfold World.cell? at this
              split at this
              · rename_i hb; exact (Array.getElem?_eq_some_iff.1 hb).1
              · cases this
          exact Tryd.strings_Join b o cap l sep w hat hb hc1 hcap hc2
      refine key.mono ?_
      rintro e w' ⟨rfl, hB⟩
      exact ⟨k, ow, [_], rfl, hp.grow hB, Mem.le_refl _, Nat.le_refl _, fun _ _ => rfl, hold, hcl, _, _, rfl, ⟨rfl, rfl⟩, rfl⟩
    · cases h
  · cases h
theorem pr0_sound : PrSound Tryd.prog GT pr0 where
  prim f xs obs an h := by
    replace h : prims0 f xs obs = some an := h
    unfold prims0 at h
    split at h
    · rename_i e; subst e; exact itoa_sound xs obs an h
    split at h
    · rename_i e; subst e; exact ra_sound xs obs an h
    split at h
    · rename_i e; subst e; exact join_sound xs obs an h
    split at h
    · rename_i e; subst e; exact cut_sound xs obs an h
    split at h
    · rename_i e; subst e; exact cont_sound xs obs an h
    · cases h
theorem plain_gives {p : Pr} (hpr : PrSound Tryd.prog GT p) {f : Nat} {xs : List X} {u : Value} (h : Gives Tryd.prog p f xs [] ⟨false, [.of (.lit u)], []⟩) {fn : Func} (hfn : Tryd.prog.funcs[f]? = some fn) {W : World} (hT : GT.holds W) {m : Mem}
    (hm : ∀ b o v, m b o = some v → W.cell? ⟨b, o, none⟩ = some v ∧ v.oneCell' = true) {vs : List Value} (hvs : RepXs ⟨m, fun _ => none⟩ (fun _ => none) xs vs) :
    Calls Tryd.prog f vs.toArray W fun e W' => e = .returned u ∧ Below W.heap.size W W' := by
  have hG : ¬ ∃ c, Given ⟨m, fun _ => none⟩ (fun _ => none) c := by
    rintro ⟨c, ⟨r, hr⟩ | ⟨t, v, e, z, n, ht, _⟩⟩
    · cases hr
    · cases ht
  have hp : Hp ⟨GT, m, Given ⟨m, fun _ => none⟩ (fun _ => none)⟩ ⟨m, fun _ => none⟩ (fun _ => none) W W [] := {
    good := ⟨hT, fun c hc => ⟨GTlt hT hc, fun hm => hG ⟨c, hm⟩⟩⟩
    below := Keeps.refl _ _
    mem := hm
    obj := fun r ob hr => by simp at hr
    dom := fun r c hr => by cases hr
    inj := fun r r' c hr => by cases hr
    tok := fun t v e z n ht => by cases ht
    tokne := fun t t' v e z n v' e' z' n' ht => by cases ht
    m0 := fun c o v hv _ _ => hv }
  refine (h.sound mixed hpr fn hfn ⟨m, fun _ => none⟩ (fun _ => none) W vs hp (fun t p ht => by cases ht) (fun r off p ht => by cases ht) hvs).mono ?_
  rintro e W' ⟨k', ow', us, he, hp', _, _, _, _, _, hus⟩
  simp only [RepXs, RepX, Rep] at hus
  obtain ⟨v, r, rfl, ⟨rfl, _⟩, rfl⟩ := hus
  refine ⟨he, ?_⟩
  have hb := hp'.below
  exact ⟨hb.os, hb.tape, hb.output, hb.size, fun c hc => hb.block c hc fun hm => hG ⟨c, hm⟩⟩
end Go.Proofs.YtcmgabicladmlaaDoor

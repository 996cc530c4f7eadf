/-
  Chapter 30, small things: rows of data, joined texts, the two maps of words. Conditions: none.
-/
import Derived.Test.YtfndkemgjhajnaaDoorPc6
import Derived.Lib.ItoaNum
import Derived.Lib.Replace
import Derived.Lib.DecodeN
import Derived.Shelf.GgClosure.StringsIndexFunc
import Derived.Lib.Join
import Derived.Lib.RepeatB
import Derived.Lib.AppendIntMem
import Derived.Lib.AppendStr
import Derived.Test.YtfndkemgjhajnaaDoorRows
import Derived.Deep.Slices
import Derived.Carry
import Derived.ReadAgain
namespace Go.Tab

/-- What an order is. -/
structure IsOrd {α : Type} (f : α → α → Int) : Prop where
  sgn : ∀ a b, f a b = -1 ∨ f a b = 0 ∨ f a b = 1
  zero : ∀ a b, f a b = 0 ↔ a = b
  anti : ∀ a b, f a b = - f b a
  tr : ∀ a b c, f a b ≤ 0 → f b c ≤ 0 → f a c ≤ 0

/-- A value: kind, number, text. -/
structure V where
  k : Int
  n : Int
  s : ByteArray
  deriving DecidableEq

def V.t (v : V) : List UInt8 := v.s.data.toList
theorem toList_inj {a b : ByteArray} : a.data.toList = b.data.toList ↔ a = b := by
  constructor
  · intro h
    cases a with
    | mk x => cases b with
      | mk y => simp at h; rw [h]
  · rintro rfl; rfl

end Go.Tab
namespace Go.Tab

/-- A text with its quotes doubled. -/
def quoteL : List UInt8 → List UInt8
  | [] => []
  | b :: r => if b = 39 then 39 :: 39 :: quoteL r else b :: quoteL r
theorem quoteL_len : ∀ l : List UInt8, (quoteL l).length ≤ 2 * l.length
  | [] => Nat.le_refl _
  | b :: l => by
    have := quoteL_len l
    unfold quoteL
    split <;> simp only [List.length_cons] <;> omega
theorem replaceK_quote : ∀ (s : List UInt8) (k : Nat), s.count 39 ≤ k → Lib.replaceK [39] [39, 39] k s = quoteL s
  | [], 0, _ => rfl
  | [], k + 1, _ => by simp [Lib.replaceK, Lib.index, quoteL]
  | b :: l, k, h => by
    by_cases hb : b = 39
    · subst hb
      rw [List.count_cons_self] at h
      obtain ⟨k, rfl⟩ : ∃ q, k = q + 1 := ⟨k - 1, by omega⟩
      have ih := replaceK_quote l k (by omega)
      have hi : Lib.index (39 :: l) [39] = 0 := by simp [Lib.index]
      rw [Lib.replaceK_hit [39] [39, 39] k (39 :: l) 0 (by simpa using hi)]
      simp only [List.take_zero, List.nil_append, List.length_cons, List.length_nil, Nat.zero_add, List.drop_succ_cons, List.drop_zero, ih, quoteL, if_true]
      rfl
    · rw [List.count_cons_of_ne (fun e => hb e)] at h
      have e1 : quoteL (b :: l) = b :: quoteL l := by simp [quoteL, hb]
      rw [e1]
      cases k with
      | zero =>
        have ih := replaceK_quote l 0 h
        simp only [Lib.replaceK] at ih ⊢
        rw [← ih]
      | succ k =>
        have ih := replaceK_quote l (k + 1) h
        rw [← ih]
        have hp : ¬ ([39] : List UInt8).isPrefixOf (b :: l) = true := by simp; exact fun e => hb e.symm
        have hi : Lib.index (b :: l) [39] = if Lib.index l [39] == -1 then -1 else Lib.index l [39] + 1 := by rw [Lib.index, if_neg hp]
        have hge := Lib.index_ge l [39]
        by_cases hm : Lib.index l [39] = -1
        · simp [Lib.replaceK, hi, hm]
        · obtain ⟨i, hi2⟩ : ∃ i : Nat, Lib.index l [39] = i := ⟨(Lib.index l [39]).toNat, by omega⟩
          have hi3 : Lib.index (b :: l) [39] = ((i + 1 : Nat) : Int) := by rw [hi, if_neg (by simpa using hm), hi2]; rfl
          rw [Lib.replaceK_hit _ _ k _ _ hi2, Lib.replaceK_hit _ _ k _ _ hi3]
          simp only [List.take_succ_cons, List.cons_append, List.length_cons, List.length_nil, Nat.zero_add, List.drop_succ_cons]
theorem replaceAll_quote (s : List UInt8) : Lib.replaceAll s [39] [39, 39] = quoteL s := by
  unfold Lib.replaceAll Lib.replace
  rw [if_neg (by decide)]
  refine replaceK_quote s _ ?_
  unfold Lib.replaceNum
  rw [if_pos (.inl (by decide)), Lib.count_one]
  exact Nat.le_refl _

def nullS : ByteArray := ⟨#[110, 117, 108, 108]⟩
def trueS : ByteArray := ⟨#[116, 114, 117, 101]⟩
def falseS : ByteArray := ⟨#[102, 97, 108, 115, 101]⟩
def strL (l : List UInt8) : ByteArray := ⟨l.toArray⟩
theorem strL_inj {a b : List UInt8} (h : strL a = strL b) : a = b := by
  have := congrArg (fun s : ByteArray => s.data.toList) h
  simpa [strL] using this
def textS (v : V) : ByteArray := if v.k = 1 then (if v.n = 0 then falseS else trueS) else if v.k = 2 then strL (Lib.itoa v.n) else if v.k = 3 then strL (39 :: quoteL v.t ++ [39]) else nullS
end Go.Tab
namespace Go.Tab
open Go Go.Pe

structure Cl where
  tb : List UInt8
  nm : List UInt8
  ty : Int
  deriving DecidableEq
inductive Tm where
  | mk (op : Int) (v : V) (dep at' : Int) (nm : List UInt8) (kids : List Tm) (sub : C) (ty : Int)
inductive Pn where
  | mk (op : Int) (tb ix : List UInt8) (cols : List Cl) (kids : List Pn) (terms lk rk : List Tm) (r : Nat → C) (est cost : Int)

def textL (v : V) : List UInt8 := (textS v).data.toList
theorem strL_textL (v : V) : strL (textL v) = textS v := by simp [strL, textL]

/-- A column's text. -/
def colL (cols : List Cl) (d a : Int) : List UInt8 :=
  if d ≠ 0 ∨ a < 0 ∨ (cols.length : Int) ≤ a then [36] ++ Lib.itoa d ++ [46] ++ Lib.itoa a
  else match cols[a.toNat]? with
    | some c => if c.tb = [] then c.nm else c.tb ++ [46] ++ c.nm
    | none => []
def signT : List (Int × List UInt8) := [(5, [43]), (6, [45]), (7, [42]), (8, [47]), (9, [37]), (10, [124, 124]), (11, [61]), (12, [60, 62]), (13, [60]), (14, [60, 61]), (15, [62]), (16, [62, 61]), (17, [97, 110, 100]), (18, [111, 114]), (20, [108, 105, 107, 101])]
def lookT : List (Int × List UInt8) → Int → Option (List UInt8)
  | [], _ => none
  | p :: l, n => if p.1 = n then some p.2 else lookT l n
def wordT : List (Int × List UInt8) := [(1, [115, 99, 97, 110]), (2, [115, 101, 101, 107]), (3, [114, 111, 119, 115]), (4, [102, 105, 108, 116, 101, 114]), (5, [112, 114, 111, 106, 101, 99, 116]), (6, [110, 101, 115, 116]), (7, [104, 97, 115, 104]), (8, [109, 101, 114, 103, 101]), (9, [108, 101, 102, 116]), (10, [104, 97, 115, 104, 108, 101, 102, 116]), (11, [103, 114, 111, 117, 112]), (12, [100, 105, 115, 116, 105, 110, 99, 116]), (13, [117, 110, 105, 111, 110]), (14, [105, 110, 116, 101, 114]), (15, [101, 120, 99, 101, 112, 116]), (16, [115, 111, 114, 116]), (17, [108, 105, 109, 105, 116]), (18, [112, 105, 99, 107])]
def caseF : List UInt8 → List (List UInt8) → List UInt8
  | o, a :: b :: r => caseF (o ++ [32, 119, 104, 101, 110, 32] ++ a ++ [32, 116, 104, 101, 110, 32] ++ b) r
  | o, [a] => o ++ [32, 101, 108, 115, 101, 32] ++ a ++ [32, 101, 110, 100, 41]
  | o, [] => o ++ [32, 101, 110, 100, 41]
/-- A term's text, by its kids' texts. -/
def opText (cols : List Cl) (op : Int) (v : V) (d a : Int) (nm : List UInt8) (ks : List (List UInt8)) : List UInt8 :=
  if op = 1 then textL v
  else if op = 2 then colL cols d a
  else if op = 24 then nm ++ [40] ++ Lib.join ks [44, 32] ++ [41]
  else if op = 26 then [40, 113, 117, 101, 114, 121, 41]
  else if op = 27 then [40, 101, 120, 105, 115, 116, 115, 32, 113, 117, 101, 114, 121, 41]
  else match ks with
    | [] => [63]
    | [x] => if op = 3 then [40, 45, 32] ++ x ++ [41] else if op = 4 then [40, 110, 111, 116, 32] ++ x ++ [41] else if op = 19 then [40] ++ x ++ [32, 105, 115, 32, 110, 117, 108, 108, 41] else if op = 28 then [40] ++ x ++ [32, 105, 110, 32, 113, 117, 101, 114, 121, 41] else [63]
    | [x, y] => match lookT signT op with
      | some s => [40] ++ x ++ [32] ++ s ++ [32] ++ y ++ [41]
      | none => if op = 21 then [40] ++ x ++ [32, 105, 110, 32, 40] ++ Lib.join [y] [44, 32] ++ [41, 41] else if op = 23 then caseF [40, 99, 97, 115, 101] [x, y] else [63]
    | x :: y :: z :: r =>
      if op = 21 then [40] ++ x ++ [32, 105, 110, 32, 40] ++ Lib.join (y :: z :: r) [44, 32] ++ [41, 41]
      else if op = 23 then caseF [40, 99, 97, 115, 101] (x :: y :: z :: r)
      else if op = 22 ∧ r = [] then [40] ++ x ++ [32, 98, 101, 116, 119, 101, 101, 110, 32] ++ y ++ [32, 97, 110, 100, 32] ++ z ++ [41]
      else [63]
mutual
def textF (cols : List Cl) : Tm → List UInt8
  | .mk op v d a nm ks _ _ => opText cols op v d a nm (textsF cols ks)
def textsF (cols : List Cl) : List Tm → List (List UInt8)
  | [] => []
  | t :: r => textF cols t :: textsF cols r
end
theorem textsF_map (cols : List Cl) : ∀ l : List Tm, textsF cols l = l.map (textF cols)
  | [] => rfl
  | t :: r => by rw [textsF, List.map_cons, textsF_map cols r]

def Pn.op : Pn → Int | .mk op .. => op
def Pn.cols : Pn → List Cl | .mk _ _ _ cols .. => cols
def Pn.kids : Pn → List Pn | .mk _ _ _ _ kids .. => kids
def innerC : Pn → List Cl
  | .mk _ _ _ cols kids .. => if kids = [] then cols else (kids.map Pn.cols).flatten
def kidC (kids : List Pn) (i : Nat) : List Cl := match kids[i]? with
  | some k => k.cols
  | none => []
def keysL (kids : List Pn) (lk rk : List Tm) : List UInt8 := Lib.join (List.zipWith (fun l r => textF (kidC kids 0) l ++ [32, 61, 32] ++ textF (kidC kids 1) r) lk rk) [44, 32]
def wordL (op : Int) : List UInt8 := (lookT wordT op).getD [112, 108, 97, 110]
def termsL (p : Pn) (terms : List Tm) : List UInt8 := [91] ++ Lib.join (textsF (innerC p) terms) [59, 32] ++ [93]
/-- A node's line, without its blanks. -/
def lineL (p : Pn) (rows : List UInt8) : List UInt8 := match p with
  | .mk op tb ix cols kids terms lk rk r est cost =>
    let l1 := wordL op
    let l2 := if tb = [] then l1 else l1 ++ [32] ++ tb
    let l3 := if op = 2 then l2 ++ [32, 98, 121, 32] ++ ix else l2
    let l4 := if lk ≠ [] ∧ rk ≠ [] then l3 ++ [32, 111, 110, 32] ++ keysL kids lk rk else l3
    let l5 := if terms = [] then l4 else l4 ++ [32] ++ termsL (.mk op tb ix cols kids terms lk rk r est cost) terms
    l5 ++ [32, 101, 115, 116, 32] ++ Lib.itoa est ++ [32, 99, 111, 115, 116, 32] ++ Lib.itoa cost ++ [32, 114, 111, 119, 115, 32] ++ rows
def rowsL (counts : List Int) (i : Nat) : List UInt8 := match counts[i]? with
  | some n => Lib.itoa n
  | none => [45]
mutual
def nodesN : Pn → Nat
  | .mk _ _ _ _ kids .. => nodesNs kids + 1
def nodesNs : List Pn → Nat
  | [] => 0
  | p :: r => nodesN p + nodesNs r
end
def blanks (n : Nat) : List UInt8 := (List.replicate n [32, 32]).flatten
mutual
/-- A plan's lines, so deep, from a place on. -/
def underF (counts : List Int) (deep i : Nat) : Pn → List (List UInt8)
  | .mk op tb ix cols kids terms lk rk r est cost => (blanks deep ++ lineL (.mk op tb ix cols kids terms lk rk r est cost) (rowsL counts i)) :: undersF counts (deep + 1) (i + 1) kids
def undersF (counts : List Int) (deep i : Nat) : List Pn → List (List UInt8)
  | [] => []
  | p :: r => underF counts deep i p ++ undersF counts deep (i + nodesN p) r
end
mutual
theorem underF_len (counts : List Int) : ∀ (p : Pn) (deep i : Nat), (underF counts deep i p).length = nodesN p
  | .mk op tb ix cols kids terms lk rk r est cost, deep, i => by rw [underF, List.length_cons, undersF_len counts kids, nodesN]
theorem undersF_len (counts : List Int) : ∀ (l : List Pn) (deep i : Nat), (undersF counts deep i l).length = nodesNs l
  | [], _, _ => rfl
  | p :: r, deep, i => by rw [undersF, List.length_append, underF_len counts p, undersF_len counts r, nodesNs]
end
theorem undersF_snoc (counts : List Int) (deep : Nat) (p : Pn) : ∀ (l : List Pn) (i : Nat), undersF counts deep i (l ++ [p]) = undersF counts deep i l ++ underF counts deep (i + nodesNs l) p
  | [], i => by simp [undersF, nodesNs]
  | q :: l, i => by
    simp only [List.cons_append, undersF, undersF_snoc counts deep p l, nodesNs, List.append_assoc]
    rw [Nat.add_assoc]
theorem nodesNs_snoc (p : Pn) : ∀ l : List Pn, nodesNs (l ++ [p]) = nodesNs l + nodesN p
  | [] => by simp [nodesNs]
  | q :: l => by simp only [List.cons_append, nodesNs, nodesNs_snoc p l]; omega

mutual
def Tm.wt : Tm → Nat
  | .mk _ v _ _ nm ks _ _ => v.s.size + nm.length + Tm.wts ks + 10
def Tm.wts : List Tm → Nat
  | [] => 0
  | t :: r => t.wt + Tm.wts r
end
def Cl.wt (c : Cl) : Nat := c.tb.length + c.nm.length + 3
def ClsOk (cols : List Cl) : Prop := ∀ c ∈ cols, c.wt ≤ 1048576
theorem itoa_short (n : Int) (h1 : -9223372036854775808 ≤ n) (h2 : n ≤ 9223372036854775807) : (Lib.itoa n).length ≤ 20 := by
  have hd : ∀ u : Nat, u < 10000000000000000000 → (Lib.decDigits u).length ≤ 19 := fun u hu => by
    rw [Lib.decDigits_length]
    have : ∀ k u : Nat, u < 10 ^ (k + 1) → Lib.nDigits u ≤ k + 1 := by
      intro k
      induction k with
      | zero => intro u hu; unfold Lib.nDigits; simp at hu; simp [hu]
      | succ k ih =>
        intro u hu
        unfold Lib.nDigits
        split
        · omega
        · have := ih (u / 10) (by rw [Nat.pow_succ] at hu; omega)
          omega
    exact this 18 u (by simpa using hu)
  unfold Lib.itoa
  split
  · have := hd n.natAbs (by omega)
    simp only [List.length_cons]
    omega
  · have := hd n.toNat (by omega)
    omega
def I64 (n : Int) : Prop := -9223372036854775808 ≤ n ∧ n ≤ 9223372036854775807
mutual
def TmOk : Tm → Prop
  | .mk op v d a nm ks _ ty => I64 op ∧ I64 v.k ∧ I64 v.n ∧ v.s.size ≤ 1048576 ∧ I64 d ∧ I64 a ∧ nm.length ≤ 1048576 ∧ ks.length ≤ 1048576 ∧ TmsOk ks
def TmsOk : List Tm → Prop
  | [] => True
  | t :: r => TmOk t ∧ TmsOk r
end
theorem TmsOk_iff : ∀ l : List Tm, TmsOk l ↔ ∀ t ∈ l, TmOk t
  | [] => by simp [TmsOk]
  | t :: r => by simp [TmsOk, TmsOk_iff r]
theorem textL_len (v : V) (h : I64 v.n) : (textL v).length ≤ 2 * v.s.size + 20 := by
  have e : (textL v).length = (textS v).size := by simp [textL]
  rw [e]
  unfold textS
  have hs : ∀ l : List UInt8, (strL l).size = l.length := fun l => by simp [strL, ByteArray.size]
  split
  · split
    · exact Nat.le_trans (show falseS.size ≤ 20 by decide) (Nat.le_add_left ..)
    · exact Nat.le_trans (show trueS.size ≤ 20 by decide) (Nat.le_add_left ..)
  · split
    · rw [hs]
      have := itoa_short v.n h.1 h.2
      omega
    · split
      · rw [hs]
        have := quoteL_len v.t
        have e2 : v.t.length = v.s.size := by simp [V.t]
        simp only [List.length_append, List.length_cons, List.length_nil]
        omega
      · exact Nat.le_trans (show nullS.size ≤ 20 by decide) (Nat.le_add_left ..)
theorem colL_len (cols : List Cl) (d a : Int) (hc : ClsOk cols) (hd : I64 d) (ha : I64 a) : (colL cols d a).length ≤ 1048576 := by
  have h1 := itoa_short d hd.1 hd.2
  have h2 := itoa_short a ha.1 ha.2
  unfold colL
  split
  · simp only [List.length_append, List.length_cons, List.length_nil]
    omega
  · split
    · rename_i c hcc
      have h3 := hc c (List.mem_of_getElem? hcc)
      unfold Cl.wt at h3
      split
      · omega
      · simp only [List.length_append, List.length_cons, List.length_nil]
        omega
    · simp
theorem caseF_len : ∀ (o : List UInt8) (ks : List (List UInt8)), (caseF o ks).length ≤ o.length + Lib.lens ks + 13 * ks.length + 5
  | o, a :: b :: r => by
    have h := caseF_len (o ++ [32, 119, 104, 101, 110, 32] ++ a ++ [32, 116, 104, 101, 110, 32] ++ b) r
    simp only [caseF, Lib.lens, List.map_cons, List.sum_cons, List.length_cons, List.length_append, List.length_nil] at h ⊢
    omega
  | o, [a] => by simp [caseF, Lib.lens]; omega
  | o, [] => by simp [caseF, Lib.lens]
theorem look_mem {op : Int} {s : List UInt8} : ∀ {l : List (Int × List UInt8)}, lookT l op = some s → (op, s) ∈ l
  | [], h => by cases h
  | p :: l, h => by
    unfold lookT at h
    split at h
    · rename_i e
      cases h
      rw [← e]
      exact List.mem_cons_self ..
    · exact List.mem_cons_of_mem _ (look_mem h)
theorem sign_len {op : Int} {s : List UInt8} (h : lookT signT op = some s) : s.length ≤ 4 :=
  (show ∀ p ∈ signT, p.2.length ≤ 4 by decide) _ (look_mem h)
theorem join_len (l : List (List UInt8)) : (Lib.join l [44, 32]).length ≤ Lib.lens l + 2 * l.length := by
  cases l with
  | nil => simp [Lib.join_nil]
  | cons x r =>
    rw [Lib.join_length]
    simp only [List.length_cons, List.length_nil]
    omega
theorem opText_len (cols : List Cl) (op : Int) (v : V) (d a : Int) (nm : List UInt8) (ks : List (List UInt8)) (hc : ClsOk cols) (hv : I64 v.n) (hd : I64 d) (ha : I64 a) :
    (opText cols op v d a nm ks).length ≤ 2 * v.s.size + nm.length + 1048640 + Lib.lens ks + 16 * ks.length := by
  have h1 := textL_len v hv
  have h2 := colL_len cols d a hc hd ha
  have h3 := join_len ks
  unfold opText
  split
  · omega
  · split
    · omega
    · split
      · simp only [List.length_append, List.length_cons, List.length_nil]
        omega
      · split
        · simp only [List.length_cons, List.length_nil]; omega
        · split
          · simp only [List.length_cons, List.length_nil]; omega
          · split
            · simp only [List.length_cons, List.length_nil]; omega
            · simp only [Lib.lens, List.map_cons, List.map_nil, List.sum_cons, List.sum_nil, List.length_cons, List.length_nil]
              repeat' split
              all_goals (try simp only [List.length_append, List.length_cons, List.length_nil])
              all_goals omega
            · rename_i x y
              have h5 := caseF_len [40, 99, 97, 115, 101] [x, y]
              have h6 := join_len [y]
              simp only [Lib.lens, List.map_cons, List.map_nil, List.sum_cons, List.sum_nil, List.length_cons, List.length_nil] at h5 h6 ⊢
              split
              · rename_i s hs
                have := sign_len hs
                simp only [List.length_append, List.length_cons, List.length_nil]
                omega
              · repeat' split
                all_goals (try simp only [List.length_append, List.length_cons, List.length_nil])
                all_goals omega
            · rename_i x y z r
              have h5 := caseF_len [40, 99, 97, 115, 101] (x :: y :: z :: r)
              have h6 := join_len (y :: z :: r)
              simp only [Lib.lens, List.map_cons, List.map_nil, List.sum_cons, List.sum_nil, List.length_cons, List.length_nil] at h5 h6 ⊢
              repeat' split
              all_goals (try simp only [List.length_append, List.length_cons, List.length_nil])
              all_goals omega
mutual
theorem textF_len (cols : List Cl) (hc : ClsOk cols) : ∀ t : Tm, TmOk t → (textF cols t).length + 16 ≤ 4194304 * t.wt
  | .mk op v d a nm ks s ty, h => by
    simp only [TmOk] at h
    obtain ⟨_, _, hn, _, hd, ha, _, _, hk⟩ := h
    have h1 := opText_len cols op v d a nm (textsF cols ks) hc hn hd ha
    have h2 := textsF_len cols hc ks hk
    simp only [textF, Tm.wt]
    omega
theorem textsF_len (cols : List Cl) (hc : ClsOk cols) : ∀ l : List Tm, TmsOk l → Lib.lens (textsF cols l) + 16 * (textsF cols l).length ≤ 4194304 * Tm.wts l
  | [], _ => by simp [textsF, Lib.lens, Tm.wts]
  | t :: r, h => by
    simp only [TmsOk] at h
    have h1 := textF_len cols hc t h.1
    have h2 := textsF_len cols hc r h.2
    simp only [textsF, Lib.lens, Tm.wts, List.map_cons, List.sum_cons, List.length_cons] at h2 ⊢
    omega
end
end Go.Tab
namespace Go.Proofs.YtfndkemgjhajnaaDoor
open Go Go.Pe Go.Tab

def str (l : List UInt8) : ByteArray := ⟨l.toArray⟩
def small64 (n : Int) : Bool := decide (-9223372036854775808 ≤ n ∧ n ≤ 9223372036854775807)

def itoaP (xs : List X) (obs : List Ob) : Option An := match xs, obs with
  | [.of (.lit (.int .i64 n))], [] => if small64 n then some ⟨false, [xstr (str (Lib.itoa n))], []⟩ else none
  | _, _ => none
def raP (xs : List X) (obs : List Ob) : Option An := match xs, obs with
  | [.of (.lit (.string s)), .of (.lit (.string a)), .of (.lit (.string b))], [] =>
    if s.size < 4294967281 ∧ 1 ≤ a.size ∧ s.size + Lib.countB s a * b.size ≤ 140737488355328 then some ⟨false, [xstr (str (Lib.replaceAll s.data.toList a.data.toList b.data.toList))], []⟩ else none
  | _, _ => none
/-- Texts, out of data. -/
def unstrs : List C → Option (List ByteArray)
  | [] => some []
  | .lit (.string s) :: r => (unstrs r).map (s :: ·)
  | _ => none
def strsC (l : List ByteArray) : List C := l.map fun s => cstr s
theorem unstrs_at : ∀ l : List ByteArray, unstrs (strsC l) = some l
  | [] => rfl
  | s :: l => by
    have h := unstrs_at l
    unfold strsC at h ⊢
    simp only [List.map_cons, unstrs, h, Option.map_some]
theorem unstrs_eq : ∀ (cs : List C) (l : List ByteArray), unstrs cs = some l → cs = strsC l
  | [], l, h => by simp only [unstrs, Option.some.injEq] at h; subst h; rfl
  | c :: cs, l, h => by
    unfold unstrs at h
    split at h
    · rename_i e; cases e
    · rename_i s r e
      cases e
      simp only [Option.map_eq_some_iff] at h
      obtain ⟨q, hq, rfl⟩ := h
      rw [unstrs_eq _ q hq]
      rfl
    · cases h
def joinP (xs : List X) (obs : List Ob) : Option An := match xs, obs with
  | [.of (.sl cs n), .of (.lit (.string sep))], [] => (unstrs cs).bind fun l =>
    if n = l.length ∧ l.length ≤ 140737488355328 ∧ (Lib.join (l.map (·.data.toList)) sep.data.toList).length ≤ 140737488355328 then some ⟨false, [xstr ⟨(Lib.join (l.map (·.data.toList)) sep.data.toList).toArray⟩], []⟩ else none
  | _, _ => none
def repP (xs : List X) (obs : List Ob) : Option An := match xs, obs with
  | [.of (.lit (.string s)), .of (.lit (.int .i64 n))], [] =>
    if 0 ≤ n ∧ n ≤ 9223372036854775807 ∧ s.size * n.toNat ≤ 140737488355328 then some ⟨false, [xstr ⟨(Lib.repeatL s.data.toList n.toNat).toArray⟩], []⟩ else none
  | _, _ => none
def valC (v : V) : List C := [ci v.k, ci v.n, cstr v.s]
structure VOk (v : V) : Prop where
  k : small64 v.k = true
  n : small64 v.n = true
  s : v.s.size ≤ 1048576
def prims : Orc := fun f xs obs =>
  if f = 35 then itoaP xs obs
  else if f = 46 then raP xs obs
  else if f = 26 then joinP xs obs
  else if f = 41 then repP xs obs
  else none

/-- What is given, in this seat. -/
def pr : Pr := ⟨prims, objF, tkF⟩
theorem pr_obj (f : Nat) : pr.obj f = objF f := rfl
theorem pr_tk (f : Nat) : pr.tk f = tkF f := rfl
abbrev G1 (f : Nat) (xs : List X) (x : X) : Prop := Gives Tryd.prog pr f xs [] ⟨false, [x], []⟩
theorem by_body {f n : Nat} {b : Code} {xs : List X} {obs : List Ob} {an : An} (hp : prims f xs obs = none) (hok : fnOk Tryd.prog f = true) (hb : bodyOf Tryd.prog f = b) (har : arity Tryd.prog f = n) (hl : Nat.ble xs.length n = true)
    (h : WC Tryd.prog pr b (initS xs obs) (endQ Tryd.prog f obs.length an)) : Gives Tryd.prog pr f xs obs an :=
  Gives.of_body hp hok (by rw [har]; exact Nat.le_of_ble_eq_true hl) (by rw [hb]; exact h)
end Go.Proofs.YtfndkemgjhajnaaDoor
namespace Go.Proofs.YtfndkemgjhajnaaDoor
open Go Go.Pe Go.Tab Go.RowKit

def tabName : String := "internal/strconv.uint64pow10"
/-- What is given of the table, and of the one cell that is read. -/
def GT : GP where
  holds w := Lib.TabIs Tryd.prog w tabName .u64 Lib.pow10Tab ∧ ∃ m, w.cell? ⟨0, 0, none⟩ = some (.int .i64 m)
  blk b := Tryd.prog.globalNamed tabName = some b ∨ b = 0
  keep w w' h hk := by
    obtain ⟨h, m, hm⟩ := h
    refine ⟨?_, m, (World.cell?_of_block (a := ⟨0, 0, none⟩) (hk 0 (.inr rfl))).trans hm⟩
    unfold Lib.TabIs World.var? at h ⊢
    cases hg : Tryd.prog.globalNamed tabName with
    | none => rw [hg] at h; cases h
    | some g =>
      rw [hg] at h
      simp only [Option.bind_some] at h ⊢
      rw [hk g (.inl hg)]
      exact h

theorem itoa_sound (xs : List X) (obs : List Ob) (an : An) (h : itoaP xs obs = some an) : Sound Tryd.prog GT 35 xs obs an := by
  unfold itoaP at h
  split at h
  · rename_i n
    split at h
    · rename_i hn
      simp only [Option.some.injEq] at h
      subst h
      simp only [small64, decide_eq_true_eq] at hn
      intro fn hf k ow w vs hp hold hcl hvs
      simp only [RepXs, RepX, Rep] at hvs
      obtain ⟨v, r, rfl, ⟨rfl, _⟩, rfl⟩ := hvs
      refine (Tryd.strconv_Itoa n hn.1 hn.2 w hp.table.1).mono ?_
      rintro e w' ⟨rfl, kk, os, rfl⟩
      exact ⟨k, ow, [_], rfl, hp.grow (Lib.below_grow _ _ (Nat.le_refl _) _ _), Mem.le_refl _, Nat.le_refl _, fun _ _ => rfl, hold, hcl, _, _, rfl, ⟨rfl, rfl⟩, rfl⟩
    · cases h
  · cases h
theorem ra_sound (xs : List X) (obs : List Ob) (an : An) (h : raP xs obs = some an) : Sound Tryd.prog GT 46 xs obs an := by
  unfold raP at h
  split at h
  · rename_i s a b
    split at h
    · rename_i hc
      simp only [Option.some.injEq] at h
      subst h
      intro fn hf k ow w vs hp hold hcl hvs
      simp only [RepXs, RepX, Rep] at hvs
      obtain ⟨v, r, rfl, ⟨rfl, _⟩, v2, r2, rfl, ⟨rfl, _⟩, v3, r3, rfl, ⟨rfl, _⟩, rfl⟩ := hvs
      obtain ⟨m, hm⟩ := hp.table.2
      refine (Tryd.strings_ReplaceAll s a b m w hc.1 hm hc.2.1 hc.2.2).mono ?_
      rintro e w' ⟨rfl, hB⟩
      exact ⟨k, ow, [_], rfl, hp.grow hB, Mem.le_refl _, Nat.le_refl _, fun _ _ => rfl, hold, hcl, _, _, rfl, ⟨rfl, rfl⟩, rfl⟩
    · cases h
  · cases h
theorem rep_sound (xs : List X) (obs : List Ob) (an : An) (h : repP xs obs = some an) : Sound Tryd.prog GT 41 xs obs an := by
  unfold repP at h
  split at h
  · rename_i s n
    split at h
    · rename_i hc
      simp only [Option.some.injEq] at h
      subst h
      intro fn hf k ow w vs hp hold hcl hvs
      simp only [RepXs, RepX, Rep] at hvs
      obtain ⟨v, r, rfl, ⟨rfl, _⟩, v2, r2, rfl, ⟨rfl, _⟩, rfl⟩ := hvs
      obtain ⟨c, rfl⟩ : ∃ c : Nat, n = c := ⟨n.toNat, by omega⟩
      simp only [Int.toNat_natCast] at hc
      refine (Tryd.strings_Repeat s c w (by omega) hc.2.2).mono ?_
      rintro e w' ⟨rfl, hB⟩
      exact ⟨k, ow, [_], rfl, hp.grow hB, Mem.le_refl _, Nat.le_refl _, fun _ _ => rfl, hold, hcl, _, _, rfl, ⟨rfl, rfl⟩, rfl⟩
    · cases h
  · cases h
theorem strs_rep {m : Mem} : ∀ (l : List ByteArray) (vs : List Value), RepL m (strsC l) vs → vs = l.map Value.string
  | [], vs, h => by simpa [strsC, RepL] using h
  | s :: l, vs, h => by
    simp only [strsC, List.map_cons, RepL, Rep] at h
    obtain ⟨v, r, rfl, ⟨rfl, _⟩, h⟩ := h
    rw [strs_rep l r h]
    rfl
theorem join_sound (xs : List X) (obs : List Ob) (an : An) (h : joinP xs obs = some an) : Sound Tryd.prog GT 26 xs obs an := by
  unfold joinP at h
  split at h
  · rename_i cs n sep
    simp only [Option.bind_eq_some_iff] at h
    obtain ⟨l, hl, h⟩ := h
    split at h
    · rename_i hc
      simp only [Option.some.injEq] at h
      subst h
      obtain ⟨rfl, hc1, hc2⟩ := hc
      rw [unstrs_eq _ _ hl]
      intro fn hf k ow w vs hp hold hcl hvs
      simp only [RepXs, RepX, Rep] at hvs
      obtain ⟨v, r, rfl, ⟨a, cap, us, rfl, hcap, hus, hmem⟩, v2, r2, rfl, ⟨rfl, _⟩, rfl⟩ := hvs
      have hus' := strs_rep l us hus
      subst hus'
      have key : Calls Tryd.prog 26 #[.slice a l.length cap, .string sep] w fun e w' => e = .returned (.string ⟨(Lib.join (l.map (·.data.toList)) sep.data.toList).toArray⟩) ∧ Below w.heap.size w w' := by
        by_cases hne : l = []
        · subst hne
          refine (Tryd.strings_Join_none a cap sep w).mono ?_
          rintro e w' ⟨rfl, rfl⟩
          exact ⟨rfl, Below.refl _ _⟩
        · obtain ⟨b, o, rfl, hcell⟩ := hmem (by simpa using hne)
          have hat : ∀ (j : Nat) x, l[j]? = some x → w.cell? ⟨b, o + j, none⟩ = some (.string x) := fun j x hj => (hp.mem _ _ _ (hcell j _ (by simp [hj]))).1
          have hb : b < w.heap.size := by
            cases l with
            | nil => exact absurd rfl hne
            | cons x r =>
              have := hat 0 x rfl
              unfold World.cell? at this
              split at this
              · rename_i hb; exact (Array.getElem?_eq_some_iff.1 hb).1
              · cases this
          exact Tryd.strings_Join b o cap l sep w hat hb hc1 hcap hc2
      refine key.mono ?_
      rintro e w' ⟨rfl, hB⟩
      exact ⟨k, ow, [_], rfl, hp.grow hB, Mem.le_refl _, Nat.le_refl _, fun _ _ => rfl, hold, hcl, _, _, rfl, ⟨rfl, rfl⟩, rfl⟩
    · cases h
  · cases h
theorem pr_sound : PrSound Tryd.prog GT pr where
  prim f xs obs an h := by
    replace h : prims f xs obs = some an := h
    unfold prims at h
    split at h
    · rename_i e; subst e; exact itoa_sound xs obs an h
    split at h
    · rename_i e; subst e; exact ra_sound xs obs an h
    split at h
    · rename_i e; subst e; exact join_sound xs obs an h
    split at h
    · rename_i e; subst e; exact rep_sound xs obs an h
    · cases h
end Go.Proofs.YtfndkemgjhajnaaDoor
namespace Go.Proofs.YtfndkemgjhajnaaDoor
open Go Go.Pe Go.Tab
def valX (v : V) : C := .agg (valC v)
theorem cells_val (v : V) : cellsX (.of (valX v)) = some [xint v.k, xint v.n, xstr v.s] := rfl
theorem wrapS (n : Nat) (h : n < 4611686018427387904) : IntKind.i64.wrap ((n : Int) + 1) = ((n + 1 : Nat) : Int) := by rw [wrap64_ok _ (by omega) (by omega)]; rfl
theorem ok59 : fnOk Tryd.prog 59 = true := by kernel_rfl
theorem ar59 : arity Tryd.prog 59 = Tryd.f59.ntmps := by unfold arity; rw [Tryd.func59]
theorem rv59 : resVars Tryd.prog 59 = Tryd.f59.results.toList := by unfold resVars; rw [Tryd.func59]
theorem body59 : bodyOf Tryd.prog 59 = Tryd.f59.body.getD .skip := by unfold bodyOf; rw [Tryd.func59]
theorem call59 : callable Tryd.prog 59 = true := by kernel_rfl
theorem obj59 : objF 59 = false := rfl
def boolS (b : Bool) : ByteArray := if b then trueS else falseS
theorem iFormatBool_call (b : Bool) : G1 59 [xbool b] (xstr (boolS b)) := by
  refine by_body rfl ok59 body59 ar59 rfl ?_
  cases b
  · simp -implicitDefEqProofs only [Tryd.f59, ↓zD, zU, Nat.zero_mul, Nat.reduceMul, List.length_map, Tk.nm.injEq, Tk.cell.injEq, false_and, and_false, Nat.le_add_right, Nat.le_refl, ↓reduceIte, Bool.or_false, Bool.false_or, Bool.and_true, Bool.true_and, Bool.false_and, Bool.true_or, Bool.or_true, Option.isNone_none, Option.isNone_some, List.any_cons, List.any_nil, Bool.and_false, Nat.reduceBEq, Nat.reduceLeDiff, Int.reduceLT, Int.reduceEq, Int.reduceLE, Int.reduceAdd, Int.reduceToNat, Int.reduceNeg, Int.cast_ofNat_Int, Nat.reduceLT, List.drop_succ_cons, List.take_succ_cons, List.singleton_append, Nat.zero_add, List.set_cons_zero, List.set_cons_succ, List.drop_nil, List.take_nil, Option.map_some, Option.map_none, Option.getD_some, Option.getD_none, Option.bind_some, List.cons_append, List.nil_append, List.append_nil, List.map_cons, List.map_nil, List.range_zero, List.take_zero, List.flatten_nil, List.filter_nil, List.length_nil, List.length_cons, List.drop_zero, List.not_mem_nil, List.mem_cons, Bool.true_eq_false, Bool.false_eq_true, Nat.reduceEqDiff, Nat.reduceAdd, List.getElem?_toArray, List.toList_toArray, List.getElem?_cons_zero, List.getElem?_cons_succ, decide_eq_true_eq, beq_self_eq_true, beq_true, beq_false, decide_true, decide_false, Bool.not_true, Bool.not_false, true_and, and_true, or_false, false_or, Bool.and_eq_true, reduceCtorEq, not_false_eq_true, Z1u, rv59]
    rfl
  · simp -implicitDefEqProofs only [Tryd.f59, ↓zD, zU, Nat.zero_mul, Nat.reduceMul, List.length_map, Tk.nm.injEq, Tk.cell.injEq, false_and, and_false, Nat.le_add_right, Nat.le_refl, ↓reduceIte, Bool.or_false, Bool.false_or, Bool.and_true, Bool.true_and, Bool.false_and, Bool.true_or, Bool.or_true, Option.isNone_none, Option.isNone_some, List.any_cons, List.any_nil, Bool.and_false, Nat.reduceBEq, Nat.reduceLeDiff, Int.reduceLT, Int.reduceEq, Int.reduceLE, Int.reduceAdd, Int.reduceToNat, Int.reduceNeg, Int.cast_ofNat_Int, Nat.reduceLT, List.drop_succ_cons, List.take_succ_cons, List.singleton_append, Nat.zero_add, List.set_cons_zero, List.set_cons_succ, List.drop_nil, List.take_nil, Option.map_some, Option.map_none, Option.getD_some, Option.getD_none, Option.bind_some, List.cons_append, List.nil_append, List.append_nil, List.map_cons, List.map_nil, List.range_zero, List.take_zero, List.flatten_nil, List.filter_nil, List.length_nil, List.length_cons, List.drop_zero, List.not_mem_nil, List.mem_cons, Bool.true_eq_false, Bool.false_eq_true, Nat.reduceEqDiff, Nat.reduceAdd, List.getElem?_toArray, List.toList_toArray, List.getElem?_cons_zero, List.getElem?_cons_succ, decide_eq_true_eq, beq_self_eq_true, beq_true, beq_false, decide_true, decide_false, Bool.not_true, Bool.not_false, true_and, and_true, or_false, false_or, Bool.and_eq_true, reduceCtorEq, not_false_eq_true, Z1u, rv59]
    rfl
theorem iFormatBool_k (b : Bool) (K : An → Prop) : CallK Tryd.prog pr 59 [.of (.lit (.bool b))] [] K ↔ K ⟨false, [xstr (boolS b)], []⟩ := Gives.k (iFormatBool_call b) K
theorem FormatBool_call (b : Bool) : G1 45 [xbool b] (xstr (boolS b)) := by
  refine by_body rfl ok45 body45 ar45 rfl ?_
  simp -implicitDefEqProofs only [Tryd.f45, ↓zD, zU, Nat.zero_mul, Nat.reduceMul, List.length_map, Tk.nm.injEq, Tk.cell.injEq, false_and, and_false, Nat.le_add_right, Nat.le_refl, ↓reduceIte, Bool.or_false, Bool.false_or, Bool.and_true, Bool.true_and, Bool.false_and, Bool.true_or, Bool.or_true, Option.isNone_none, Option.isNone_some, List.any_cons, List.any_nil, Bool.and_false, Nat.reduceBEq, Nat.reduceLeDiff, Int.reduceLT, Int.reduceEq, Int.reduceLE, Int.reduceAdd, Int.reduceToNat, Int.reduceNeg, Int.cast_ofNat_Int, Nat.reduceLT, List.drop_succ_cons, List.take_succ_cons, List.singleton_append, Nat.zero_add, List.set_cons_zero, List.set_cons_succ, List.drop_nil, List.take_nil, Option.map_some, Option.map_none, Option.getD_some, Option.getD_none, Option.bind_some, List.cons_append, List.nil_append, List.append_nil, List.map_cons, List.map_nil, List.range_zero, List.take_zero, List.flatten_nil, List.filter_nil, List.length_nil, List.length_cons, List.drop_zero, List.not_mem_nil, List.mem_cons, Bool.true_eq_false, Bool.false_eq_true, Nat.reduceEqDiff, Nat.reduceAdd, List.getElem?_toArray, List.toList_toArray, List.getElem?_cons_zero, List.getElem?_cons_succ, decide_eq_true_eq, beq_self_eq_true, beq_true, beq_false, decide_true, decide_false, Bool.not_true, Bool.not_false, true_and, and_true, or_false, false_or, Bool.and_eq_true, reduceCtorEq, not_false_eq_true, Z1u, rv45, iFormatBool_k, pr_obj, obj59, call59]
theorem FormatBool_k (b : Bool) (K : An → Prop) : CallK Tryd.prog pr 45 [.of (.lit (.bool b))] [] K ↔ K ⟨false, [xstr (boolS b)], []⟩ := Gives.k (FormatBool_call b) K
theorem Itoa_k (n : Int) (K : An → Prop) (h : small64 n = true) : CallK Tryd.prog pr 35 [.of (ci n)] [] K ↔ K ⟨false, [xstr (strL (Lib.itoa n))], []⟩ :=
  Gives.k (Gives.of_prim (show itoaP [.of (ci n)] [] = _ by unfold itoaP; simp only; rw [if_pos h]; rfl)) K
theorem numText_call (n : Int) (h : small64 n = true) : G1 16 [xint n] (xstr (strL (Lib.itoa n))) := by
  refine by_body rfl ok16 body16 ar16 rfl ?_
  simp -implicitDefEqProofs only [Tryd.f16, ↓zD, zU, Nat.zero_mul, Nat.reduceMul, List.length_map, Tk.nm.injEq, Tk.cell.injEq, false_and, and_false, Nat.le_add_right, Nat.le_refl, ↓reduceIte, Bool.or_false, Bool.false_or, Bool.and_true, Bool.true_and, Bool.false_and, Bool.true_or, Bool.or_true, Option.isNone_none, Option.isNone_some, List.any_cons, List.any_nil, Bool.and_false, Nat.reduceBEq, Nat.reduceLeDiff, Int.reduceLT, Int.reduceEq, Int.reduceLE, Int.reduceAdd, Int.reduceToNat, Int.reduceNeg, Int.cast_ofNat_Int, Nat.reduceLT, List.drop_succ_cons, List.take_succ_cons, List.singleton_append, Nat.zero_add, List.set_cons_zero, List.set_cons_succ, List.drop_nil, List.take_nil, Option.map_some, Option.map_none, Option.getD_some, Option.getD_none, Option.bind_some, List.cons_append, List.nil_append, List.append_nil, List.map_cons, List.map_nil, List.range_zero, List.take_zero, List.flatten_nil, List.filter_nil, List.length_nil, List.length_cons, List.drop_zero, List.not_mem_nil, List.mem_cons, Bool.true_eq_false, Bool.false_eq_true, Nat.reduceEqDiff, Nat.reduceAdd, List.getElem?_toArray, List.toList_toArray, List.getElem?_cons_zero, List.getElem?_cons_succ, decide_eq_true_eq, beq_self_eq_true, beq_true, beq_false, decide_true, decide_false, Bool.not_true, Bool.not_false, true_and, and_true, or_false, false_or, Bool.and_eq_true, reduceCtorEq, not_false_eq_true, Z1u, rv16, Itoa_k n _ h, pr_obj, obj35, call35]
theorem numText_k (n : Int) (K : An → Prop) (h : small64 n = true) : CallK Tryd.prog pr 16 [.of (ci n)] [] K ↔ K ⟨false, [xstr (strL (Lib.itoa n))], []⟩ := Gives.k (numText_call n h) K
theorem ra_k (s : ByteArray) (K : An → Prop) (h : s.size ≤ 1048576) : CallK Tryd.prog pr 46 [.of (cstr s), .of (cstr (strL [39])), .of (cstr ⟨#[39, 39]⟩)] [] K ↔ K ⟨false, [xstr (strL (quoteL s.data.toList))], []⟩ := by
  refine Gives.k (Gives.of_prim (show raP [.of (cstr s), .of (cstr ⟨#[39]⟩), .of (cstr ⟨#[39, 39]⟩)] [] = _ from ?_)) K
  unfold raP
  simp only
  have h1 := Lib.countB_le ⟨#[39]⟩ (Nat.le_refl 1) s.size s (Nat.le_refl _)
  rw [if_pos ⟨by omega, by decide, by
    have : (ByteArray.mk #[39, 39]).size = 2 := rfl
    rw [this]
    omega⟩]
  show some (An.mk false [xstr (strL (Lib.replaceAll s.data.toList [39] [39, 39]))] []) = _
  rw [replaceAll_quote]
theorem size_strL (l : List UInt8) : (strL l).size = l.length := by simp [strL, ByteArray.size]
theorem strL_app (a b : List UInt8) : strL a ++ strL b = strL (a ++ b) := by
  apply toList_inj.1
  simp [strL]
theorem q39 : (⟨#[39]⟩ : ByteArray) = strL [39] := rfl
theorem text_3 (s : ByteArray) : strL [39] ++ strL (quoteL s.data.toList) ++ strL [39] = strL (39 :: quoteL s.data.toList ++ [39]) := by
  rw [strL_app, strL_app]; rfl
set_option maxRecDepth 100000 in
theorem vaText_call (v : V) (hv : VOk v) : G1 24 [.of (valX v)] (xstr (textS v)) := by
  refine by_body rfl ok24 body24 ar24 rfl ?_
  by_cases h1 : v.k = 1
  · simp -implicitDefEqProofs only [Tryd.f24, ↓zD, zU, Nat.zero_mul, Nat.reduceMul, List.length_map, Tk.nm.injEq, Tk.cell.injEq, false_and, and_false, Nat.le_add_right, Nat.le_refl, ↓reduceIte, Bool.or_false, Bool.false_or, Bool.and_true, Bool.true_and, Bool.false_and, Bool.true_or, Bool.or_true, Option.isNone_none, Option.isNone_some, List.any_cons, List.any_nil, Bool.and_false, Nat.reduceBEq, Nat.reduceLeDiff, Int.reduceLT, Int.reduceEq, Int.reduceLE, Int.reduceAdd, Int.reduceToNat, Int.reduceNeg, Int.cast_ofNat_Int, Nat.reduceLT, List.drop_succ_cons, List.take_succ_cons, List.singleton_append, Nat.zero_add, List.set_cons_zero, List.set_cons_succ, List.drop_nil, List.take_nil, Option.map_some, Option.map_none, Option.getD_some, Option.getD_none, Option.bind_some, List.cons_append, List.nil_append, List.append_nil, List.map_cons, List.map_nil, List.range_zero, List.take_zero, List.flatten_nil, List.filter_nil, List.length_nil, List.length_cons, List.drop_zero, List.not_mem_nil, List.mem_cons, Bool.true_eq_false, Bool.false_eq_true, Nat.reduceEqDiff, Nat.reduceAdd, List.getElem?_toArray, List.toList_toArray, List.getElem?_cons_zero, List.getElem?_cons_succ, decide_eq_true_eq, beq_self_eq_true, beq_true, beq_false, decide_true, decide_false, Bool.not_true, Bool.not_false, true_and, and_true, or_false, false_or, Bool.and_eq_true, reduceCtorEq, not_false_eq_true, Z1u, rv24, T43, cells_val, boxO, T3, T9, U3, U9, fa43_0, fa43_1, fa43_2, P3, P9, h1, FormatBool_k, pr_obj, obj45, call45]
    by_cases h2 : v.n = 0
    · simp [textS, h1, h2, boolS]
    · simp [textS, h1, h2, boolS]
  · by_cases h2 : v.k = 2
    · simp -implicitDefEqProofs only [Tryd.f24, ↓zD, zU, Nat.zero_mul, Nat.reduceMul, List.length_map, Tk.nm.injEq, Tk.cell.injEq, false_and, and_false, Nat.le_add_right, Nat.le_refl, ↓reduceIte, Bool.or_false, Bool.false_or, Bool.and_true, Bool.true_and, Bool.false_and, Bool.true_or, Bool.or_true, Option.isNone_none, Option.isNone_some, List.any_cons, List.any_nil, Bool.and_false, Nat.reduceBEq, Nat.reduceLeDiff, Int.reduceLT, Int.reduceEq, Int.reduceLE, Int.reduceAdd, Int.reduceToNat, Int.reduceNeg, Int.cast_ofNat_Int, Nat.reduceLT, List.drop_succ_cons, List.take_succ_cons, List.singleton_append, Nat.zero_add, List.set_cons_zero, List.set_cons_succ, List.drop_nil, List.take_nil, Option.map_some, Option.map_none, Option.getD_some, Option.getD_none, Option.bind_some, List.cons_append, List.nil_append, List.append_nil, List.map_cons, List.map_nil, List.range_zero, List.take_zero, List.flatten_nil, List.filter_nil, List.length_nil, List.length_cons, List.drop_zero, List.not_mem_nil, List.mem_cons, Bool.true_eq_false, Bool.false_eq_true, Nat.reduceEqDiff, Nat.reduceAdd, List.getElem?_toArray, List.toList_toArray, List.getElem?_cons_zero, List.getElem?_cons_succ, decide_eq_true_eq, beq_self_eq_true, beq_true, beq_false, decide_true, decide_false, Bool.not_true, Bool.not_false, true_and, and_true, or_false, false_or, Bool.and_eq_true, reduceCtorEq, not_false_eq_true, Z1u, rv24, T43, cells_val, boxO, T3, T9, U3, U9, fa43_0, fa43_1, fa43_2, P3, P9, h1, h2, Int.reduceEq, numText_k _ _ hv.n, pr_obj, obj16, call16, textS]
    · by_cases h3 : v.k = 3
      · have l1 : (strL [39]).size + (strL (quoteL v.s.data.toList)).size ≤ SLIM := by
          rw [size_strL, size_strL]
          have := quoteL_len v.s.data.toList
          have := hv.s
          have e : v.s.data.toList.length = v.s.size := by simp
          unfold SLIM
          simp only [List.length_cons, List.length_nil]
          omega
        have l2 : (strL [39] ++ strL (quoteL v.s.data.toList)).size + (strL [39]).size ≤ SLIM := by
          rw [strL_app, size_strL, size_strL]
          have := quoteL_len v.s.data.toList
          have := hv.s
          have e : v.s.data.toList.length = v.s.size := by simp
          unfold SLIM
          simp only [List.length_append, List.length_cons, List.length_nil]
          omega
        simp -implicitDefEqProofs only [Tryd.f24, ↓zD, zU, Nat.zero_mul, Nat.reduceMul, List.length_map, Tk.nm.injEq, Tk.cell.injEq, false_and, and_false, Nat.le_add_right, Nat.le_refl, ↓reduceIte, Bool.or_false, Bool.false_or, Bool.and_true, Bool.true_and, Bool.false_and, Bool.true_or, Bool.or_true, Option.isNone_none, Option.isNone_some, List.any_cons, List.any_nil, Bool.and_false, Nat.reduceBEq, Nat.reduceLeDiff, Int.reduceLT, Int.reduceEq, Int.reduceLE, Int.reduceAdd, Int.reduceToNat, Int.reduceNeg, Int.cast_ofNat_Int, Nat.reduceLT, List.drop_succ_cons, List.take_succ_cons, List.singleton_append, Nat.zero_add, List.set_cons_zero, List.set_cons_succ, List.drop_nil, List.take_nil, Option.map_some, Option.map_none, Option.getD_some, Option.getD_none, Option.bind_some, List.cons_append, List.nil_append, List.append_nil, List.map_cons, List.map_nil, List.range_zero, List.take_zero, List.flatten_nil, List.filter_nil, List.length_nil, List.length_cons, List.drop_zero, List.not_mem_nil, List.mem_cons, Bool.true_eq_false, Bool.false_eq_true, Nat.reduceEqDiff, Nat.reduceAdd, List.getElem?_toArray, List.toList_toArray, List.getElem?_cons_zero, List.getElem?_cons_succ, decide_eq_true_eq, beq_self_eq_true, beq_true, beq_false, decide_true, decide_false, Bool.not_true, Bool.not_false, true_and, and_true, or_false, false_or, Bool.and_eq_true, reduceCtorEq, not_false_eq_true, Z1u, rv24, T43, cells_val, boxO, T3, T9, U3, U9, fa43_0, fa43_1, fa43_2, P3, P9, h1, h2, h3, Int.reduceEq, ra_k _ _ hv.s, q39, l1, l2, text_3, pr_obj, obj46, call46, textS, V.t]
      · simp -implicitDefEqProofs only [Tryd.f24, ↓zD, zU, Nat.zero_mul, Nat.reduceMul, List.length_map, Tk.nm.injEq, Tk.cell.injEq, false_and, and_false, Nat.le_add_right, Nat.le_refl, ↓reduceIte, Bool.or_false, Bool.false_or, Bool.and_true, Bool.true_and, Bool.false_and, Bool.true_or, Bool.or_true, Option.isNone_none, Option.isNone_some, List.any_cons, List.any_nil, Bool.and_false, Nat.reduceBEq, Nat.reduceLeDiff, Int.reduceLT, Int.reduceEq, Int.reduceLE, Int.reduceAdd, Int.reduceToNat, Int.reduceNeg, Int.cast_ofNat_Int, Nat.reduceLT, List.drop_succ_cons, List.take_succ_cons, List.singleton_append, Nat.zero_add, List.set_cons_zero, List.set_cons_succ, List.drop_nil, List.take_nil, Option.map_some, Option.map_none, Option.getD_some, Option.getD_none, Option.bind_some, List.cons_append, List.nil_append, List.append_nil, List.map_cons, List.map_nil, List.range_zero, List.take_zero, List.flatten_nil, List.filter_nil, List.length_nil, List.length_cons, List.drop_zero, List.not_mem_nil, List.mem_cons, Bool.true_eq_false, Bool.false_eq_true, Nat.reduceEqDiff, Nat.reduceAdd, List.getElem?_toArray, List.toList_toArray, List.getElem?_cons_zero, List.getElem?_cons_succ, decide_eq_true_eq, beq_self_eq_true, beq_true, beq_false, decide_true, decide_false, Bool.not_true, Bool.not_false, true_and, and_true, or_false, false_or, Bool.and_eq_true, reduceCtorEq, not_false_eq_true, Z1u, rv24, T43, cells_val, boxO, T3, T9, U3, U9, fa43_0, fa43_1, fa43_2, P3, P9, h1, h2, h3, textS]
        rfl
end Go.Proofs.YtfndkemgjhajnaaDoor
namespace Go.Proofs.YtfndkemgjhajnaaDoor
open Go Go.Pe Go.RowKit Go.ChangeShapes Go.Deep

/-- Memory, as it is. -/
def memOf (W : World) : Mem := fun b o => match W.cell? ⟨b, o, none⟩ with
  | some v => if v.oneCell' = true then some v else none
  | none => none
theorem memOf_some {W : World} {b o : Nat} {v : Value} (h : W.cell? ⟨b, o, none⟩ = some v) (h1 : v.oneCell' = true) : memOf W b o = some v := by simp [memOf, h, h1]
theorem memOf_mem {W : World} {b o : Nat} {v : Value} (h : memOf W b o = some v) : W.cell? ⟨b, o, none⟩ = some v ∧ v.oneCell' = true := by
  unfold memOf at h
  split at h
  · split at h
    · rename_i h1 h2
      cases h
      exact ⟨h1, h2⟩
    · cases h
  · cases h

/-- Data of a type, as cells; and a bound on its bulk. -/
inductive Pl (P : Program) : TypeId → List C → Nat → Prop where
  | int {t : TypeId} {k : IntKind} {n : Int} {m : Nat} (hu : P.underlying t = some (.int k)) (hw : (Lit.int k n).wf = true) (hm : 1 ≤ m) : Pl P t [.lit (.int k n)] m
  | bool {t : TypeId} {b : Bool} {m : Nat} (hu : P.underlying t = some .bool) (hm : 1 ≤ m) : Pl P t [.lit (.bool b)] m
  | str {t : TypeId} {s : ByteArray} {m : Nat} (hu : P.underlying t = some .string) (hm : s.size + 1 ≤ m) : Pl P t [.lit (.string s)] m
  | slice {t e : TypeId} {ps : List (List C)} {ws : List Nat} {m n : Nat} (hu : P.underlying t = some (.slice e)) (hp : ps.length = n) (hl : ws.length = n)
      (h : ∀ i (h1 : i < ps.length) (h2 : i < ws.length), Pl P e ps[i] ws[i]) (hc : ∀ i (h1 : i < ps.length), ps[i].length = P.cellsOf e) (hn : ∀ i (h2 : i < ws.length), 1 ≤ ws[i]) (hm : ws.sum + 1 ≤ m) : Pl P t [.sl ps.flatten n] m
  | struct {t : TypeId} {fs : Array Field} {ps : List (List C)} {ws : List Nat} {m : Nat} (hu : P.underlying t = some (.struct fs)) (hp : ps.length = fs.toList.length) (hl : ws.length = fs.toList.length)
      (h : ∀ i (h0 : i < fs.toList.length) (h1 : i < ps.length) (h2 : i < ws.length), Pl P fs.toList[i].type ps[i] ws[i]) (hm : ws.sum + 1 ≤ m) : Pl P t ps.flatten m

/-- A struct's fields lie one behind the other. -/
def tilesB (P : Program) : Nat → List Field → Nat → Bool
  | o, [], n => o == n
  | o, f :: fs, n => f.offset == o && tilesB P (o + P.cellsOf f.type) fs n
/-- Types that are made of each other, and of nothing else. -/
def flatB (P : Program) (l : List TypeId) : Bool := l.all fun t => match P.underlying t with
  | some (.int _) => true
  | some .bool => true
  | some .string => true
  | some (.slice e) => l.contains e && decide (0 < P.cellsOf e)
  | some (.struct fs) => fs.toList.all (fun f => l.contains f.type) && tilesB P 0 fs.toList (P.cellsOf t)
  | _ => false

section
variable {H : Type} {enc : TypeId × Value → H} {W : World} {spare : Nat → Bool} {held : Bool} {P : Program}

theorem one_le {H : Type} (d : DataW H) : 1 ≤ Rows.uptoBulk d := by
  cases d with
  | lit l => cases l <;> simp [Rows.uptoBulk]
  | _ => simp [Rows.uptoBulk]
theorem bulk_map {H : Type} {α : Type} (f : α → DataW H) : ∀ l : List α, Rows.uptoBulkAll (l.map f) = (l.map fun x => Rows.uptoBulk (f x)).sum
  | [] => rfl
  | x :: l => by simp only [List.map_cons, Rows.uptoBulkAll, List.sum_cons, bulk_map f l]
theorem add_add (a : Addr) (m j : Nat) : (a.add m).add j = a.add (m + j) := by
  unfold Addr.add
  by_cases hm : m = 0
  · subst hm
    simp
  · by_cases hj : j = 0
    · subst hj
      simp [hm]
    · simp [hm, hj, Nat.add_assoc]

/-- A slice, by its elements. -/
theorem slice_rep {a : Addr} {len cap z : Nat} (hle : len ≤ cap) (hz : 0 < z) (cs : Nat → List Value) (g : Nat → List C)
    (h : ∀ i, i < len → W.cells? 0 (a.add (i * z)) z = some (cs i) ∧ RepL (memOf W) (g i) (cs i) ∧ ∀ u ∈ cs i, u.oneCell' = true) :
    Rep (memOf W) (.sl ((List.range len).map g).flatten len) (.slice (some a) len cap) := by
  have h1 : ∀ n, n ≤ len → RepL (memOf W) ((List.range n).map g).flatten ((List.range n).map cs).flatten ∧ ((List.range n).map cs).flatten.length = n * z ∧
      ∀ i u, ((List.range n).map cs).flatten[i]? = some u → W.cell? (a.add i) = some u ∧ u.oneCell' = true := by
    intro n
    induction n with
    | zero => intro _; exact ⟨rfl, by simp, fun i u hu => by simp at hu⟩
    | succ n ih =>
      intro hn
      obtain ⟨i1, i2, i3⟩ := ih (by omega)
      obtain ⟨j1, j2, j3⟩ := h n (by omega)
      obtain ⟨_, k1, k2⟩ := World.cells?_some j1
      simp only [List.range_succ, List.map_append, List.map_cons, List.map_nil, List.flatten_append, List.flatten_cons, List.flatten_nil, List.append_nil]
      refine ⟨i1.append j2, by rw [List.length_append, i2, k1, Nat.succ_mul], fun i u hu => ?_⟩
      rcases Nat.lt_or_ge i (n * z) with hi | hi
      · rw [List.getElem?_append_left (by omega)] at hu
        exact i3 i u hu
      · rw [List.getElem?_append_right (by omega), i2] at hu
        have hlt : i - n * z < z := by
          have := (List.getElem?_eq_some_iff.1 hu).1
          omega
        have := k2 (i - n * z) hlt
        rw [hu] at this
        rw [add_add, show n * z + (i - n * z) = i by omega] at this
        exact ⟨this, j3 u (List.mem_of_getElem? hu)⟩
  obtain ⟨h2, h3, h4⟩ := h1 len (Nat.le_refl _)
  refine ⟨some a, cap, _, rfl, hle, h2, fun hne => ?_⟩
  have hpl : a.spot = none := by
    cases hv : ((List.range len).map cs).flatten with
    | nil => exact absurd hv hne
    | cons u r =>
      have := (h4 0 u (by rw [hv]; rfl)).1
      unfold Addr.add at this
      rw [if_pos rfl] at this
      cases hs : a.spot with
      | none => rfl
      | some s =>
        unfold World.cell? at this
        split at this
        · simp [hs] at this
        · cases this
  refine ⟨a.block, a.off, by cases a; simp only at hpl; rw [hpl], fun i u hu => ?_⟩
  obtain ⟨h5, h6⟩ := h4 i u hu
  refine memOf_some ?_ h6
  rw [← h5]
  unfold Addr.add
  split
  · rename_i e; subst e; cases a; simp only at hpl; rw [hpl]; rfl
  · rfl

/-- What is said of a reading. -/
def Told (P : Program) (W : World) (t : TypeId) (cs : List Value) (d : DataW H) : Prop := ∃ g : List C, RepL (memOf W) g cs ∧ (∀ u ∈ cs, u.oneCell' = true) ∧ Pl P t g (Rows.uptoBulk d)

theorem read_fields {n : Nat} {l : List TypeId} (ih : ∀ t cs x, t ∈ l → DataW.trod enc P W 0 spare held n t cs = some x → Told P W t cs x.1) (cs : List Value) :
    ∀ (fs : List Field) (o : Nat) (xs : List (DataW H × List MemPlace)), tilesB P o fs cs.length = true → (∀ f ∈ fs, f.type ∈ l) → xs.length = fs.length →
      (∀ (i : Nat) (f : Field), fs[i]? = some f → DataW.trod enc P W 0 spare held n f.type ((cs.drop f.offset).take (P.cellsOf f.type)) = xs[i]?) →
      ∃ ps : List (List C), ps.length = fs.length ∧ RepL (memOf W) ps.flatten (cs.drop o) ∧ (∀ u ∈ cs.drop o, u.oneCell' = true) ∧
        ∀ i (h0 : i < fs.length) (h1 : i < ps.length) (h2 : i < (xs.map fun x => Rows.uptoBulk x.1).length), Pl P fs[i].type ps[i] (xs.map fun x => Rows.uptoBulk x.1)[i]
  | [], o, xs, ht, _, _, _ => by
    have : o = cs.length := by simpa [tilesB] using ht
    subst this
    exact ⟨[], rfl, by simp [RepL], by simp, fun i h0 => absurd h0 (Nat.not_lt_zero _)⟩
  | f :: fs, o, [], _, _, hl, _ => by simp at hl
  | f :: fs, o, x :: xs, ht, hm, hl, hx => by
    simp only [tilesB, Bool.and_eq_true, beq_iff_eq] at ht
    obtain ⟨rfl, ht⟩ := ht
    have h0 := hx 0 f rfl
    simp only [List.getElem?_cons_zero] at h0
    obtain ⟨g, g1, g2, g3⟩ := ih _ _ _ (hm f (List.mem_cons_self ..)) h0
    obtain ⟨ps, p1, p2, p3, p4⟩ := read_fields ih cs fs (f.offset + P.cellsOf f.type) xs ht (fun q hq => hm q (List.mem_cons_of_mem _ hq)) (by simpa using hl) (fun i q hq => by simpa using hx (i + 1) q (by simpa using hq))
    have hsplit : cs.drop f.offset = (cs.drop f.offset).take (P.cellsOf f.type) ++ cs.drop (f.offset + P.cellsOf f.type) := by
      rw [← List.drop_drop, List.take_append_drop]
    refine ⟨g :: ps, by simp [p1], ?_, ?_, ?_⟩
    · rw [hsplit, List.flatten_cons]
      exact g1.append p2
    · intro u hu
      rw [hsplit, List.mem_append] at hu
      rcases hu with hu | hu
      · exact g2 u hu
      · exact p3 u hu
    · intro i h0 h1 h2
      cases i with
      | zero => exact g3
      | succ i => exact p4 i (by simpa using h0) (by simpa using h1) (by simpa using h2)

theorem read_pl {l : List TypeId} (hf : flatB P l = true) : ∀ (fuel : Nat) (t : TypeId) (cs : List Value) (x : DataW H × List MemPlace), t ∈ l → DataW.trod enc P W 0 spare held fuel t cs = some x → Told P W t cs x.1
  | 0, t, cs, x, _, h => by simp [DataW.trod] at h
  | fuel + 1, t, cs, x, htl, h => by
    have ih := read_pl hf fuel
    have hft := List.all_eq_true.1 hf t htl
    cases hu : P.underlying t with
    | none => rw [hu] at hft; cases hft
    | some u =>
      rw [hu] at hft
      cases u with
      | int k =>
        obtain ⟨n, rfl, rfl, hw⟩ := DataW.trod_int hu h
        exact ⟨[.lit (.int k n)], ⟨_, _, rfl, ⟨rfl, rfl⟩, rfl⟩, by simp [Value.oneCell'], .int hu hw (Nat.le_refl 1)⟩
      | bool =>
        obtain ⟨b, rfl, rfl⟩ := DataW.trod_bool hu h
        exact ⟨[.lit (.bool b)], ⟨_, _, rfl, ⟨rfl, rfl⟩, rfl⟩, by simp [Value.oneCell'], .bool hu (Nat.le_refl 1)⟩
      | string =>
        obtain ⟨s, rfl, rfl, _⟩ := DataW.trod_string hu h
        exact ⟨[.lit (.string s)], ⟨_, _, rfl, ⟨rfl, rfl⟩, rfl⟩, by simp [Value.oneCell'], .str hu (Nat.le_of_eq rfl)⟩
      | slice e =>
        simp only [Bool.and_eq_true, List.contains_iff_mem, decide_eq_true_eq] at hft
        rcases DataW.trod_slice hu h with ⟨rfl, rfl⟩ | ⟨a, len, cap, elems, rest, n, hfu, rfl, rfl, _, hle, _, hlen, hel, _, _⟩
        · exact ⟨[.sl [] 0], ⟨_, _, rfl, ⟨none, 0, [], rfl, Nat.le_refl _, rfl, fun h => absurd rfl h⟩, rfl⟩, by simp [Value.oneCell'], .slice (ps := []) (ws := []) hu rfl rfl (fun i h1 => absurd h1 (Nat.not_lt_zero _)) (fun i h1 => absurd h1 (Nat.not_lt_zero _)) (fun i h1 => absurd h1 (Nat.not_lt_zero _)) (Nat.le_refl _)⟩
        · obtain rfl : fuel = n := by omega
          subst hlen
          have hv : ∀ i : Nat, ∃ p : List Value × List C, ∀ hi : i < elems.length, W.cells? 0 (a.add (i * P.cellsOf e)) (P.cellsOf e) = some p.1 ∧ RepL (memOf W) p.2 p.1 ∧ (∀ u ∈ p.1, u.oneCell' = true) ∧ Pl P e p.2 (Rows.uptoBulk elems[i].1) := fun i => by
            by_cases hi : i < elems.length
            · have h0 := hel i hi
              rw [List.getElem?_eq_getElem hi, Option.bind_eq_some_iff] at h0
              obtain ⟨cs', h1, h2⟩ := h0
              obtain ⟨g, g1, g2, g3⟩ := ih _ _ _ hft.1 h2
              exact ⟨(cs', g), fun _ => ⟨h1, g1, g2, g3⟩⟩
            · exact ⟨([], []), fun h => absurd h hi⟩
          obtain ⟨F, hF⟩ := Classical.axiomOfChoice hv
          refine ⟨[.sl ((List.range elems.length).map fun i => (F i).2).flatten elems.length], ⟨_, _, rfl, slice_rep hle hft.2 (fun i => (F i).1) (fun i => (F i).2) (fun i hi => ⟨(hF i hi).1, (hF i hi).2.1, (hF i hi).2.2.1⟩), rfl⟩, by simp [Value.oneCell'], ?_⟩
          refine .slice (ws := elems.map fun x => Rows.uptoBulk x.1) hu (by simp) (by simp) (fun i h1 h2 => ?_) (fun i h1 => ?_) (fun i h2 => ?_) ?_
          · simp only [List.getElem_map, List.getElem_range]
            exact (hF i (by simpa using h1)).2.2.2
          · simp only [List.getElem_map, List.getElem_range]
            obtain ⟨q1, q2, _⟩ := hF i (by simpa using h1)
            rw [← q2.length]
            exact (World.cells?_some q1).2.1
          · simp only [List.getElem_map]
            exact one_le _
          · simp only [Rows.uptoBulk]
            rw [bulk_map]
            omega
      | struct fs =>
        obtain ⟨xs, n, hfu, rfl, hlen, hxl, hx⟩ := DataW.trod_struct hu h
        obtain rfl : fuel = n := by omega
        simp only [Bool.and_eq_true, List.all_eq_true, List.contains_iff_mem] at hft
        obtain ⟨ps, p1, p2, p3, p4⟩ := read_fields ih cs fs.toList 0 xs (by rw [hlen]; exact hft.2) hft.1 (by simpa using hxl) (fun i f hi => hx i f (by simpa using hi))
        refine ⟨ps.flatten, by simpa using p2, by simpa using p3, .struct (ws := xs.map fun x => Rows.uptoBulk x.1) hu p1 (by simpa using hxl) p4 ?_⟩
        simp only [Rows.uptoBulk]
        rw [bulk_map]
        exact Nat.le_refl _
      | _ => cases hft
end

section
variable {P : Program} {t : TypeId} {cs : List C} {m : Nat}
theorem Pl.pos (h : Pl P t cs m) : 1 ≤ m := by
  cases h <;> omega
theorem Pl.int_inv (h : Pl P t cs m) (hu : P.underlying t = some (.int .i64)) : ∃ n : Int, cs = [ci n] ∧ -9223372036854775808 ≤ n ∧ n ≤ 9223372036854775807 := by
  cases h with
  | int hu' hw hm =>
    rw [hu] at hu'
    cases hu'
    have : IntKind.i64.min = -9223372036854775808 := rfl
    have : IntKind.i64.max = 9223372036854775807 := rfl
    refine ⟨_, rfl, ?_⟩
    simp [Lit.wf, IntKind.wrap_i64] at hw
    omega
  | bool hu' => rw [hu] at hu'; cases hu'
  | str hu' => rw [hu] at hu'; cases hu'
  | slice hu' => rw [hu] at hu'; cases hu'
  | struct hu' => rw [hu] at hu'; cases hu'
theorem Pl.str_inv (h : Pl P t cs m) (hu : P.underlying t = some .string) : ∃ s : ByteArray, cs = [cstr s] ∧ s.size + 1 ≤ m := by
  cases h with
  | str hu' hm => exact ⟨_, rfl, hm⟩
  | int hu' => rw [hu] at hu'; cases hu'
  | bool hu' => rw [hu] at hu'; cases hu'
  | slice hu' => rw [hu] at hu'; cases hu'
  | struct hu' => rw [hu] at hu'; cases hu'
theorem Pl.bool_inv (h : Pl P t cs m) (hu : P.underlying t = some .bool) : ∃ b : Bool, cs = [cb b] := by
  cases h with
  | bool hu' => exact ⟨_, rfl⟩
  | int hu' => rw [hu] at hu'; cases hu'
  | str hu' => rw [hu] at hu'; cases hu'
  | slice hu' => rw [hu] at hu'; cases hu'
  | struct hu' => rw [hu] at hu'; cases hu'
theorem Pl.slice_inv {e : TypeId} (h : Pl P t cs m) (hu : P.underlying t = some (.slice e)) : ∃ (ps : List (List C)) (ws : List Nat), cs = [.sl ps.flatten ps.length] ∧ ws.length = ps.length ∧
    (∀ i (h1 : i < ps.length) (h2 : i < ws.length), Pl P e ps[i] ws[i]) ∧ ws.sum + 1 ≤ m := by
  cases h with
  | slice hu' hp hl h hc hn hm =>
    rw [hu] at hu'
    cases hu'
    subst hp
    exact ⟨_, _, rfl, hl, h, hm⟩
  | int hu' => rw [hu] at hu'; cases hu'
  | str hu' => rw [hu] at hu'; cases hu'
  | bool hu' => rw [hu] at hu'; cases hu'
  | struct hu' => rw [hu] at hu'; cases hu'
theorem Pl.struct_inv {fs : Array Field} (h : Pl P t cs m) (hu : P.underlying t = some (.struct fs)) : ∃ (ps : List (List C)) (ws : List Nat), cs = ps.flatten ∧ ps.length = fs.toList.length ∧ ws.length = fs.toList.length ∧
    (∀ i (h0 : i < fs.toList.length) (h1 : i < ps.length) (h2 : i < ws.length), Pl P fs.toList[i].type ps[i] ws[i]) ∧ ws.sum + 1 ≤ m := by
  cases h with
  | struct hu' hp hl h hm =>
    rw [hu] at hu'
    cases hu'
    exact ⟨_, _, rfl, hp, hl, h, hm⟩
  | int hu' => rw [hu] at hu'; cases hu'
  | str hu' => rw [hu] at hu'; cases hu'
  | bool hu' => rw [hu] at hu'; cases hu'
  | slice hu' => rw [hu] at hu'; cases hu'
/-- A slice is one cell. -/
theorem Pl.one_inv {e : TypeId} (h : Pl P t cs m) (hu : P.underlying t = some (.slice e)) : ∃ c : C, cs = [c] := by
  obtain ⟨ps, _, rfl, _⟩ := h.slice_inv hu
  exact ⟨_, rfl⟩
/-- The elements of a slice, each decoded. -/
theorem dec_all {α : Type} {f : α → List C} {Q : Nat → α → Prop} {w : α → Nat} : ∀ (ps : List (List C)) (ws : List Nat), ws.length = ps.length →
    (∀ i (h1 : i < ps.length) (h2 : i < ws.length), ∃ x : α, ps[i] = f x ∧ w x ≤ ws[i] ∧ Q ws[i] x) →
    ∃ l : List α, ps = l.map f ∧ (l.map w).sum ≤ ws.sum ∧ ∀ x ∈ l, ∃ k, k ≤ ws.sum ∧ Q k x
  | [], [], _, _ => ⟨[], rfl, Nat.le_refl _, fun x hx => by cases hx⟩
  | p :: ps, [], h, _ => by simp at h
  | [], q :: ws, h, _ => by simp at h
  | p :: ps, q :: ws, h, hx => by
    obtain ⟨x, x1, x2, x3⟩ := hx 0 (by simp) (by simp)
    obtain ⟨l, l1, l2, l3⟩ := dec_all ps ws (by simpa using h) fun i h1 h2 => hx (i + 1) (Nat.succ_lt_succ h1) (Nat.succ_lt_succ h2)
    simp only [List.getElem_cons_zero] at x1 x2 x3
    refine ⟨x :: l, by simp [x1, l1], by simp only [List.map_cons, List.sum_cons]; omega, fun y hy => ?_⟩
    rcases List.mem_cons.1 hy with rfl | hy
    · exact ⟨q, by simp only [List.sum_cons]; omega, x3⟩
    · obtain ⟨k, k1, k2⟩ := l3 y hy
      exact ⟨k, by simp only [List.sum_cons]; omega, k2⟩
theorem sum_pos {α : Type} {w : α → Nat} : ∀ {l : List α}, (∀ x ∈ l, 1 ≤ w x) → l.length ≤ (l.map w).sum
  | [], _ => Nat.le_refl _
  | x :: l, h => by
    have h1 := sum_pos (l := l) fun y hy => h y (List.mem_cons_of_mem _ hy)
    have h2 := h x (List.mem_cons_self ..)
    simp only [List.length_cons, List.map_cons, List.sum_cons]
    omega
theorem mem_sum {α : Type} {w : α → Nat} : ∀ {l : List α} {x : α}, x ∈ l → w x ≤ (l.map w).sum
  | y :: l, x, h => by
    simp only [List.map_cons, List.sum_cons]
    rcases List.mem_cons.1 h with rfl | h
    · omega
    · have := mem_sum (w := w) h
      omega
end
end Go.Proofs.YtfndkemgjhajnaaDoor
namespace Go.Proofs.YtfndkemgjhajnaaDoor
open Go Go.Pe Go.Tab Go.RowKit Go.ChangeShapes Go.Deep

def clC (c : Cl) : List C := [cstr (strL c.tb), cstr (strL c.nm), ci c.ty]
def colsC (l : List Cl) : C := .sl (l.map clC).flatten l.length
mutual
def tmC : Tm → List C
  | .mk op v d a nm ks sub ty => [ci op, ci v.k, ci v.n, cstr v.s, ci d, ci a, cstr (strL nm), .sl (tmsC ks) ks.length, sub, ci ty]
def tmsC : List Tm → List C
  | [] => []
  | t :: r => tmC t ++ tmsC r
end
def termsC (l : List Tm) : C := .sl (tmsC l) l.length
mutual
def pnC : Pn → List C
  | .mk op tb ix cols kids terms lk rk r est cost => [ci op, cstr (strL tb), cstr (strL ix), colsC cols, .sl (pnsC kids) kids.length, termsC terms, termsC lk, termsC rk, r 0, r 1, r 2, r 3, r 4, r 5, r 6, r 7, r 8, r 9, r 10, r 11, r 12, ci est, ci cost]
def pnsC : List Pn → List C
  | [] => []
  | p :: r => pnC p ++ pnsC r
end
def plansC (l : List Pn) : C := .sl (pnsC l) l.length
def intsC (l : List Int) : C := .sl (l.map ci) l.length
theorem tmsC_eq : ∀ l : List Tm, tmsC l = (l.map tmC).flatten
  | [] => rfl
  | t :: r => by rw [tmsC, List.map_cons, List.flatten_cons, tmsC_eq r]
theorem pnsC_eq : ∀ l : List Pn, pnsC l = (l.map pnC).flatten
  | [] => rfl
  | t :: r => by rw [pnsC, List.map_cons, List.flatten_cons, pnsC_eq r]
theorem strL_of (s : ByteArray) : ∃ l : List UInt8, s = strL l ∧ l.length = s.size := ⟨s.data.toList, by simp [strL], by simp⟩

theorem dec_val {cs : List C} {m : Nat} (h : Pl Tryd.prog 43 cs m) : ∃ v : V, cs = valC v ∧ v.s.size + 4 ≤ m ∧ I64 v.k ∧ I64 v.n := by
  obtain ⟨ps, ws, rfl, hp, hl, hx, hm⟩ := h.struct_inv Tryd.underlying43
  match ps, hp, ws, hl with
  | [p0, p1, p2], _, [w0, w1, w2], _ =>
    obtain ⟨k, k1, k2⟩ := (hx 0 (by decide) (by simp) (by simp)).int_inv Tryd.underlying3
    obtain ⟨n, n1, n2⟩ := (hx 1 (by decide) (by simp) (by simp)).int_inv Tryd.underlying3
    obtain ⟨s, s1, s2⟩ := (hx 2 (by decide) (by simp) (by simp)).str_inv Tryd.underlying9
    have q0 := (hx 0 (by decide) (by simp) (by simp)).pos
    have q1 := (hx 1 (by decide) (by simp) (by simp)).pos
    simp only [List.getElem_cons_zero, List.getElem_cons_succ] at k1 n1 s1 s2 q0 q1
    subst k1; subst n1; subst s1
    simp only [List.sum_cons, List.sum_nil] at hm
    exact ⟨⟨k, n, s⟩, rfl, by show s.size + 4 ≤ m; omega, k2, n2⟩
theorem dec_col {cs : List C} {m : Nat} (h : Pl Tryd.prog 54 cs m) : ∃ c : Cl, cs = clC c ∧ c.wt ≤ m := by
  obtain ⟨ps, ws, rfl, hp, hl, hx, hm⟩ := h.struct_inv Tryd.underlying54
  match ps, hp, ws, hl with
  | [p0, p1, p2], _, [w0, w1, w2], _ =>
    obtain ⟨s, s1, s2⟩ := (hx 0 (by decide) (by simp) (by simp)).str_inv Tryd.underlying9
    obtain ⟨q, q1, q2⟩ := (hx 1 (by decide) (by simp) (by simp)).str_inv Tryd.underlying9
    obtain ⟨n, n1, n2⟩ := (hx 2 (by decide) (by simp) (by simp)).int_inv Tryd.underlying3
    have q0 := (hx 2 (by decide) (by simp) (by simp)).pos
    simp only [List.getElem_cons_zero, List.getElem_cons_succ] at s1 s2 q1 q2 n1 q0
    obtain ⟨a, rfl, a2⟩ := strL_of s
    obtain ⟨b, rfl, b2⟩ := strL_of q
    subst s1; subst q1; subst n1
    simp only [List.sum_cons, List.sum_nil] at hm
    exact ⟨⟨a, b, n⟩, rfl, by simp only [Cl.wt]; omega⟩
theorem dec_cols {cs : List C} {m : Nat} (h : Pl Tryd.prog 22 cs m) : ∃ l : List Cl, cs = [colsC l] ∧ (l.map Cl.wt).sum + 1 ≤ m := by
  obtain ⟨ps, ws, rfl, hl, hx, hm⟩ := h.slice_inv Tryd.underlying22
  obtain ⟨l, rfl, l2, _⟩ := dec_all (f := clC) (w := Cl.wt) (Q := fun _ _ => True) ps ws hl fun i h1 h2 => by
    obtain ⟨c, c1, c2⟩ := dec_col (hx i h1 h2)
    exact ⟨c, c1, c2, trivial⟩
  exact ⟨l, by simp [colsC], by omega⟩
theorem dec_ints {cs : List C} {m : Nat} (h : Pl Tryd.prog 27 cs m) : ∃ l : List Int, cs = [intsC l] ∧ l.length + 1 ≤ m ∧ ∀ n ∈ l, I64 n := by
  obtain ⟨ps, ws, rfl, hl, hx, hm⟩ := h.slice_inv Tryd.underlying27
  obtain ⟨l, rfl, l2, l3⟩ := dec_all (f := fun n => [ci n]) (w := fun _ => 1) (Q := fun _ n => I64 n) ps ws hl fun i h1 h2 => by
    obtain ⟨n, n1, n2⟩ := (hx i h1 h2).int_inv Tryd.underlying3
    exact ⟨n, n1, (hx i h1 h2).pos, n2⟩
  have e : ∀ l : List Int, (l.map fun n => [ci n]).flatten = l.map ci := fun l => by
    induction l with
    | nil => rfl
    | cons x l ih => simp [ih]
  refine ⟨l, by simp only [intsC, e, List.length_map], ?_, fun n hn => by obtain ⟨_, _, h⟩ := l3 n hn; exact h⟩
  have : ∀ l : List Int, (l.map fun _ => 1).sum = l.length := fun l => by
    induction l with
    | nil => rfl
    | cons x l ih => simp [ih]; omega
  rw [this] at l2
  omega
theorem wts_sum : ∀ l : List Tm, Tm.wts l = (l.map Tm.wt).sum
  | [] => rfl
  | t :: r => by rw [Tm.wts, List.map_cons, List.sum_cons, wts_sum r]
theorem wt_pos (t : Tm) : 10 ≤ t.wt := by cases t; simp only [Tm.wt]; omega
theorem wts_len (l : List Tm) : l.length ≤ Tm.wts l := by
  rw [wts_sum]
  exact sum_pos fun x _ => Nat.le_trans (by omega) (wt_pos x)

def TermSaid (cs : List C) (m : Nat) : Prop := ∃ x : Tm, cs = tmC x ∧ x.wt ≤ m ∧ (m ≤ 1048576 → TmOk x)
def TermsSaid (cs : List C) (m : Nat) : Prop := ∃ l : List Tm, cs = [termsC l] ∧ Tm.wts l + 1 ≤ m ∧ (m ≤ 1048576 → TmsOk l)
theorem dec_terms {t : TypeId} {cs : List C} {m : Nat} (h : Pl Tryd.prog t cs m) : (t = 46 → TermSaid cs m) ∧ (t = 24 → TermsSaid cs m) := by
  induction h with
  | int hu => exact ⟨fun e => (by subst e; rw [Tryd.underlying46] at hu; cases hu), fun e => (by subst e; rw [Tryd.underlying24] at hu; cases hu)⟩
  | bool hu => exact ⟨fun e => (by subst e; rw [Tryd.underlying46] at hu; cases hu), fun e => (by subst e; rw [Tryd.underlying24] at hu; cases hu)⟩
  | str hu => exact ⟨fun e => (by subst e; rw [Tryd.underlying46] at hu; cases hu), fun e => (by subst e; rw [Tryd.underlying24] at hu; cases hu)⟩
  | @slice t e ps ws m n hu hp hl h hc hn hm ih =>
    refine ⟨fun e => (by subst e; rw [Tryd.underlying46] at hu; cases hu), fun e => ?_⟩
    subst e
    rw [Tryd.underlying24] at hu
    cases hu
    subst hp
    obtain ⟨l, rfl, l2, l3⟩ := dec_all (f := tmC) (w := Tm.wt) (Q := fun k x => k ≤ 1048576 → TmOk x) ps ws hl fun i h1 h2 => (ih i h1 h2).1 rfl
    refine ⟨l, by simp only [termsC, tmsC_eq, List.length_map], by rw [wts_sum]; omega, fun hb => (TmsOk_iff l).2 fun x hx => ?_⟩
    obtain ⟨k, k1, k2⟩ := l3 x hx
    exact k2 (by omega)
  | @struct t fs ps ws m hu hp hl h hm ih =>
    refine ⟨fun e => ?_, fun e => (by subst e; rw [Tryd.underlying24] at hu; cases hu)⟩
    subst e
    rw [Tryd.underlying46] at hu
    cases hu
    match ps, hp, ws, hl with
    | [p0, p1, p2, p3, p4, p5, p6, p7], _, [w0, w1, w2, w3, w4, w5, w6, w7], _ =>
      have h0 := h 0 (by decide) (by simp) (by simp)
      have h1 := h 1 (by decide) (by simp) (by simp)
      have h2 := h 2 (by decide) (by simp) (by simp)
      have h3 := h 3 (by decide) (by simp) (by simp)
      have h4 := h 4 (by decide) (by simp) (by simp)
      have h5 := (ih 5 (by decide) (by simp) (by simp)).2 rfl
      have h6 := h 6 (by decide) (by simp) (by simp)
      have h7 := h 7 (by decide) (by simp) (by simp)
      simp only [List.getElem_cons_zero, List.getElem_cons_succ] at h0 h1 h2 h3 h4 h5 h6 h7
      obtain ⟨op, rfl, i0⟩ := h0.int_inv Tryd.underlying3
      obtain ⟨v, rfl, i1, i1k, i1n⟩ := dec_val h1
      obtain ⟨d, rfl, i2⟩ := h2.int_inv Tryd.underlying3
      obtain ⟨a, rfl, i3⟩ := h3.int_inv Tryd.underlying3
      obtain ⟨s, rfl, i4⟩ := h4.str_inv Tryd.underlying9
      obtain ⟨ks, rfl, i5, i5o⟩ := h5
      obtain ⟨sub, rfl⟩ := h6.one_inv Tryd.underlying44
      obtain ⟨ty, rfl, i7⟩ := h7.int_inv Tryd.underlying3
      obtain ⟨nm, rfl, j4⟩ := strL_of s
      have q0 := h0.pos; have q2 := h2.pos; have q3 := h3.pos; have q6 := h6.pos; have q7 := h7.pos
      have hk := wts_len ks
      simp only [List.sum_cons, List.sum_nil] at hm
      refine ⟨.mk op v d a nm ks sub ty, rfl, ?_, fun hb => ?_⟩
      · simp only [Tm.wt]; omega
      · simp only [TmOk]
        exact ⟨i0, i1k, i1n, by omega, i2, i3, by omega, by omega, i5o (by omega)⟩
end Go.Proofs.YtfndkemgjhajnaaDoor
namespace Go.Tab
open Go Go.Pe

theorem join_snoc (sep x : List UInt8) : ∀ l : List (List UInt8), l ≠ [] → Lib.join (l ++ [x]) sep = Lib.join l sep ++ sep ++ x
  | [], h => absurd rfl h
  | y :: r, _ => by
    rw [List.cons_append, Lib.join_cons, Lib.join_cons]
    simp only [Lib.joinTail, List.map_append, List.flatten_append, List.map_cons, List.map_nil, List.flatten_cons, List.flatten_nil, List.append_nil, List.append_assoc]
/-- The pieces of a node's line. -/
def p1 (op : Int) : List (List UInt8) := [wordL op]
def p2 (op : Int) (tb : List UInt8) : List (List UInt8) := if tb = [] then p1 op else p1 op ++ [tb]
def p3 (op : Int) (tb ix : List UInt8) : List (List UInt8) := if op = 2 then p2 op tb ++ [[98, 121], ix] else p2 op tb
def p4 (op : Int) (tb ix : List UInt8) (kids : List Pn) (lk rk : List Tm) : List (List UInt8) := if lk ≠ [] ∧ rk ≠ [] then p3 op tb ix ++ [[111, 110], keysL kids lk rk] else p3 op tb ix
def p5 (p : Pn) : List (List UInt8) := match p with
  | .mk op tb ix cols kids terms lk rk r est cost => if terms = [] then p4 op tb ix kids lk rk else p4 op tb ix kids lk rk ++ [termsL (.mk op tb ix cols kids terms lk rk r est cost) terms]
def p6 (p : Pn) (rows : List UInt8) : List (List UInt8) := match p with
  | .mk op tb ix cols kids terms lk rk r est cost => p5 (.mk op tb ix cols kids terms lk rk r est cost) ++ [[101, 115, 116], Lib.itoa est, [99, 111, 115, 116], Lib.itoa cost, [114, 111, 119, 115], rows]
theorem join_snoc2 (sep x y : List UInt8) (l : List (List UInt8)) (h : l ≠ []) : Lib.join (l ++ [x, y]) sep = Lib.join l sep ++ sep ++ x ++ sep ++ y := by
  rw [show l ++ [x, y] = (l ++ [x]) ++ [y] by simp, join_snoc _ _ _ (by simp), join_snoc _ _ _ h]
theorem p2_ne (op : Int) (tb : List UInt8) : p2 op tb ≠ [] := by unfold p2 p1; split <;> simp
theorem p3_ne (op : Int) (tb ix : List UInt8) : p3 op tb ix ≠ [] := by unfold p3; split; simp; exact p2_ne _ _
theorem p4_ne (op : Int) (tb ix : List UInt8) (kids : List Pn) (lk rk : List Tm) : p4 op tb ix kids lk rk ≠ [] := by unfold p4; split; simp; exact p3_ne _ _ _
theorem p5_ne (p : Pn) : p5 p ≠ [] := by cases p; unfold p5; simp only; split; exact p4_ne _ _ _ _ _ _; simp
theorem join_p6 (p : Pn) (rows : List UInt8) : Lib.join (p6 p rows) [32] = lineL p rows := by
  cases p with
  | mk op tb ix cols kids terms lk rk r est cost =>
    have h1 : Lib.join (p1 op) [32] = wordL op := Lib.join_one _ _
    have h2 : Lib.join (p2 op tb) [32] = if tb = [] then wordL op else wordL op ++ [32] ++ tb := by
      unfold p2
      split
      · exact h1
      · rw [join_snoc _ _ _ (by simp [p1]), h1]
    have h3 : Lib.join (p3 op tb ix) [32] = if op = 2 then (if tb = [] then wordL op else wordL op ++ [32] ++ tb) ++ [32, 98, 121, 32] ++ ix else (if tb = [] then wordL op else wordL op ++ [32] ++ tb) := by
      unfold p3
      split
      · rw [join_snoc2 _ _ _ _ (p2_ne _ _), h2]; simp
      · exact h2
    have h4 : Lib.join (p4 op tb ix kids lk rk) [32] = if lk ≠ [] ∧ rk ≠ [] then Lib.join (p3 op tb ix) [32] ++ [32, 111, 110, 32] ++ keysL kids lk rk else Lib.join (p3 op tb ix) [32] := by
      unfold p4
      split
      · rw [join_snoc2 _ _ _ _ (p3_ne _ _ _)]; simp
      · rfl
    have h5 : Lib.join (p5 (.mk op tb ix cols kids terms lk rk r est cost)) [32] = if terms = [] then Lib.join (p4 op tb ix kids lk rk) [32] else Lib.join (p4 op tb ix kids lk rk) [32] ++ [32] ++ termsL (.mk op tb ix cols kids terms lk rk r est cost) terms := by
      unfold p5
      simp only
      split
      · rfl
      · rw [join_snoc _ _ _ (p4_ne _ _ _ _ _ _)]
    unfold p6 lineL
    simp only
    rw [show ∀ l : List (List UInt8), l ++ [[101, 115, 116], Lib.itoa est, [99, 111, 115, 116], Lib.itoa cost, [114, 111, 119, 115], rows] = ((l ++ [[101, 115, 116], Lib.itoa est]) ++ [[99, 111, 115, 116], Lib.itoa cost]) ++ [[114, 111, 119, 115], rows] from fun l => by simp]
    rw [join_snoc2 _ _ _ _ (by simp), join_snoc2 _ _ _ _ (by simp), join_snoc2 _ _ _ _ (p5_ne _), h5, h4, h3]
    simp only [List.append_assoc, List.cons_append, List.nil_append]

theorem blanks_succ (n : Nat) : blanks (n + 1) = [32, 32] ++ blanks n := by simp [blanks, List.replicate_succ]
theorem rows_none (i : Nat) : rowsL [] i = [45] := rfl
mutual
theorem under_shift : ∀ (p : Pn) (deep i j : Nat), underF [] (deep + 1) i p = (underF [] deep j p).map fun s => [32, 32] ++ s
  | .mk op tb ix cols kids terms lk rk r est cost, deep, i, j => by
    simp only [underF, List.map_cons, rows_none]
    rw [unders_shift kids (deep + 1) (i + 1) (j + 1), blanks_succ, List.append_assoc]
theorem unders_shift : ∀ (l : List Pn) (deep i j : Nat), undersF [] (deep + 1) i l = (undersF [] deep j l).map fun s => [32, 32] ++ s
  | [], _, _, _ => rfl
  | p :: r, deep, i, j => by
    simp only [undersF, List.map_append]
    rw [under_shift p deep i j, unders_shift r deep (i + nodesN p) (j + nodesN p)]
end
theorem line_ends (p : Pn) (rows : List UInt8) : ∃ a, lineL p rows = a ++ ([32, 114, 111, 119, 115, 32] ++ rows) := by
  cases p with
  | mk op tb ix cols kids terms lk rk r est cost =>
    unfold lineL
    simp only
    exact ⟨_, List.append_assoc _ _ _⟩
mutual
theorem under_ends (counts : List Int) : ∀ (p : Pn) (deep i k : Nat) (s : List UInt8), (underF counts deep i p)[k]? = some s → ∃ a, s = a ++ ([32, 114, 111, 119, 115, 32] ++ rowsL counts (i + k))
  | .mk op tb ix cols kids terms lk rk r est cost, deep, i, k, s, h => by
    rw [underF] at h
    cases k with
    | zero =>
      simp only [List.getElem?_cons_zero, Option.some.injEq] at h
      obtain ⟨a, ha⟩ := line_ends (.mk op tb ix cols kids terms lk rk r est cost) (rowsL counts i)
      rw [ha] at h
      exact ⟨blanks deep ++ a, by rw [← h, Nat.add_zero, List.append_assoc]⟩
    | succ k =>
      simp only [List.getElem?_cons_succ] at h
      obtain ⟨a, ha⟩ := unders_ends counts kids (deep + 1) (i + 1) k s h
      exact ⟨a, by rw [ha, show i + 1 + k = i + (k + 1) by omega]⟩
theorem unders_ends (counts : List Int) : ∀ (l : List Pn) (deep i k : Nat) (s : List UInt8), (undersF counts deep i l)[k]? = some s → ∃ a, s = a ++ ([32, 114, 111, 119, 115, 32] ++ rowsL counts (i + k))
  | [], _, _, _, _, h => by simp [undersF] at h
  | p :: r, deep, i, k, s, h => by
    rw [undersF] at h
    by_cases hk : k < (underF counts deep i p).length
    · rw [List.getElem?_append_left hk] at h
      exact under_ends counts p deep i k s h
    · rw [List.getElem?_append_right (by omega), underF_len] at h
      rw [underF_len] at hk
      obtain ⟨a, ha⟩ := unders_ends counts r deep (i + nodesN p) (k - nodesN p) s h
      exact ⟨a, by rw [ha, show i + nodesN p + (k - nodesN p) = i + k by omega]⟩
end
end Go.Tab
namespace Go.Proofs.YtfndkemgjhajnaaDoor
open Go Go.Pe Go.Tab

theorem cat_u {P : Program} {T : TT} {t : Nat} {u : Option TypeDesc} (a b : List UInt8) : binX P T t u .add (.of (.lit (.string (strL a)))) (.of (.lit (.string (strL b)))) = if a.length + b.length ≤ SLIM then out (xstr (strL (a ++ b))) else none := by
  rw [Z1u, size_strL, size_strL, strL_app]
theorem zeroX_at (u : TypeDesc) (n b : Nat) (a : Bool) (z : List Value) (f : List (Nat × Nat)) : zeroX ⟨u, n, b, a, z, f⟩ = z.map ofVal := rfl
theorem lit_strL (l : List UInt8) : (ByteArray.mk l.toArray) = strL l := rfl
theorem strL_eq (a b : List UInt8) : (strL a = strL b) = (a = b) := propext ⟨strL_inj, fun h => h ▸ rfl⟩

def fl {α : Type} (f : α → List C) (l : List α) : List C := (l.map f).flatten
section
variable {α : Type} {f : α → List C} {z : Nat} (hz : ∀ x, (f x).length = z)
include hz
theorem fl_len (l : List α) : (fl f l).length = l.length * z := by
  induction l with
  | nil => simp [fl]
  | cons x l ih =>
    simp only [fl, List.map_cons, List.flatten_cons, List.length_append, List.length_cons] at ih ⊢
    rw [ih, hz, Nat.succ_mul, Nat.add_comm]
theorem fl_drop (l : List α) (k : Nat) : (fl f l).drop (k * z) = fl f (l.drop k) := by
  induction k generalizing l with
  | zero => simp
  | succ k ih =>
    cases l with
    | nil => simp [fl]
    | cons x l =>
      rw [List.drop_succ_cons, ← ih l, Nat.succ_mul, Nat.add_comm, ← List.drop_drop]
      simp only [fl, List.map_cons, List.flatten_cons]
      have h0 : (f x).drop z = [] := List.drop_of_length_le (by rw [hz]; exact Nat.le_refl _)
      rw [List.drop_append_of_le_length (by rw [hz]; exact Nat.le_refl _), h0, List.nil_append]
theorem ia_fl {T : TT} {t e : Nat} {d : TD} (hE : Pe.elemOf T t = some (e, d)) (hd : d.size = z) (hz0 : 0 < z) (l : List α) (x : X) (hx : asSl x = some (fl f l, l.length)) (k : Nat) (h : k < l.length) :
    indexAddrX T t x (xint k) = out (.of (.ref (fl f (l.drop k)))) := by
  unfold Pe.elemOf at hE
  split at hE
  · rename_i e' sz by_ ag ze fi hT
    simp only [Option.map_eq_some_iff, Prod.mk.injEq] at hE
    obtain ⟨d', hd', rfl, rfl⟩ := hE
    simp only [indexAddrX, litInt, hT, hd', hx]
    rw [if_pos ⟨by omega, by omega, by rw [fl_len hz, hd], by omega⟩]
    simp only [Int.toNat_natCast]
    rw [hd, fl_drop hz]
  · cases hE
end
theorem fl_at {α : Type} (f : α → List C) (l : List α) (k : Nat) (h : k < l.length) : fl f (l.drop k) = f l[k] ++ fl f (l.drop (k + 1)) := by
  show ((l.drop k).map f).flatten = _
  rw [List.drop_eq_getElem_cons h, List.map_cons, List.flatten_cons]
  rfl
def c1 (c : C) : List C := [c]
def txC (l : List (List UInt8)) : List C := l.map fun s => cstr (strL s)
theorem txC_strs (l : List (List UInt8)) : txC l = strsC (l.map strL) := by simp [txC, strsC]
theorem data_strL (l : List (List UInt8)) : (l.map strL).map (·.data.toList) = l := by
  rw [List.map_map]
  conv => rhs; rw [← List.map_id l]
  exact List.map_congr_left fun s _ => by simp [strL]
theorem join_k (l : List (List UInt8)) (sep : List UInt8) (K : An → Prop) (h1 : l.length ≤ 140737488355328) (h2 : (Lib.join l sep).length ≤ 140737488355328) :
    CallK Tryd.prog pr 26 [.of (.sl (txC l) l.length), .of (cstr (strL sep))] [] K ↔ K ⟨false, [xstr (strL (Lib.join l sep))], []⟩ := by
  refine Gives.k (Gives.of_prim (show joinP [.of (.sl (txC l) l.length), .of (cstr (strL sep))] [] = _ from ?_)) K
  have hs : (strL sep).data.toList = sep := by simp [strL]
  simp only [joinP, txC_strs, unstrs_at, Option.bind_some, data_strL, hs, List.length_map]
  rw [if_pos ⟨trivial, h1, h2⟩]
  rfl
theorem rep_k (s : List UInt8) (n : Nat) (K : An → Prop) (h1 : n ≤ 9223372036854775807) (h2 : s.length * n ≤ 140737488355328) :
    CallK Tryd.prog pr 41 [.of (cstr (strL s)), .of (ci n)] [] K ↔ K ⟨false, [xstr (strL (Lib.repeatL s n))], []⟩ := by
  refine Gives.k (Gives.of_prim (show repP [.of (cstr (strL s)), .of (ci n)] [] = _ from ?_)) K
  have hs : (strL s).data.toList = s := by simp [strL]
  simp only [repP, hs, Int.toNat_natCast, size_strL]
  rw [if_pos ⟨by omega, by omega, h2⟩]
  rfl

def mapIS (l : List (Int × List UInt8)) : List (Value × C) := l.map fun p => (.int .i64 p.1, cstr (strL p.2))
theorem sameI (a b : Int) : Instr.sameNow (.int .i64) (.int .i64 a) (.int .i64 b) = some (decide (a = b)) := by
  simp only [Instr.sameNow, Option.some.injEq]
  by_cases h : a = b <;> simp [h]
theorem find_IS (n : Int) : ∀ (l : List (Int × List UInt8)) (i : Nat), (lookT l n = none ∧ findX (.int .i64) (.int .i64 n) (mapIS l) i = some none) ∨
    ∃ s j k, lookT l n = some s ∧ findX (.int .i64) (.int .i64 n) (mapIS l) i = some (some (i + j)) ∧ (mapIS l)[j]? = some (k, cstr (strL s))
  | [], i => .inl ⟨rfl, rfl⟩
  | p :: l, i => by
    simp only [mapIS, List.map_cons, findX, sameI, lookT]
    by_cases h : p.1 = n
    · have h' : n = p.1 := h.symm
      right
      exact ⟨p.2, 0, _, by rw [if_pos h], by simp [h'], rfl⟩
    · have h' : ¬ n = p.1 := fun e => h e.symm
      rw [if_neg h, decide_eq_false h']
      rcases find_IS n l (i + 1) with ⟨h1, h2⟩ | ⟨s, j, k, h1, h2, h3⟩
      · exact .inl ⟨h1, h2⟩
      · exact .inr ⟨s, j + 1, k, h1, by rw [show i + (j + 1) = i + 1 + j by omega]; exact h2, h3⟩
def lookX (o : Option (List UInt8)) : List X := match o with
  | some s => [xstr (strL s), xbool true]
  | none => [xstr (strL []), xbool false]
set_option maxRecDepth 100000 in
theorem look_IS {objs : List Ob} {q : Nat} {l : List (Int × List UInt8)} (ho : objs[q]? = some (.map (mapIS l))) (n : Int) : lookupX (TT.of Tryd.prog) objs 63 (.mp q) (.of (.lit (.int .i64 n))) true = out (.tup (lookX (lookT l n))) := by
  have hz : zero1 (TT.of Tryd.prog) 9 = some (xstr (strL [])) := by simp only [zero1, T9]; rfl
  simp only [lookupX, M63, litOf, mapOf, ho]
  rcases find_IS n l 0 with ⟨h1, h2⟩ | ⟨s, j, k, h1, h2, h3⟩
  · simp only [h1, h2, hz, outO, Option.map_some, if_true, lookX]
    rfl
  · simp only [h1, h2, Nat.zero_add, h3, Option.map_some, outO, if_true, lookX]
    rfl
theorem updO_at (s : S) (d : Option Nat) (x : X) (r : Nat) (es : List (Value × C)) : updO s d x r (some es) = some ((s.withO (s.objs.set r (Ob.map es))).put d x) := rfl
set_option maxRecDepth 100000 in
theorem signs_call : Gives Tryd.prog pr 23 [] [] ⟨false, [.mp 0], [.map (mapIS signT)]⟩ := by
  refine by_body rfl ok23 body23 ar23 rfl ?_
  simp -implicitDefEqProofs only [Tryd.f23, ↓zD, zU, Nat.zero_mul, Nat.reduceMul, List.length_map, Tk.nm.injEq, Tk.cell.injEq, false_and, and_false, Nat.le_add_right, Nat.le_refl, ↓reduceIte, Bool.or_false, Bool.false_or, Bool.and_true, Bool.true_and, Bool.false_and, Bool.true_or, Bool.or_true, Option.isNone_none, Option.isNone_some, List.any_cons, List.any_nil, Bool.and_false, Nat.reduceBEq, Nat.reduceLeDiff, Int.reduceLT, Int.reduceEq, Int.reduceLE, Int.reduceAdd, Int.reduceToNat, Int.reduceNeg, Int.cast_ofNat_Int, Nat.reduceLT, List.drop_succ_cons, List.take_succ_cons, List.singleton_append, Nat.zero_add, List.set_cons_zero, List.set_cons_succ, List.drop_nil, List.take_nil, Option.map_some, Option.map_none, Option.getD_some, Option.getD_none, Option.bind_some, List.cons_append, List.nil_append, List.append_nil, List.map_cons, List.map_nil, List.range_zero, List.take_zero, List.flatten_nil, List.filter_nil, List.length_nil, List.length_cons, List.drop_zero, List.not_mem_nil, List.mem_cons, Bool.true_eq_false, Bool.false_eq_true, Nat.reduceEqDiff, Nat.reduceAdd, List.getElem?_toArray, List.toList_toArray, List.getElem?_cons_zero, List.getElem?_cons_succ, decide_eq_true_eq, beq_self_eq_true, beq_true, beq_false, decide_true, decide_false, Bool.not_true, Bool.not_false, true_and, and_true, or_false, false_or, Bool.and_eq_true, reduceCtorEq, not_false_eq_true, Z1u, rv23, SO_insert (ht := M63), mapUpdO, putO, updO_at, obMap, putX, findX, sameI, Int.reduceEq, decide_false, List.cons_append, List.nil_append]
  rfl
set_option maxRecDepth 100000 in
theorem words_call : Gives Tryd.prog pr 38 [] [] ⟨false, [.mp 0], [.map (mapIS wordT)]⟩ := by
  refine by_body rfl ok38 body38 ar38 rfl ?_
  simp -implicitDefEqProofs only [Tryd.f38, ↓zD, zU, Nat.zero_mul, Nat.reduceMul, List.length_map, Tk.nm.injEq, Tk.cell.injEq, false_and, and_false, Nat.le_add_right, Nat.le_refl, ↓reduceIte, Bool.or_false, Bool.false_or, Bool.and_true, Bool.true_and, Bool.false_and, Bool.true_or, Bool.or_true, Option.isNone_none, Option.isNone_some, List.any_cons, List.any_nil, Bool.and_false, Nat.reduceBEq, Nat.reduceLeDiff, Int.reduceLT, Int.reduceEq, Int.reduceLE, Int.reduceAdd, Int.reduceToNat, Int.reduceNeg, Int.cast_ofNat_Int, Nat.reduceLT, List.drop_succ_cons, List.take_succ_cons, List.singleton_append, Nat.zero_add, List.set_cons_zero, List.set_cons_succ, List.drop_nil, List.take_nil, Option.map_some, Option.map_none, Option.getD_some, Option.getD_none, Option.bind_some, List.cons_append, List.nil_append, List.append_nil, List.map_cons, List.map_nil, List.range_zero, List.take_zero, List.flatten_nil, List.filter_nil, List.length_nil, List.length_cons, List.drop_zero, List.not_mem_nil, List.mem_cons, Bool.true_eq_false, Bool.false_eq_true, Nat.reduceEqDiff, Nat.reduceAdd, List.getElem?_toArray, List.toList_toArray, List.getElem?_cons_zero, List.getElem?_cons_succ, decide_eq_true_eq, beq_self_eq_true, beq_true, beq_false, decide_true, decide_false, Bool.not_true, Bool.not_false, true_and, and_true, or_false, false_or, Bool.and_eq_true, reduceCtorEq, not_false_eq_true, Z1u, rv38, SO_insert (ht := M63), mapUpdO, putO, updO_at, obMap, putX, findX, sameI, Int.reduceEq, decide_false, List.cons_append, List.nil_append]
  rfl
end Go.Proofs.YtfndkemgjhajnaaDoor

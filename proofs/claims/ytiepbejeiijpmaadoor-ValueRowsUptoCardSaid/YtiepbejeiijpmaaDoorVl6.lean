/-
  Values that may be, and their texts: plain laws. Conditions: none.
-/
import Derived.Test.YtiepbejeiijpmaaDoorVl2
import Derived.Lib.Replace
import Derived.Lib.DecodeN
import Derived.Shelf.GgClosure.StringsIndexFunc
namespace Go.Tab

/-- A text with its quotes doubled. -/
def quoteL : List UInt8 → List UInt8
  | [] => []
  | b :: r => if b = 39 then 39 :: 39 :: quoteL r else b :: quoteL r
theorem quoteL_len : ∀ l : List UInt8, (quoteL l).length ≤ 2 * l.length
  | [] => Nat.le_refl _
  | b :: l => by
    have := quoteL_len l
    unfold quoteL
    split <;> simp only [List.length_cons] <;> omega
theorem quoteL_snoc : ∀ (l : List UInt8) (b : UInt8), quoteL (l ++ [b]) = quoteL l ++ (if b = 39 then [39, 39] else [b])
  | [], b => by unfold quoteL; split <;> simp_all [quoteL]
  | a :: l, b => by
    have := quoteL_snoc l b
    simp only [List.cons_append, quoteL, this]
    split <;> rfl
theorem quoteL_inj : ∀ l q : List UInt8, quoteL l = quoteL q → l = q
  | [], [], _ => rfl
  | [], b :: q, h => by
    simp only [quoteL] at h
    split at h <;> cases h
  | a :: l, [], h => by
    simp only [quoteL] at h
    split at h <;> cases h
  | a :: l, b :: q, h => by
    simp only [quoteL] at h
    split at h
    · rename_i ha
      split at h
      · rename_i hb
        simp only [List.cons.injEq, true_and] at h
        rw [ha, hb, quoteL_inj l q h]
      · rename_i hb
        simp only [List.cons.injEq] at h
        exact absurd h.1.symm hb
    · rename_i ha
      split at h
      · rename_i hb
        simp only [List.cons.injEq] at h
        exact absurd h.1 ha
      · simp only [List.cons.injEq] at h
        rw [h.1, quoteL_inj l q h.2]
theorem replaceK_quote : ∀ (s : List UInt8) (k : Nat), s.count 39 ≤ k → Lib.replaceK [39] [39, 39] k s = quoteL s
  | [], 0, _ => rfl
  | [], k + 1, _ => by simp [Lib.replaceK, Lib.index, quoteL]
  | b :: l, k, h => by
    by_cases hb : b = 39
    · subst hb
      rw [List.count_cons_self] at h
      obtain ⟨k, rfl⟩ : ∃ q, k = q + 1 := ⟨k - 1, by omega⟩
      have ih := replaceK_quote l k (by omega)
      have hi : Lib.index (39 :: l) [39] = 0 := by simp [Lib.index]
      rw [Lib.replaceK_hit [39] [39, 39] k (39 :: l) 0 (by simpa using hi)]
      simp only [List.take_zero, List.nil_append, List.length_cons, List.length_nil, Nat.zero_add, List.drop_succ_cons, List.drop_zero, ih, quoteL, if_true]
      rfl
    · rw [List.count_cons_of_ne (fun e => hb e)] at h
      have e1 : quoteL (b :: l) = b :: quoteL l := by simp [quoteL, hb]
      rw [e1]
      cases k with
      | zero =>
        have ih := replaceK_quote l 0 h
        simp only [Lib.replaceK] at ih ⊢
        rw [← ih]
      | succ k =>
        have ih := replaceK_quote l (k + 1) h
        rw [← ih]
        have hp : ¬ ([39] : List UInt8).isPrefixOf (b :: l) = true := by simp; exact fun e => hb e.symm
        have hi : Lib.index (b :: l) [39] = if Lib.index l [39] == -1 then -1 else Lib.index l [39] + 1 := by rw [Lib.index, if_neg hp]
        have hge := Lib.index_ge l [39]
        by_cases hm : Lib.index l [39] = -1
        · simp [Lib.replaceK, hi, hm]
        · obtain ⟨i, hi2⟩ : ∃ i : Nat, Lib.index l [39] = i := ⟨(Lib.index l [39]).toNat, by omega⟩
          have hi3 : Lib.index (b :: l) [39] = ((i + 1 : Nat) : Int) := by rw [hi, if_neg (by simpa using hm), hi2]; rfl
          rw [Lib.replaceK_hit _ _ k _ _ hi2, Lib.replaceK_hit _ _ k _ _ hi3]
          simp only [List.take_succ_cons, List.cons_append, List.length_cons, List.length_nil, Nat.zero_add, List.drop_succ_cons]
theorem replaceAll_quote (s : List UInt8) : Lib.replaceAll s [39] [39, 39] = quoteL s := by
  unfold Lib.replaceAll Lib.replace
  rw [if_neg (by decide)]
  refine replaceK_quote s _ ?_
  unfold Lib.replaceNum
  rw [if_pos (.inl (by decide)), Lib.count_one]
  exact Nat.le_refl _

/-! values that may be -/
def okB (b : UInt8) : Bool := decide (32 ≤ b.toNat) && decide (b.toNat ≤ 126)
def plainB (s : ByteArray) : Bool := s.data.toList.all okB && decide (s.size ≤ 100)
def inB (n : Int) : Bool := decide (-1000000000000000 ≤ n) && decide (n ≤ 1000000000000000)
def rightB (v : V) : Bool :=
  if v.k = 0 then decide (v.n = 0) && decide (v.s = ByteArray.empty)
  else if v.k = 1 then (decide (v.n = 0) || decide (v.n = 1)) && decide (v.s = ByteArray.empty)
  else if v.k = 2 then inB v.n && decide (v.s = ByteArray.empty)
  else if v.k = 3 then decide (v.n = 0) && plainB v.s
  else false
/-- What value.odd says of a rune. -/
def oddR (r : Nat) : Bool := decide (r < 32) || decide (126 < r)
theorem decodeN_big (n b0 b1 b2 b3 : Nat) (h : 128 ≤ b0) : 126 < (Lib.decodeN n b0 b1 b2 b3).1 := by
  unfold Lib.decodeN
  repeat' split
  all_goals omega
theorem decode_ascii (s : ByteArray) (i : Nat) (h : (s.get! i).toNat < 128) : Utf8.decode s i = ((s.get! i).toNat, 1) := by
  rw [Lib.decode_at, Lib.decodeN, if_pos h]
theorem get_list (s : ByteArray) (i : Nat) (h : i < s.size) : s.data.toList[i]? = some (s.get! i) := by
  obtain ⟨⟨l⟩⟩ := s
  have h : i < l.length := h
  show l[i]? = some ((⟨l⟩ : Array UInt8)[i]!)
  rw [List.getElem?_eq_getElem h, getElem!_pos (⟨l⟩ : Array UInt8) i h]
  rfl
theorem idx_plain (s : ByteArray) : ∀ (f pos : Nat), s.size ≤ pos + f → (Lib.idxFuncFrom oddR true s f pos < 0 ↔ (s.data.toList.drop pos).all okB = true)
  | 0, pos, h => by
    have : s.data.toList.drop pos = [] := List.drop_eq_nil_of_le (by simp only [Array.length_toList]; exact h)
    rw [this]
    simp [Lib.idxFuncFrom]
  | f + 1, pos, h => by
    unfold Lib.idxFuncFrom
    by_cases hp : pos < s.size
    · rw [if_pos hp]
      have hg := get_list s pos hp
      obtain ⟨hl, hg2⟩ := List.getElem?_eq_some_iff.1 hg
      rw [List.drop_eq_getElem_cons hl, hg2, List.all_cons]
      by_cases hb : (s.get! pos).toNat < 128
      · rw [decode_ascii s pos hb]
        simp only
        by_cases ho : oddR (s.get! pos).toNat = true
        · rw [if_pos ho]
          have : okB (s.get! pos) = false := by
            simp only [oddR, Bool.or_eq_true, decide_eq_true_eq] at ho
            simp only [okB, Bool.and_eq_false_iff, decide_eq_false_iff_not]
            omega
          rw [this]
          simp
        · rw [if_neg ho]
          have : okB (s.get! pos) = true := by
            simp only [oddR, Bool.or_eq_true, decide_eq_true_eq] at ho
            simp only [okB, Bool.and_eq_true, decide_eq_true_eq]
            omega
          rw [this, Bool.true_and]
          exact idx_plain s f (pos + 1) (by omega)
      · have ho : oddR (Utf8.decode s pos).1 = true := by
          rw [Lib.decode_at]
          have := decodeN_big (s.size - pos) (s.get! pos).toNat (s.get! (pos + 1)).toNat (s.get! (pos + 2)).toNat (s.get! (pos + 3)).toNat (by omega)
          simp only [oddR, Bool.or_eq_true, decide_eq_true_eq]
          exact .inr this
        rw [if_pos ho]
        have : okB (s.get! pos) = false := by
          simp only [okB, Bool.and_eq_false_iff, decide_eq_false_iff_not]
          omega
        rw [this]
        simp
    · rw [if_neg hp]
      have : s.data.toList.drop pos = [] := List.drop_eq_nil_of_le (by simp only [Array.length_toList]; exact Nat.le_of_not_lt hp)
      rw [this]
      simp
theorem idx_all (s : ByteArray) : Lib.idxFunc oddR true s < 0 ↔ s.data.toList.all okB = true := by
  have := idx_plain s s.size 0 (by omega)
  simpa [Lib.idxFunc] using this

/-! their texts -/
def nullS : ByteArray := ⟨#[110, 117, 108, 108]⟩
def trueS : ByteArray := ⟨#[116, 114, 117, 101]⟩
def falseS : ByteArray := ⟨#[102, 97, 108, 115, 101]⟩
def strL (l : List UInt8) : ByteArray := ⟨l.toArray⟩
theorem strL_inj {a b : List UInt8} (h : strL a = strL b) : a = b := by
  have := congrArg (fun s : ByteArray => s.data.toList) h
  simpa [strL] using this
def textS (v : V) : ByteArray := if v.k = 1 then (if v.n = 0 then falseS else trueS) else if v.k = 2 then strL (Lib.itoa v.n) else if v.k = 3 then strL (39 :: quoteL v.t ++ [39]) else nullS
theorem digits_range : ∀ (u : Nat), ∀ b ∈ Lib.decDigits u, 48 ≤ b.toNat ∧ b.toNat ≤ 57 := by
  intro u
  induction u using Nat.strongRecOn with
  | _ u ih =>
    intro b hb
    rw [Lib.decDigits] at hb
    have key : ∀ d : Nat, d < 10 → 48 ≤ (UInt8.ofNat (48 + d)).toNat ∧ (UInt8.ofNat (48 + d)).toNat ≤ 57 := by
      intro d hd
      simp
      omega
    split at hb
    · rename_i h
      simp only [List.mem_singleton] at hb
      subst hb
      exact key u h
    · rename_i h
      rcases List.mem_append.1 hb with h1 | h1
      · exact ih (u / 10) (by omega) b h1
      · simp only [List.mem_singleton] at h1
        subst h1
        exact key _ (Nat.mod_lt _ (by omega))
theorem itoa_head (n : Int) : ∃ b r, Lib.itoa n = b :: r ∧ (b = 45 ∨ (48 ≤ b.toNat ∧ b.toNat ≤ 57)) := by
  unfold Lib.itoa
  split
  · exact ⟨_, _, rfl, .inl rfl⟩
  · have hl := Lib.decDigits_length n.toNat
    have := Lib.nDigits_pos n.toNat
    cases hd : Lib.decDigits n.toNat with
    | nil => rw [hd] at hl; simp at hl; omega
    | cons b r => exact ⟨b, r, rfl, .inr (digits_range n.toNat b (by rw [hd]; exact List.mem_cons_self ..))⟩
/-- The first byte. -/
def fst (s : ByteArray) : Option UInt8 := s.data.toList.head?
theorem text_ne (v : V) : textS v ≠ ByteArray.empty := by
  intro h
  have h2 : fst (textS v) = none := by rw [h]; rfl
  unfold textS at h2
  split at h2
  · split at h2 <;> cases h2
  · split at h2
    · obtain ⟨b, r, e, _⟩ := itoa_head v.n
      rw [e] at h2
      cases h2
    · split at h2 <;> cases h2
theorem fst_text (v : V) : (v.k = 0 → fst (textS v) = some 110) ∧ (v.k = 1 → fst (textS v) = some 102 ∨ fst (textS v) = some 116) ∧ (v.k = 2 → ∃ b, fst (textS v) = some b ∧ (b = 45 ∨ (48 ≤ b.toNat ∧ b.toNat ≤ 57))) ∧ (v.k = 3 → fst (textS v) = some 39) := by
  refine ⟨fun h => ?_, fun h => ?_, fun h => ?_, fun h => ?_⟩
  · simp [textS, h]; rfl
  · by_cases hn : v.n = 0
    · exact .inl (by simp [textS, h, hn]; rfl)
    · exact .inr (by simp [textS, h, hn]; rfl)
  · obtain ⟨b, r, e, hb⟩ := itoa_head v.n
    exact ⟨b, by simp [textS, h, e]; rfl, hb⟩
  · simp [textS, h]; rfl
theorem right_kind {v : V} (hv : rightB v = true) : v.k = 0 ∨ v.k = 1 ∨ v.k = 2 ∨ v.k = 3 := by
  unfold rightB at hv
  by_cases h0 : v.k = 0
  · exact .inl h0
  · by_cases h1 : v.k = 1
    · exact .inr (.inl h1)
    · by_cases h2 : v.k = 2
      · exact .inr (.inr (.inl h2))
      · by_cases h3 : v.k = 3
        · exact .inr (.inr (.inr h3))
        · simp [h0, h1, h2, h3] at hv
theorem text_kind {a b : V} (ha : rightB a = true) (hb : rightB b = true) (h : textS a = textS b) : a.k = b.k := by
  have hf : fst (textS a) = fst (textS b) := by rw [h]
  obtain ⟨a0, a1, a2, a3⟩ := fst_text a
  obtain ⟨b0, b1, b2, b3⟩ := fst_text b
  have nd : ∀ x : UInt8, (x = 45 ∨ (48 ≤ x.toNat ∧ x.toNat ≤ 57)) → x ≠ 110 ∧ x ≠ 102 ∧ x ≠ 116 ∧ x ≠ 39 := by
    rintro x (rfl | hx)
    · decide
    · refine ⟨?_, ?_, ?_, ?_⟩ <;> (rintro rfl; revert hx; decide)
  rcases right_kind ha with ka | ka | ka | ka <;> rcases right_kind hb with kb | kb | kb | kb <;> rw [ka, kb] <;> exfalso
  · have := a0 ka; rcases b1 kb with e | e <;> (rw [this, e] at hf; revert hf; decide)
  · obtain ⟨y, e, hy⟩ := b2 kb; rw [a0 ka, e] at hf; exact (nd y hy).1 (Option.some.inj hf).symm
  · rw [a0 ka, b3 kb] at hf; revert hf; decide
  · rcases a1 ka with e | e <;> (rw [b0 kb, e] at hf; revert hf; decide)
  · obtain ⟨y, e, hy⟩ := b2 kb
    rcases a1 ka with e2 | e2
    · rw [e2, e] at hf; exact (nd y hy).2.1 (Option.some.inj hf).symm
    · rw [e2, e] at hf; exact (nd y hy).2.2.1 (Option.some.inj hf).symm
  · rcases a1 ka with e | e <;> (rw [b3 kb, e] at hf; revert hf; decide)
  · obtain ⟨y, e, hy⟩ := a2 ka; rw [b0 kb, e] at hf; exact (nd y hy).1 (Option.some.inj hf)
  · obtain ⟨y, e, hy⟩ := a2 ka
    rcases b1 kb with e2 | e2
    · rw [e2, e] at hf; exact (nd y hy).2.1 (Option.some.inj hf)
    · rw [e2, e] at hf; exact (nd y hy).2.2.1 (Option.some.inj hf)
  · obtain ⟨y, e, hy⟩ := a2 ka; rw [b3 kb, e] at hf; exact (nd y hy).2.2.2 (Option.some.inj hf)
  · rw [b0 kb, a3 ka] at hf; revert hf; decide
  · rcases b1 kb with e | e <;> (rw [a3 ka, e] at hf; revert hf; decide)
  · obtain ⟨y, e, hy⟩ := b2 kb; rw [a3 ka, e] at hf; exact (nd y hy).2.2.2 (Option.some.inj hf).symm
theorem text_inj {a b : V} (ha : rightB a = true) (hb : rightB b = true) (h : textS a = textS b) : a = b := by
  have hk := text_kind ha hb h
  obtain ⟨ak, an, sa⟩ := a
  obtain ⟨bk, bn, sb⟩ := b
  simp only at hk
  subst hk
  have fin : an = bn → sa = sb → (⟨ak, an, sa⟩ : V) = ⟨ak, bn, sb⟩ := fun h1 h2 => by rw [h1, h2]
  have ka := right_kind ha
  simp only at ka
  rcases ka with rfl | rfl | rfl | rfl
  · simp only [rightB, if_true, Bool.and_eq_true, decide_eq_true_eq] at ha hb
    exact fin (ha.1.trans hb.1.symm) (ha.2.trans hb.2.symm)
  · have e1 : ¬ (1 : Int) = 0 := by decide
    simp only [rightB, if_true, if_neg e1, Bool.and_eq_true, Bool.or_eq_true, decide_eq_true_eq] at ha hb
    simp only [textS, if_true] at h
    refine fin ?_ (ha.2.trans hb.2.symm)
    rcases ha.1 with rfl | rfl <;> rcases hb.1 with rfl | rfl
    · rfl
    · simp at h; revert h; decide
    · simp at h; revert h; decide
    · rfl
  · have e1 : ¬ (2 : Int) = 0 := by decide
    have e2 : ¬ (2 : Int) = 1 := by decide
    simp only [rightB, if_true, if_neg e1, if_neg e2, Bool.and_eq_true, decide_eq_true_eq] at ha hb
    simp only [textS, if_neg e2, if_true] at h
    exact fin (itoa_inj (strL_inj h)) (ha.2.trans hb.2.symm)
  · have e1 : ¬ (3 : Int) = 0 := by decide
    have e2 : ¬ (3 : Int) = 1 := by decide
    have e3 : ¬ (3 : Int) = 2 := by decide
    simp only [rightB, if_true, if_neg e1, if_neg e2, if_neg e3, Bool.and_eq_true, decide_eq_true_eq] at ha hb
    simp only [textS, if_neg e2, if_neg e3, if_true] at h
    have h2 := strL_inj h
    simp only [List.cons_append, List.cons.injEq, true_and, List.append_cancel_right_eq] at h2
    exact fin (ha.1.trans hb.1.symm) (toList_inj.1 (quoteL_inj _ _ h2))
end Go.Tab

/-
  A row's name: a text that just the rows have that are the same. Conditions: none.
-/
import Derived.Test.YtiepbejeiijpmaaDoorVl1
namespace Go.Tab

def piece (v : V) : List UInt8 := Lib.itoa v.k ++ [32] ++ (Lib.itoa v.n ++ [32]) ++ (Lib.itoa v.s.size ++ [32]) ++ v.t
def nameF (r : List V) : List UInt8 := (r.map piece).flatten
theorem nameF_nil : nameF [] = [] := rfl
theorem nameF_snoc (r : List V) (k : Nat) (h : k < r.length) : nameF (r.take (k + 1)) = nameF (r.take k) ++ piece r[k] := by
  unfold nameF
  rw [List.take_succ_eq_append_getElem h, List.map_append, List.flatten_append]
  simp

theorem nDigits_le : ∀ (k u : Nat), u < 10 ^ k → 1 ≤ k → Lib.nDigits u ≤ k
  | 0, u, _, h => by omega
  | k + 1, u, h, _ => by
    rw [Lib.nDigits]
    split
    · omega
    · rename_i h1
      have : 1 ≤ k := by
        rcases Nat.eq_zero_or_pos k with e | e
        · subst e; simp at h; omega
        · exact e
      have := nDigits_le k (u / 10) (by rw [Nat.pow_succ] at h; omega) this
      omega
theorem itoa_len (n : Int) (h1 : -9223372036854775808 ≤ n) (h2 : n ≤ 9223372036854775807) : (Lib.itoa n).length ≤ 20 := by
  unfold Lib.itoa
  split
  · rw [List.length_cons, Lib.decDigits_length]
    have := nDigits_le 19 n.natAbs (by omega) (by omega)
    omega
  · rw [Lib.decDigits_length]
    have := nDigits_le 19 n.toNat (by omega) (by omega)
    omega

/-- A digit, or the sign. -/
def dig (b : UInt8) : Prop := b ≠ 32
theorem decDigits_dig : ∀ (u : Nat), ∀ b ∈ Lib.decDigits u, dig b := by
  intro u
  induction u using Nat.strongRecOn with
  | _ u ih =>
    intro b hb
    rw [Lib.decDigits] at hb
    have key : ∀ d : Nat, d < 10 → UInt8.ofNat (48 + d) ≠ 32 := by
      intro d hd e
      have := congrArg UInt8.toNat e
      simp at this
      omega
    split at hb
    · rename_i h
      simp only [List.mem_singleton] at hb
      subst hb
      exact key u h
    · rename_i h
      rcases List.mem_append.1 hb with h1 | h1
      · exact ih (u / 10) (by omega) b h1
      · simp only [List.mem_singleton] at h1
        subst h1
        exact key _ (Nat.mod_lt _ (by omega))
theorem itoa_dig (n : Int) : ∀ b ∈ Lib.itoa n, dig b := by
  intro b hb
  unfold Lib.itoa at hb
  split at hb
  · rcases List.mem_cons.1 hb with rfl | h
    · intro e; cases e
    · exact decDigits_dig _ b h
  · exact decDigits_dig _ b hb

/-- The numeral, read back. -/
def undec (l : List UInt8) : Nat := l.foldl (fun a b => a * 10 + (b.toNat - 48)) 0
theorem undec_dec : ∀ u : Nat, undec (Lib.decDigits u) = u := by
  intro u
  induction u using Nat.strongRecOn with
  | _ u ih =>
    have key : ∀ d : Nat, d < 10 → (UInt8.ofNat (48 + d)).toNat - 48 = d := by
      intro d hd
      simp
      omega
    rw [Lib.decDigits]
    split
    · rename_i h
      simp only [undec, List.foldl_cons, List.foldl_nil, Nat.zero_mul, Nat.zero_add]
      exact key u h
    · rename_i h
      unfold undec
      rw [List.foldl_append]
      have := ih (u / 10) (by omega)
      unfold undec at this
      rw [this]
      simp only [List.foldl_cons, List.foldl_nil, key _ (Nat.mod_lt u (by omega))]
      omega
theorem decDigits_ne (u : Nat) : ∀ r, Lib.decDigits u ≠ 45 :: r := by
  intro r e
  have h : ∀ u : Nat, ∀ b ∈ Lib.decDigits u, 48 ≤ b.toNat := by
    intro u
    induction u using Nat.strongRecOn with
    | _ u ih =>
      intro b hb
      rw [Lib.decDigits] at hb
      split at hb
      · rename_i h
        simp only [List.mem_singleton] at hb
        subst hb
        simp; omega
      · rename_i h
        rcases List.mem_append.1 hb with h1 | h1
        · exact ih (u / 10) (by omega) b h1
        · simp only [List.mem_singleton] at h1
          subst h1
          have := Nat.mod_lt u (show 10 > 0 by omega)
          simp; omega
  have := h u 45 (by rw [e]; simp)
  simp at this
theorem itoa_inj {a b : Int} (h : Lib.itoa a = Lib.itoa b) : a = b := by
  unfold Lib.itoa at h
  split at h
  · split at h
    · have := congrArg undec (List.cons.inj h).2
      rw [undec_dec, undec_dec] at this
      omega
    · exact (decDigits_ne _ _ h.symm).elim
  · split at h
    · exact (decDigits_ne _ _ h).elim
    · have := congrArg undec h
      rw [undec_dec, undec_dec] at this
      omega

/-- Up to the first blank. -/
theorem cut_blank : ∀ (a b x y : List UInt8), (∀ c ∈ a, dig c) → (∀ c ∈ b, dig c) → a ++ 32 :: x = b ++ 32 :: y → a = b ∧ x = y
  | [], [], x, y, _, _, h => ⟨rfl, by simpa using h⟩
  | [], c :: b, x, y, _, hb, h => by
    simp only [List.nil_append, List.cons_append, List.cons.injEq] at h
    exact (hb c (by simp) h.1.symm).elim
  | c :: a, [], x, y, ha, _, h => by
    simp only [List.nil_append, List.cons_append, List.cons.injEq] at h
    exact (ha c (by simp) h.1).elim
  | c :: a, d :: b, x, y, ha, hb, h => by
    simp only [List.cons_append, List.cons.injEq] at h
    obtain ⟨h1, h2⟩ := cut_blank a b x y (fun z hz => ha z (by simp [hz])) (fun z hz => hb z (by simp [hz])) h.2
    exact ⟨by rw [h.1, h1], h2⟩

theorem piece_cut (v w : V) (x y : List UInt8) (h : piece v ++ x = piece w ++ y) : v = w ∧ x = y := by
  unfold piece at h
  simp only [List.append_assoc, List.cons_append, List.nil_append] at h
  obtain ⟨h1, h⟩ := cut_blank _ _ _ _ (itoa_dig _) (itoa_dig _) h
  obtain ⟨h2, h⟩ := cut_blank _ _ _ _ (itoa_dig _) (itoa_dig _) h
  obtain ⟨h3, h⟩ := cut_blank _ _ _ _ (itoa_dig _) (itoa_dig _) h
  have e1 := itoa_inj h1
  have e2 := itoa_inj h2
  have e3 : v.s.size = w.s.size := by have := itoa_inj h3; omega
  have el : v.t.length = w.t.length := by simpa [V.t] using e3
  obtain ⟨h4, h5⟩ := List.append_inj h el
  refine ⟨?_, h5⟩
  cases v; cases w
  simp only at e1 e2
  subst e1; subst e2
  congr 1
  exact toList_inj.1 h4

theorem nameF_inj : ∀ (a b : List V), nameF a = nameF b → a = b
  | [], [], _ => rfl
  | [], w :: b, h => by
    have h' : [] = piece w ++ nameF b := by simpa [nameF] using h
    have := (List.append_eq_nil_iff.1 h'.symm).1
    simp [piece] at this
  | v :: a, [], h => by
    have h' : piece v ++ nameF a = [] := by simpa [nameF] using h
    have := (List.append_eq_nil_iff.1 h').1
    simp [piece] at this
  | v :: a, w :: b, h => by
    have h' : piece v ++ nameF a = piece w ++ nameF b := by simpa [nameF] using h
    obtain ⟨h1, h2⟩ := piece_cut v w _ _ h'
    rw [h1, nameF_inj a b h2]
end Go.Tab

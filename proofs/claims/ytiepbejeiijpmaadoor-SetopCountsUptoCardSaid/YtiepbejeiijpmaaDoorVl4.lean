/-
  How often a row comes in union, intersection and difference. Conditions: none.
-/
import Derived.Test.YtiepbejeiijpmaaDoorT6
namespace Go.Proofs.YtiepbejeiijpmaaDoor
open Go Go.Pe Go.Tab

theorem dis_nodup : ∀ (l out : Rows'), out.Nodup → (disF out l).Nodup
  | [], _, h => h
  | x :: l, out, h => by
    simp only [disF]
    refine dis_nodup l _ ?_
    split
    · exact h
    · rename_i hx
      rw [List.nodup_append]
      refine ⟨h, by simp, ?_⟩
      intro a ha b hb
      simp only [List.mem_singleton] at hb
      subst hb
      rintro rfl
      exact hx ha
theorem count_dis (l : Rows') (r : List V) : (disF [] l).count r = min (l.count r) 1 := by
  rw [(dis_nodup l [] List.nodup_nil).count]
  by_cases h : r ∈ l
  · rw [if_pos ((disF_mem l [] r).2 (.inr h))]
    have := List.count_pos_iff.2 h
    omega
  · rw [if_neg fun e => by
      rcases (disF_mem l [] r).1 e with h1 | h1
      · simp at h1
      · exact h h1]
    rw [List.count_eq_zero.2 h]
    rfl
theorem count_parts (r : List V) : ∀ (a : Rows') (st : Rows' × Rows' × Rows'), (a.foldl stepP st).1.count r = st.1.count r - a.count r ∧ (a.foldl stepP st).2.1.count r = st.2.1.count r + min (a.count r) (st.1.count r) ∧ (a.foldl stepP st).2.2.count r = st.2.2.count r + (a.count r - st.1.count r)
  | [], st => by simp
  | x :: a, st => by
    obtain ⟨l, i, o⟩ := st
    obtain ⟨h1, h2, h3⟩ := count_parts r a (stepP (l, i, o) x)
    simp only [List.foldl_cons]
    rw [h1, h2, h3]
    simp only [stepP]
    by_cases hx : x ∈ l
    · simp only [if_pos hx]
      by_cases e : x = r
      · subst e
        have := List.count_pos_iff.2 hx
        simp only [List.count_erase_self, List.count_append, List.count_cons_self, List.count_nil]
        omega
      · rw [List.count_erase_of_ne (Ne.symm e), List.count_append, List.count_cons_of_ne e, List.count_cons_of_ne e]
        simp
    · simp only [if_neg hx]
      by_cases e : x = r
      · subst e
        have := List.count_eq_zero.2 hx
        simp only [List.count_append, List.count_cons_self, List.count_nil, this]
        omega
      · rw [List.count_append, List.count_cons_of_ne e, List.count_cons_of_ne e]
        simp

/-- How often a row must come: union, intersection, difference. -/
def oftN (m n : Nat) (all : Bool) : Nat × Nat × Nat := if all then (m + n, min m n, m - n) else (min (m + n) 1, min (min m n) 1, min m (1 - n))
theorem count_union (a b : Rows') (r : List V) (all : Bool) : (onceF (a ++ b) all).count r = (oftN (a.count r) (b.count r) all).1 := by
  cases all
  · show (disF [] (a ++ b)).count r = _
    rw [count_dis, List.count_append]
    rfl
  · show (a ++ b).count r = _
    rw [List.count_append]
    rfl
theorem count_inter (a b : Rows') (r : List V) (all : Bool) : (partsF (onceF a all) b).2.1.count r = (oftN (a.count r) (b.count r) all).2.1 := by
  have h := (count_parts r (onceF a all) (b, [], [])).2.1
  unfold partsF
  rw [h]
  cases all
  · show 0 + min ((disF [] a).count r) _ = min (min _ _) 1
    rw [count_dis]
    simp only
    omega
  · show 0 + min (a.count r) _ = min _ _
    simp only
    omega
theorem count_except (a b : Rows') (r : List V) (all : Bool) : (partsF (onceF a all) b).2.2.count r = (oftN (a.count r) (b.count r) all).2.2 := by
  have h := (count_parts r (onceF a all) (b, [], [])).2.2
  unfold partsF
  rw [h]
  cases all
  · show 0 + ((disF [] a).count r - _) = min _ (1 - _)
    rw [count_dis]
    simp only
    omega
  · show 0 + (a.count r - _) = _ - _
    simp only
    omega
end Go.Proofs.YtiepbejeiijpmaaDoor

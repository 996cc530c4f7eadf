/-
  Lists of pairs as maps. Conditions: none.
-/
import Derived.Test.YtiepbejeiijpmaaDoorPa10
namespace Go.Tab
section
variable {α β : Type} [DecidableEq α]
def getR (r : α) : List (α × β) → Option β
  | [] => none
  | p :: L => if p.1 = r then some p.2 else getR r L
def setR (r : α) (x : β) : List (α × β) → List (α × β)
  | [] => [(r, x)]
  | p :: L => if p.1 = r then (r, x) :: L else p :: setR r x L
def delR (r : α) : List (α × β) → List (α × β)
  | [] => []
  | p :: L => if p.1 = r then L else p :: delR r L
def idxR (r : α) : List (α × β) → Option Nat
  | [] => none
  | p :: L => if p.1 = r then some 0 else (idxR r L).map (· + 1)

theorem get_set (r r' : α) (x : β) : ∀ L : List (α × β), getR r' (setR r x L) = if r = r' then some x else getR r' L
  | [] => by simp [setR, getR]
  | p :: L => by
    have ih := get_set r r' x L
    simp only [setR]
    by_cases h : p.1 = r
    · rw [if_pos h]
      by_cases h' : r = r'
      · simp [getR, h']
      · simp only [getR, if_neg h']
        rw [if_neg (by rw [h]; exact h')]
    · rw [if_neg h]
      simp only [getR]
      by_cases h' : p.1 = r'
      · have : r ≠ r' := fun e => h (by rw [h', e])
        rw [if_pos h', if_neg this, if_pos h']
      · rw [if_neg h', if_neg h', ih]
theorem get_none (r : α) : ∀ L : List (α × β), r ∉ L.map (·.1) → getR r L = none
  | [], _ => rfl
  | p :: L, h => by
    simp only [List.map_cons, List.mem_cons, not_or] at h
    simp only [getR]
    rw [if_neg (Ne.symm h.1), get_none r L h.2]
theorem get_del (r r' : α) : ∀ L : List (α × β), (L.map (·.1)).Nodup → getR r' (delR r L) = if r = r' then none else getR r' L
  | [], _ => by simp [delR, getR]
  | p :: L, hn => by
    simp only [List.map_cons, List.nodup_cons] at hn
    have ih := get_del r r' L hn.2
    simp only [delR]
    by_cases h : p.1 = r
    · rw [if_pos h]
      by_cases h' : r = r'
      · rw [if_pos h']
        exact get_none r' L (by rw [← h', ← h]; exact hn.1)
      · rw [if_neg h']
        simp only [getR]
        rw [if_neg (by rw [h]; exact h')]
    · rw [if_neg h]
      simp only [getR]
      by_cases h' : p.1 = r'
      · have : r ≠ r' := fun e => h (by rw [h', e])
        rw [if_pos h', if_neg this, if_pos h']
      · rw [if_neg h', if_neg h', ih]
theorem keys_set (r : α) (x : β) : ∀ (L : List (α × β)) (a : α), a ∈ (setR r x L).map (·.1) → a = r ∨ a ∈ L.map (·.1)
  | [], a, h => by simp [setR] at h; exact .inl h
  | p :: L, a, h => by
    simp only [setR] at h
    by_cases hp : p.1 = r
    · rw [if_pos hp] at h
      simp only [List.map_cons, List.mem_cons] at h ⊢
      rcases h with h | h
      · exact .inl h
      · exact .inr (.inr h)
    · rw [if_neg hp] at h
      simp only [List.map_cons, List.mem_cons] at h ⊢
      rcases h with h | h
      · exact .inr (.inl h)
      · rcases keys_set r x L a h with h | h
        · exact .inl h
        · exact .inr (.inr h)
theorem nodup_set (r : α) (x : β) : ∀ L : List (α × β), (L.map (·.1)).Nodup → ((setR r x L).map (·.1)).Nodup
  | [], _ => by simp [setR]
  | p :: L, hn => by
    simp only [List.map_cons, List.nodup_cons] at hn
    simp only [setR]
    by_cases hp : p.1 = r
    · rw [if_pos hp]
      simp only [List.map_cons, List.nodup_cons]
      rw [← hp]
      exact hn
    · rw [if_neg hp]
      simp only [List.map_cons, List.nodup_cons]
      refine ⟨fun h => ?_, nodup_set r x L hn.2⟩
      rcases keys_set r x L _ h with h | h
      · exact hp h
      · exact hn.1 h
theorem keys_del (r : α) : ∀ (L : List (α × β)) (a : α), a ∈ (delR r L).map (·.1) → a ∈ L.map (·.1)
  | [], a, h => h
  | p :: L, a, h => by
    simp only [delR] at h
    by_cases hp : p.1 = r
    · rw [if_pos hp] at h; simp only [List.map_cons, List.mem_cons]; exact .inr h
    · rw [if_neg hp] at h
      simp only [List.map_cons, List.mem_cons] at h ⊢
      rcases h with h | h
      · exact .inl h
      · exact .inr (keys_del r L a h)
theorem nodup_del (r : α) : ∀ L : List (α × β), (L.map (·.1)).Nodup → ((delR r L).map (·.1)).Nodup
  | [], h => h
  | p :: L, hn => by
    simp only [List.map_cons, List.nodup_cons] at hn
    simp only [delR]
    by_cases hp : p.1 = r
    · rw [if_pos hp]; exact hn.2
    · rw [if_neg hp]
      simp only [List.map_cons, List.nodup_cons]
      exact ⟨fun h => hn.1 (keys_del r L _ h), nodup_del r L hn.2⟩
end
end Go.Tab

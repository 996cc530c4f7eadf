/-
  Sorting, by an order in which only equal ones are level: one sorted list for each bag. Conditions: none.
-/
import Derived.Test.YtiepbejeiijpmaaDoorVl1
import Derived.Lib.Bytealg
namespace Go.Tab
section
variable {α : Type} {f : α → α → Int}

/-- One more, behind all that stand ahead of it or are level. -/
def insF (f : α → α → Int) (x : α) : List α → List α
  | [] => [x]
  | y :: l => if f y x ≤ 0 then y :: insF f x l else x :: y :: l
def sortBy (f : α → α → Int) (l : List α) : List α := l.foldl (fun acc x => insF f x acc) []
def Rises (f : α → α → Int) (l : List α) : Prop := l.Pairwise fun a b => f a b ≤ 0

theorem insF_perm (x : α) : ∀ l : List α, (insF f x l).Perm (x :: l)
  | [] => .refl _
  | y :: l => by
    unfold insF
    split
    · exact ((insF_perm x l).cons y).trans (.swap x y l)
    · exact .refl _
theorem insF_mem (x z : α) (l : List α) : z ∈ insF f x l ↔ z = x ∨ z ∈ l := by rw [(insF_perm x l).mem_iff, List.mem_cons]
theorem insF_rises (h : IsOrd f) (x : α) : ∀ l : List α, Rises f l → Rises f (insF f x l)
  | [], _ => by simp [Rises, insF]
  | y :: l, hl => by
    unfold Rises at hl
    rw [List.pairwise_cons] at hl
    unfold insF
    split
    · rename_i hy
      refine List.pairwise_cons.2 ⟨fun z hz => ?_, insF_rises h x l hl.2⟩
      rcases (insF_mem x z l).1 hz with rfl | hz
      · exact hy
      · exact hl.1 z hz
    · rename_i hy
      have hxy : f x y ≤ 0 := by have := h.anti x y; omega
      refine List.pairwise_cons.2 ⟨fun z hz => ?_, List.pairwise_cons.2 hl⟩
      rcases List.mem_cons.1 hz with rfl | hz
      · exact hxy
      · exact h.tr x y z hxy (hl.1 z hz)
theorem foldl_ins (h : IsOrd f) : ∀ (l acc : List α), Rises f acc → Rises f (l.foldl (fun acc x => insF f x acc) acc) ∧ (l.foldl (fun acc x => insF f x acc) acc).Perm (l ++ acc)
  | [], acc, ha => ⟨ha, .refl _⟩
  | x :: l, acc, ha => by
    obtain ⟨h1, h2⟩ := foldl_ins h l (insF f x acc) (insF_rises h x acc ha)
    refine ⟨h1, h2.trans ?_⟩
    refine ((insF_perm x acc).append_left l).trans ?_
    exact List.perm_middle
theorem sortBy_rises (h : IsOrd f) (l : List α) : Rises f (sortBy f l) := (foldl_ins h l [] List.Pairwise.nil).1
theorem sortBy_perm (h : IsOrd f) (l : List α) : (sortBy f l).Perm l := by
  have := (foldl_ins h l [] List.Pairwise.nil).2
  rwa [List.append_nil] at this
/-- Sorted, and the same bag: the same list. -/
theorem rises_unique (h : IsOrd f) {l q : List α} (hl : Rises f l) (hq : Rises f q) (hp : l.Perm q) : l = q :=
  List.Perm.eq_of_pairwise (fun a b _ _ h1 h2 => (h.zero a b).1 (by have := h.anti a b; omega)) hl hq hp
theorem sortBy_unique (h : IsOrd f) {l q : List α} (hl : Rises f l) (hp : l.Perm q) : l = sortBy f q := rises_unique h hl (sortBy_rises h q) (hp.trans (sortBy_perm h q).symm)
theorem sortBy_perm_eq (h : IsOrd f) {l q : List α} (hp : l.Perm q) : sortBy f l = sortBy f q := sortBy_unique h (sortBy_rises h l) ((sortBy_perm h l).trans hp)
theorem sortBy_of_rises (h : IsOrd f) {l : List α} (hl : Rises f l) : sortBy f l = l := (sortBy_unique h hl (.refl _)).symm
theorem sortBy_eq_iff (h : IsOrd f) {l q : List α} : sortBy f l = sortBy f q ↔ l.Perm q :=
  ⟨fun e => (sortBy_perm h l).symm.trans (e ▸ sortBy_perm h q), sortBy_perm_eq h⟩
end
def sortF : List (List V) → List (List V) := sortBy ords
theorem texts_cmp : ∀ a b : List UInt8, Lib.compareBytes a b = texts a b
  | [], [] => rfl
  | [], _ :: _ => rfl
  | _ :: _, [] => rfl
  | a :: l, b :: q => by
    have ih := texts_cmp l q
    unfold texts at ih ⊢
    simp only [Lib.compareBytes, lexL, byteO, ints, UInt8.lt_iff_toNat_lt, Int.ofNat_lt, ih]
    by_cases h1 : a.toNat < b.toNat
    · simp [h1]
    · by_cases h2 : b.toNat < a.toNat
      · simp [h1, h2]
      · simp [h1, h2]
end Go.Tab

/-
  law34's often: walked. Conditions: none.
-/
import Derived.Test.YtiepbejeiijpmaaDoorBw
import Derived.Test.YtiepbejeiijpmaaDoorT0
namespace Go.Proofs.YtiepbejeiijpmaaDoor
open Go Go.RowKit Go.Pe

set_option maxHeartbeats 2000000 in
set_option maxRecDepth 100000 in
theorem often_walk (m n : Int) (hm : 0 ≤ m ∧ m ≤ 4194304) (hn : 0 ≤ n ∧ n ≤ 4194304) (all : Bool) (w : World) :
    Calls Tryd.prog 22 #[.int .i64 m, .int .i64 n, .bool all] w fun e w' => e = .returned (.agg #[.int .i64 (oftL m n all).1, .int .i64 (oftL m n all).2.1, .int .i64 (oftL m n all).2.2]) ∧ Below w.heap.size w w' := by
  go_enter Tryd.func22, Tryd.ntmps22
  have h3 : ∀ W, (Builtin.min_ #[3, 3, 3] 3 #[.int .i64 m, .int .i64 n, .int .i64 1]).run Tryd.prog W = .ok (.int .i64 (min (min m n) 1)) W := by
    intro W
    simp only [Builtin.min_, List.foldlM_cons, List.foldlM_nil, Builtin.min2, Sem.run_bind, Sem.run_pure, Result.andThen_ok]
    have : (if 1 < (if n < m then n else m) then (1 : Int) else (if n < m then n else m)) = min (min m n) 1 := by
      split <;> split <;> omega
    rw [this]
  cases all
  · go_wp2
    refine bodyPost_ret (results_cell_row (p := 6) (ty := 29) rfl _ _ w.heap.size 29 _ (0, 0) _ rfl (heap_alloc_new w _) Tryd.underlying29 rfl (by kernel_rfl)) rfl ?_
    exact ⟨by simp only [oftL, Bool.false_eq_true, if_false, Int.min_assoc], (Below.refl _ w).alloc (Nat.le_refl _) _⟩
  · go_wp2
    refine bodyPost_ret (results_cell_row (p := 6) (ty := 29) rfl _ _ w.heap.size 29 _ (0, 0) _ rfl (heap_alloc_new w _) Tryd.underlying29 rfl (by kernel_rfl)) rfl ?_
    exact ⟨by simp only [oftL, if_true], (Below.refl _ w).alloc (Nat.le_refl _) _⟩
end Go.Proofs.YtiepbejeiijpmaaDoor

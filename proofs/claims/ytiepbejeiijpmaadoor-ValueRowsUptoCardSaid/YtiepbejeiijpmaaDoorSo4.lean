/-
  slices.SortStableFunc at few rows: walked. Conditions: none.
-/
import Derived.Test.YtiepbejeiijpmaaDoorSo3
namespace Go.Proofs.YtiepbejeiijpmaaDoor
open Go Go.Pe Go.Tab Go.RowKit Go.Sort Go.Proofs

/-- What sorting leaves. -/
structure Sorted (w0 : World) (B : Nat) (m : Mem) (d : Array El) (w' : World) (d' : Array El) : Prop where
  arr : Arr w0 B d' w'
  ok : AllOk m d'
  perm : PermIn 0 d.size d d'
  rises : SortedIn ltE 0 d.size d'

set_option maxHeartbeats 4000000 in
set_option maxRecDepth 100000 in
theorem stable_walk {w0 w : World} {B : Nat} {m : Mem} {d : Array El} (K : At w0 B m) (A : Arr w0 B d w) (O : AllOk m d) (cap : Nat) (hsz : d.size < 20) :
    Calls Tryd.prog 85 #[.slice (some ⟨B, 0, none⟩) d.size cap, .int .i64 d.size, .func (.func 40) #[] #[]] w fun e w' => e = .returned (.tuple #[]) ∧ ∃ d', Sorted w0 B m d w' d' := by
  have hc := insertionSort_walk K A O cap 0 d.size (Nat.zero_le _) (Nat.le_refl _) (by omega)
  have hs := insertionSort_holds ltE_swo d 0 d.size (Nat.zero_le _) (Nat.le_refl _)
  have HS : Aside _ := hs
  clear K A O hs
  have h1 : ¬ (20 : Int) ≤ (d.size : Int) := by omega
  have h2 : ¬ (20 : Int) < (d.size : Int) := by omega
  go_enter Tryd.func85, Tryd.ntmps85
  go_wp2
  refine wp_loop_rounds 1 ?_
  rw [rounds_succ]
  go_wp2_with (go_at_call 96; refine hc.mono ?_)
  rintro e w1 ⟨rfl, hA, hO⟩
  go_wp2
  refine wp_loop_rounds 1 ?_
  rw [rounds_succ]
  go_wp2
  go_end0
  exact ⟨rfl, _, hA, hO, HS.out.1, HS.out.2⟩
set_option maxHeartbeats 4000000 in
set_option maxRecDepth 100000 in
theorem sortStable_walk {w0 w : World} {B : Nat} {m : Mem} {d : Array El} (K : At w0 B m) (A : Arr w0 B d w) (O : AllOk m d) (cap : Nat) (hsz : d.size < 20) :
    Calls Tryd.prog 70 #[.slice (some ⟨B, 0, none⟩) d.size cap, .func (.func 40) #[] #[]] w fun e w' => e = .returned (.tuple #[]) ∧ ∃ d', Sorted w0 B m d w' d' := by
  have hc := stable_walk K A O cap hsz
  clear K A O
  go_enter Tryd.func70, Tryd.ntmps70
  go_wp2_with (go_at_call 85; refine hc.mono ?_)
  rintro e w1 ⟨rfl, h⟩
  go_wp2
  go_end0
  exact ⟨rfl, h⟩
end Go.Proofs.YtiepbejeiijpmaaDoor

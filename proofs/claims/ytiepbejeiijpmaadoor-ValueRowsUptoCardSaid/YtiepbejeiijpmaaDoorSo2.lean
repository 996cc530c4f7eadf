/-
  slices.insertionSortCmpFunc at rows: walked. Conditions: none.
-/
import Derived.Test.YtiepbejeiijpmaaDoorSo1
namespace Go.Proofs.YtiepbejeiijpmaaDoor
open Go Go.Pe Go.Tab Go.RowKit Go.Sort Go.Proofs
set_option maxHeartbeats 16000000 in
set_option maxRecDepth 1000000 in
theorem insertionSort_walk {w0 w : World} {B : Nat} {m : Mem} {d : Array El} (K : At w0 B m) (A : Arr w0 B d w) (O : AllOk m d) (cap a b : Nat) (hab : a ≤ b) (hb : b ≤ d.size) (hsz : d.size < 4611686018427387904) :
    Calls Tryd.prog 96 #[.slice (some ⟨B, 0, none⟩) d.size cap, .int .i64 a, .int .i64 b, .func (.func 40) #[] #[]] w fun e w' => e = .returned (.tuple #[]) ∧ Arr w0 B (Sort.insertionSort ltE d a b) w' ∧ AllOk m (Sort.insertionSort ltE d a b) := by
  have mixed : Tryd.prog.follows .mixedOrders = true := mixed
  have e40 : ∀ args w, (callFunc 40 args).run Tryd.prog w = .ok (.enter 40 args) w := enters_of Tryd.func40 (by kernel_rfl) rfl
  have S0 : Aside (Arr w0 B d w ∧ AllOk m d) := ⟨A, O⟩
  have HK : Aside _ := K
  clear A O K
  go_enter Tryd.func96, Tryd.ntmps96
  go_wp2
  go_loopg [8] (b - a) (fun g1 vi wr => ∃ (i : Nat) (dk : Array El), vi = .int .i64 i ∧ a < i ∧ i ≤ b + 1 ∧ b + 1 - i ≤ g1 + 1 ∧ dk.size = d.size ∧ Aside (Arr w0 B dk wr ∧ AllOk m dk) ∧ Hid (insOuter ltE a b i dk = insOuter ltE a b (a + 1) d))
  case atStart => exact ⟨a + 1, d, by go_num, by omega, by omega, by omega, rfl, S0, rfl⟩
  case round =>
    clear S0
    obtain ⟨i, dk, rfl, hai, hib, hg1, hsk, S1, HO⟩ := hrel
    by_cases hlt : i < b
    · have hltz : (i : Int) < (b : Int) := by omega
      go_wp2
      go_loopg [9] i (fun g2 vj wr2 => ∃ (j : Nat) (dj : Array El), vj = .int .i64 j ∧ a ≤ j ∧ j ≤ i ∧ j ≤ g2 ∧ dj.size = d.size ∧ Aside (Arr w0 B dj wr2 ∧ AllOk m dj) ∧ Hid (insInner ltE a j dj = insInner ltE a i dk))
      case atStart => exact ⟨i, dk, rfl, by omega, Nat.le_refl _, Nat.le_refl _, hsk, S1, rfl⟩
      case round =>
        clear S1
        obtain ⟨j, dj, rfl, haj, hji, hg2, hsj, SJ, HI⟩ := hrel
        have out : (j ≤ a ∨ ltE dj[j]! dj[j - 1]! = false) → Hid (insOuter ltE a b (i + 1) dj = insOuter ltE a b (a + 1) d) := fun hs => by
          show _ = _
          rw [← HO.out, insOuter_go _ _ _ _ _ hlt, ← HI.out, insInner_stop _ _ _ _ hs]
        have OUT : Aside _ := out
        clear out
        by_cases hja : a < j
        · obtain ⟨jp, hjp⟩ : ∃ q, q + 1 = j := ⟨j - 1, by omega⟩
          have zjp : (j : Int) = (jp : Int) + 1 := by omega
          have hjad : decide ((jp : Int) + 1 > (a : Int)) = true := decide_eq_true (by omega)
          have hjaz' : (a : Int) < (jp : Int) + 1 := by omega
          have ea : ((jp : Int) + 1).toNat = j := by omega
          have pa : (0 : Int) ≤ (jp : Int) + 1 := by omega
          have ba : (jp : Int) + 1 < (d.size : Int) := by omega
          have ra : IntKind.i64.wrap ((jp : Int) + 1) = (jp : Int) + 1 := by rw [IntKind.wrap_i64]; omega
          have ec : ((jp : Int)).toNat = jp := by omega
          have pc : (0 : Int) ≤ (jp : Int) := by omega
          have bc : (jp : Int) < (d.size : Int) := by omega
          have rc : IntKind.i64.wrap ((jp : Int)) = (jp : Int) := by rw [IntKind.wrap_i64]; omega
          have hjp' : j - 1 = jp := by omega
          have k1 := cell_regrown (SJ.out.1.c1 j (by omega))
          have k2 := cell_regrown (SJ.out.1.c1 jp (by omega))
          have f1 := SJ.out.1.f1 j
          have f2 := SJ.out.1.f1 jp
          obtain ⟨xa, xn, xc, xr, hx⟩ := (SJ.out.2 j (by omega)).slice
          obtain ⟨ya, yn, yc, yr, hy⟩ := (SJ.out.2 jp (by omega)).slice
          have c1 : ∀ q os, Calls Tryd.prog 40 #[.slice xa xn xc, .slice ya yn yc] (grow (redrawn wr q) os) fun e w'' => e = .returned (.int .i64 (ords xr yr)) ∧ ∃ p : Regrown, w'' = grow (redrawn wr p.d) p.os := fun q os => by
            have := (SJ.out.1.grown (below_regrown wr q os)).cmp HK.out (SJ.out.2 j (by omega)) (SJ.out.2 jp (by omega))
            rw [hx, hy] at this
            exact Calls.regrown_of this
          rw [hx] at k1
          rw [hy] at k2
          simp only at k1 k2
          have HX : Aside (dj[j]! = (.slice xa xn xc, xr)) := hx
          have HY : Aside (dj[jp]! = (.slice ya yn yc, yr)) := hy
          clear hx hy
          cases hlv : ltE dj[j]! dj[j - 1]! with
          | true =>
            have hv : ords xr yr < 0 := by have := of_decide_eq_true hlv; rwa [hjp', HX.out, HY.out] at this
            go_wp2_with fail
            refine wp_region_quiet_below (by assumption) (by kernel_rfl) ?_
            repeat (quiet_step (first | (go_at_fn 40; exact c1 _ _)))
            refine wpQuiet_nil ?_
            intro _ hw'
            obtain ⟨⟨dq, osq⟩, hw''⟩ := hw'
            subst hw''
            have S2 : Aside (Arr w0 B dj (grow (redrawn wr dq) osq) ∧ AllOk m dj) := ⟨SJ.out.1.grown (below_regrown wr dq osq), SJ.out.2⟩
            clear k1 k2 c1 f1 f2 SJ
            generalize grow (redrawn wr dq) osq = w2 at S2 ⊢
            clear dq osq
            go_wp2_with fail
            have c1a := S2.out.1.c1 j (by omega)
            have c1b := S2.out.1.c1 jp (by omega)
            have f1a := S2.out.1.f1 j
            have f1b := S2.out.1.f1 jp
            obtain ⟨u, c1c⟩ := S2.out.1.c2 j jp (by omega) dj[jp]!
            rw [HX.out] at c1a
            rw [HY.out] at c1b c1c
            simp only at c1a c1b c1c
            have S3 : Aside (Arr w0 B (swp dj j jp) ((w2.setCell ⟨B, j, none⟩ (.slice ya yn yc)).setCell ⟨B, jp, none⟩ (.slice xa xn xc)).drew ∧ AllOk m (swp dj j jp)) := by have := S2.out.1.swapped j jp; rw [HX.out, HY.out] at this; exact ⟨this, S2.out.2.swp j jp (by omega) (by omega)⟩
            clear S2
            go_wp2_with fail
            go_big_region_o
            clear c1a c1b c1c f1a f1b
            generalize ((w2.setCell ⟨B, j, none⟩ (.slice ya yn yc)).setCell ⟨B, jp, none⟩ (.slice xa xn xc)).drew = w3 at S3 ⊢
            go_wp2
            go_roundg (j - 1)
            case measure => omega
            case rel => exact ⟨j - 1, swp dj j jp, by first | rfl | go_num | (congr 1; omega), by omega, by omega, Nat.le_refl _, by rw [size_swp]; exact hsj, S3, (show Hid _ from by rw [← HI.out, insInner_go ltE a j dj hja hlv, hjp']; exact rfl)⟩
          | false =>
            have hv : ¬ ords xr yr < 0 := by have := of_decide_eq_false hlv; rwa [hjp', HX.out, HY.out] at this
            go_wp2_with fail
            refine wp_region_quiet_below (by assumption) (by kernel_rfl) ?_
            repeat (quiet_step (first | (go_at_fn 40; exact c1 _ _)))
            refine wpQuiet_nil ?_
            intro _ hw'
            obtain ⟨⟨dq, osq⟩, hw''⟩ := hw'
            subst hw''
            have S2 : Aside (Arr w0 B dj (grow (redrawn wr dq) osq) ∧ AllOk m dj) := ⟨SJ.out.1.grown (below_regrown wr dq osq), SJ.out.2⟩
            clear k1 k2 c1 f1 f2 SJ
            generalize grow (redrawn wr dq) osq = w2 at S2 ⊢
            clear dq osq
            go_wp2
            go_roundg (b - (i + 1))
            case measure => omega
            case rel => exact ⟨i + 1, dj, by go_num, by omega, by omega, by omega, hsj, S2, OUT.out (Or.inr hlv)⟩
        · have hjaz : decide ((j : Int) > (a : Int)) = false := decide_eq_false (by omega)
          have hjaz' : ¬ (a : Int) < (j : Int) := by omega
          go_wp2_with fail
          go_big_region_o
          have S2 : Aside (Arr w0 B dj wr.drew ∧ AllOk m dj) := ⟨SJ.out.1.drew, SJ.out.2⟩
          clear SJ
          generalize wr.drew = w2 at S2 ⊢
          go_wp2
          go_roundg (b - (i + 1))
          case measure => omega
          case rel => exact ⟨i + 1, dj, by go_num, by omega, by omega, by omega, hsj, S2, OUT.out (Or.inl (by omega))⟩
    · have hltz : ¬ (i : Int) < (b : Int) := by omega
      go_wp2
      go_end0
      have e : insertionSort ltE d a b = dk := by unfold Sort.insertionSort; rw [← HO.out, insOuter_stop _ _ _ _ _ hlt]
      rw [e]
      exact ⟨rfl, S1.out⟩
end Go.Proofs.YtiepbejeiijpmaaDoor

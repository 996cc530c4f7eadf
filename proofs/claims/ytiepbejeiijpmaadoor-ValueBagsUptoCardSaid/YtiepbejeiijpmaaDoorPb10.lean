/-
  slices.symMergeCmpFunc at rows, where one of the two ranges is one row: walked. Conditions: none.
-/
import Derived.Test.YtiepbejeiijpmaaDoorPb9
namespace Go.Proofs.YtiepbejeiijpmaaDoor
open Go Go.Pe Go.Tab Go.RowKit Go.Sort Go.Proofs Go.Srt

theorem ltE_true {x y : El} (h : ltE x y = true) : ords x.2 y.2 < 0 := of_decide_eq_true h
theorem ltE_false {x y : El} (h : ltE x y = false) : ¬ ords x.2 y.2 < 0 := of_decide_eq_false h
/-- Asking which of two rows comes first, in a world of the class. -/
theorem ask {w0 w : World} {B : Nat} {m : Mem} {d dk : Array El} {a b : Nat} (K : At w0 B m) (h : Now w0 B m d a b dk w) (i j : Nat) (hi : i < dk.size) (hj : j < dk.size) (q : Nat) (os : Array Obj) :
    Calls Tryd.prog 40 #[dk[i]!.1, dk[j]!.1] (grow (redrawn w q) os) fun e w'' => e = .returned (.int .i64 (ords dk[i]!.2 dk[j]!.2)) ∧ ∃ p : Regrown, w'' = grow (redrawn w p.d) p.os :=
  Calls.regrown_of ((h.arr.grown (below_regrown w q os)).cmp K (h.ok i hi) (h.ok j hj))

set_option maxHeartbeats 16000000 in
set_option maxRecDepth 1000000 in
theorem mergeLeft_walk {w0 w : World} {B : Nat} {m : Mem} {d : Array El} (K : At w0 B m) (A : Arr w0 B d w) (O : AllOk m d) (cap a b : Nat) (hab : a + 1 < b) (hb : b ≤ d.size) (hsz : d.size < 4611686018427387904) (hr : SortedIn ltE (a + 1) b d) :
    Calls Tryd.prog 97 #[.slice (some ⟨B, 0, none⟩) d.size cap, .int .i64 a, .int .i64 ((a : Int) + 1), .int .i64 b, .func (.func 40) #[] #[]] w fun e w' => e = .returned (.tuple #[]) ∧ ∃ d', Now w0 B m d a b d' w' ∧ SortedIn ltE a b d' := by
  have mixed : Tryd.prog.follows .mixedOrders = true := mixed
  have e40 : ∀ args w, (callFunc 40 args).run Tryd.prog w = .ok (.enter 40 args) w := enters_of Tryd.func40 (by kernel_rfl) rfl
  have S0 : Aside (Now w0 B m d a b d w) := Now.start A O _ _
  have HK : Aside _ := K
  have HR : Aside _ := hr
  clear A O K hr
  have r0 : IntKind.i64.wrap ((a : Int) + 1 - (a : Int)) = 1 := by rw [IntKind.wrap_i64]; omega
  go_enter Tryd.func97, Tryd.ntmps97
  go_wp2
  go_loopg [10, 11] (b - a) (fun g v v' wr => ∃ i j : Nat, v = .int .i64 i ∧ v' = .int .i64 j ∧ a + 1 ≤ i ∧ i ≤ j ∧ j ≤ b ∧ j - i ≤ g ∧ Aside (Now w0 B m d a b d wr ∧ (i = a + 1 ∨ ltE d[i - 1]! d[a]! = true) ∧ (j = b ∨ ltE d[j]! d[a]! = false)))
  case atStart => exact ⟨a + 1, b, by go_num, rfl, by omega, by omega, by omega, by omega, S0, .inl rfl, .inl rfl⟩
  case round =>
    clear S0
    obtain ⟨i, j, rfl, rfl, hai, hij, hjb, hg, S1⟩ := hrel
    by_cases hlt : i < j
    · have hltz : (i : Int) < (j : Int) := by omega
      have c1 := ask HK.out S1.out.1 ((i + j) / 2) a (by omega) (by omega)
      have k1 := cell_regrown (S1.out.1.arr.c1 ((i + j) / 2) (by omega))
      have k2 := cell_regrown (S1.out.1.arr.c1 a (by omega))
      obtain ⟨xa, xn, xc, xr, hx⟩ := (S1.out.1.ok ((i + j) / 2) (by omega)).slice
      obtain ⟨ya, yn, yc, yr, hy⟩ := (S1.out.1.ok a (by omega)).slice
      have bh : (i + j) / 2 < d.size := by omega
      have bhz : ((i : Int) + (j : Int)) / 2 < (d.size : Int) := by omega
      have baz : (a : Int) < (d.size : Int) := by omega
      have eh : (((i : Int) + (j : Int)) / 2).toNat = (i + j) / 2 := by omega
      have ph : (0 : Int) ≤ ((i : Int) + (j : Int)) / 2 := by omega
      have eaz : ((a : Int)).toNat = a := by omega
      have paz : (0 : Int) ≤ (a : Int) := by omega
      have rh1 : IntKind.i64.wrap (((i : Int) + (j : Int)) / 2 + 1) = ((i : Int) + (j : Int)) / 2 + 1 := by rw [IntKind.wrap_i64]; omega
      have rs : IntKind.i64.wrap ((i : Int) + (j : Int)) = (i : Int) + (j : Int) := by rw [IntKind.wrap_i64]; omega
      cases hlv : ltE d[(i + j) / 2]! d[a]! with
      | true =>
        have hv := ltE_true hlv
        rw [hx, hy] at c1 hv
        rw [hx] at k1
        rw [hy] at k2
        simp only at c1 k1 k2 hv
        have HL : Aside _ := hlv
        clear hx hy hlv
        go_wp2_with fail
        refine wp_region_quiet_below (by assumption) (by kernel_rfl) ?_
        repeat (quiet_step (first | (go_at_fn 40; exact c1 _ _)))
        refine wpQuiet_nil ?_
        intro _ hw'
        obtain ⟨⟨dq, osq⟩, hw''⟩ := hw'
        subst hw''
        clear k1 k2 c1
        have S2 : Aside (Now w0 B m d a b d (grow (redrawn wr dq) osq) ∧ ((i + j) / 2 + 1 = a + 1 ∨ ltE d[(i + j) / 2 + 1 - 1]! d[a]! = true) ∧ (j = b ∨ ltE d[j]! d[a]! = false)) := ⟨S1.out.1.grown (below_regrown wr dq osq), .inr (by rw [Nat.add_sub_cancel]; exact HL.out), S1.out.2.2⟩
        clear S1 HL
        generalize grow (redrawn wr dq) osq = w2 at S2 ⊢
        clear dq osq
        go_wp2
        go_roundg (j - ((i + j) / 2 + 1))
        case measure => omega
        case rel => exact ⟨(i + j) / 2 + 1, j, by congr 1 <;> omega, rfl, by omega, by omega, hjb, by omega, S2⟩
      | false =>
        have hv := ltE_false hlv
        rw [hx, hy] at c1 hv
        rw [hx] at k1
        rw [hy] at k2
        simp only at c1 k1 k2 hv
        have HL : Aside _ := hlv
        clear hx hy hlv
        go_wp2_with fail
        refine wp_region_quiet_below (by assumption) (by kernel_rfl) ?_
        repeat (quiet_step (first | (go_at_fn 40; exact c1 _ _)))
        refine wpQuiet_nil ?_
        intro _ hw'
        obtain ⟨⟨dq, osq⟩, hw''⟩ := hw'
        subst hw''
        clear k1 k2 c1
        have S2 : Aside (Now w0 B m d a b d (grow (redrawn wr dq) osq) ∧ (i = a + 1 ∨ ltE d[i - 1]! d[a]! = true) ∧ ((i + j) / 2 = b ∨ ltE d[(i + j) / 2]! d[a]! = false)) := ⟨S1.out.1.grown (below_regrown wr dq osq), S1.out.2.1, .inr HL.out⟩
        clear S1 HL
        generalize grow (redrawn wr dq) osq = w2 at S2 ⊢
        clear dq osq
        go_wp2
        go_roundg ((i + j) / 2 - i)
        case measure => omega
        case rel => exact ⟨i, (i + j) / 2, rfl, by congr 1 <;> omega, hai, by omega, by omega, by omega, S2⟩
    · obtain rfl : i = j := by omega
      have hltz : ¬ (i : Int) < (i : Int) := by omega
      have ri : IntKind.i64.wrap ((i : Int) - 1) = (i : Int) - 1 := by rw [IntKind.wrap_i64]; omega
      have S2 : Aside (Now w0 B m d a b d wr ∧ ∀ t, d[t]! = shl d a a t) := ⟨S1.out.1, shl_zero a⟩
      have HS : Aside _ := S1.out.2
      clear S1
      go_wp2
      go_loopg [13] (i - 1 - a) (fun g v wr => ∃ (k : Nat) (dk : Array El), v = .int .i64 k ∧ a ≤ k ∧ k ≤ i - 1 ∧ i - 1 - k ≤ g ∧ Aside (Now w0 B m d a b dk wr ∧ ∀ t, dk[t]! = shl d a k t))
      case atStart => exact ⟨a, d, rfl, by omega, by omega, by omega, S2⟩
      case round =>
        clear S2
        obtain ⟨k, dk, rfl, hak, hki, hg2, S3⟩ := hrel
        have hsk := S3.out.1.size
        by_cases hlt2 : k < i - 1
        · have hltz2 : (k : Int) < (i : Int) - 1 := by omega
          obtain ⟨p, hp⟩ : ∃ p, p = k + 1 := ⟨_, rfl⟩
          have ek : ((k : Int)).toNat = k := by omega
          have pk : (0 : Int) ≤ (k : Int) := by omega
          have bk : (k : Int) < (d.size : Int) := by omega
          have ep : ((k : Int) + 1).toNat = p := by omega
          have pp : (0 : Int) ≤ (k : Int) + 1 := by omega
          have bp : (k : Int) + 1 < (d.size : Int) := by omega
          have rp : IntKind.i64.wrap ((k : Int) + 1) = (k : Int) + 1 := by rw [IntKind.wrap_i64]; omega
          obtain ⟨xa, xn, xc, xr, hx⟩ := (S3.out.1.ok k (by omega)).slice
          obtain ⟨ya, yn, yc, yr, hy⟩ := (S3.out.1.ok p (by omega)).slice
          have c1a := S3.out.1.arr.c1 k (by omega)
          have c1b := S3.out.1.arr.c1 p (by omega)
          have f1a := S3.out.1.arr.f1 k
          have f1b := S3.out.1.arr.f1 p
          obtain ⟨u, c1c⟩ := S3.out.1.arr.c2 k p (by omega) dk[p]!
          have S4 : Aside (Now w0 B m d a b (swp dk k p) ((wr.setCell ⟨B, k, none⟩ (.slice ya yn yc)).setCell ⟨B, p, none⟩ (.slice xa xn xc)).drew ∧ ∀ t, (swp dk k p)[t]! = shl d a (k + 1) t) := by
            have h1 := S3.out.1.swap k p hb (by omega) (by omega) (by omega) (by omega)
            rw [hx, hy] at h1
            refine ⟨h1, ?_⟩
            rw [hp]
            exact shl_step hsk S3.out.2 hak (by omega)
          rw [hx] at c1a
          rw [hy] at c1b c1c
          simp only at c1a c1b c1c
          clear hx hy S3 hp
          go_wp2_with fail
          go_big_region_o
          clear c1a c1b c1c f1a f1b
          generalize ((wr.setCell ⟨B, k, none⟩ (.slice ya yn yc)).setCell ⟨B, p, none⟩ (.slice xa xn xc)).drew = w3 at S4 ⊢
          go_wp2
          go_roundg (i - 1 - (k + 1))
          case measure => omega
          case rel => exact ⟨k + 1, swp dk k p, by go_num, by omega, by omega, by omega, S4⟩
        · obtain rfl : k = i - 1 := by omega
          have hltz2 : ¬ ((i - 1 : Nat) : Int) < (i : Int) - 1 := by omega
          go_wp2
          (try simp only [Exit.inBlock, Exit.then])
          refine bodyPost_ret (results_none rfl _ _ _) rfl ?_
          exact ⟨rfl, dk, S3.out.1, merge_left ltE_swo HR.out hai hjb HS.out.1 HS.out.2 S3.out.2⟩

set_option maxHeartbeats 16000000 in
set_option maxRecDepth 1000000 in
theorem mergeRight_walk {w0 w : World} {B : Nat} {m : Mem} {d : Array El} (K : At w0 B m) (A : Arr w0 B d w) (O : AllOk m d) (cap a c : Nat) (hac : a + 1 < c) (hb : c + 1 ≤ d.size) (hsz : d.size < 4611686018427387904) (hl : SortedIn ltE a c d) :
    Calls Tryd.prog 97 #[.slice (some ⟨B, 0, none⟩) d.size cap, .int .i64 a, .int .i64 c, .int .i64 ((c : Int) + 1), .func (.func 40) #[] #[]] w fun e w' => e = .returned (.tuple #[]) ∧ ∃ d', Now w0 B m d a (c + 1) d' w' ∧ SortedIn ltE a (c + 1) d' := by
  have mixed : Tryd.prog.follows .mixedOrders = true := mixed
  have e40 : ∀ args w, (callFunc 40 args).run Tryd.prog w = .ok (.enter 40 args) w := enters_of Tryd.func40 (by kernel_rfl) rfl
  have S0 : Aside (Now w0 B m d a (c + 1) d w) := Now.start A O _ _
  have HK : Aside _ := K
  have HL0 : Aside _ := hl
  clear A O K hl
  have r0 : IntKind.i64.wrap ((c : Int) - (a : Int)) = (c : Int) - (a : Int) := by rw [IntKind.wrap_i64]; omega
  have n0 : ¬ (c : Int) - (a : Int) = 1 := by omega
  have nb : ((c : Int) - (a : Int) == 1) = false := beq_eq_false_iff_ne.2 n0
  have r1 : IntKind.i64.wrap ((c : Int) + 1 - (c : Int)) = 1 := by rw [IntKind.wrap_i64]; omega
  go_enter Tryd.func97, Tryd.ntmps97
  go_wp2
  go_loopg [14, 15] (c - a) (fun g v v' wr => ∃ i j : Nat, v = .int .i64 i ∧ v' = .int .i64 j ∧ a ≤ i ∧ i ≤ j ∧ j ≤ c ∧ j - i ≤ g ∧ Aside (Now w0 B m d a (c + 1) d wr ∧ (i = a ∨ ltE d[c]! d[i - 1]! = false) ∧ (j = c ∨ ltE d[c]! d[j]! = true)))
  case atStart => exact ⟨a, c, rfl, rfl, by omega, by omega, by omega, by omega, S0, .inl rfl, .inl rfl⟩
  case round =>
    clear S0
    obtain ⟨i, j, rfl, rfl, hai, hij, hjb, hg, S1⟩ := hrel
    by_cases hlt : i < j
    · have hltz : (i : Int) < (j : Int) := by omega
      have c1 := ask HK.out S1.out.1 c ((i + j) / 2) (by omega) (by omega)
      have k1 := cell_regrown (S1.out.1.arr.c1 c (by omega))
      have k2 := cell_regrown (S1.out.1.arr.c1 ((i + j) / 2) (by omega))
      obtain ⟨xa, xn, xc, xr, hx⟩ := (S1.out.1.ok c (by omega)).slice
      obtain ⟨ya, yn, yc, yr, hy⟩ := (S1.out.1.ok ((i + j) / 2) (by omega)).slice
      have bhz : ((i : Int) + (j : Int)) / 2 < (d.size : Int) := by omega
      have bcz : (c : Int) < (d.size : Int) := by omega
      have eh : (((i : Int) + (j : Int)) / 2).toNat = (i + j) / 2 := by omega
      have ph : (0 : Int) ≤ ((i : Int) + (j : Int)) / 2 := by omega
      have ecz : ((c : Int)).toNat = c := by omega
      have pcz : (0 : Int) ≤ (c : Int) := by omega
      have rh1 : IntKind.i64.wrap (((i : Int) + (j : Int)) / 2 + 1) = ((i : Int) + (j : Int)) / 2 + 1 := by rw [IntKind.wrap_i64]; omega
      have rs : IntKind.i64.wrap ((i : Int) + (j : Int)) = (i : Int) + (j : Int) := by rw [IntKind.wrap_i64]; omega
      cases hlv : ltE d[c]! d[(i + j) / 2]! with
      | true =>
        have hv := ltE_true hlv
        rw [hx, hy] at c1 hv
        rw [hx] at k1
        rw [hy] at k2
        simp only at c1 k1 k2 hv
        have hd : decide (ords xr yr < 0) = true := decide_eq_true hv
        have HL : Aside _ := hlv
        clear hx hy hlv
        go_wp2_with fail
        refine wp_region_quiet_below (by assumption) (by kernel_rfl) ?_
        repeat (quiet_step (first | (go_at_fn 40; exact c1 _ _)))
        refine wpQuiet_nil ?_
        intro _ hw'
        obtain ⟨⟨dq, osq⟩, hw''⟩ := hw'
        subst hw''
        clear k1 k2 c1
        have S2 : Aside (Now w0 B m d a (c + 1) d (grow (redrawn wr dq) osq) ∧ (i = a ∨ ltE d[c]! d[i - 1]! = false) ∧ ((i + j) / 2 = c ∨ ltE d[c]! d[(i + j) / 2]! = true)) := ⟨S1.out.1.grown (below_regrown wr dq osq), S1.out.2.1, .inr HL.out⟩
        clear S1 HL
        generalize grow (redrawn wr dq) osq = w2 at S2 ⊢
        clear dq osq
        go_wp2
        go_roundg ((i + j) / 2 - i)
        case measure => omega
        case rel => exact ⟨i, (i + j) / 2, rfl, by congr 1 <;> omega, hai, by omega, by omega, by omega, S2⟩
      | false =>
        have hv := ltE_false hlv
        rw [hx, hy] at c1 hv
        rw [hx] at k1
        rw [hy] at k2
        simp only at c1 k1 k2 hv
        have hd : decide (ords xr yr < 0) = false := decide_eq_false hv
        have HL : Aside _ := hlv
        clear hx hy hlv
        go_wp2_with fail
        refine wp_region_quiet_below (by assumption) (by kernel_rfl) ?_
        repeat (quiet_step (first | (go_at_fn 40; exact c1 _ _)))
        refine wpQuiet_nil ?_
        intro _ hw'
        obtain ⟨⟨dq, osq⟩, hw''⟩ := hw'
        subst hw''
        clear k1 k2 c1
        have S2 : Aside (Now w0 B m d a (c + 1) d (grow (redrawn wr dq) osq) ∧ ((i + j) / 2 + 1 = a ∨ ltE d[c]! d[(i + j) / 2 + 1 - 1]! = false) ∧ (j = c ∨ ltE d[c]! d[j]! = true)) := ⟨S1.out.1.grown (below_regrown wr dq osq), .inr (by rw [Nat.add_sub_cancel]; exact HL.out), S1.out.2.2⟩
        clear S1 HL
        generalize grow (redrawn wr dq) osq = w2 at S2 ⊢
        clear dq osq
        go_wp2
        go_roundg (j - ((i + j) / 2 + 1))
        case measure => omega
        case rel => exact ⟨(i + j) / 2 + 1, j, by congr 1 <;> omega, rfl, by omega, by omega, hjb, by omega, S2⟩
    · obtain rfl : i = j := by omega
      have hltz : ¬ (i : Int) < (i : Int) := by omega
      have S2 : Aside (Now w0 B m d a (c + 1) d wr ∧ ∀ t, d[t]! = shr d c c t) := ⟨S1.out.1, shr_zero c⟩
      have HS : Aside _ := S1.out.2
      clear S1
      go_wp2
      go_loopg [17] (c - i) (fun g v wr => ∃ (k : Nat) (dk : Array El), v = .int .i64 k ∧ i ≤ k ∧ k ≤ c ∧ k - i ≤ g ∧ Aside (Now w0 B m d a (c + 1) dk wr ∧ ∀ t, dk[t]! = shr d c k t))
      case atStart => exact ⟨c, d, rfl, by omega, by omega, by omega, S2⟩
      case round =>
        clear S2
        obtain ⟨k, dk, rfl, hik, hkc, hg2, S3⟩ := hrel
        have hsk := S3.out.1.size
        by_cases hlt2 : i < k
        · have hltz2 : (i : Int) < (k : Int) := by omega
          obtain ⟨p, hp⟩ : ∃ p, p + 1 = k := ⟨k - 1, by omega⟩
          have zk : (k : Int) = (p : Int) + 1 := by omega
          have ek : ((k : Int)).toNat = k := by omega
          have pk : (0 : Int) ≤ (k : Int) := by omega
          have bk : (k : Int) < (d.size : Int) := by omega
          have ep : ((k : Int) - 1).toNat = p := by omega
          have pp : (0 : Int) ≤ (k : Int) - 1 := by omega
          have bp : (k : Int) - 1 < (d.size : Int) := by omega
          have rp : IntKind.i64.wrap ((k : Int) - 1) = (k : Int) - 1 := by rw [IntKind.wrap_i64]; omega
          obtain ⟨xa, xn, xc, xr, hx⟩ := (S3.out.1.ok k (by omega)).slice
          obtain ⟨ya, yn, yc, yr, hy⟩ := (S3.out.1.ok p (by omega)).slice
          have c1a := S3.out.1.arr.c1 k (by omega)
          have c1b := S3.out.1.arr.c1 p (by omega)
          have f1a := S3.out.1.arr.f1 k
          have f1b := S3.out.1.arr.f1 p
          obtain ⟨u, c1c⟩ := S3.out.1.arr.c2 k p (by omega) dk[p]!
          have S4 : Aside (Now w0 B m d a (c + 1) (swp dk k p) ((wr.setCell ⟨B, k, none⟩ (.slice ya yn yc)).setCell ⟨B, p, none⟩ (.slice xa xn xc)).drew ∧ ∀ t, (swp dk k p)[t]! = shr d c p t) := by
            have h1 := S3.out.1.swap k p hb (by omega) (by omega) (by omega) (by omega)
            rw [hx, hy] at h1
            refine ⟨h1, ?_⟩
            have h2 := S3.out.2
            rw [← hp] at h2 ⊢
            exact shr_step hsk h2 (by omega) (by omega)
          rw [hx] at c1a
          rw [hy] at c1b c1c
          simp only at c1a c1b c1c
          have HP : Aside _ := hp
          have HZ : Aside _ := zk
          clear hx hy S3 hp zk
          go_wp2_with fail
          go_big_region_o
          clear c1a c1b c1c f1a f1b
          generalize ((wr.setCell ⟨B, k, none⟩ (.slice ya yn yc)).setCell ⟨B, p, none⟩ (.slice xa xn xc)).drew = w3 at S4 ⊢
          go_wp2
          go_roundg (k - 1 - i)
          case measure => omega
          case rel => exact ⟨p, swp dk k p, by have := HZ.out; congr 1; omega, by have := HP.out; omega, by have := HP.out; omega, by have := HP.out; omega, S4⟩
        · obtain rfl : k = i := by omega
          have hltz2 : ¬ (k : Int) < (k : Int) := by omega
          go_wp2
          (try simp only [Exit.inBlock, Exit.then])
          refine bodyPost_ret (results_none rfl _ _ _) rfl ?_
          exact ⟨rfl, dk, S3.out.1, merge_right ltE_swo HL0.out hai hjb HS.out.1 HS.out.2 S3.out.2⟩
end Go.Proofs.YtiepbejeiijpmaaDoor

/-
  slices.symMergeCmpFunc at rows: walked. Conditions: none.
-/
import Derived.Test.YtiepbejeiijpmaaDoorPa8
namespace Go.Proofs.YtiepbejeiijpmaaDoor
open Go Go.Pe Go.Tab Go.RowKit Go.Sort Go.Proofs Go.Srt

theorem left_done {a s mid e b : Nat} {d : Array El} (H : Halves ltE a s mid e b d) (h1 : a ≤ s) (h2 : s ≤ mid) (h : ¬ (a < s ∧ s < mid)) : SortedIn ltE a mid d := by
  by_cases e1 : s = a
  · rw [← e1]; exact H.h2
  · obtain rfl : s = mid := by omega
    exact H.h1
theorem right_done {a s mid e b : Nat} {d : Array El} (H : Halves ltE a s mid e b d) (h1 : mid ≤ e) (h2 : e ≤ b) (h : ¬ (mid < e ∧ e < b)) : SortedIn ltE mid b d := by
  by_cases e1 : e = mid
  · rw [← e1]; exact H.h4
  · obtain rfl : e = b := by omega
    exact H.h3
theorem keep_right {a mid x y : Nat} {d d' : Array El} (p : PermIn a mid d d') (S : SortedIn ltE x y d) (hx : mid ≤ x) : SortedIn ltE x y d' := fun i j h1 h2 h3 => by
  rw [p.2.1 i (.inr (by omega)), p.2.1 j (.inr (by omega))]
  exact S i j h1 h2 h3
/-- All told: rotated, the left half merged, the right half merged. -/
theorem all_told {w0 w3 : World} {B : Nat} {m : Mem} {d d1 d2 d3 : Array El} {a s mid e b : Nat} (hb : b ≤ d.size) (h1 : a ≤ s) (h2 : s ≤ mid) (h3 : mid ≤ e) (h4 : e ≤ b) (P0 : PermIn s e d d1) (H : Halves ltE a s mid e b d1) (P1 : PermIn a mid d1 d2) (S1 : SortedIn ltE a mid d2)
    (P2 : PermIn mid b d2 d3) (S2 : SortedIn ltE mid b d3) (A : Arr w0 B d3 w3) (O : AllOk m d3) : Now w0 B m d a b d3 w3 ∧ SortedIn ltE a b d3 := by
  have s1 := P0.1
  have s2 := P1.1
  refine ⟨⟨A, O, ?_⟩, joined (by omega) (by omega) (by omega) H.cross P1 S1 P2 S2⟩
  exact permIn_trans _ _ _ _ _ (permIn_trans _ _ _ _ _ (permIn_mono d d1 s e a b h1 h4 hb P0) (permIn_mono d1 d2 a mid a b (Nat.le_refl _) (by omega) (by omega) P1)) (permIn_mono d2 d3 mid b a b (by omega) (Nat.le_refl _) (by omega) P2)
def Goes (w0 : World) (B : Nat) (m : Mem) (n cap a c b : Nat) (d : Array El) (w : World) : Prop :=
  Calls Tryd.prog 97 #[.slice (some ⟨B, 0, none⟩) n cap, .int .i64 a, .int .i64 c, .int .i64 b, .func (.func 40) #[] #[]] w fun e w' => e = .returned (.tuple #[]) ∧ ∃ d', Now w0 B m d a b d' w' ∧ SortedIn ltE a b d'

set_option maxHeartbeats 32000000 in
set_option maxRecDepth 1000000 in
theorem symMerge_far {w0 w : World} {B : Nat} {m : Mem} {d : Array El} (K : At w0 B m) (A : Arr w0 B d w) (O : AllOk m d) (cap a c b : Nat) (hac : a + 1 < c) (hcb : c + 1 < b) (hb : b ≤ d.size) (hsz : d.size < 4611686018427387904) (hl : SortedIn ltE a c d) (hr : SortedIn ltE c b d)
    (IH : ∀ (a' c' b' : Nat) (dk : Array El) (wk : World), b' - a' < b - a → a' < c' → c' < b' → b' ≤ d.size → dk.size = d.size → Arr w0 B dk wk → AllOk m dk → SortedIn ltE a' c' dk → SortedIn ltE c' b' dk → Goes w0 B m d.size cap a' c' b' dk wk) :
    Goes w0 B m d.size cap a c b d w := by
  unfold Goes at IH ⊢
  have mixed : Tryd.prog.follows .mixedOrders = true := mixed
  have e40 : ∀ args w, (callFunc 40 args).run Tryd.prog w = .ok (.enter 40 args) w := enters_of Tryd.func40 (by kernel_rfl) rfl
  have S0 : Aside (Now w0 B m d a b d w) := Now.start A O _ _
  have HK : Aside _ := K
  have HL0 : Aside _ := hl
  have HR0 : Aside _ := hr
  have HIH : Aside _ := IH
  clear A O K hl hr IH
  have r0 : IntKind.i64.wrap ((c : Int) - (a : Int)) = (c : Int) - (a : Int) := by rw [IntKind.wrap_i64]; omega
  have nb : ((c : Int) - (a : Int) == 1) = false := beq_eq_false_iff_ne.2 (by omega)
  have n0 : ¬ (c : Int) - (a : Int) = 1 := by omega
  have r1 : IntKind.i64.wrap ((b : Int) - (c : Int)) = (b : Int) - (c : Int) := by rw [IntKind.wrap_i64]; omega
  have nb1 : ((b : Int) - (c : Int) == 1) = false := beq_eq_false_iff_ne.2 (by omega)
  have n1 : ¬ (b : Int) - (c : Int) = 1 := by omega
  have rab : IntKind.i64.wrap ((a : Int) + (b : Int)) = (a : Int) + (b : Int) := by rw [IntKind.wrap_i64]; omega
  obtain ⟨mid, hm0, hm1⟩ : ∃ mid, 2 * mid ≤ a + b ∧ a + b < 2 * mid + 2 := ⟨(a + b) / 2, by omega, by omega⟩
  have hmid : ((a : Int) + (b : Int)) / 2 = (mid : Int) := by omega
  have rn : IntKind.i64.wrap ((mid : Int) + (c : Int)) = (mid : Int) + (c : Int) := by rw [IntKind.wrap_i64]; omega
  have rp : IntKind.i64.wrap ((mid : Int) + (c : Int) - 1) = (mid : Int) + (c : Int) - 1 := by rw [IntKind.wrap_i64]; omega
  by_cases hcm : mid < c
  · have hcmz : (mid : Int) < (c : Int) := by omega
    obtain ⟨lo, hlo⟩ : ∃ lo, lo + b = mid + c := ⟨mid + c - b, by omega⟩
    have rlo : IntKind.i64.wrap ((mid : Int) + (c : Int) - (b : Int)) = (lo : Int) := by rw [IntKind.wrap_i64]; omega
    have hloz : (mid : Int) + (c : Int) - (b : Int) = (lo : Int) := by omega
    have ends : Aside (a ≤ lo ∧ mid ≤ c ∧ mid ≤ mid ∧ (lo = a ∨ mid + c - lo = b) ∧ (mid = c ∨ mid + c - mid = c) ∧ lo ≤ mid ∧ mid + c ≤ lo + b) := ⟨by omega, by omega, by omega, by omega, by omega, by omega, by omega⟩
    clear hlo
    go_enter Tryd.func97, Tryd.ntmps97
    go_wp2
    go_loopg [20, 21] (mid - lo) (fun g v v' wr => ∃ s r : Nat, v = .int .i64 s ∧ v' = .int .i64 r ∧ lo ≤ s ∧ s ≤ r ∧ r ≤ mid ∧ r - s ≤ g ∧ Aside (Now w0 B m d a b d wr ∧ (s = lo ∨ ltE d[mid + c - s]! d[s - 1]! = false) ∧ (r = mid ∨ ltE d[mid + c - 1 - r]! d[r]! = true)))
    case atStart => exact ⟨lo, mid, rfl, rfl, Nat.le_refl _, ends.out.2.2.2.2.2.1, Nat.le_refl _, Nat.le_refl _, S0, .inl rfl, .inl rfl⟩
    case round =>
      clear S0
      obtain ⟨s, r, rfl, rfl, hls, hsr, hrh, hg, S1⟩ := hrel
      obtain ⟨E1, E2, E3, E4, E5, E6, E7⟩ := ends.out
      by_cases hlt : s < r
      · have hltz : (s : Int) < (r : Int) := by omega
        obtain ⟨h, hh⟩ : ∃ h, h = (s + r) / 2 := ⟨_, rfl⟩
        obtain ⟨q, hq⟩ : ∃ q, q + h + 1 = mid + c := ⟨mid + c - 1 - h, by omega⟩
        have rs : IntKind.i64.wrap ((s : Int) + (r : Int)) = (s : Int) + (r : Int) := by rw [IntKind.wrap_i64]; omega
        have hhz : ((s : Int) + (r : Int)) / 2 = (h : Int) := by omega
        have rq : IntKind.i64.wrap ((mid : Int) + (c : Int) - 1 - (h : Int)) = (q : Int) := by rw [IntKind.wrap_i64]; omega
        have rh1 : IntKind.i64.wrap ((h : Int) + 1) = (h : Int) + 1 := by rw [IntKind.wrap_i64]; omega
        have c1 := ask HK.out S1.out.1 q h (by omega) (by omega)
        have k1 := cell_regrown (S1.out.1.arr.c1 q (by omega))
        have k2 := cell_regrown (S1.out.1.arr.c1 h (by omega))
        obtain ⟨xa, xn, xc, xr, hx⟩ := (S1.out.1.ok q (by omega)).slice
        obtain ⟨ya, yn, yc, yr, hy⟩ := (S1.out.1.ok h (by omega)).slice
        have bq : (q : Int) < (d.size : Int) := by omega
        have bh : (h : Int) < (d.size : Int) := by omega
        have pq : (0 : Int) ≤ (q : Int) := by omega
        have ph : (0 : Int) ≤ (h : Int) := by omega
        have eq : ((q : Int)).toNat = q := by omega
        have eh : ((h : Int)).toNat = h := by omega
        have HH : Aside (h = (s + r) / 2 ∧ q + h + 1 = mid + c) := ⟨hh, hq⟩
        clear hh hq
        cases hlv : ltE d[q]! d[h]! with
        | true =>
          have hv := ltE_true hlv
          rw [hx, hy] at c1 hv
          rw [hx] at k1
          rw [hy] at k2
          simp only at c1 k1 k2 hv
          have hd : decide (ords xr yr < 0) = true := decide_eq_true hv
          have HL : Aside _ := hlv
          clear hx hy hlv
          go_wp2_with fail
          refine wp_region_quiet_below (by assumption) (by kernel_rfl) ?_
          repeat (quiet_step (first | (go_at_fn 40; exact c1 _ _)))
          refine wpQuiet_nil ?_
          intro _ hw'
          obtain ⟨⟨dq, osq⟩, hw''⟩ := hw'
          subst hw''
          clear k1 k2 c1
          have S2 : Aside (Now w0 B m d a b d (grow (redrawn wr dq) osq) ∧ (s = lo ∨ ltE d[mid + c - s]! d[s - 1]! = false) ∧ (h = mid ∨ ltE d[mid + c - 1 - h]! d[h]! = true)) := ⟨S1.out.1.grown (below_regrown wr dq osq), S1.out.2.1, .inr (by
            have := HH.out.2
            have e : mid + c - 1 - h = q := by omega
            rw [e]; exact HL.out)⟩
          clear S1 HL
          generalize grow (redrawn wr dq) osq = w2 at S2 ⊢
          clear dq osq
          go_wp2
          go_roundg (h - s)
          case measure => have := HH.out; omega
          case rel => exact ⟨s, h, rfl, rfl, hls, by have := HH.out; omega, by have := HH.out; omega, by have := HH.out; omega, S2⟩
        | false =>
          have hv := ltE_false hlv
          rw [hx, hy] at c1 hv
          rw [hx] at k1
          rw [hy] at k2
          simp only at c1 k1 k2 hv
          have hd : decide (ords xr yr < 0) = false := decide_eq_false hv
          have HL : Aside _ := hlv
          clear hx hy hlv
          go_wp2_with fail
          refine wp_region_quiet_below (by assumption) (by kernel_rfl) ?_
          repeat (quiet_step (first | (go_at_fn 40; exact c1 _ _)))
          refine wpQuiet_nil ?_
          intro _ hw'
          obtain ⟨⟨dq, osq⟩, hw''⟩ := hw'
          subst hw''
          clear k1 k2 c1
          have S2 : Aside (Now w0 B m d a b d (grow (redrawn wr dq) osq) ∧ (h + 1 = lo ∨ ltE d[mid + c - (h + 1)]! d[h + 1 - 1]! = false) ∧ (r = mid ∨ ltE d[mid + c - 1 - r]! d[r]! = true)) := ⟨S1.out.1.grown (below_regrown wr dq osq), .inr (by
            have := HH.out.2
            have e : mid + c - (h + 1) = q := by omega
            rw [e, Nat.add_sub_cancel]; exact HL.out), S1.out.2.2⟩
          clear S1 HL
          generalize grow (redrawn wr dq) osq = w2 at S2 ⊢
          clear dq osq
          go_wp2
          go_roundg (r - (h + 1))
          case measure => have := HH.out; omega
          case rel => exact ⟨h + 1, r, by go_num, rfl, by have := HH.out; omega, by have := HH.out; omega, hrh, by have := HH.out; omega, S2⟩
      · obtain rfl : s = r := by omega
        have hltz : ¬ (s : Int) < (s : Int) := by omega
        obtain ⟨e, he⟩ : ∃ e, e + s = mid + c := ⟨mid + c - s, by omega⟩
        have re : IntKind.i64.wrap ((mid : Int) + (c : Int) - (s : Int)) = (e : Int) := by rw [IntKind.wrap_i64]; omega
        have f1 : s ≤ c := by omega
        have f2 : c ≤ e := by omega
        have f3 : s ≤ mid := by omega
        have f4 : mid ≤ e := by omega
        have f5 : e ≤ b := by omega
        have f6 : a ≤ s := by omega
        have f7 : s + (e - c) = mid := by omega
        have f8 : mid < b := by omega
        have f9 : a < mid := by omega
        have C3 : s = a ∨ e = b ∨ ltE d[e]! d[s - 1]! = false := by
          rcases S1.out.2.1 with h | h
          · rcases E4 with h' | h'
            · exact .inl (by omega)
            · exact .inr (.inl (by omega))
          · have e1 : mid + c - s = e := by omega
            rw [e1] at h
            exact .inr (.inr h)
        have C4 : s = c ∨ e = c ∨ ltE d[e - 1]! d[s]! = true := by
          rcases S1.out.2.2 with h | h
          · rcases E5 with h' | h'
            · exact .inl (by omega)
            · exact .inr (.inl (by omega))
          · have e1 : mid + c - 1 - s = e - 1 := by omega
            rw [e1] at h
            exact .inr (.inr h)
        have HC : Aside (∀ d1 : Array El, (∀ t, d1[t]! = rot d s c e t) → Halves ltE a s mid e b d1) := fun d1 h => by
          have := halves ltE_swo HL0.out HR0.out f6 f1 f2 f5 C3 C4 h
          rwa [f7] at this
        have HN : Aside (Now w0 B m d a b d wr) := S1.out.1
        clear S1 C3 C4
        by_cases q0 : s < c ∧ c < e
        · obtain ⟨q0a, q0b⟩ := q0
          have y1 : (s : Int) < (c : Int) := by omega
          have y1d : decide ((s : Int) < (c : Int)) = true := decide_eq_true y1
          have y2 : (c : Int) < (e : Int) := by omega
          have y2d : decide ((c : Int) < (e : Int)) = true := decide_eq_true y2
          have hc0 := rotate_walk HN.out.arr HN.out.ok cap s c e q0a q0b (by omega) (by omega)
          clear q0a q0b
          go_wp2_with (go_at_call 105; refine hc0.mono ?_)
          clear hc0
          (first | rintro _ wj rfl d1 hN1 hrot | rintro _ wj ⟨rfl, d1, hN1, hrot⟩)
          have P0 := hN1.perm
          have HH1 := HC.out d1 hrot
          have hA1 := hN1.arr
          have hO1 := hN1.ok
          have hz1 : d1.size = d.size := hN1.size
          clear hN1 hrot HN HC
          by_cases q1 : a < s ∧ s < mid
          · obtain ⟨q1a, q1b⟩ := q1
            have z1 : (a : Int) < (s : Int) := by omega
            have z1d : decide ((a : Int) < (s : Int)) = true := decide_eq_true z1
            have z2 : (s : Int) < (mid : Int) := by omega
            have z2d : decide ((s : Int) < (mid : Int)) = true := decide_eq_true z2
            have hc1 := HIH.out a s mid d1 wj (by omega) q1a q1b (by omega) hz1 hA1 hO1 HH1.h1 HH1.h2
            have HB : Aside (PermIn s e d d1 ∧ Halves ltE a s mid e b d1) := ⟨P0, HH1⟩
            clear P0 HH1 hA1 hO1 q1a q1b
            skip
            go_wp2_with (go_at_call 97; refine hc1.mono ?_)
            clear hc1
            (first | rintro _ wk rfl d2 hN2 hS2 | rintro _ wk ⟨rfl, d2, hN2, hS2⟩)
            obtain ⟨P0, HH1⟩ := HB.out
            have P1 := hN2.perm
            have S1 := hS2
            have hA2 := hN2.arr
            have hO2 := hN2.ok
            have hz2 : d2.size = d.size := hN2.size.trans hz1
            clear hN2 hS2 HB
            by_cases q2 : mid < e ∧ e < b
            · obtain ⟨q2a, q2b⟩ := q2
              have z3 : (mid : Int) < (e : Int) := by omega
              have z3d : decide ((mid : Int) < (e : Int)) = true := decide_eq_true z3
              have z4 : (e : Int) < (b : Int) := by omega
              have z4d : decide ((e : Int) < (b : Int)) = true := decide_eq_true z4
              have hc2 := HIH.out mid e b d2 wk (by omega) q2a q2b hb hz2 hA2 hO2 (keep_right P1 HH1.h3 (Nat.le_refl _)) (keep_right P1 HH1.h4 f4)
              have HA : Aside (PermIn s e d d1 ∧ Halves ltE a s mid e b d1 ∧ PermIn a mid d1 d2 ∧ SortedIn ltE a mid d2) := ⟨P0, HH1, P1, S1⟩
              clear P0 HH1 P1 S1 hA2 hO2 q2a q2b
              skip
              go_wp2_with (go_at_call 97; refine hc2.mono ?_)
              all_goals clear hc2
              all_goals (first | rintro _ w5 rfl d3 hN3 hS3 | rintro _ w5 ⟨rfl, d3, hN3, hS3⟩)
              all_goals have HE2 : Aside _ := all_told hb f6 f3 f4 f5 HA.out.1 HA.out.2.1 HA.out.2.2.1 HA.out.2.2.2 hN3.perm hS3 hN3.arr hN3.ok
              all_goals clear hN3 hS3
              all_goals go_wp2
              all_goals go_end0
              all_goals exact ⟨rfl, _, HE2.out⟩
            · have S2x := keep_right P1 (right_done HH1 f4 f5 q2) (Nat.le_refl _)
              have HE := all_told hb f6 f3 f4 f5 P0 HH1 P1 S1 (permIn_refl d2 mid b) S2x hA2 hO2
              have HE2 : Aside _ := HE
              clear HE hA2 hO2 P0 HH1 S2x P1 S1
              by_cases q2a : mid < e
              · have q2b : ¬ e < b := fun h => q2 ⟨q2a, h⟩
                have z3 : (mid : Int) < (e : Int) := by omega
                have z3d : decide ((mid : Int) < (e : Int)) = true := decide_eq_true z3
                have z4 : ¬ (e : Int) < (b : Int) := by omega
                have z4d : decide ((e : Int) < (b : Int)) = false := decide_eq_false z4
                clear q2
                skip
                go_wp2
                all_goals go_end0
                all_goals exact ⟨rfl, _, HE2.out⟩
              · skip
                have z3 : ¬ (mid : Int) < (e : Int) := by omega
                have z3d : decide ((mid : Int) < (e : Int)) = false := decide_eq_false z3
                clear q2
                skip
                go_wp2
                all_goals go_end0
                all_goals exact ⟨rfl, _, HE2.out⟩
          · have P1 : PermIn a mid d1 d1 := permIn_refl d1 a mid
            have S1 := left_done HH1 f6 f3 q1
            obtain ⟨d2, hd2⟩ : ∃ d2, d2 = d1 := ⟨_, rfl⟩
            obtain ⟨wk, hwk⟩ : ∃ wk, wk = wj := ⟨_, rfl⟩
            have P1 : PermIn a mid d1 d2 := by rw [hd2]; exact P1
            have S1 : SortedIn ltE a mid d2 := by rw [hd2]; exact S1
            have hA2 : Arr w0 B d2 wk := by rw [hd2, hwk]; exact hA1
            have hO2 : AllOk m d2 := by rw [hd2]; exact hO1
            have hz2 : d2.size = d.size := by rw [hd2]; exact hz1
            rw [← hwk]
            clear hA1 hO1 hd2 hwk
            by_cases q1a : a < s
            · have q1b : ¬ s < mid := fun h => q1 ⟨q1a, h⟩
              have z1 : (a : Int) < (s : Int) := by omega
              have z1d : decide ((a : Int) < (s : Int)) = true := decide_eq_true z1
              have z2 : ¬ (s : Int) < (mid : Int) := by omega
              have z2d : decide ((s : Int) < (mid : Int)) = false := decide_eq_false z2
              clear q1 q1a q1b
              by_cases q2 : mid < e ∧ e < b
              · obtain ⟨q2a, q2b⟩ := q2
                have z3 : (mid : Int) < (e : Int) := by omega
                have z3d : decide ((mid : Int) < (e : Int)) = true := decide_eq_true z3
                have z4 : (e : Int) < (b : Int) := by omega
                have z4d : decide ((e : Int) < (b : Int)) = true := decide_eq_true z4
                have hc2 := HIH.out mid e b d2 wk (by omega) q2a q2b hb hz2 hA2 hO2 (keep_right P1 HH1.h3 (Nat.le_refl _)) (keep_right P1 HH1.h4 f4)
                have HA : Aside (PermIn s e d d1 ∧ Halves ltE a s mid e b d1 ∧ PermIn a mid d1 d2 ∧ SortedIn ltE a mid d2) := ⟨P0, HH1, P1, S1⟩
                clear P0 HH1 P1 S1 hA2 hO2 q2a q2b
                skip
                go_wp2_with (go_at_call 97; refine hc2.mono ?_)
                all_goals clear hc2
                all_goals (first | rintro _ w5 rfl d3 hN3 hS3 | rintro _ w5 ⟨rfl, d3, hN3, hS3⟩)
                all_goals have HE2 : Aside _ := all_told hb f6 f3 f4 f5 HA.out.1 HA.out.2.1 HA.out.2.2.1 HA.out.2.2.2 hN3.perm hS3 hN3.arr hN3.ok
                all_goals clear hN3 hS3
                all_goals go_wp2
                all_goals go_end0
                all_goals exact ⟨rfl, _, HE2.out⟩
              · have S2x := keep_right P1 (right_done HH1 f4 f5 q2) (Nat.le_refl _)
                have HE := all_told hb f6 f3 f4 f5 P0 HH1 P1 S1 (permIn_refl d2 mid b) S2x hA2 hO2
                have HE2 : Aside _ := HE
                clear HE hA2 hO2 P0 HH1 S2x P1 S1
                by_cases q2a : mid < e
                · have q2b : ¬ e < b := fun h => q2 ⟨q2a, h⟩
                  have z3 : (mid : Int) < (e : Int) := by omega
                  have z3d : decide ((mid : Int) < (e : Int)) = true := decide_eq_true z3
                  have z4 : ¬ (e : Int) < (b : Int) := by omega
                  have z4d : decide ((e : Int) < (b : Int)) = false := decide_eq_false z4
                  clear q2
                  skip
                  go_wp2
                  all_goals go_end0
                  all_goals exact ⟨rfl, _, HE2.out⟩
                · skip
                  have z3 : ¬ (mid : Int) < (e : Int) := by omega
                  have z3d : decide ((mid : Int) < (e : Int)) = false := decide_eq_false z3
                  clear q2
                  skip
                  go_wp2
                  all_goals go_end0
                  all_goals exact ⟨rfl, _, HE2.out⟩
            · skip
              have z1 : ¬ (a : Int) < (s : Int) := by omega
              have z1d : decide ((a : Int) < (s : Int)) = false := decide_eq_false z1
              clear q1 q1a
              by_cases q2 : mid < e ∧ e < b
              · obtain ⟨q2a, q2b⟩ := q2
                have z3 : (mid : Int) < (e : Int) := by omega
                have z3d : decide ((mid : Int) < (e : Int)) = true := decide_eq_true z3
                have z4 : (e : Int) < (b : Int) := by omega
                have z4d : decide ((e : Int) < (b : Int)) = true := decide_eq_true z4
                have hc2 := HIH.out mid e b d2 wk (by omega) q2a q2b hb hz2 hA2 hO2 (keep_right P1 HH1.h3 (Nat.le_refl _)) (keep_right P1 HH1.h4 f4)
                have HA : Aside (PermIn s e d d1 ∧ Halves ltE a s mid e b d1 ∧ PermIn a mid d1 d2 ∧ SortedIn ltE a mid d2) := ⟨P0, HH1, P1, S1⟩
                clear P0 HH1 P1 S1 hA2 hO2 q2a q2b
                skip
                go_wp2_with (go_at_call 97; refine hc2.mono ?_)
                all_goals clear hc2
                all_goals (first | rintro _ w5 rfl d3 hN3 hS3 | rintro _ w5 ⟨rfl, d3, hN3, hS3⟩)
                all_goals have HE2 : Aside _ := all_told hb f6 f3 f4 f5 HA.out.1 HA.out.2.1 HA.out.2.2.1 HA.out.2.2.2 hN3.perm hS3 hN3.arr hN3.ok
                all_goals clear hN3 hS3
                all_goals go_wp2
                all_goals go_end0
                all_goals exact ⟨rfl, _, HE2.out⟩
              · have S2x := keep_right P1 (right_done HH1 f4 f5 q2) (Nat.le_refl _)
                have HE := all_told hb f6 f3 f4 f5 P0 HH1 P1 S1 (permIn_refl d2 mid b) S2x hA2 hO2
                have HE2 : Aside _ := HE
                clear HE hA2 hO2 P0 HH1 S2x P1 S1
                by_cases q2a : mid < e
                · have q2b : ¬ e < b := fun h => q2 ⟨q2a, h⟩
                  have z3 : (mid : Int) < (e : Int) := by omega
                  have z3d : decide ((mid : Int) < (e : Int)) = true := decide_eq_true z3
                  have z4 : ¬ (e : Int) < (b : Int) := by omega
                  have z4d : decide ((e : Int) < (b : Int)) = false := decide_eq_false z4
                  clear q2
                  skip
                  go_wp2
                  all_goals go_end0
                  all_goals exact ⟨rfl, _, HE2.out⟩
                · skip
                  have z3 : ¬ (mid : Int) < (e : Int) := by omega
                  have z3d : decide ((mid : Int) < (e : Int)) = false := decide_eq_false z3
                  clear q2
                  skip
                  go_wp2
                  all_goals go_end0
                  all_goals exact ⟨rfl, _, HE2.out⟩
        · have P0 : PermIn s e d d := permIn_refl d s e
          have HH1 := HC.out d (rot_none (by omega) f1 f2)
          obtain ⟨d1, hd1⟩ : ∃ d1, d1 = d := ⟨_, rfl⟩
          obtain ⟨wj, hwj⟩ : ∃ wj, wj = wr := ⟨_, rfl⟩
          have P0 : PermIn s e d d1 := by rw [hd1]; exact P0
          have HH1 : Halves ltE a s mid e b d1 := by rw [hd1]; exact HH1
          have hA1 : Arr w0 B d1 wj := by rw [hd1, hwj]; exact HN.out.arr
          have hO1 : AllOk m d1 := by rw [hd1]; exact HN.out.ok
          have hz1 : d1.size = d.size := by rw [hd1]
          rw [← hwj]
          clear HN HC hd1 hwj
          by_cases q0a : s < c
          · have q0b : ¬ c < e := fun h => q0 ⟨q0a, h⟩
            have y1 : (s : Int) < (c : Int) := by omega
            have y1d : decide ((s : Int) < (c : Int)) = true := decide_eq_true y1
            have y2 : ¬ (c : Int) < (e : Int) := by omega
            have y2d : decide ((c : Int) < (e : Int)) = false := decide_eq_false y2
            clear q0 q0a q0b
            by_cases q1 : a < s ∧ s < mid
            · obtain ⟨q1a, q1b⟩ := q1
              have z1 : (a : Int) < (s : Int) := by omega
              have z1d : decide ((a : Int) < (s : Int)) = true := decide_eq_true z1
              have z2 : (s : Int) < (mid : Int) := by omega
              have z2d : decide ((s : Int) < (mid : Int)) = true := decide_eq_true z2
              have hc1 := HIH.out a s mid d1 wj (by omega) q1a q1b (by omega) hz1 hA1 hO1 HH1.h1 HH1.h2
              have HB : Aside (PermIn s e d d1 ∧ Halves ltE a s mid e b d1) := ⟨P0, HH1⟩
              clear P0 HH1 hA1 hO1 q1a q1b
              skip
              go_wp2_with (go_at_call 97; refine hc1.mono ?_)
              clear hc1
              (first | rintro _ wk rfl d2 hN2 hS2 | rintro _ wk ⟨rfl, d2, hN2, hS2⟩)
              obtain ⟨P0, HH1⟩ := HB.out
              have P1 := hN2.perm
              have S1 := hS2
              have hA2 := hN2.arr
              have hO2 := hN2.ok
              have hz2 : d2.size = d.size := hN2.size.trans hz1
              clear hN2 hS2 HB
              by_cases q2 : mid < e ∧ e < b
              · obtain ⟨q2a, q2b⟩ := q2
                have z3 : (mid : Int) < (e : Int) := by omega
                have z3d : decide ((mid : Int) < (e : Int)) = true := decide_eq_true z3
                have z4 : (e : Int) < (b : Int) := by omega
                have z4d : decide ((e : Int) < (b : Int)) = true := decide_eq_true z4
                have hc2 := HIH.out mid e b d2 wk (by omega) q2a q2b hb hz2 hA2 hO2 (keep_right P1 HH1.h3 (Nat.le_refl _)) (keep_right P1 HH1.h4 f4)
                have HA : Aside (PermIn s e d d1 ∧ Halves ltE a s mid e b d1 ∧ PermIn a mid d1 d2 ∧ SortedIn ltE a mid d2) := ⟨P0, HH1, P1, S1⟩
                clear P0 HH1 P1 S1 hA2 hO2 q2a q2b
                skip
                go_wp2_with (go_at_call 97; refine hc2.mono ?_)
                all_goals clear hc2
                all_goals (first | rintro _ w5 rfl d3 hN3 hS3 | rintro _ w5 ⟨rfl, d3, hN3, hS3⟩)
                all_goals have HE2 : Aside _ := all_told hb f6 f3 f4 f5 HA.out.1 HA.out.2.1 HA.out.2.2.1 HA.out.2.2.2 hN3.perm hS3 hN3.arr hN3.ok
                all_goals clear hN3 hS3
                all_goals go_wp2
                all_goals go_end0
                all_goals exact ⟨rfl, _, HE2.out⟩
              · have S2x := keep_right P1 (right_done HH1 f4 f5 q2) (Nat.le_refl _)
                have HE := all_told hb f6 f3 f4 f5 P0 HH1 P1 S1 (permIn_refl d2 mid b) S2x hA2 hO2
                have HE2 : Aside _ := HE
                clear HE hA2 hO2 P0 HH1 S2x P1 S1
                by_cases q2a : mid < e
                · have q2b : ¬ e < b := fun h => q2 ⟨q2a, h⟩
                  have z3 : (mid : Int) < (e : Int) := by omega
                  have z3d : decide ((mid : Int) < (e : Int)) = true := decide_eq_true z3
                  have z4 : ¬ (e : Int) < (b : Int) := by omega
                  have z4d : decide ((e : Int) < (b : Int)) = false := decide_eq_false z4
                  clear q2
                  skip
                  go_wp2
                  all_goals go_end0
                  all_goals exact ⟨rfl, _, HE2.out⟩
                · skip
                  have z3 : ¬ (mid : Int) < (e : Int) := by omega
                  have z3d : decide ((mid : Int) < (e : Int)) = false := decide_eq_false z3
                  clear q2
                  skip
                  go_wp2
                  all_goals go_end0
                  all_goals exact ⟨rfl, _, HE2.out⟩
            · have P1 : PermIn a mid d1 d1 := permIn_refl d1 a mid
              have S1 := left_done HH1 f6 f3 q1
              obtain ⟨d2, hd2⟩ : ∃ d2, d2 = d1 := ⟨_, rfl⟩
              obtain ⟨wk, hwk⟩ : ∃ wk, wk = wj := ⟨_, rfl⟩
              have P1 : PermIn a mid d1 d2 := by rw [hd2]; exact P1
              have S1 : SortedIn ltE a mid d2 := by rw [hd2]; exact S1
              have hA2 : Arr w0 B d2 wk := by rw [hd2, hwk]; exact hA1
              have hO2 : AllOk m d2 := by rw [hd2]; exact hO1
              have hz2 : d2.size = d.size := by rw [hd2]; exact hz1
              rw [← hwk]
              clear hA1 hO1 hd2 hwk
              by_cases q1a : a < s
              · have q1b : ¬ s < mid := fun h => q1 ⟨q1a, h⟩
                have z1 : (a : Int) < (s : Int) := by omega
                have z1d : decide ((a : Int) < (s : Int)) = true := decide_eq_true z1
                have z2 : ¬ (s : Int) < (mid : Int) := by omega
                have z2d : decide ((s : Int) < (mid : Int)) = false := decide_eq_false z2
                clear q1 q1a q1b
                by_cases q2 : mid < e ∧ e < b
                · obtain ⟨q2a, q2b⟩ := q2
                  have z3 : (mid : Int) < (e : Int) := by omega
                  have z3d : decide ((mid : Int) < (e : Int)) = true := decide_eq_true z3
                  have z4 : (e : Int) < (b : Int) := by omega
                  have z4d : decide ((e : Int) < (b : Int)) = true := decide_eq_true z4
                  have hc2 := HIH.out mid e b d2 wk (by omega) q2a q2b hb hz2 hA2 hO2 (keep_right P1 HH1.h3 (Nat.le_refl _)) (keep_right P1 HH1.h4 f4)
                  have HA : Aside (PermIn s e d d1 ∧ Halves ltE a s mid e b d1 ∧ PermIn a mid d1 d2 ∧ SortedIn ltE a mid d2) := ⟨P0, HH1, P1, S1⟩
                  clear P0 HH1 P1 S1 hA2 hO2 q2a q2b
                  skip
                  go_wp2_with (go_at_call 97; refine hc2.mono ?_)
                  all_goals clear hc2
                  all_goals (first | rintro _ w5 rfl d3 hN3 hS3 | rintro _ w5 ⟨rfl, d3, hN3, hS3⟩)
                  all_goals have HE2 : Aside _ := all_told hb f6 f3 f4 f5 HA.out.1 HA.out.2.1 HA.out.2.2.1 HA.out.2.2.2 hN3.perm hS3 hN3.arr hN3.ok
                  all_goals clear hN3 hS3
                  all_goals go_wp2
                  all_goals go_end0
                  all_goals exact ⟨rfl, _, HE2.out⟩
                · have S2x := keep_right P1 (right_done HH1 f4 f5 q2) (Nat.le_refl _)
                  have HE := all_told hb f6 f3 f4 f5 P0 HH1 P1 S1 (permIn_refl d2 mid b) S2x hA2 hO2
                  have HE2 : Aside _ := HE
                  clear HE hA2 hO2 P0 HH1 S2x P1 S1
                  by_cases q2a : mid < e
                  · have q2b : ¬ e < b := fun h => q2 ⟨q2a, h⟩
                    have z3 : (mid : Int) < (e : Int) := by omega
                    have z3d : decide ((mid : Int) < (e : Int)) = true := decide_eq_true z3
                    have z4 : ¬ (e : Int) < (b : Int) := by omega
                    have z4d : decide ((e : Int) < (b : Int)) = false := decide_eq_false z4
                    clear q2
                    skip
                    go_wp2
                    all_goals go_end0
                    all_goals exact ⟨rfl, _, HE2.out⟩
                  · skip
                    have z3 : ¬ (mid : Int) < (e : Int) := by omega
                    have z3d : decide ((mid : Int) < (e : Int)) = false := decide_eq_false z3
                    clear q2
                    skip
                    go_wp2
                    all_goals go_end0
                    all_goals exact ⟨rfl, _, HE2.out⟩
              · skip
                have z1 : ¬ (a : Int) < (s : Int) := by omega
                have z1d : decide ((a : Int) < (s : Int)) = false := decide_eq_false z1
                clear q1 q1a
                by_cases q2 : mid < e ∧ e < b
                · obtain ⟨q2a, q2b⟩ := q2
                  have z3 : (mid : Int) < (e : Int) := by omega
                  have z3d : decide ((mid : Int) < (e : Int)) = true := decide_eq_true z3
                  have z4 : (e : Int) < (b : Int) := by omega
                  have z4d : decide ((e : Int) < (b : Int)) = true := decide_eq_true z4
                  have hc2 := HIH.out mid e b d2 wk (by omega) q2a q2b hb hz2 hA2 hO2 (keep_right P1 HH1.h3 (Nat.le_refl _)) (keep_right P1 HH1.h4 f4)
                  have HA : Aside (PermIn s e d d1 ∧ Halves ltE a s mid e b d1 ∧ PermIn a mid d1 d2 ∧ SortedIn ltE a mid d2) := ⟨P0, HH1, P1, S1⟩
                  clear P0 HH1 P1 S1 hA2 hO2 q2a q2b
                  skip
                  go_wp2_with (go_at_call 97; refine hc2.mono ?_)
                  all_goals clear hc2
                  all_goals (first | rintro _ w5 rfl d3 hN3 hS3 | rintro _ w5 ⟨rfl, d3, hN3, hS3⟩)
                  all_goals have HE2 : Aside _ := all_told hb f6 f3 f4 f5 HA.out.1 HA.out.2.1 HA.out.2.2.1 HA.out.2.2.2 hN3.perm hS3 hN3.arr hN3.ok
                  all_goals clear hN3 hS3
                  all_goals go_wp2
                  all_goals go_end0
                  all_goals exact ⟨rfl, _, HE2.out⟩
                · have S2x := keep_right P1 (right_done HH1 f4 f5 q2) (Nat.le_refl _)
                  have HE := all_told hb f6 f3 f4 f5 P0 HH1 P1 S1 (permIn_refl d2 mid b) S2x hA2 hO2
                  have HE2 : Aside _ := HE
                  clear HE hA2 hO2 P0 HH1 S2x P1 S1
                  by_cases q2a : mid < e
                  · have q2b : ¬ e < b := fun h => q2 ⟨q2a, h⟩
                    have z3 : (mid : Int) < (e : Int) := by omega
                    have z3d : decide ((mid : Int) < (e : Int)) = true := decide_eq_true z3
                    have z4 : ¬ (e : Int) < (b : Int) := by omega
                    have z4d : decide ((e : Int) < (b : Int)) = false := decide_eq_false z4
                    clear q2
                    skip
                    go_wp2
                    all_goals go_end0
                    all_goals exact ⟨rfl, _, HE2.out⟩
                  · skip
                    have z3 : ¬ (mid : Int) < (e : Int) := by omega
                    have z3d : decide ((mid : Int) < (e : Int)) = false := decide_eq_false z3
                    clear q2
                    skip
                    go_wp2
                    all_goals go_end0
                    all_goals exact ⟨rfl, _, HE2.out⟩
          · skip
            have y1 : ¬ (s : Int) < (c : Int) := by omega
            have y1d : decide ((s : Int) < (c : Int)) = false := decide_eq_false y1
            clear q0 q0a
            by_cases q1 : a < s ∧ s < mid
            · obtain ⟨q1a, q1b⟩ := q1
              have z1 : (a : Int) < (s : Int) := by omega
              have z1d : decide ((a : Int) < (s : Int)) = true := decide_eq_true z1
              have z2 : (s : Int) < (mid : Int) := by omega
              have z2d : decide ((s : Int) < (mid : Int)) = true := decide_eq_true z2
              have hc1 := HIH.out a s mid d1 wj (by omega) q1a q1b (by omega) hz1 hA1 hO1 HH1.h1 HH1.h2
              have HB : Aside (PermIn s e d d1 ∧ Halves ltE a s mid e b d1) := ⟨P0, HH1⟩
              clear P0 HH1 hA1 hO1 q1a q1b
              skip
              go_wp2_with (go_at_call 97; refine hc1.mono ?_)
              clear hc1
              (first | rintro _ wk rfl d2 hN2 hS2 | rintro _ wk ⟨rfl, d2, hN2, hS2⟩)
              obtain ⟨P0, HH1⟩ := HB.out
              have P1 := hN2.perm
              have S1 := hS2
              have hA2 := hN2.arr
              have hO2 := hN2.ok
              have hz2 : d2.size = d.size := hN2.size.trans hz1
              clear hN2 hS2 HB
              by_cases q2 : mid < e ∧ e < b
              · obtain ⟨q2a, q2b⟩ := q2
                have z3 : (mid : Int) < (e : Int) := by omega
                have z3d : decide ((mid : Int) < (e : Int)) = true := decide_eq_true z3
                have z4 : (e : Int) < (b : Int) := by omega
                have z4d : decide ((e : Int) < (b : Int)) = true := decide_eq_true z4
                have hc2 := HIH.out mid e b d2 wk (by omega) q2a q2b hb hz2 hA2 hO2 (keep_right P1 HH1.h3 (Nat.le_refl _)) (keep_right P1 HH1.h4 f4)
                have HA : Aside (PermIn s e d d1 ∧ Halves ltE a s mid e b d1 ∧ PermIn a mid d1 d2 ∧ SortedIn ltE a mid d2) := ⟨P0, HH1, P1, S1⟩
                clear P0 HH1 P1 S1 hA2 hO2 q2a q2b
                skip
                go_wp2_with (go_at_call 97; refine hc2.mono ?_)
                all_goals clear hc2
                all_goals (first | rintro _ w5 rfl d3 hN3 hS3 | rintro _ w5 ⟨rfl, d3, hN3, hS3⟩)
                all_goals have HE2 : Aside _ := all_told hb f6 f3 f4 f5 HA.out.1 HA.out.2.1 HA.out.2.2.1 HA.out.2.2.2 hN3.perm hS3 hN3.arr hN3.ok
                all_goals clear hN3 hS3
                all_goals go_wp2
                all_goals go_end0
                all_goals exact ⟨rfl, _, HE2.out⟩
              · have S2x := keep_right P1 (right_done HH1 f4 f5 q2) (Nat.le_refl _)
                have HE := all_told hb f6 f3 f4 f5 P0 HH1 P1 S1 (permIn_refl d2 mid b) S2x hA2 hO2
                have HE2 : Aside _ := HE
                clear HE hA2 hO2 P0 HH1 S2x P1 S1
                by_cases q2a : mid < e
                · have q2b : ¬ e < b := fun h => q2 ⟨q2a, h⟩
                  have z3 : (mid : Int) < (e : Int) := by omega
                  have z3d : decide ((mid : Int) < (e : Int)) = true := decide_eq_true z3
                  have z4 : ¬ (e : Int) < (b : Int) := by omega
                  have z4d : decide ((e : Int) < (b : Int)) = false := decide_eq_false z4
                  clear q2
                  skip
                  go_wp2
                  all_goals go_end0
                  all_goals exact ⟨rfl, _, HE2.out⟩
                · skip
                  have z3 : ¬ (mid : Int) < (e : Int) := by omega
                  have z3d : decide ((mid : Int) < (e : Int)) = false := decide_eq_false z3
                  clear q2
                  skip
                  go_wp2
                  all_goals go_end0
                  all_goals exact ⟨rfl, _, HE2.out⟩
            · have P1 : PermIn a mid d1 d1 := permIn_refl d1 a mid
              have S1 := left_done HH1 f6 f3 q1
              obtain ⟨d2, hd2⟩ : ∃ d2, d2 = d1 := ⟨_, rfl⟩
              obtain ⟨wk, hwk⟩ : ∃ wk, wk = wj := ⟨_, rfl⟩
              have P1 : PermIn a mid d1 d2 := by rw [hd2]; exact P1
              have S1 : SortedIn ltE a mid d2 := by rw [hd2]; exact S1
              have hA2 : Arr w0 B d2 wk := by rw [hd2, hwk]; exact hA1
              have hO2 : AllOk m d2 := by rw [hd2]; exact hO1
              have hz2 : d2.size = d.size := by rw [hd2]; exact hz1
              rw [← hwk]
              clear hA1 hO1 hd2 hwk
              by_cases q1a : a < s
              · have q1b : ¬ s < mid := fun h => q1 ⟨q1a, h⟩
                have z1 : (a : Int) < (s : Int) := by omega
                have z1d : decide ((a : Int) < (s : Int)) = true := decide_eq_true z1
                have z2 : ¬ (s : Int) < (mid : Int) := by omega
                have z2d : decide ((s : Int) < (mid : Int)) = false := decide_eq_false z2
                clear q1 q1a q1b
                by_cases q2 : mid < e ∧ e < b
                · obtain ⟨q2a, q2b⟩ := q2
                  have z3 : (mid : Int) < (e : Int) := by omega
                  have z3d : decide ((mid : Int) < (e : Int)) = true := decide_eq_true z3
                  have z4 : (e : Int) < (b : Int) := by omega
                  have z4d : decide ((e : Int) < (b : Int)) = true := decide_eq_true z4
                  have hc2 := HIH.out mid e b d2 wk (by omega) q2a q2b hb hz2 hA2 hO2 (keep_right P1 HH1.h3 (Nat.le_refl _)) (keep_right P1 HH1.h4 f4)
                  have HA : Aside (PermIn s e d d1 ∧ Halves ltE a s mid e b d1 ∧ PermIn a mid d1 d2 ∧ SortedIn ltE a mid d2) := ⟨P0, HH1, P1, S1⟩
                  clear P0 HH1 P1 S1 hA2 hO2 q2a q2b
                  skip
                  go_wp2_with (go_at_call 97; refine hc2.mono ?_)
                  all_goals clear hc2
                  all_goals (first | rintro _ w5 rfl d3 hN3 hS3 | rintro _ w5 ⟨rfl, d3, hN3, hS3⟩)
                  all_goals have HE2 : Aside _ := all_told hb f6 f3 f4 f5 HA.out.1 HA.out.2.1 HA.out.2.2.1 HA.out.2.2.2 hN3.perm hS3 hN3.arr hN3.ok
                  all_goals clear hN3 hS3
                  all_goals go_wp2
                  all_goals go_end0
                  all_goals exact ⟨rfl, _, HE2.out⟩
                · have S2x := keep_right P1 (right_done HH1 f4 f5 q2) (Nat.le_refl _)
                  have HE := all_told hb f6 f3 f4 f5 P0 HH1 P1 S1 (permIn_refl d2 mid b) S2x hA2 hO2
                  have HE2 : Aside _ := HE
                  clear HE hA2 hO2 P0 HH1 S2x P1 S1
                  by_cases q2a : mid < e
                  · have q2b : ¬ e < b := fun h => q2 ⟨q2a, h⟩
                    have z3 : (mid : Int) < (e : Int) := by omega
                    have z3d : decide ((mid : Int) < (e : Int)) = true := decide_eq_true z3
                    have z4 : ¬ (e : Int) < (b : Int) := by omega
                    have z4d : decide ((e : Int) < (b : Int)) = false := decide_eq_false z4
                    clear q2
                    skip
                    go_wp2
                    all_goals go_end0
                    all_goals exact ⟨rfl, _, HE2.out⟩
                  · skip
                    have z3 : ¬ (mid : Int) < (e : Int) := by omega
                    have z3d : decide ((mid : Int) < (e : Int)) = false := decide_eq_false z3
                    clear q2
                    skip
                    go_wp2
                    all_goals go_end0
                    all_goals exact ⟨rfl, _, HE2.out⟩
              · skip
                have z1 : ¬ (a : Int) < (s : Int) := by omega
                have z1d : decide ((a : Int) < (s : Int)) = false := decide_eq_false z1
                clear q1 q1a
                by_cases q2 : mid < e ∧ e < b
                · obtain ⟨q2a, q2b⟩ := q2
                  have z3 : (mid : Int) < (e : Int) := by omega
                  have z3d : decide ((mid : Int) < (e : Int)) = true := decide_eq_true z3
                  have z4 : (e : Int) < (b : Int) := by omega
                  have z4d : decide ((e : Int) < (b : Int)) = true := decide_eq_true z4
                  have hc2 := HIH.out mid e b d2 wk (by omega) q2a q2b hb hz2 hA2 hO2 (keep_right P1 HH1.h3 (Nat.le_refl _)) (keep_right P1 HH1.h4 f4)
                  have HA : Aside (PermIn s e d d1 ∧ Halves ltE a s mid e b d1 ∧ PermIn a mid d1 d2 ∧ SortedIn ltE a mid d2) := ⟨P0, HH1, P1, S1⟩
                  clear P0 HH1 P1 S1 hA2 hO2 q2a q2b
                  skip
                  go_wp2_with (go_at_call 97; refine hc2.mono ?_)
                  all_goals clear hc2
                  all_goals (first | rintro _ w5 rfl d3 hN3 hS3 | rintro _ w5 ⟨rfl, d3, hN3, hS3⟩)
                  all_goals have HE2 : Aside _ := all_told hb f6 f3 f4 f5 HA.out.1 HA.out.2.1 HA.out.2.2.1 HA.out.2.2.2 hN3.perm hS3 hN3.arr hN3.ok
                  all_goals clear hN3 hS3
                  all_goals go_wp2
                  all_goals go_end0
                  all_goals exact ⟨rfl, _, HE2.out⟩
                · have S2x := keep_right P1 (right_done HH1 f4 f5 q2) (Nat.le_refl _)
                  have HE := all_told hb f6 f3 f4 f5 P0 HH1 P1 S1 (permIn_refl d2 mid b) S2x hA2 hO2
                  have HE2 : Aside _ := HE
                  clear HE hA2 hO2 P0 HH1 S2x P1 S1
                  by_cases q2a : mid < e
                  · have q2b : ¬ e < b := fun h => q2 ⟨q2a, h⟩
                    have z3 : (mid : Int) < (e : Int) := by omega
                    have z3d : decide ((mid : Int) < (e : Int)) = true := decide_eq_true z3
                    have z4 : ¬ (e : Int) < (b : Int) := by omega
                    have z4d : decide ((e : Int) < (b : Int)) = false := decide_eq_false z4
                    clear q2
                    skip
                    go_wp2
                    all_goals go_end0
                    all_goals exact ⟨rfl, _, HE2.out⟩
                  · skip
                    have z3 : ¬ (mid : Int) < (e : Int) := by omega
                    have z3d : decide ((mid : Int) < (e : Int)) = false := decide_eq_false z3
                    clear q2
                    skip
                    go_wp2
                    all_goals go_end0
                    all_goals exact ⟨rfl, _, HE2.out⟩
  · have hcmz : ¬ (mid : Int) < (c : Int) := by omega
    have ends : Aside (a ≤ a ∧ c ≤ c ∧ c ≤ mid ∧ (a = a ∨ mid + c - a = b) ∧ (c = c ∨ mid + c - c = c) ∧ a ≤ c ∧ mid + c ≤ a + b) := ⟨by omega, by omega, by omega, by omega, by omega, by omega, by omega⟩
    go_enter Tryd.func97, Tryd.ntmps97
    go_wp2
    go_loopg [20, 21] (c - a) (fun g v v' wr => ∃ s r : Nat, v = .int .i64 s ∧ v' = .int .i64 r ∧ a ≤ s ∧ s ≤ r ∧ r ≤ c ∧ r - s ≤ g ∧ Aside (Now w0 B m d a b d wr ∧ (s = a ∨ ltE d[mid + c - s]! d[s - 1]! = false) ∧ (r = c ∨ ltE d[mid + c - 1 - r]! d[r]! = true)))
    case atStart => exact ⟨a, c, rfl, rfl, Nat.le_refl _, ends.out.2.2.2.2.2.1, Nat.le_refl _, Nat.le_refl _, S0, .inl rfl, .inl rfl⟩
    case round =>
      clear S0
      obtain ⟨s, r, rfl, rfl, hls, hsr, hrh, hg, S1⟩ := hrel
      obtain ⟨E1, E2, E3, E4, E5, E6, E7⟩ := ends.out
      by_cases hlt : s < r
      · have hltz : (s : Int) < (r : Int) := by omega
        obtain ⟨h, hh⟩ : ∃ h, h = (s + r) / 2 := ⟨_, rfl⟩
        obtain ⟨q, hq⟩ : ∃ q, q + h + 1 = mid + c := ⟨mid + c - 1 - h, by omega⟩
        have rs : IntKind.i64.wrap ((s : Int) + (r : Int)) = (s : Int) + (r : Int) := by rw [IntKind.wrap_i64]; omega
        have hhz : ((s : Int) + (r : Int)) / 2 = (h : Int) := by omega
        have rq : IntKind.i64.wrap ((mid : Int) + (c : Int) - 1 - (h : Int)) = (q : Int) := by rw [IntKind.wrap_i64]; omega
        have rh1 : IntKind.i64.wrap ((h : Int) + 1) = (h : Int) + 1 := by rw [IntKind.wrap_i64]; omega
        have c1 := ask HK.out S1.out.1 q h (by omega) (by omega)
        have k1 := cell_regrown (S1.out.1.arr.c1 q (by omega))
        have k2 := cell_regrown (S1.out.1.arr.c1 h (by omega))
        obtain ⟨xa, xn, xc, xr, hx⟩ := (S1.out.1.ok q (by omega)).slice
        obtain ⟨ya, yn, yc, yr, hy⟩ := (S1.out.1.ok h (by omega)).slice
        have bq : (q : Int) < (d.size : Int) := by omega
        have bh : (h : Int) < (d.size : Int) := by omega
        have pq : (0 : Int) ≤ (q : Int) := by omega
        have ph : (0 : Int) ≤ (h : Int) := by omega
        have eq : ((q : Int)).toNat = q := by omega
        have eh : ((h : Int)).toNat = h := by omega
        have HH : Aside (h = (s + r) / 2 ∧ q + h + 1 = mid + c) := ⟨hh, hq⟩
        clear hh hq
        cases hlv : ltE d[q]! d[h]! with
        | true =>
          have hv := ltE_true hlv
          rw [hx, hy] at c1 hv
          rw [hx] at k1
          rw [hy] at k2
          simp only at c1 k1 k2 hv
          have hd : decide (ords xr yr < 0) = true := decide_eq_true hv
          have HL : Aside _ := hlv
          clear hx hy hlv
          go_wp2_with fail
          refine wp_region_quiet_below (by assumption) (by kernel_rfl) ?_
          repeat (quiet_step (first | (go_at_fn 40; exact c1 _ _)))
          refine wpQuiet_nil ?_
          intro _ hw'
          obtain ⟨⟨dq, osq⟩, hw''⟩ := hw'
          subst hw''
          clear k1 k2 c1
          have S2 : Aside (Now w0 B m d a b d (grow (redrawn wr dq) osq) ∧ (s = a ∨ ltE d[mid + c - s]! d[s - 1]! = false) ∧ (h = c ∨ ltE d[mid + c - 1 - h]! d[h]! = true)) := ⟨S1.out.1.grown (below_regrown wr dq osq), S1.out.2.1, .inr (by
            have := HH.out.2
            have e : mid + c - 1 - h = q := by omega
            rw [e]; exact HL.out)⟩
          clear S1 HL
          generalize grow (redrawn wr dq) osq = w2 at S2 ⊢
          clear dq osq
          go_wp2
          go_roundg (h - s)
          case measure => have := HH.out; omega
          case rel => exact ⟨s, h, rfl, rfl, hls, by have := HH.out; omega, by have := HH.out; omega, by have := HH.out; omega, S2⟩
        | false =>
          have hv := ltE_false hlv
          rw [hx, hy] at c1 hv
          rw [hx] at k1
          rw [hy] at k2
          simp only at c1 k1 k2 hv
          have hd : decide (ords xr yr < 0) = false := decide_eq_false hv
          have HL : Aside _ := hlv
          clear hx hy hlv
          go_wp2_with fail
          refine wp_region_quiet_below (by assumption) (by kernel_rfl) ?_
          repeat (quiet_step (first | (go_at_fn 40; exact c1 _ _)))
          refine wpQuiet_nil ?_
          intro _ hw'
          obtain ⟨⟨dq, osq⟩, hw''⟩ := hw'
          subst hw''
          clear k1 k2 c1
          have S2 : Aside (Now w0 B m d a b d (grow (redrawn wr dq) osq) ∧ (h + 1 = a ∨ ltE d[mid + c - (h + 1)]! d[h + 1 - 1]! = false) ∧ (r = c ∨ ltE d[mid + c - 1 - r]! d[r]! = true)) := ⟨S1.out.1.grown (below_regrown wr dq osq), .inr (by
            have := HH.out.2
            have e : mid + c - (h + 1) = q := by omega
            rw [e, Nat.add_sub_cancel]; exact HL.out), S1.out.2.2⟩
          clear S1 HL
          generalize grow (redrawn wr dq) osq = w2 at S2 ⊢
          clear dq osq
          go_wp2
          go_roundg (r - (h + 1))
          case measure => have := HH.out; omega
          case rel => exact ⟨h + 1, r, by go_num, rfl, by have := HH.out; omega, by have := HH.out; omega, hrh, by have := HH.out; omega, S2⟩
      · obtain rfl : s = r := by omega
        have hltz : ¬ (s : Int) < (s : Int) := by omega
        obtain ⟨e, he⟩ : ∃ e, e + s = mid + c := ⟨mid + c - s, by omega⟩
        have re : IntKind.i64.wrap ((mid : Int) + (c : Int) - (s : Int)) = (e : Int) := by rw [IntKind.wrap_i64]; omega
        have f1 : s ≤ c := by omega
        have f2 : c ≤ e := by omega
        have f3 : s ≤ mid := by omega
        have f4 : mid ≤ e := by omega
        have f5 : e ≤ b := by omega
        have f6 : a ≤ s := by omega
        have f7 : s + (e - c) = mid := by omega
        have f8 : mid < b := by omega
        have f9 : a < mid := by omega
        have C3 : s = a ∨ e = b ∨ ltE d[e]! d[s - 1]! = false := by
          rcases S1.out.2.1 with h | h
          · rcases E4 with h' | h'
            · exact .inl (by omega)
            · exact .inr (.inl (by omega))
          · have e1 : mid + c - s = e := by omega
            rw [e1] at h
            exact .inr (.inr h)
        have C4 : s = c ∨ e = c ∨ ltE d[e - 1]! d[s]! = true := by
          rcases S1.out.2.2 with h | h
          · rcases E5 with h' | h'
            · exact .inl (by omega)
            · exact .inr (.inl (by omega))
          · have e1 : mid + c - 1 - s = e - 1 := by omega
            rw [e1] at h
            exact .inr (.inr h)
        have HC : Aside (∀ d1 : Array El, (∀ t, d1[t]! = rot d s c e t) → Halves ltE a s mid e b d1) := fun d1 h => by
          have := halves ltE_swo HL0.out HR0.out f6 f1 f2 f5 C3 C4 h
          rwa [f7] at this
        have HN : Aside (Now w0 B m d a b d wr) := S1.out.1
        clear S1 C3 C4
        by_cases q0 : s < c ∧ c < e
        · obtain ⟨q0a, q0b⟩ := q0
          have y1 : (s : Int) < (c : Int) := by omega
          have y1d : decide ((s : Int) < (c : Int)) = true := decide_eq_true y1
          have y2 : (c : Int) < (e : Int) := by omega
          have y2d : decide ((c : Int) < (e : Int)) = true := decide_eq_true y2
          have hc0 := rotate_walk HN.out.arr HN.out.ok cap s c e q0a q0b (by omega) (by omega)
          clear q0a q0b
          go_wp2_with (go_at_call 105; refine hc0.mono ?_)
          clear hc0
          (first | rintro _ wj rfl d1 hN1 hrot | rintro _ wj ⟨rfl, d1, hN1, hrot⟩)
          have P0 := hN1.perm
          have HH1 := HC.out d1 hrot
          have hA1 := hN1.arr
          have hO1 := hN1.ok
          have hz1 : d1.size = d.size := hN1.size
          clear hN1 hrot HN HC
          by_cases q1 : a < s ∧ s < mid
          · obtain ⟨q1a, q1b⟩ := q1
            have z1 : (a : Int) < (s : Int) := by omega
            have z1d : decide ((a : Int) < (s : Int)) = true := decide_eq_true z1
            have z2 : (s : Int) < (mid : Int) := by omega
            have z2d : decide ((s : Int) < (mid : Int)) = true := decide_eq_true z2
            have hc1 := HIH.out a s mid d1 wj (by omega) q1a q1b (by omega) hz1 hA1 hO1 HH1.h1 HH1.h2
            have HB : Aside (PermIn s e d d1 ∧ Halves ltE a s mid e b d1) := ⟨P0, HH1⟩
            clear P0 HH1 hA1 hO1 q1a q1b
            skip
            go_wp2_with (go_at_call 97; refine hc1.mono ?_)
            clear hc1
            (first | rintro _ wk rfl d2 hN2 hS2 | rintro _ wk ⟨rfl, d2, hN2, hS2⟩)
            obtain ⟨P0, HH1⟩ := HB.out
            have P1 := hN2.perm
            have S1 := hS2
            have hA2 := hN2.arr
            have hO2 := hN2.ok
            have hz2 : d2.size = d.size := hN2.size.trans hz1
            clear hN2 hS2 HB
            by_cases q2 : mid < e ∧ e < b
            · obtain ⟨q2a, q2b⟩ := q2
              have z3 : (mid : Int) < (e : Int) := by omega
              have z3d : decide ((mid : Int) < (e : Int)) = true := decide_eq_true z3
              have z4 : (e : Int) < (b : Int) := by omega
              have z4d : decide ((e : Int) < (b : Int)) = true := decide_eq_true z4
              have hc2 := HIH.out mid e b d2 wk (by omega) q2a q2b hb hz2 hA2 hO2 (keep_right P1 HH1.h3 (Nat.le_refl _)) (keep_right P1 HH1.h4 f4)
              have HA : Aside (PermIn s e d d1 ∧ Halves ltE a s mid e b d1 ∧ PermIn a mid d1 d2 ∧ SortedIn ltE a mid d2) := ⟨P0, HH1, P1, S1⟩
              clear P0 HH1 P1 S1 hA2 hO2 q2a q2b
              skip
              go_wp2_with (go_at_call 97; refine hc2.mono ?_)
              all_goals clear hc2
              all_goals (first | rintro _ w5 rfl d3 hN3 hS3 | rintro _ w5 ⟨rfl, d3, hN3, hS3⟩)
              all_goals have HE2 : Aside _ := all_told hb f6 f3 f4 f5 HA.out.1 HA.out.2.1 HA.out.2.2.1 HA.out.2.2.2 hN3.perm hS3 hN3.arr hN3.ok
              all_goals clear hN3 hS3
              all_goals go_wp2
              all_goals go_end0
              all_goals exact ⟨rfl, _, HE2.out⟩
            · have S2x := keep_right P1 (right_done HH1 f4 f5 q2) (Nat.le_refl _)
              have HE := all_told hb f6 f3 f4 f5 P0 HH1 P1 S1 (permIn_refl d2 mid b) S2x hA2 hO2
              have HE2 : Aside _ := HE
              clear HE hA2 hO2 P0 HH1 S2x P1 S1
              by_cases q2a : mid < e
              · have q2b : ¬ e < b := fun h => q2 ⟨q2a, h⟩
                have z3 : (mid : Int) < (e : Int) := by omega
                have z3d : decide ((mid : Int) < (e : Int)) = true := decide_eq_true z3
                have z4 : ¬ (e : Int) < (b : Int) := by omega
                have z4d : decide ((e : Int) < (b : Int)) = false := decide_eq_false z4
                clear q2
                skip
                go_wp2
                all_goals go_end0
                all_goals exact ⟨rfl, _, HE2.out⟩
              · skip
                have z3 : ¬ (mid : Int) < (e : Int) := by omega
                have z3d : decide ((mid : Int) < (e : Int)) = false := decide_eq_false z3
                clear q2
                skip
                go_wp2
                all_goals go_end0
                all_goals exact ⟨rfl, _, HE2.out⟩
          · have P1 : PermIn a mid d1 d1 := permIn_refl d1 a mid
            have S1 := left_done HH1 f6 f3 q1
            obtain ⟨d2, hd2⟩ : ∃ d2, d2 = d1 := ⟨_, rfl⟩
            obtain ⟨wk, hwk⟩ : ∃ wk, wk = wj := ⟨_, rfl⟩
            have P1 : PermIn a mid d1 d2 := by rw [hd2]; exact P1
            have S1 : SortedIn ltE a mid d2 := by rw [hd2]; exact S1
            have hA2 : Arr w0 B d2 wk := by rw [hd2, hwk]; exact hA1
            have hO2 : AllOk m d2 := by rw [hd2]; exact hO1
            have hz2 : d2.size = d.size := by rw [hd2]; exact hz1
            rw [← hwk]
            clear hA1 hO1 hd2 hwk
            by_cases q1a : a < s
            · have q1b : ¬ s < mid := fun h => q1 ⟨q1a, h⟩
              have z1 : (a : Int) < (s : Int) := by omega
              have z1d : decide ((a : Int) < (s : Int)) = true := decide_eq_true z1
              have z2 : ¬ (s : Int) < (mid : Int) := by omega
              have z2d : decide ((s : Int) < (mid : Int)) = false := decide_eq_false z2
              clear q1 q1a q1b
              by_cases q2 : mid < e ∧ e < b
              · obtain ⟨q2a, q2b⟩ := q2
                have z3 : (mid : Int) < (e : Int) := by omega
                have z3d : decide ((mid : Int) < (e : Int)) = true := decide_eq_true z3
                have z4 : (e : Int) < (b : Int) := by omega
                have z4d : decide ((e : Int) < (b : Int)) = true := decide_eq_true z4
                have hc2 := HIH.out mid e b d2 wk (by omega) q2a q2b hb hz2 hA2 hO2 (keep_right P1 HH1.h3 (Nat.le_refl _)) (keep_right P1 HH1.h4 f4)
                have HA : Aside (PermIn s e d d1 ∧ Halves ltE a s mid e b d1 ∧ PermIn a mid d1 d2 ∧ SortedIn ltE a mid d2) := ⟨P0, HH1, P1, S1⟩
                clear P0 HH1 P1 S1 hA2 hO2 q2a q2b
                skip
                go_wp2_with (go_at_call 97; refine hc2.mono ?_)
                all_goals clear hc2
                all_goals (first | rintro _ w5 rfl d3 hN3 hS3 | rintro _ w5 ⟨rfl, d3, hN3, hS3⟩)
                all_goals have HE2 : Aside _ := all_told hb f6 f3 f4 f5 HA.out.1 HA.out.2.1 HA.out.2.2.1 HA.out.2.2.2 hN3.perm hS3 hN3.arr hN3.ok
                all_goals clear hN3 hS3
                all_goals go_wp2
                all_goals go_end0
                all_goals exact ⟨rfl, _, HE2.out⟩
              · have S2x := keep_right P1 (right_done HH1 f4 f5 q2) (Nat.le_refl _)
                have HE := all_told hb f6 f3 f4 f5 P0 HH1 P1 S1 (permIn_refl d2 mid b) S2x hA2 hO2
                have HE2 : Aside _ := HE
                clear HE hA2 hO2 P0 HH1 S2x P1 S1
                by_cases q2a : mid < e
                · have q2b : ¬ e < b := fun h => q2 ⟨q2a, h⟩
                  have z3 : (mid : Int) < (e : Int) := by omega
                  have z3d : decide ((mid : Int) < (e : Int)) = true := decide_eq_true z3
                  have z4 : ¬ (e : Int) < (b : Int) := by omega
                  have z4d : decide ((e : Int) < (b : Int)) = false := decide_eq_false z4
                  clear q2
                  skip
                  go_wp2
                  all_goals go_end0
                  all_goals exact ⟨rfl, _, HE2.out⟩
                · skip
                  have z3 : ¬ (mid : Int) < (e : Int) := by omega
                  have z3d : decide ((mid : Int) < (e : Int)) = false := decide_eq_false z3
                  clear q2
                  skip
                  go_wp2
                  all_goals go_end0
                  all_goals exact ⟨rfl, _, HE2.out⟩
            · skip
              have z1 : ¬ (a : Int) < (s : Int) := by omega
              have z1d : decide ((a : Int) < (s : Int)) = false := decide_eq_false z1
              clear q1 q1a
              by_cases q2 : mid < e ∧ e < b
              · obtain ⟨q2a, q2b⟩ := q2
                have z3 : (mid : Int) < (e : Int) := by omega
                have z3d : decide ((mid : Int) < (e : Int)) = true := decide_eq_true z3
                have z4 : (e : Int) < (b : Int) := by omega
                have z4d : decide ((e : Int) < (b : Int)) = true := decide_eq_true z4
                have hc2 := HIH.out mid e b d2 wk (by omega) q2a q2b hb hz2 hA2 hO2 (keep_right P1 HH1.h3 (Nat.le_refl _)) (keep_right P1 HH1.h4 f4)
                have HA : Aside (PermIn s e d d1 ∧ Halves ltE a s mid e b d1 ∧ PermIn a mid d1 d2 ∧ SortedIn ltE a mid d2) := ⟨P0, HH1, P1, S1⟩
                clear P0 HH1 P1 S1 hA2 hO2 q2a q2b
                skip
                go_wp2_with (go_at_call 97; refine hc2.mono ?_)
                all_goals clear hc2
                all_goals (first | rintro _ w5 rfl d3 hN3 hS3 | rintro _ w5 ⟨rfl, d3, hN3, hS3⟩)
                all_goals have HE2 : Aside _ := all_told hb f6 f3 f4 f5 HA.out.1 HA.out.2.1 HA.out.2.2.1 HA.out.2.2.2 hN3.perm hS3 hN3.arr hN3.ok
                all_goals clear hN3 hS3
                all_goals go_wp2
                all_goals go_end0
                all_goals exact ⟨rfl, _, HE2.out⟩
              · have S2x := keep_right P1 (right_done HH1 f4 f5 q2) (Nat.le_refl _)
                have HE := all_told hb f6 f3 f4 f5 P0 HH1 P1 S1 (permIn_refl d2 mid b) S2x hA2 hO2
                have HE2 : Aside _ := HE
                clear HE hA2 hO2 P0 HH1 S2x P1 S1
                by_cases q2a : mid < e
                · have q2b : ¬ e < b := fun h => q2 ⟨q2a, h⟩
                  have z3 : (mid : Int) < (e : Int) := by omega
                  have z3d : decide ((mid : Int) < (e : Int)) = true := decide_eq_true z3
                  have z4 : ¬ (e : Int) < (b : Int) := by omega
                  have z4d : decide ((e : Int) < (b : Int)) = false := decide_eq_false z4
                  clear q2
                  skip
                  go_wp2
                  all_goals go_end0
                  all_goals exact ⟨rfl, _, HE2.out⟩
                · skip
                  have z3 : ¬ (mid : Int) < (e : Int) := by omega
                  have z3d : decide ((mid : Int) < (e : Int)) = false := decide_eq_false z3
                  clear q2
                  skip
                  go_wp2
                  all_goals go_end0
                  all_goals exact ⟨rfl, _, HE2.out⟩
        · have P0 : PermIn s e d d := permIn_refl d s e
          have HH1 := HC.out d (rot_none (by omega) f1 f2)
          obtain ⟨d1, hd1⟩ : ∃ d1, d1 = d := ⟨_, rfl⟩
          obtain ⟨wj, hwj⟩ : ∃ wj, wj = wr := ⟨_, rfl⟩
          have P0 : PermIn s e d d1 := by rw [hd1]; exact P0
          have HH1 : Halves ltE a s mid e b d1 := by rw [hd1]; exact HH1
          have hA1 : Arr w0 B d1 wj := by rw [hd1, hwj]; exact HN.out.arr
          have hO1 : AllOk m d1 := by rw [hd1]; exact HN.out.ok
          have hz1 : d1.size = d.size := by rw [hd1]
          rw [← hwj]
          clear HN HC hd1 hwj
          by_cases q0a : s < c
          · have q0b : ¬ c < e := fun h => q0 ⟨q0a, h⟩
            have y1 : (s : Int) < (c : Int) := by omega
            have y1d : decide ((s : Int) < (c : Int)) = true := decide_eq_true y1
            have y2 : ¬ (c : Int) < (e : Int) := by omega
            have y2d : decide ((c : Int) < (e : Int)) = false := decide_eq_false y2
            clear q0 q0a q0b
            by_cases q1 : a < s ∧ s < mid
            · obtain ⟨q1a, q1b⟩ := q1
              have z1 : (a : Int) < (s : Int) := by omega
              have z1d : decide ((a : Int) < (s : Int)) = true := decide_eq_true z1
              have z2 : (s : Int) < (mid : Int) := by omega
              have z2d : decide ((s : Int) < (mid : Int)) = true := decide_eq_true z2
              have hc1 := HIH.out a s mid d1 wj (by omega) q1a q1b (by omega) hz1 hA1 hO1 HH1.h1 HH1.h2
              have HB : Aside (PermIn s e d d1 ∧ Halves ltE a s mid e b d1) := ⟨P0, HH1⟩
              clear P0 HH1 hA1 hO1 q1a q1b
              skip
              go_wp2_with (go_at_call 97; refine hc1.mono ?_)
              clear hc1
              (first | rintro _ wk rfl d2 hN2 hS2 | rintro _ wk ⟨rfl, d2, hN2, hS2⟩)
              obtain ⟨P0, HH1⟩ := HB.out
              have P1 := hN2.perm
              have S1 := hS2
              have hA2 := hN2.arr
              have hO2 := hN2.ok
              have hz2 : d2.size = d.size := hN2.size.trans hz1
              clear hN2 hS2 HB
              by_cases q2 : mid < e ∧ e < b
              · obtain ⟨q2a, q2b⟩ := q2
                have z3 : (mid : Int) < (e : Int) := by omega
                have z3d : decide ((mid : Int) < (e : Int)) = true := decide_eq_true z3
                have z4 : (e : Int) < (b : Int) := by omega
                have z4d : decide ((e : Int) < (b : Int)) = true := decide_eq_true z4
                have hc2 := HIH.out mid e b d2 wk (by omega) q2a q2b hb hz2 hA2 hO2 (keep_right P1 HH1.h3 (Nat.le_refl _)) (keep_right P1 HH1.h4 f4)
                have HA : Aside (PermIn s e d d1 ∧ Halves ltE a s mid e b d1 ∧ PermIn a mid d1 d2 ∧ SortedIn ltE a mid d2) := ⟨P0, HH1, P1, S1⟩
                clear P0 HH1 P1 S1 hA2 hO2 q2a q2b
                skip
                go_wp2_with (go_at_call 97; refine hc2.mono ?_)
                all_goals clear hc2
                all_goals (first | rintro _ w5 rfl d3 hN3 hS3 | rintro _ w5 ⟨rfl, d3, hN3, hS3⟩)
                all_goals have HE2 : Aside _ := all_told hb f6 f3 f4 f5 HA.out.1 HA.out.2.1 HA.out.2.2.1 HA.out.2.2.2 hN3.perm hS3 hN3.arr hN3.ok
                all_goals clear hN3 hS3
                all_goals go_wp2
                all_goals go_end0
                all_goals exact ⟨rfl, _, HE2.out⟩
              · have S2x := keep_right P1 (right_done HH1 f4 f5 q2) (Nat.le_refl _)
                have HE := all_told hb f6 f3 f4 f5 P0 HH1 P1 S1 (permIn_refl d2 mid b) S2x hA2 hO2
                have HE2 : Aside _ := HE
                clear HE hA2 hO2 P0 HH1 S2x P1 S1
                by_cases q2a : mid < e
                · have q2b : ¬ e < b := fun h => q2 ⟨q2a, h⟩
                  have z3 : (mid : Int) < (e : Int) := by omega
                  have z3d : decide ((mid : Int) < (e : Int)) = true := decide_eq_true z3
                  have z4 : ¬ (e : Int) < (b : Int) := by omega
                  have z4d : decide ((e : Int) < (b : Int)) = false := decide_eq_false z4
                  clear q2
                  skip
                  go_wp2
                  all_goals go_end0
                  all_goals exact ⟨rfl, _, HE2.out⟩
                · skip
                  have z3 : ¬ (mid : Int) < (e : Int) := by omega
                  have z3d : decide ((mid : Int) < (e : Int)) = false := decide_eq_false z3
                  clear q2
                  skip
                  go_wp2
                  all_goals go_end0
                  all_goals exact ⟨rfl, _, HE2.out⟩
            · have P1 : PermIn a mid d1 d1 := permIn_refl d1 a mid
              have S1 := left_done HH1 f6 f3 q1
              obtain ⟨d2, hd2⟩ : ∃ d2, d2 = d1 := ⟨_, rfl⟩
              obtain ⟨wk, hwk⟩ : ∃ wk, wk = wj := ⟨_, rfl⟩
              have P1 : PermIn a mid d1 d2 := by rw [hd2]; exact P1
              have S1 : SortedIn ltE a mid d2 := by rw [hd2]; exact S1
              have hA2 : Arr w0 B d2 wk := by rw [hd2, hwk]; exact hA1
              have hO2 : AllOk m d2 := by rw [hd2]; exact hO1
              have hz2 : d2.size = d.size := by rw [hd2]; exact hz1
              rw [← hwk]
              clear hA1 hO1 hd2 hwk
              by_cases q1a : a < s
              · have q1b : ¬ s < mid := fun h => q1 ⟨q1a, h⟩
                have z1 : (a : Int) < (s : Int) := by omega
                have z1d : decide ((a : Int) < (s : Int)) = true := decide_eq_true z1
                have z2 : ¬ (s : Int) < (mid : Int) := by omega
                have z2d : decide ((s : Int) < (mid : Int)) = false := decide_eq_false z2
                clear q1 q1a q1b
                by_cases q2 : mid < e ∧ e < b
                · obtain ⟨q2a, q2b⟩ := q2
                  have z3 : (mid : Int) < (e : Int) := by omega
                  have z3d : decide ((mid : Int) < (e : Int)) = true := decide_eq_true z3
                  have z4 : (e : Int) < (b : Int) := by omega
                  have z4d : decide ((e : Int) < (b : Int)) = true := decide_eq_true z4
                  have hc2 := HIH.out mid e b d2 wk (by omega) q2a q2b hb hz2 hA2 hO2 (keep_right P1 HH1.h3 (Nat.le_refl _)) (keep_right P1 HH1.h4 f4)
                  have HA : Aside (PermIn s e d d1 ∧ Halves ltE a s mid e b d1 ∧ PermIn a mid d1 d2 ∧ SortedIn ltE a mid d2) := ⟨P0, HH1, P1, S1⟩
                  clear P0 HH1 P1 S1 hA2 hO2 q2a q2b
                  skip
                  go_wp2_with (go_at_call 97; refine hc2.mono ?_)
                  all_goals clear hc2
                  all_goals (first | rintro _ w5 rfl d3 hN3 hS3 | rintro _ w5 ⟨rfl, d3, hN3, hS3⟩)
                  all_goals have HE2 : Aside _ := all_told hb f6 f3 f4 f5 HA.out.1 HA.out.2.1 HA.out.2.2.1 HA.out.2.2.2 hN3.perm hS3 hN3.arr hN3.ok
                  all_goals clear hN3 hS3
                  all_goals go_wp2
                  all_goals go_end0
                  all_goals exact ⟨rfl, _, HE2.out⟩
                · have S2x := keep_right P1 (right_done HH1 f4 f5 q2) (Nat.le_refl _)
                  have HE := all_told hb f6 f3 f4 f5 P0 HH1 P1 S1 (permIn_refl d2 mid b) S2x hA2 hO2
                  have HE2 : Aside _ := HE
                  clear HE hA2 hO2 P0 HH1 S2x P1 S1
                  by_cases q2a : mid < e
                  · have q2b : ¬ e < b := fun h => q2 ⟨q2a, h⟩
                    have z3 : (mid : Int) < (e : Int) := by omega
                    have z3d : decide ((mid : Int) < (e : Int)) = true := decide_eq_true z3
                    have z4 : ¬ (e : Int) < (b : Int) := by omega
                    have z4d : decide ((e : Int) < (b : Int)) = false := decide_eq_false z4
                    clear q2
                    skip
                    go_wp2
                    all_goals go_end0
                    all_goals exact ⟨rfl, _, HE2.out⟩
                  · skip
                    have z3 : ¬ (mid : Int) < (e : Int) := by omega
                    have z3d : decide ((mid : Int) < (e : Int)) = false := decide_eq_false z3
                    clear q2
                    skip
                    go_wp2
                    all_goals go_end0
                    all_goals exact ⟨rfl, _, HE2.out⟩
              · skip
                have z1 : ¬ (a : Int) < (s : Int) := by omega
                have z1d : decide ((a : Int) < (s : Int)) = false := decide_eq_false z1
                clear q1 q1a
                by_cases q2 : mid < e ∧ e < b
                · obtain ⟨q2a, q2b⟩ := q2
                  have z3 : (mid : Int) < (e : Int) := by omega
                  have z3d : decide ((mid : Int) < (e : Int)) = true := decide_eq_true z3
                  have z4 : (e : Int) < (b : Int) := by omega
                  have z4d : decide ((e : Int) < (b : Int)) = true := decide_eq_true z4
                  have hc2 := HIH.out mid e b d2 wk (by omega) q2a q2b hb hz2 hA2 hO2 (keep_right P1 HH1.h3 (Nat.le_refl _)) (keep_right P1 HH1.h4 f4)
                  have HA : Aside (PermIn s e d d1 ∧ Halves ltE a s mid e b d1 ∧ PermIn a mid d1 d2 ∧ SortedIn ltE a mid d2) := ⟨P0, HH1, P1, S1⟩
                  clear P0 HH1 P1 S1 hA2 hO2 q2a q2b
                  skip
                  go_wp2_with (go_at_call 97; refine hc2.mono ?_)
                  all_goals clear hc2
                  all_goals (first | rintro _ w5 rfl d3 hN3 hS3 | rintro _ w5 ⟨rfl, d3, hN3, hS3⟩)
                  all_goals have HE2 : Aside _ := all_told hb f6 f3 f4 f5 HA.out.1 HA.out.2.1 HA.out.2.2.1 HA.out.2.2.2 hN3.perm hS3 hN3.arr hN3.ok
                  all_goals clear hN3 hS3
                  all_goals go_wp2
                  all_goals go_end0
                  all_goals exact ⟨rfl, _, HE2.out⟩
                · have S2x := keep_right P1 (right_done HH1 f4 f5 q2) (Nat.le_refl _)
                  have HE := all_told hb f6 f3 f4 f5 P0 HH1 P1 S1 (permIn_refl d2 mid b) S2x hA2 hO2
                  have HE2 : Aside _ := HE
                  clear HE hA2 hO2 P0 HH1 S2x P1 S1
                  by_cases q2a : mid < e
                  · have q2b : ¬ e < b := fun h => q2 ⟨q2a, h⟩
                    have z3 : (mid : Int) < (e : Int) := by omega
                    have z3d : decide ((mid : Int) < (e : Int)) = true := decide_eq_true z3
                    have z4 : ¬ (e : Int) < (b : Int) := by omega
                    have z4d : decide ((e : Int) < (b : Int)) = false := decide_eq_false z4
                    clear q2
                    skip
                    go_wp2
                    all_goals go_end0
                    all_goals exact ⟨rfl, _, HE2.out⟩
                  · skip
                    have z3 : ¬ (mid : Int) < (e : Int) := by omega
                    have z3d : decide ((mid : Int) < (e : Int)) = false := decide_eq_false z3
                    clear q2
                    skip
                    go_wp2
                    all_goals go_end0
                    all_goals exact ⟨rfl, _, HE2.out⟩
          · skip
            have y1 : ¬ (s : Int) < (c : Int) := by omega
            have y1d : decide ((s : Int) < (c : Int)) = false := decide_eq_false y1
            clear q0 q0a
            by_cases q1 : a < s ∧ s < mid
            · obtain ⟨q1a, q1b⟩ := q1
              have z1 : (a : Int) < (s : Int) := by omega
              have z1d : decide ((a : Int) < (s : Int)) = true := decide_eq_true z1
              have z2 : (s : Int) < (mid : Int) := by omega
              have z2d : decide ((s : Int) < (mid : Int)) = true := decide_eq_true z2
              have hc1 := HIH.out a s mid d1 wj (by omega) q1a q1b (by omega) hz1 hA1 hO1 HH1.h1 HH1.h2
              have HB : Aside (PermIn s e d d1 ∧ Halves ltE a s mid e b d1) := ⟨P0, HH1⟩
              clear P0 HH1 hA1 hO1 q1a q1b
              skip
              go_wp2_with (go_at_call 97; refine hc1.mono ?_)
              clear hc1
              (first | rintro _ wk rfl d2 hN2 hS2 | rintro _ wk ⟨rfl, d2, hN2, hS2⟩)
              obtain ⟨P0, HH1⟩ := HB.out
              have P1 := hN2.perm
              have S1 := hS2
              have hA2 := hN2.arr
              have hO2 := hN2.ok
              have hz2 : d2.size = d.size := hN2.size.trans hz1
              clear hN2 hS2 HB
              by_cases q2 : mid < e ∧ e < b
              · obtain ⟨q2a, q2b⟩ := q2
                have z3 : (mid : Int) < (e : Int) := by omega
                have z3d : decide ((mid : Int) < (e : Int)) = true := decide_eq_true z3
                have z4 : (e : Int) < (b : Int) := by omega
                have z4d : decide ((e : Int) < (b : Int)) = true := decide_eq_true z4
                have hc2 := HIH.out mid e b d2 wk (by omega) q2a q2b hb hz2 hA2 hO2 (keep_right P1 HH1.h3 (Nat.le_refl _)) (keep_right P1 HH1.h4 f4)
                have HA : Aside (PermIn s e d d1 ∧ Halves ltE a s mid e b d1 ∧ PermIn a mid d1 d2 ∧ SortedIn ltE a mid d2) := ⟨P0, HH1, P1, S1⟩
                clear P0 HH1 P1 S1 hA2 hO2 q2a q2b
                skip
                go_wp2_with (go_at_call 97; refine hc2.mono ?_)
                all_goals clear hc2
                all_goals (first | rintro _ w5 rfl d3 hN3 hS3 | rintro _ w5 ⟨rfl, d3, hN3, hS3⟩)
                all_goals have HE2 : Aside _ := all_told hb f6 f3 f4 f5 HA.out.1 HA.out.2.1 HA.out.2.2.1 HA.out.2.2.2 hN3.perm hS3 hN3.arr hN3.ok
                all_goals clear hN3 hS3
                all_goals go_wp2
                all_goals go_end0
                all_goals exact ⟨rfl, _, HE2.out⟩
              · have S2x := keep_right P1 (right_done HH1 f4 f5 q2) (Nat.le_refl _)
                have HE := all_told hb f6 f3 f4 f5 P0 HH1 P1 S1 (permIn_refl d2 mid b) S2x hA2 hO2
                have HE2 : Aside _ := HE
                clear HE hA2 hO2 P0 HH1 S2x P1 S1
                by_cases q2a : mid < e
                · have q2b : ¬ e < b := fun h => q2 ⟨q2a, h⟩
                  have z3 : (mid : Int) < (e : Int) := by omega
                  have z3d : decide ((mid : Int) < (e : Int)) = true := decide_eq_true z3
                  have z4 : ¬ (e : Int) < (b : Int) := by omega
                  have z4d : decide ((e : Int) < (b : Int)) = false := decide_eq_false z4
                  clear q2
                  skip
                  go_wp2
                  all_goals go_end0
                  all_goals exact ⟨rfl, _, HE2.out⟩
                · skip
                  have z3 : ¬ (mid : Int) < (e : Int) := by omega
                  have z3d : decide ((mid : Int) < (e : Int)) = false := decide_eq_false z3
                  clear q2
                  skip
                  go_wp2
                  all_goals go_end0
                  all_goals exact ⟨rfl, _, HE2.out⟩
            · have P1 : PermIn a mid d1 d1 := permIn_refl d1 a mid
              have S1 := left_done HH1 f6 f3 q1
              obtain ⟨d2, hd2⟩ : ∃ d2, d2 = d1 := ⟨_, rfl⟩
              obtain ⟨wk, hwk⟩ : ∃ wk, wk = wj := ⟨_, rfl⟩
              have P1 : PermIn a mid d1 d2 := by rw [hd2]; exact P1
              have S1 : SortedIn ltE a mid d2 := by rw [hd2]; exact S1
              have hA2 : Arr w0 B d2 wk := by rw [hd2, hwk]; exact hA1
              have hO2 : AllOk m d2 := by rw [hd2]; exact hO1
              have hz2 : d2.size = d.size := by rw [hd2]; exact hz1
              rw [← hwk]
              clear hA1 hO1 hd2 hwk
              by_cases q1a : a < s
              · have q1b : ¬ s < mid := fun h => q1 ⟨q1a, h⟩
                have z1 : (a : Int) < (s : Int) := by omega
                have z1d : decide ((a : Int) < (s : Int)) = true := decide_eq_true z1
                have z2 : ¬ (s : Int) < (mid : Int) := by omega
                have z2d : decide ((s : Int) < (mid : Int)) = false := decide_eq_false z2
                clear q1 q1a q1b
                by_cases q2 : mid < e ∧ e < b
                · obtain ⟨q2a, q2b⟩ := q2
                  have z3 : (mid : Int) < (e : Int) := by omega
                  have z3d : decide ((mid : Int) < (e : Int)) = true := decide_eq_true z3
                  have z4 : (e : Int) < (b : Int) := by omega
                  have z4d : decide ((e : Int) < (b : Int)) = true := decide_eq_true z4
                  have hc2 := HIH.out mid e b d2 wk (by omega) q2a q2b hb hz2 hA2 hO2 (keep_right P1 HH1.h3 (Nat.le_refl _)) (keep_right P1 HH1.h4 f4)
                  have HA : Aside (PermIn s e d d1 ∧ Halves ltE a s mid e b d1 ∧ PermIn a mid d1 d2 ∧ SortedIn ltE a mid d2) := ⟨P0, HH1, P1, S1⟩
                  clear P0 HH1 P1 S1 hA2 hO2 q2a q2b
                  skip
                  go_wp2_with (go_at_call 97; refine hc2.mono ?_)
                  all_goals clear hc2
                  all_goals (first | rintro _ w5 rfl d3 hN3 hS3 | rintro _ w5 ⟨rfl, d3, hN3, hS3⟩)
                  all_goals have HE2 : Aside _ := all_told hb f6 f3 f4 f5 HA.out.1 HA.out.2.1 HA.out.2.2.1 HA.out.2.2.2 hN3.perm hS3 hN3.arr hN3.ok
                  all_goals clear hN3 hS3
                  all_goals go_wp2
                  all_goals go_end0
                  all_goals exact ⟨rfl, _, HE2.out⟩
                · have S2x := keep_right P1 (right_done HH1 f4 f5 q2) (Nat.le_refl _)
                  have HE := all_told hb f6 f3 f4 f5 P0 HH1 P1 S1 (permIn_refl d2 mid b) S2x hA2 hO2
                  have HE2 : Aside _ := HE
                  clear HE hA2 hO2 P0 HH1 S2x P1 S1
                  by_cases q2a : mid < e
                  · have q2b : ¬ e < b := fun h => q2 ⟨q2a, h⟩
                    have z3 : (mid : Int) < (e : Int) := by omega
                    have z3d : decide ((mid : Int) < (e : Int)) = true := decide_eq_true z3
                    have z4 : ¬ (e : Int) < (b : Int) := by omega
                    have z4d : decide ((e : Int) < (b : Int)) = false := decide_eq_false z4
                    clear q2
                    skip
                    go_wp2
                    all_goals go_end0
                    all_goals exact ⟨rfl, _, HE2.out⟩
                  · skip
                    have z3 : ¬ (mid : Int) < (e : Int) := by omega
                    have z3d : decide ((mid : Int) < (e : Int)) = false := decide_eq_false z3
                    clear q2
                    skip
                    go_wp2
                    all_goals go_end0
                    all_goals exact ⟨rfl, _, HE2.out⟩
              · skip
                have z1 : ¬ (a : Int) < (s : Int) := by omega
                have z1d : decide ((a : Int) < (s : Int)) = false := decide_eq_false z1
                clear q1 q1a
                by_cases q2 : mid < e ∧ e < b
                · obtain ⟨q2a, q2b⟩ := q2
                  have z3 : (mid : Int) < (e : Int) := by omega
                  have z3d : decide ((mid : Int) < (e : Int)) = true := decide_eq_true z3
                  have z4 : (e : Int) < (b : Int) := by omega
                  have z4d : decide ((e : Int) < (b : Int)) = true := decide_eq_true z4
                  have hc2 := HIH.out mid e b d2 wk (by omega) q2a q2b hb hz2 hA2 hO2 (keep_right P1 HH1.h3 (Nat.le_refl _)) (keep_right P1 HH1.h4 f4)
                  have HA : Aside (PermIn s e d d1 ∧ Halves ltE a s mid e b d1 ∧ PermIn a mid d1 d2 ∧ SortedIn ltE a mid d2) := ⟨P0, HH1, P1, S1⟩
                  clear P0 HH1 P1 S1 hA2 hO2 q2a q2b
                  skip
                  go_wp2_with (go_at_call 97; refine hc2.mono ?_)
                  all_goals clear hc2
                  all_goals (first | rintro _ w5 rfl d3 hN3 hS3 | rintro _ w5 ⟨rfl, d3, hN3, hS3⟩)
                  all_goals have HE2 : Aside _ := all_told hb f6 f3 f4 f5 HA.out.1 HA.out.2.1 HA.out.2.2.1 HA.out.2.2.2 hN3.perm hS3 hN3.arr hN3.ok
                  all_goals clear hN3 hS3
                  all_goals go_wp2
                  all_goals go_end0
                  all_goals exact ⟨rfl, _, HE2.out⟩
                · have S2x := keep_right P1 (right_done HH1 f4 f5 q2) (Nat.le_refl _)
                  have HE := all_told hb f6 f3 f4 f5 P0 HH1 P1 S1 (permIn_refl d2 mid b) S2x hA2 hO2
                  have HE2 : Aside _ := HE
                  clear HE hA2 hO2 P0 HH1 S2x P1 S1
                  by_cases q2a : mid < e
                  · have q2b : ¬ e < b := fun h => q2 ⟨q2a, h⟩
                    have z3 : (mid : Int) < (e : Int) := by omega
                    have z3d : decide ((mid : Int) < (e : Int)) = true := decide_eq_true z3
                    have z4 : ¬ (e : Int) < (b : Int) := by omega
                    have z4d : decide ((e : Int) < (b : Int)) = false := decide_eq_false z4
                    clear q2
                    skip
                    go_wp2
                    all_goals go_end0
                    all_goals exact ⟨rfl, _, HE2.out⟩
                  · skip
                    have z3 : ¬ (mid : Int) < (e : Int) := by omega
                    have z3d : decide ((mid : Int) < (e : Int)) = false := decide_eq_false z3
                    clear q2
                    skip
                    go_wp2
                    all_goals go_end0
                    all_goals exact ⟨rfl, _, HE2.out⟩
end Go.Proofs.YtiepbejeiijpmaaDoor

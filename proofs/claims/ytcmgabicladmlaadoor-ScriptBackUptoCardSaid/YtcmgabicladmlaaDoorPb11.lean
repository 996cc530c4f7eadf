/-
  What the cards of chapter 58 share. Conditions: none.
-/
import Derived.Test.YtcmgabicladmlaaDoorPb10
import Derived.Test.YtcmgabicladmlaaDoorCards
import Derived.Test.YtcmgabicladmlaaDoorTie
import Derived.WalkKit
import Derived.ProofKit
import Derived.OpenShut
import Derived.Deep.DeepHandedRow
import Derived.Lib.LaidTab
import Derived.Shelf.Vars
import Derived.Stop.LaidErr
namespace Go.Proofs.YtcmgabicladmlaaDoor
open Go Go.Pe Go.Tab
set_option linter.unusedSectionVars false

set_option maxRecDepth 100000 in
theorem acts_call (l : List Ac) (hl : l.length ≤ 4294967296) : G1 10 [.of (.sl (fl acC l) l.length), .of (.sl (fl acC l) l.length)] (xbool true) := by
  refine by_body rfl ok10 body10 ar10 rfl ?_
  simp -implicitDefEqProofs (maxSteps := 1000000) only [Tryd.f10, ↓zD, zU, Nat.zero_mul, Nat.reduceMul, List.length_map, Tk.nm.injEq, Tk.cell.injEq, false_and, and_false, Nat.le_add_right, Nat.le_refl, ↓reduceIte, Bool.or_false, Bool.false_or, Bool.and_true, Bool.true_and, Bool.false_and, Bool.true_or, Bool.or_true, Option.isNone_none, Option.isNone_some, List.any_cons, List.any_nil, Bool.and_false, Nat.reduceBEq, Nat.reduceLeDiff, Int.reduceLT, Int.reduceEq, Int.reduceLE, Int.reduceAdd, Int.reduceToNat, Int.reduceNeg, Int.cast_ofNat_Int, Nat.reduceLT, List.drop_succ_cons, List.take_succ_cons, List.singleton_append, Nat.zero_add, List.set_cons_zero, List.set_cons_succ, List.drop_nil, List.take_nil, Option.map_some, Option.map_none, Option.getD_some, Option.getD_none, Option.bind_some, List.cons_append, List.nil_append, List.append_nil, List.map_cons, List.map_nil, List.range_zero, List.take_zero, List.flatten_nil, List.filter_nil, List.length_nil, List.length_cons, List.drop_zero, List.not_mem_nil, List.mem_cons, Bool.true_eq_false, Bool.false_eq_true, Nat.reduceEqDiff, Nat.reduceAdd, List.getElem?_toArray, List.toList_toArray, List.getElem?_cons_zero, List.getElem?_cons_succ, decide_eq_true_eq, beq_self_eq_true, beq_true, beq_false, decide_true, decide_false, Bool.not_true, Bool.not_false, true_and, and_true, or_false, false_or, Bool.and_eq_true, reduceCtorEq, not_false_eq_true, cat_u, lit_strL, List.append_assoc, rv10]
  refine WC_inv _ _ (fun m s => ∃ k : Nat, k ≤ l.length ∧ m = l.length - k ∧ s.fr 0 = .of (.sl (fl acC l) l.length) ∧ s.fr 1 = .of (.sl (fl acC l) l.length) ∧ s.fr 5 = xint k ∧ s.objs = []) ?_ l.length _ ?_
  · rintro m s ⟨k, hk1, rfl, h0, h1, h5, ho⟩
    have hw1 := wrapS k (by omega)
    by_cases c1 : k < l.length
    · have d1 : decide ((k : Int) < (l.length : Int)) = true := decide_eq_true (by omega)
      simp -implicitDefEqProofs (maxSteps := 1000000) only [↓zD, zU, Nat.zero_mul, Nat.reduceMul, List.length_map, Tk.nm.injEq, Tk.cell.injEq, false_and, and_false, Nat.le_add_right, Nat.le_refl, ↓reduceIte, Bool.or_false, Bool.false_or, Bool.and_true, Bool.true_and, Bool.false_and, Bool.true_or, Bool.or_true, Option.isNone_none, Option.isNone_some, List.any_cons, List.any_nil, Bool.and_false, Nat.reduceBEq, Nat.reduceLeDiff, Int.reduceLT, Int.reduceEq, Int.reduceLE, Int.reduceAdd, Int.reduceToNat, Int.reduceNeg, Int.cast_ofNat_Int, Nat.reduceLT, List.drop_succ_cons, List.take_succ_cons, List.singleton_append, Nat.zero_add, List.set_cons_zero, List.set_cons_succ, List.drop_nil, List.take_nil, Option.map_some, Option.map_none, Option.getD_some, Option.getD_none, Option.bind_some, List.cons_append, List.nil_append, List.append_nil, List.map_cons, List.map_nil, List.range_zero, List.take_zero, List.flatten_nil, List.filter_nil, List.length_nil, List.length_cons, List.drop_zero, List.not_mem_nil, List.mem_cons, Bool.true_eq_false, Bool.false_eq_true, Nat.reduceEqDiff, Nat.reduceAdd, List.getElem?_toArray, List.toList_toArray, List.getElem?_cons_zero, List.getElem?_cons_succ, decide_eq_true_eq, beq_self_eq_true, beq_true, beq_false, decide_true, decide_false, Bool.not_true, Bool.not_false, true_and, and_true, or_false, false_or, Bool.and_eq_true, reduceCtorEq, not_false_eq_true, cat_u, lit_strL, List.append_assoc, h0, h1, h5, ho, outx, consX_s, boxO, cells_act, cells_acx, zeroX_at, build_st, T40, P40, T3, T9, U3, U9, fa40_0, fa40_1, fa40_2, fa40_3, P3, P9, U23, T23, U22, U26, Z4e, d1, hw1, ia_ac l k c1, ld_ac l k c1, act_ne]
      refine ⟨_, ?_, k + 1, by omega, rfl, rfl⟩
      omega
    · have d1 : decide ((k : Int) < (l.length : Int)) = false := decide_eq_false (by omega)
      simp -implicitDefEqProofs (maxSteps := 1000000) only [↓zD, zU, Nat.zero_mul, Nat.reduceMul, List.length_map, Tk.nm.injEq, Tk.cell.injEq, false_and, and_false, Nat.le_add_right, Nat.le_refl, ↓reduceIte, Bool.or_false, Bool.false_or, Bool.and_true, Bool.true_and, Bool.false_and, Bool.true_or, Bool.or_true, Option.isNone_none, Option.isNone_some, List.any_cons, List.any_nil, Bool.and_false, Nat.reduceBEq, Nat.reduceLeDiff, Int.reduceLT, Int.reduceEq, Int.reduceLE, Int.reduceAdd, Int.reduceToNat, Int.reduceNeg, Int.cast_ofNat_Int, Nat.reduceLT, List.drop_succ_cons, List.take_succ_cons, List.singleton_append, Nat.zero_add, List.set_cons_zero, List.set_cons_succ, List.drop_nil, List.take_nil, Option.map_some, Option.map_none, Option.getD_some, Option.getD_none, Option.bind_some, List.cons_append, List.nil_append, List.append_nil, List.map_cons, List.map_nil, List.range_zero, List.take_zero, List.flatten_nil, List.filter_nil, List.length_nil, List.length_cons, List.drop_zero, List.not_mem_nil, List.mem_cons, Bool.true_eq_false, Bool.false_eq_true, Nat.reduceEqDiff, Nat.reduceAdd, List.getElem?_toArray, List.toList_toArray, List.getElem?_cons_zero, List.getElem?_cons_succ, decide_eq_true_eq, beq_self_eq_true, beq_true, beq_false, decide_true, decide_false, Bool.not_true, Bool.not_false, true_and, and_true, or_false, false_or, Bool.and_eq_true, reduceCtorEq, not_false_eq_true, cat_u, lit_strL, List.append_assoc, h0, h1, h5, ho, outx, consX_s, boxO, cells_act, cells_acx, zeroX_at, build_st, T40, P40, T3, T9, U3, U9, fa40_0, fa40_1, fa40_2, fa40_3, P3, P9, U23, T23, U22, U26, Z4e, d1, rv10, Tryd.f10]
  · exact ⟨0, by omega, by omega, by simp -implicitDefEqProofs (maxSteps := 1000000) only [↓zD, zU, Nat.zero_mul, Nat.reduceMul, List.length_map, Tk.nm.injEq, Tk.cell.injEq, false_and, and_false, Nat.le_add_right, Nat.le_refl, ↓reduceIte, Bool.or_false, Bool.false_or, Bool.and_true, Bool.true_and, Bool.false_and, Bool.true_or, Bool.or_true, Option.isNone_none, Option.isNone_some, List.any_cons, List.any_nil, Bool.and_false, Nat.reduceBEq, Nat.reduceLeDiff, Int.reduceLT, Int.reduceEq, Int.reduceLE, Int.reduceAdd, Int.reduceToNat, Int.reduceNeg, Int.cast_ofNat_Int, Nat.reduceLT, List.drop_succ_cons, List.take_succ_cons, List.singleton_append, Nat.zero_add, List.set_cons_zero, List.set_cons_succ, List.drop_nil, List.take_nil, Option.map_some, Option.map_none, Option.getD_some, Option.getD_none, Option.bind_some, List.cons_append, List.nil_append, List.append_nil, List.map_cons, List.map_nil, List.range_zero, List.take_zero, List.flatten_nil, List.filter_nil, List.length_nil, List.length_cons, List.drop_zero, List.not_mem_nil, List.mem_cons, Bool.true_eq_false, Bool.false_eq_true, Nat.reduceEqDiff, Nat.reduceAdd, List.getElem?_toArray, List.toList_toArray, List.getElem?_cons_zero, List.getElem?_cons_succ, decide_eq_true_eq, beq_self_eq_true, beq_true, beq_false, decide_true, decide_false, Bool.not_true, Bool.not_false, true_and, and_true, or_false, false_or, Bool.and_eq_true, reduceCtorEq, not_false_eq_true, cat_u, lit_strL, List.append_assoc], by simp -implicitDefEqProofs (maxSteps := 1000000) only [↓zD, zU, Nat.zero_mul, Nat.reduceMul, List.length_map, Tk.nm.injEq, Tk.cell.injEq, false_and, and_false, Nat.le_add_right, Nat.le_refl, ↓reduceIte, Bool.or_false, Bool.false_or, Bool.and_true, Bool.true_and, Bool.false_and, Bool.true_or, Bool.or_true, Option.isNone_none, Option.isNone_some, List.any_cons, List.any_nil, Bool.and_false, Nat.reduceBEq, Nat.reduceLeDiff, Int.reduceLT, Int.reduceEq, Int.reduceLE, Int.reduceAdd, Int.reduceToNat, Int.reduceNeg, Int.cast_ofNat_Int, Nat.reduceLT, List.drop_succ_cons, List.take_succ_cons, List.singleton_append, Nat.zero_add, List.set_cons_zero, List.set_cons_succ, List.drop_nil, List.take_nil, Option.map_some, Option.map_none, Option.getD_some, Option.getD_none, Option.bind_some, List.cons_append, List.nil_append, List.append_nil, List.map_cons, List.map_nil, List.range_zero, List.take_zero, List.flatten_nil, List.filter_nil, List.length_nil, List.length_cons, List.drop_zero, List.not_mem_nil, List.mem_cons, Bool.true_eq_false, Bool.false_eq_true, Nat.reduceEqDiff, Nat.reduceAdd, List.getElem?_toArray, List.toList_toArray, List.getElem?_cons_zero, List.getElem?_cons_succ, decide_eq_true_eq, beq_self_eq_true, beq_true, beq_false, decide_true, decide_false, Bool.not_true, Bool.not_false, true_and, and_true, or_false, false_or, Bool.and_eq_true, reduceCtorEq, not_false_eq_true, cat_u, lit_strL, List.append_assoc], by simp -implicitDefEqProofs (maxSteps := 1000000) only [↓zD, zU, Nat.zero_mul, Nat.reduceMul, List.length_map, Tk.nm.injEq, Tk.cell.injEq, false_and, and_false, Nat.le_add_right, Nat.le_refl, ↓reduceIte, Bool.or_false, Bool.false_or, Bool.and_true, Bool.true_and, Bool.false_and, Bool.true_or, Bool.or_true, Option.isNone_none, Option.isNone_some, List.any_cons, List.any_nil, Bool.and_false, Nat.reduceBEq, Nat.reduceLeDiff, Int.reduceLT, Int.reduceEq, Int.reduceLE, Int.reduceAdd, Int.reduceToNat, Int.reduceNeg, Int.cast_ofNat_Int, Nat.reduceLT, List.drop_succ_cons, List.take_succ_cons, List.singleton_append, Nat.zero_add, List.set_cons_zero, List.set_cons_succ, List.drop_nil, List.take_nil, Option.map_some, Option.map_none, Option.getD_some, Option.getD_none, Option.bind_some, List.cons_append, List.nil_append, List.append_nil, List.map_cons, List.map_nil, List.range_zero, List.take_zero, List.flatten_nil, List.filter_nil, List.length_nil, List.length_cons, List.drop_zero, List.not_mem_nil, List.mem_cons, Bool.true_eq_false, Bool.false_eq_true, Nat.reduceEqDiff, Nat.reduceAdd, List.getElem?_toArray, List.toList_toArray, List.getElem?_cons_zero, List.getElem?_cons_succ, decide_eq_true_eq, beq_self_eq_true, beq_true, beq_false, decide_true, decide_false, Bool.not_true, Bool.not_false, true_and, and_true, or_false, false_or, Bool.and_eq_true, reduceCtorEq, not_false_eq_true, cat_u, lit_strL, List.append_assoc] <;> rfl, by simp -implicitDefEqProofs (maxSteps := 1000000) only [↓zD, zU, Nat.zero_mul, Nat.reduceMul, List.length_map, Tk.nm.injEq, Tk.cell.injEq, false_and, and_false, Nat.le_add_right, Nat.le_refl, ↓reduceIte, Bool.or_false, Bool.false_or, Bool.and_true, Bool.true_and, Bool.false_and, Bool.true_or, Bool.or_true, Option.isNone_none, Option.isNone_some, List.any_cons, List.any_nil, Bool.and_false, Nat.reduceBEq, Nat.reduceLeDiff, Int.reduceLT, Int.reduceEq, Int.reduceLE, Int.reduceAdd, Int.reduceToNat, Int.reduceNeg, Int.cast_ofNat_Int, Nat.reduceLT, List.drop_succ_cons, List.take_succ_cons, List.singleton_append, Nat.zero_add, List.set_cons_zero, List.set_cons_succ, List.drop_nil, List.take_nil, Option.map_some, Option.map_none, Option.getD_some, Option.getD_none, Option.bind_some, List.cons_append, List.nil_append, List.append_nil, List.map_cons, List.map_nil, List.range_zero, List.take_zero, List.flatten_nil, List.filter_nil, List.length_nil, List.length_cons, List.drop_zero, List.not_mem_nil, List.mem_cons, Bool.true_eq_false, Bool.false_eq_true, Nat.reduceEqDiff, Nat.reduceAdd, List.getElem?_toArray, List.toList_toArray, List.getElem?_cons_zero, List.getElem?_cons_succ, decide_eq_true_eq, beq_self_eq_true, beq_true, beq_false, decide_true, decide_false, Bool.not_true, Bool.not_false, true_and, and_true, or_false, false_or, Bool.and_eq_true, reduceCtorEq, not_false_eq_true, cat_u, lit_strL, List.append_assoc]⟩
theorem acts_k (l : List Ac) (hl : l.length ≤ 4294967296) (K : An → Prop) : CallK Tryd.prog pr 10 [.of (.sl (fl acC l) l.length), .of (.sl (fl acC l) l.length)] [] K ↔ K ⟨false, [xbool true], []⟩ := Gives.k (acts_call l hl) K

theorem parse_ends (s : List UInt8) : ((parseA s).2.2 = 0 → (parseA s).2.1 = 0 ∧ (parseA s).1.all mayA = true ∧ linesA (parseA s).1 = s) ∧ ((parseA s).2.2 ≠ 0 → (parseA s).1 = [] ∧ 1 ≤ (parseA s).2.1) := by
  obtain ⟨h1, h2⟩ := read_back (s.length + 1) [] s (Nat.lt_succ_self _)
  refine ⟨fun h => ?_, h2⟩
  obtain ⟨l, e, h3, h4⟩ := h1 h
  have e' : parseA s = (l, 0, 0) := by unfold parseA; rw [e]; rfl
  rw [e']
  exact ⟨rfl, h3, h4⟩
theorem line_low {a : Ac} (h : mayA a = true) : acW a ≤ (lineA a).length + 2 := by
  unfold acW
  rcases may_cases h with ⟨e, _, _, _, _⟩ | ⟨e, _, _, _, h5⟩ | ⟨e, _, _, _, h5⟩ | ⟨e, _, _, h5⟩
  · have hi : 1 ≤ (Lib.itoa a.w).length := by
      unfold Lib.itoa
      split
      · simp
      · obtain ⟨c, r, e, _⟩ := dec_head a.w.toNat
        rw [e]
        simp
    unfold lineA
    rw [if_pos e]
    simp only [List.length_append, List.length_cons, List.length_nil]
    omega
  · rw [h5]
    unfold lineA
    rw [if_neg (by omega), if_pos e]
    simp only [List.length_append, List.length_cons, List.length_nil]
    omega
  · rw [h5]
    unfold lineA
    rw [if_neg (by omega), if_neg (by omega), if_pos e]
    simp only [List.length_append, List.length_cons, List.length_nil]
    omega
  · rw [h5]
    unfold lineA
    rw [if_neg (by omega), if_neg (by omega), if_neg (by omega)]
    split <;> simp
theorem lines_low : ∀ (l : List Ac), (∀ a ∈ l, mayA a = true) → (l.map acW).sum ≤ 2 * (linesA l).length
  | [], _ => by simp
  | a :: l, h => by
    have h1 := line_low (h a (List.mem_cons_self ..))
    have h2 := lines_low l fun b hb => h b (List.mem_cons_of_mem _ hb)
    have e : linesA (a :: l) = (lineA a ++ [10]) ++ linesA l := by simp [linesA]
    have h3 : 5 ≤ acW a := by unfold acW; omega
    rw [e]
    simp only [List.map_cons, List.sum_cons, List.length_append, List.length_cons, List.length_nil]
    omega
theorem may_ok {a : Ac} (h : mayA a = true) : AcOk a := by
  unfold AcOk I64
  rcases may_cases h with ⟨e, h1, h2, h3, _⟩ | ⟨e, h1, h2, h3, _⟩ | ⟨e, h1, h2, h3, _⟩ | ⟨e | e, h1, h2, _⟩ <;> omega
theorem txt_low : ∀ (l : List Ac) (a : Ac), a ∈ l → a.t.length + 5 ≤ (l.map acW).sum := fun l a ha => mem_sum (w := acW) ha
theorem parse_ok (s : List UInt8) (hs : s.length ≤ 1048576) (h : (parseA s).2.2 = 0) : AcsOk (parseA s).1 := by
  obtain ⟨_, h2, h3⟩ := (parse_ends s).1 h
  have hm := fun a ha => List.all_eq_true.1 h2 a ha
  have hl := lines_low (parseA s).1 hm
  rw [h3] at hl
  refine ⟨fun a ha => may_ok (hm a ha), by omega, fun a ha => ?_⟩
  have h4 : ∀ (l : List Ac) (a : Ac), a ∈ l → mayA a = true → a.t.length ≤ (linesA l).length := by
    intro l a ha h
    obtain ⟨p, q, rfl⟩ := List.append_of_mem ha
    have e : linesA (p ++ a :: q) = linesA p ++ ((lineA a ++ [10]) ++ linesA q) := by simp [linesA]
    have hx : a.t.length ≤ (lineA a).length := by
      rcases may_cases h with ⟨e, _⟩ | ⟨_, _, _, _, h5⟩ | ⟨_, _, _, _, h5⟩ | ⟨_, _, _, h5⟩
      · unfold lineA
        rw [if_pos e]
        simp only [List.length_append]
        omega
      · rw [h5]; exact Nat.zero_le _
      · rw [h5]; exact Nat.zero_le _
      · rw [h5]; exact Nat.zero_le _
    rw [e]
    simp only [List.length_append]
    omega
  have := h4 _ a ha (hm a ha)
  rw [h3] at this
  omega
end Go.Proofs.YtcmgabicladmlaaDoor
namespace Go.Proofs.YtcmgabicladmlaaDoor
open Go Go.Pe Go.Tab
set_option linter.unusedSectionVars false

theorem rd_aggx (xs : List X) : X.rd (.agg xs) = (X.rds xs).map .agg := by
  simp only [X.rd]
set_option maxRecDepth 100000 in
theorem num_call (n : Int) : G1 21 [.of (ci n)] (.agg [.of (ci 2), .of (ci n), .of (cstr (strL []))]) := by
  refine by_body rfl ok21 body21 ar21 rfl ?_
  simp -implicitDefEqProofs (maxSteps := 1000000) only [Tryd.f21, ↓zD, zU, Nat.zero_mul, Nat.reduceMul, List.length_map, Tk.nm.injEq, Tk.cell.injEq, false_and, and_false, Nat.le_add_right, Nat.le_refl, ↓reduceIte, Bool.or_false, Bool.false_or, Bool.and_true, Bool.true_and, Bool.false_and, Bool.true_or, Bool.or_true, Option.isNone_none, Option.isNone_some, List.any_cons, List.any_nil, Bool.and_false, Nat.reduceBEq, Nat.reduceLeDiff, Int.reduceLT, Int.reduceEq, Int.reduceLE, Int.reduceAdd, Int.reduceToNat, Int.reduceNeg, Int.cast_ofNat_Int, Nat.reduceLT, List.drop_succ_cons, List.take_succ_cons, List.singleton_append, Nat.zero_add, List.set_cons_zero, List.set_cons_succ, List.drop_nil, List.take_nil, Option.map_some, Option.map_none, Option.getD_some, Option.getD_none, Option.bind_some, List.cons_append, List.nil_append, List.append_nil, List.map_cons, List.map_nil, List.range_zero, List.take_zero, List.flatten_nil, List.filter_nil, List.length_nil, List.length_cons, List.drop_zero, List.not_mem_nil, List.mem_cons, Bool.true_eq_false, Bool.false_eq_true, Nat.reduceEqDiff, Nat.reduceAdd, List.getElem?_toArray, List.toList_toArray, List.getElem?_cons_zero, List.getElem?_cons_succ, decide_eq_true_eq, beq_self_eq_true, beq_true, beq_false, decide_true, decide_false, Bool.not_true, Bool.not_false, true_and, and_true, or_false, false_or, Bool.and_eq_true, reduceCtorEq, not_false_eq_true, cat_u, lit_strL, List.append_assoc, rv21, boxO, zeroX_at, build_st, T49, T40, P40, T28, P28, T51, P51, P3, P9, T3, T9, U3, U9, U23, T23, U22, U26, bs_g1 E24 rfl (by decide) (by decide) rfl, bs_g1 E54 rfl (by decide) (by decide) rfl, bs_g1 E25 rfl (by decide) (by decide) rfl, X.rds, rd_aggx, fr40_2, Q3, Q9]
  rfl
theorem it_small {n : Nat} (h : n < 10) : Lib.itoa (n : Int) = [UInt8.ofNat (48 + n)] := by
  unfold Lib.itoa
  rw [if_neg (by omega), Int.toNat_natCast, Lib.decDigits, dif_pos h]
theorem it_0 : Lib.itoa 0 = [48] := it_small (n := 0) (by decide)
theorem it_1 : Lib.itoa 1 = [49] := it_small (n := 1) (by decide)
theorem it_3 : Lib.itoa 3 = [51] := it_small (n := 3) (by decide)
theorem it_4 : Lib.itoa 4 = [52] := it_small (n := 4) (by decide)
theorem it_5 : Lib.itoa 5 = [53] := it_small (n := 5) (by decide)
theorem it_7 : Lib.itoa 7 = [55] := it_small (n := 7) (by decide)
def awL : List Ac := [⟨1, 0, 0, [98, 101, 103, 105, 110]⟩, ⟨2, 0, 5, []⟩, ⟨3, 0, 0, []⟩]
def awB : List UInt8 := [48, 58, 32, 98, 101, 103, 105, 110, 10, 112, 111, 119, 101, 114, 32, 53, 10, 111, 112, 101, 110, 10]
def awC : List UInt8 := [111, 112, 101, 110, 10, 52, 58, 32, 120, 10]
theorem aw_all : awL.all mayA = true := by decide
theorem aw_b : linesA awL = awB := by
  simp only [linesA, awL, List.map_cons, List.map_nil, lineA, if_true, it_0, it_5]
  rfl
theorem aw_p1 : parseA awB = (awL, 0, 0) := by
  rw [← aw_b]
  exact parse_print awL aw_all
theorem aw_one : oneA [52, 58, 32, 120] = (ac0, 1) := by
  have hn : numA [52] = some 4 := by rw [← it_4]; exact numA_itoa (by decide) (by decide)
  have hc : cutA [52, 58, 32, 120] = some ([52], [120]) := by decide
  unfold oneA
  rw [if_neg (by decide), if_neg (by decide), if_neg (by decide), if_neg (by decide), hc]
  simp only [hn]
  unfold toldA
  rw [if_neg (by decide)]
theorem aw_p2 : parseA awC = ([], 2, 1) := by
  have h1 : lineCut awC = some ([111, 112, 101, 110], [52, 58, 32, 120, 10]) := by decide
  have h2 : lineCut [52, 58, 32, 120, 10] = some ([52, 58, 32, 120], []) := by decide
  have o1 : oneA [111, 112, 101, 110] = (⟨3, 0, 0, []⟩, 0) := one_op
  rw [parse_rest, rest_ok h1 (by rw [o1]), rest_bad h2 (by rw [aw_one]; decide), aw_one]
  rfl
theorem aw_ok : AcsOk awL := ⟨fun a ha => may_ok (List.all_eq_true.1 aw_all a ha), by decide, by decide⟩
def awR : Rp := ⟨7, 0, 1, [⟨[116], [97], 0⟩], [[⟨2, 3, strL []⟩]], []⟩
theorem tx_3 : textL ⟨2, 3, strL []⟩ = [51] := by
  unfold textL textS
  simp only [it_3]
  rfl
theorem aw_r : linesR awR = [[114, 101, 112, 108, 121, 32, 55, 32, 48, 32, 49], [99, 111, 108, 115, 32, 116, 46, 97], [114, 111, 119, 32, 51]] := by
  rw [lines_eq]
  simp only [L1, hdR, awR, it_7, it_0, it_1, List.map_cons, List.map_nil, rowT, plusF, tx_3]
  rfl
theorem aw_rok : RpOk awR 1048576 := by
  refine ⟨by unfold I64; decide, by unfold I64; decide, by unfold I64; decide, ?_, by decide⟩
  intro x hx v hv
  simp only [awR, List.mem_cons, List.not_mem_nil, or_false] at hx
  subst hx
  simp only [List.mem_cons, List.not_mem_nil, or_false] at hv
  subst hv
  exact ⟨by unfold I64; decide, by unfold I64; decide⟩
theorem ia_own1 {t : Tk} (l : List C) (k : Nat) (h : k < l.length) : indexAddrX (TT.of Tryd.prog) 26 (.own t 9 1 l l.length) (.of (.lit (.int .i64 k))) = out (.of (.ref (l.drop k))) := by
  have := ia_fl (f := c1) (z := 1) (fun _ => rfl) E26 rfl (by decide) l (.own t 9 1 l l.length) (by rw [fl_c1]; rfl) k h
  rw [fl_c1] at this
  exact this
set_option maxRecDepth 100000 in
theorem awake_call : G1 9 [] (xbool true) := by
  have x0 := fun K => Gives.k (num_call 3) K
  have x1 := fun K => scParse_k awB (by decide) K
  have x2 := fun K => scParse_k awC (by decide) K
  have x3 := fun K => Gives.k (scPrint_call awL aw_ok) K
  have x4 := fun K => scLine_k awR aw_rok K
  rw [aw_p1] at x1
  rw [aw_p2] at x2
  rw [print_yes awL aw_all, aw_b] at x3
  rw [aw_r] at x4
  have e1 : slX awL = .own (.nm 0 0 0) 40 4 [ci 1, ci 0, ci 0, cstr (strL [98, 101, 103, 105, 110]), ci 2, ci 0, ci 5, cstr (strL []), ci 3, ci 0, ci 0, cstr (strL [])] 3 := rfl
  have e2 : slX [] = .nil := rfl
  have e3 : acsC awL = .sl [ci 1, ci 0, ci 0, cstr (strL [98, 101, 103, 105, 110]), ci 2, ci 0, ci 5, cstr (strL []), ci 3, ci 0, ci 0, cstr (strL [])] 3 := rfl
  have e4 : rpC awR = [ci 7, ci 0, ci 1, .sl [cstr (strL [116]), cstr (strL [97]), ci 0] 1, .sl [.sl [ci 2, ci 3, cstr (strL [])] 1] 1, .sl [] 0] := rfl
  have e5 : txX [[114, 101, 112, 108, 121, 32, 55, 32, 48, 32, 49], [99, 111, 108, 115, 32, 116, 46, 97], [114, 111, 119, 32, 51]] = .own (.nm 0 0 0) 9 1 [cstr (strL [114, 101, 112, 108, 121, 32, 55, 32, 48, 32, 49]), cstr (strL [99, 111, 108, 115, 32, 116, 46, 97]), cstr (strL [114, 111, 119, 32, 51])] 3 := rfl
  have i1 : ∀ t, indexAddrX (TT.of Tryd.prog) 22 (.own t 40 4 [ci 1, ci 0, ci 0, cstr (strL [98, 101, 103, 105, 110]), ci 2, ci 0, ci 5, cstr (strL []), ci 3, ci 0, ci 0, cstr (strL [])] 3) (.of (.lit (.int .i64 1))) = out (.of (.ref [ci 2, ci 0, ci 5, cstr (strL []), ci 3, ci 0, ci 0, cstr (strL [])])) :=
    fun t => ia_fl acC_len E22 rfl (by decide) awL (.own t 40 4 (fl acC awL) 3) rfl 1 (by decide)
  have j0 : ∀ t, indexAddrX (TT.of Tryd.prog) 26 (.own t 9 1 [cstr (strL [114, 101, 112, 108, 121, 32, 55, 32, 48, 32, 49]), cstr (strL [99, 111, 108, 115, 32, 116, 46, 97]), cstr (strL [114, 111, 119, 32, 51])] 3) (.of (.lit (.int .i64 0))) = out (.of (.ref [cstr (strL [114, 101, 112, 108, 121, 32, 55, 32, 48, 32, 49]), cstr (strL [99, 111, 108, 115, 32, 116, 46, 97]), cstr (strL [114, 111, 119, 32, 51])])) := fun t => ia_own1 _ 0 (by simp)
  have j1 : ∀ t, indexAddrX (TT.of Tryd.prog) 26 (.own t 9 1 [cstr (strL [114, 101, 112, 108, 121, 32, 55, 32, 48, 32, 49]), cstr (strL [99, 111, 108, 115, 32, 116, 46, 97]), cstr (strL [114, 111, 119, 32, 51])] 3) (.of (.lit (.int .i64 1))) = out (.of (.ref [cstr (strL [99, 111, 108, 115, 32, 116, 46, 97]), cstr (strL [114, 111, 119, 32, 51])])) := fun t => ia_own1 _ 1 (by simp)
  have j2 : ∀ t, indexAddrX (TT.of Tryd.prog) 26 (.own t 9 1 [cstr (strL [114, 101, 112, 108, 121, 32, 55, 32, 48, 32, 49]), cstr (strL [99, 111, 108, 115, 32, 116, 46, 97]), cstr (strL [114, 111, 119, 32, 51])] 3) (.of (.lit (.int .i64 2))) = out (.of (.ref [cstr (strL [114, 111, 119, 32, 51])])) := fun t => ia_own1 _ 2 (by simp)
  simp only [e1, e2, e3, e4, e5, awB, awC, Int.cast_ofNat_Int] at x1 x2 x3 x4
  refine by_body rfl ok9 body9 ar9 rfl ?_
  simp -implicitDefEqProofs (maxSteps := 1000000) only [Tryd.f9, ↓zD, zU, Nat.zero_mul, Nat.reduceMul, List.length_map, Tk.nm.injEq, Tk.cell.injEq, false_and, and_false, Nat.le_add_right, Nat.le_refl, ↓reduceIte, Bool.or_false, Bool.false_or, Bool.and_true, Bool.true_and, Bool.false_and, Bool.true_or, Bool.or_true, Option.isNone_none, Option.isNone_some, List.any_cons, List.any_nil, Bool.and_false, Nat.reduceBEq, Nat.reduceLeDiff, Int.reduceLT, Int.reduceEq, Int.reduceLE, Int.reduceAdd, Int.reduceToNat, Int.reduceNeg, Int.cast_ofNat_Int, Nat.reduceLT, List.drop_succ_cons, List.take_succ_cons, List.singleton_append, Nat.zero_add, List.set_cons_zero, List.set_cons_succ, List.drop_nil, List.take_nil, Option.map_some, Option.map_none, Option.getD_some, Option.getD_none, Option.bind_some, List.cons_append, List.nil_append, List.append_nil, List.map_cons, List.map_nil, List.range_zero, List.take_zero, List.flatten_nil, List.filter_nil, List.length_nil, List.length_cons, List.drop_zero, List.not_mem_nil, List.mem_cons, Bool.true_eq_false, Bool.false_eq_true, Nat.reduceEqDiff, Nat.reduceAdd, List.getElem?_toArray, List.toList_toArray, List.getElem?_cons_zero, List.getElem?_cons_succ, decide_eq_true_eq, beq_self_eq_true, beq_true, beq_false, decide_true, decide_false, Bool.not_true, Bool.not_false, true_and, and_true, or_false, false_or, Bool.and_eq_true, reduceCtorEq, not_false_eq_true, cat_u, lit_strL, List.append_assoc, rv9, boxO, zeroX_at, build_st, T49, T40, P40, T28, P28, T51, P51, P3, P9, T3, T9, U3, U9, U23, T23, U22, U26, bs_g1 E24 rfl (by decide) (by decide) rfl, bs_g1 E54 rfl (by decide) (by decide) rfl, bs_g1 E25 rfl (by decide) (by decide) rfl, X.rds, rd_aggx, fr40_2, Q3, Q9, x0, x1, x2, x3, x4, i1, j0, j1, j2, strL_eq, pr_obj, obj7, call7, obj5, call5, obj12, call12, obj21, call21]
end Go.Proofs.YtcmgabicladmlaaDoor
namespace Go.Proofs.YtcmgabicladmlaaDoor
open Go Go.Pe Go.Tab
set_option linter.unusedSectionVars false

theorem rd_agg6 (a b c d e f : C) : X.rd (.agg [.of a, .of b, .of c, .of d, .of e, .of f]) = some (.agg [a, b, c, d, e, f]) := rfl
theorem awake_k (K : An → Prop) : CallK Tryd.prog pr 9 [] [] K ↔ K ⟨false, [xbool true], []⟩ := Gives.k awake_call K
def opA : Ac := ⟨3, 0, 0, []⟩
theorem lines_open (l : List Ac) : linesA (l ++ [opA]) = linesA l ++ [111, 112, 101, 110, 10] := by
  unfold linesA
  rw [List.map_append, List.flatten_append]
  rfl
theorem all_open {l : List Ac} (h : l.all mayA = true) : (l ++ [opA]).all mayA = true := by
  rw [List.all_append, h]
  rfl
set_option maxRecDepth 100000 in
theorem back_1 (l : List Ac) (s : List UInt8) (hl : AcsOk l) : WC Tryd.prog pr (heads 3 (Tryd.f4.body.getD Code.skip)) (initS [.of (.sl (fl acC l) l.length), .of (cstr (strL s))] []) (okR fun st => st.fr 1 = xstr (strL s)) := by
  have x1 : ∀ K, CallK Tryd.prog pr 5 [.of (.sl (fl acC l) l.length)] [] K ↔ K ⟨false, [xstr (strL (printA l).1), xint (printA l).2], []⟩ := fun K => Gives.k (scPrint_call l hl) K
  have hln := acs_n hl
  have hlt : (linesA l).length ≤ 146800640 := by
    have := take_ok hl l.length
    rwa [List.take_of_length_le (Nat.le_refl _)] at this
  have hwl := wrapS l.length (by omega)
  cases ha : l.all mayA with
  | true =>
    have x3 := fun K => scParse_k (linesA l) (by omega) K
    have x4 := fun K => scParse_k (linesA l ++ [111, 112, 101, 110, 10]) (by simp only [List.length_append, List.length_cons, List.length_nil]; omega) K
    rw [print_yes l ha] at x1
    rw [parse_print l ha] at x3
    rw [← lines_open, parse_print _ (all_open ha), lines_open] at x4
    have e5 : slX (l ++ [opA]) = .own (.nm 0 0 0) 40 4 (fl acC (l ++ [opA])) (l.length + 1) := by
      unfold slX
      rw [if_neg (by simp), List.length_append]
      rfl
    simp only [e5] at x4
    have x8 := fun K => acts_k l (by omega) K
    by_cases h1 : l = []
    · subst h1
      have e2 : slX [] = .nil := rfl
      have e4 : fl acC [] = [] := rfl
      simp only [e2, e4, List.length_nil] at x1 x3 x8
      have w1 : IntKind.i64.wrap 1 = 1 := wrap64_ok 1 (by decide) (by decide)
      simp -implicitDefEqProofs (maxSteps := 1000000) only [heads, tails, Tryd.f4, ↓zD, zU, Nat.zero_mul, Nat.reduceMul, List.length_map, Tk.nm.injEq, Tk.cell.injEq, false_and, and_false, Nat.le_add_right, Nat.le_refl, ↓reduceIte, Bool.or_false, Bool.false_or, Bool.and_true, Bool.true_and, Bool.false_and, Bool.true_or, Bool.or_true, Option.isNone_none, Option.isNone_some, List.any_cons, List.any_nil, Bool.and_false, Nat.reduceBEq, Nat.reduceLeDiff, Int.reduceLT, Int.reduceEq, Int.reduceLE, Int.reduceAdd, Int.reduceToNat, Int.reduceNeg, Int.cast_ofNat_Int, Nat.reduceLT, List.drop_succ_cons, List.take_succ_cons, List.singleton_append, Nat.zero_add, List.set_cons_zero, List.set_cons_succ, List.drop_nil, List.take_nil, Option.map_some, Option.map_none, Option.getD_some, Option.getD_none, Option.bind_some, List.cons_append, List.nil_append, List.append_nil, List.map_cons, List.map_nil, List.range_zero, List.take_zero, List.flatten_nil, List.filter_nil, List.length_nil, List.length_cons, List.drop_zero, List.not_mem_nil, List.mem_cons, Bool.true_eq_false, Bool.false_eq_true, Nat.reduceEqDiff, Nat.reduceAdd, List.getElem?_toArray, List.toList_toArray, List.getElem?_cons_zero, List.getElem?_cons_succ, decide_eq_true_eq, beq_self_eq_true, beq_true, beq_false, decide_true, decide_false, Bool.not_true, Bool.not_false, true_and, and_true, or_false, false_or, Bool.and_eq_true, reduceCtorEq, not_false_eq_true, cat_u, lit_strL, List.append_assoc, boxO, cells_rp, zeroX_at, T28, P28, T3, T9, U3, U9, U23, T23, U22, U26, rd_agg6, e4, x1, x3, x4, x8, w1, okR_at, pr_obj, obj5, call5, obj6, call6, obj7, call7, obj8, call8, obj9, call9, obj10, call10, obj12, call12, obj13, call13, obj11, call11]
      unfold SLIM
      omega
    · have e2 : slX l = ownA (.nm 0 0 0) l l.length := by unfold slX; rw [if_neg h1]
      simp only [e2] at x3
      simp -implicitDefEqProofs (maxSteps := 1000000) only [heads, tails, Tryd.f4, ↓zD, zU, Nat.zero_mul, Nat.reduceMul, List.length_map, Tk.nm.injEq, Tk.cell.injEq, false_and, and_false, Nat.le_add_right, Nat.le_refl, ↓reduceIte, Bool.or_false, Bool.false_or, Bool.and_true, Bool.true_and, Bool.false_and, Bool.true_or, Bool.or_true, Option.isNone_none, Option.isNone_some, List.any_cons, List.any_nil, Bool.and_false, Nat.reduceBEq, Nat.reduceLeDiff, Int.reduceLT, Int.reduceEq, Int.reduceLE, Int.reduceAdd, Int.reduceToNat, Int.reduceNeg, Int.cast_ofNat_Int, Nat.reduceLT, List.drop_succ_cons, List.take_succ_cons, List.singleton_append, Nat.zero_add, List.set_cons_zero, List.set_cons_succ, List.drop_nil, List.take_nil, Option.map_some, Option.map_none, Option.getD_some, Option.getD_none, Option.bind_some, List.cons_append, List.nil_append, List.append_nil, List.map_cons, List.map_nil, List.range_zero, List.take_zero, List.flatten_nil, List.filter_nil, List.length_nil, List.length_cons, List.drop_zero, List.not_mem_nil, List.mem_cons, Bool.true_eq_false, Bool.false_eq_true, Nat.reduceEqDiff, Nat.reduceAdd, List.getElem?_toArray, List.toList_toArray, List.getElem?_cons_zero, List.getElem?_cons_succ, decide_eq_true_eq, beq_self_eq_true, beq_true, beq_false, decide_true, decide_false, Bool.not_true, Bool.not_false, true_and, and_true, or_false, false_or, Bool.and_eq_true, reduceCtorEq, not_false_eq_true, cat_u, lit_strL, List.append_assoc, boxO, cells_rp, zeroX_at, T28, P28, T3, T9, U3, U9, U23, T23, U22, U26, rd_agg6, x1, x3, x4, x8, hwl, okR_at, pr_obj, obj5, call5, obj6, call6, obj7, call7, obj8, call8, obj9, call9, obj10, call10, obj12, call12, obj13, call13, obj11, call11]
      unfold SLIM
      omega
  | false =>
    have e : printA l = ([], 1) := by unfold printA; rw [if_neg (by rw [ha]; decide)]
    rw [e] at x1
    simp -implicitDefEqProofs (maxSteps := 1000000) only [heads, tails, Tryd.f4, ↓zD, zU, Nat.zero_mul, Nat.reduceMul, List.length_map, Tk.nm.injEq, Tk.cell.injEq, false_and, and_false, Nat.le_add_right, Nat.le_refl, ↓reduceIte, Bool.or_false, Bool.false_or, Bool.and_true, Bool.true_and, Bool.false_and, Bool.true_or, Bool.or_true, Option.isNone_none, Option.isNone_some, List.any_cons, List.any_nil, Bool.and_false, Nat.reduceBEq, Nat.reduceLeDiff, Int.reduceLT, Int.reduceEq, Int.reduceLE, Int.reduceAdd, Int.reduceToNat, Int.reduceNeg, Int.cast_ofNat_Int, Nat.reduceLT, List.drop_succ_cons, List.take_succ_cons, List.singleton_append, Nat.zero_add, List.set_cons_zero, List.set_cons_succ, List.drop_nil, List.take_nil, Option.map_some, Option.map_none, Option.getD_some, Option.getD_none, Option.bind_some, List.cons_append, List.nil_append, List.append_nil, List.map_cons, List.map_nil, List.range_zero, List.take_zero, List.flatten_nil, List.filter_nil, List.length_nil, List.length_cons, List.drop_zero, List.not_mem_nil, List.mem_cons, Bool.true_eq_false, Bool.false_eq_true, Nat.reduceEqDiff, Nat.reduceAdd, List.getElem?_toArray, List.toList_toArray, List.getElem?_cons_zero, List.getElem?_cons_succ, decide_eq_true_eq, beq_self_eq_true, beq_true, beq_false, decide_true, decide_false, Bool.not_true, Bool.not_false, true_and, and_true, or_false, false_or, Bool.and_eq_true, reduceCtorEq, not_false_eq_true, cat_u, lit_strL, List.append_assoc, boxO, cells_rp, zeroX_at, T28, P28, T3, T9, U3, U9, U23, T23, U22, U26, rd_agg6, x1, okR_at, pr_obj, obj5, call5, obj6, call6, obj7, call7, obj8, call8, obj9, call9, obj10, call10, obj12, call12, obj13, call13, obj11, call11]
set_option maxRecDepth 100000 in
theorem back_2 (s : List UInt8) (hs : s.length ≤ 1048576) (st : S) (h1 : st.fr 1 = xstr (strL s)) : WC Tryd.prog pr (tails 3 (Tryd.f4.body.getD Code.skip)) st (endQ Tryd.prog 4 0 ⟨false, [xbool true], []⟩) := by
  have x3 := fun K => scParse_k s (by omega) K
  obtain ⟨p1, p2⟩ := parse_ends s
  have hok := parse_ok s hs
  generalize parseA s = Z at *
  obtain ⟨l1, n1, e1⟩ := Z
  simp only at x3 p1 p2 hok
  by_cases he : e1 = 0
  · subst he
    obtain ⟨hn0, ha, hsl⟩ := p1 rfl
    have x1 : ∀ K, CallK Tryd.prog pr 5 [.of (.sl (fl acC l1) l1.length)] [] K ↔ K ⟨false, [xstr (strL (printA l1).1), xint (printA l1).2], []⟩ := fun K => Gives.k (scPrint_call l1 (hok rfl)) K
    rw [print_yes l1 ha, hsl] at x1
    rw [hn0] at x3
    by_cases h2 : l1 = []
    · subst h2
      have e2 : slX [] = .nil := rfl
      have e4 : fl acC [] = [] := rfl
      simp only [e2, e4, List.length_nil] at x1 x3
      simp -implicitDefEqProofs (maxSteps := 1000000) only [heads, tails, Tryd.f4, ↓zD, zU, Nat.zero_mul, Nat.reduceMul, List.length_map, Tk.nm.injEq, Tk.cell.injEq, false_and, and_false, Nat.le_add_right, Nat.le_refl, ↓reduceIte, Bool.or_false, Bool.false_or, Bool.and_true, Bool.true_and, Bool.false_and, Bool.true_or, Bool.or_true, Option.isNone_none, Option.isNone_some, List.any_cons, List.any_nil, Bool.and_false, Nat.reduceBEq, Nat.reduceLeDiff, Int.reduceLT, Int.reduceEq, Int.reduceLE, Int.reduceAdd, Int.reduceToNat, Int.reduceNeg, Int.cast_ofNat_Int, Nat.reduceLT, List.drop_succ_cons, List.take_succ_cons, List.singleton_append, Nat.zero_add, List.set_cons_zero, List.set_cons_succ, List.drop_nil, List.take_nil, Option.map_some, Option.map_none, Option.getD_some, Option.getD_none, Option.bind_some, List.cons_append, List.nil_append, List.append_nil, List.map_cons, List.map_nil, List.range_zero, List.take_zero, List.flatten_nil, List.filter_nil, List.length_nil, List.length_cons, List.drop_zero, List.not_mem_nil, List.mem_cons, Bool.true_eq_false, Bool.false_eq_true, Nat.reduceEqDiff, Nat.reduceAdd, List.getElem?_toArray, List.toList_toArray, List.getElem?_cons_zero, List.getElem?_cons_succ, decide_eq_true_eq, beq_self_eq_true, beq_true, beq_false, decide_true, decide_false, Bool.not_true, Bool.not_false, true_and, and_true, or_false, false_or, Bool.and_eq_true, reduceCtorEq, not_false_eq_true, cat_u, lit_strL, List.append_assoc, boxO, cells_rp, zeroX_at, T28, P28, T3, T9, U3, U9, U23, T23, U22, U26, rd_agg6, h1, x1, x3, awake_k, strL_eq, pr_obj, obj5, call5, obj6, call6, obj7, call7, obj8, call8, obj9, call9, obj10, call10, obj12, call12, obj13, call13, obj11, call11, rv4]
    · have e2 : slX l1 = ownA (.nm 0 0 0) l1 l1.length := by unfold slX; rw [if_neg h2]
      simp only [e2] at x3
      simp -implicitDefEqProofs (maxSteps := 1000000) only [heads, tails, Tryd.f4, ↓zD, zU, Nat.zero_mul, Nat.reduceMul, List.length_map, Tk.nm.injEq, Tk.cell.injEq, false_and, and_false, Nat.le_add_right, Nat.le_refl, ↓reduceIte, Bool.or_false, Bool.false_or, Bool.and_true, Bool.true_and, Bool.false_and, Bool.true_or, Bool.or_true, Option.isNone_none, Option.isNone_some, List.any_cons, List.any_nil, Bool.and_false, Nat.reduceBEq, Nat.reduceLeDiff, Int.reduceLT, Int.reduceEq, Int.reduceLE, Int.reduceAdd, Int.reduceToNat, Int.reduceNeg, Int.cast_ofNat_Int, Nat.reduceLT, List.drop_succ_cons, List.take_succ_cons, List.singleton_append, Nat.zero_add, List.set_cons_zero, List.set_cons_succ, List.drop_nil, List.take_nil, Option.map_some, Option.map_none, Option.getD_some, Option.getD_none, Option.bind_some, List.cons_append, List.nil_append, List.append_nil, List.map_cons, List.map_nil, List.range_zero, List.take_zero, List.flatten_nil, List.filter_nil, List.length_nil, List.length_cons, List.drop_zero, List.not_mem_nil, List.mem_cons, Bool.true_eq_false, Bool.false_eq_true, Nat.reduceEqDiff, Nat.reduceAdd, List.getElem?_toArray, List.toList_toArray, List.getElem?_cons_zero, List.getElem?_cons_succ, decide_eq_true_eq, beq_self_eq_true, beq_true, beq_false, decide_true, decide_false, Bool.not_true, Bool.not_false, true_and, and_true, or_false, false_or, Bool.and_eq_true, reduceCtorEq, not_false_eq_true, cat_u, lit_strL, List.append_assoc, boxO, cells_rp, zeroX_at, T28, P28, T3, T9, U3, U9, U23, T23, U22, U26, rd_agg6, h1, x1, x3, awake_k, strL_eq, pr_obj, obj5, call5, obj6, call6, obj7, call7, obj8, call8, obj9, call9, obj10, call10, obj12, call12, obj13, call13, obj11, call11, rv4]
  · obtain ⟨h2, h3⟩ := p2 he
    subst h2
    have e2 : slX [] = .nil := rfl
    have de := decide_eq_false he
    have d3 : decide ((1 : Int) ≤ (n1 : Int)) = true := decide_eq_true (by omega)
    simp only [e2] at x3
    simp -implicitDefEqProofs (maxSteps := 1000000) only [heads, tails, Tryd.f4, ↓zD, zU, Nat.zero_mul, Nat.reduceMul, List.length_map, Tk.nm.injEq, Tk.cell.injEq, false_and, and_false, Nat.le_add_right, Nat.le_refl, ↓reduceIte, Bool.or_false, Bool.false_or, Bool.and_true, Bool.true_and, Bool.false_and, Bool.true_or, Bool.or_true, Option.isNone_none, Option.isNone_some, List.any_cons, List.any_nil, Bool.and_false, Nat.reduceBEq, Nat.reduceLeDiff, Int.reduceLT, Int.reduceEq, Int.reduceLE, Int.reduceAdd, Int.reduceToNat, Int.reduceNeg, Int.cast_ofNat_Int, Nat.reduceLT, List.drop_succ_cons, List.take_succ_cons, List.singleton_append, Nat.zero_add, List.set_cons_zero, List.set_cons_succ, List.drop_nil, List.take_nil, Option.map_some, Option.map_none, Option.getD_some, Option.getD_none, Option.bind_some, List.cons_append, List.nil_append, List.append_nil, List.map_cons, List.map_nil, List.range_zero, List.take_zero, List.flatten_nil, List.filter_nil, List.length_nil, List.length_cons, List.drop_zero, List.not_mem_nil, List.mem_cons, Bool.true_eq_false, Bool.false_eq_true, Nat.reduceEqDiff, Nat.reduceAdd, List.getElem?_toArray, List.toList_toArray, List.getElem?_cons_zero, List.getElem?_cons_succ, decide_eq_true_eq, beq_self_eq_true, beq_true, beq_false, decide_true, decide_false, Bool.not_true, Bool.not_false, true_and, and_true, or_false, false_or, Bool.and_eq_true, reduceCtorEq, not_false_eq_true, cat_u, lit_strL, List.append_assoc, boxO, cells_rp, zeroX_at, T28, P28, T3, T9, U3, U9, U23, T23, U22, U26, rd_agg6, h1, x3, awake_k, de, d3, strL_eq, pr_obj, obj5, call5, obj6, call6, obj7, call7, obj8, call8, obj9, call9, obj10, call10, obj12, call12, obj13, call13, obj11, call11, rv4]
theorem ScriptBack_call (l : List Ac) (s : List UInt8) (hl : AcsOk l) (hs : s.length ≤ 1048576) : G1 4 [.of (acsC l), .of (cstr (strL s))] (xbool true) := by
  have ea : acsC l = .sl (fl acC l) l.length := rfl
  rw [ea]
  refine by_body rfl ok4 body4 ar4 rfl ?_
  refine WC_cut 3 _ _ _ rfl (back_1 l s hl) fun st h => ?_
  exact back_2 s hs st h
end Go.Proofs.YtcmgabicladmlaaDoor
namespace Go.Proofs.YtcmgabicladmlaaDoor.card
open Go Go.Pe Go.Tab Go.RowKit Go.ChangeShapes Go.WideShapes Go.ChangeAt Go.Proofs.YtcmgabicladmlaaDoor

theorem own : ownKnob Tryd.prog.godebug = none := by kernel_rfl
theorem laidOut : laidOutB Tryd.prog = true := by kernel_rfl
theorem gTab : Tryd.prog.globalNamed tabName = some 3 := by kernel_rfl
theorem gTabType : (Tryd.prog.globals[3]?).map (·.type) = some 115 := by kernel_rfl
theorem cellsTab : Tryd.prog.cellsOf 115 = 20 := by kernel_rfl
theorem cellsU64 : Tryd.prog.cellsOf 102 = 1 := by kernel_rfl
theorem gES : Tryd.prog.globalNamed "strconv.ErrSyntax" = some 1 := by kernel_rfl
theorem gESType : (Tryd.prog.globals[1]?).map (·.type) = some 72 := by kernel_rfl
theorem gER : Tryd.prog.globalNamed "strconv.ErrRange" = some 2 := by kernel_rfl
theorem gERType : (Tryd.prog.globals[2]?).map (·.type) = some 72 := by kernel_rfl
theorem star : "*" ++ "errors.errorString" = "*errors.errorString" := by decide
/-- The one row of that name. -/
theorem rowErr (u : TypeId) (h : Tryd.prog.typeName? 3 u = some "*errors.errorString") : u = 123 :=
  typeName_ptr_named (nm := "errors.errorString") (by rw [star]; kernel_rfl) (by kernel_rfl) (by decide) u (by rw [star]; exact h)
theorem cellsES : Tryd.prog.cellsOf 125 = 1 := by kernel_rfl
theorem cellsStr : Tryd.prog.cellsOf 9 = 1 := by kernel_rfl
/-- A listed sentinel's variable holds a value with its type. -/
theorem cell_err {n : String} {text : List UInt8} {g : Nat} {W : World} (hg : Tryd.prog.globalNamed n = some g) (ht : (Tryd.prog.globals[g]?).map (·.type) = some 72)
    (h : laidMet Tryd.prog [(n, .iface "*errors.errorString" (.ptr (.agg [.lit (.string text)])))] W) : ∃ ev, W.cell? ⟨g, 0, none⟩ = some ev ∧ (ev = .nilIface ∨ ∃ te pe, ev = .iface te pe) := by
  obtain ⟨a0, s0, hv0, -, -, -⟩ := laid_sentinel h hg ht Tryd.underlying72 rowErr Tryd.underlying123 Tryd.underlying125 rfl rfl Tryd.underlying9 cellsES cellsStr
  exact ⟨_, by have h0 := World.var?_cell hg hv0 0; simpa using h0, .inr ⟨_, _, rfl⟩⟩
/-- The table and the two errors, out of the row's list; the other variable that is read: by its type. -/
theorem table {W : World} {laid : List (String × DataW Unit)} (hf : (laid.filter fun x => x.1 == tabName) = [(tabName, Lib.tabData .u64 Lib.pow10Tab)])
    (hf1 : (laid.filter fun x => x.1 == "strconv.ErrSyntax") = [("strconv.ErrSyntax", Rows.laid_strconv_ErrSyntax)]) (hf2 : (laid.filter fun x => x.1 == "strconv.ErrRange") = [("strconv.ErrRange", Rows.laid_strconv_ErrRange)])
    (h : laidMet Tryd.prog laid W) (hs : W.ShapedOpen Tryd.prog) : GT.holds W := by
  have h2 := h.filter fun x => x.1 == tabName
  rw [hf] at h2
  have h3 := h.filter fun x => x.1 == "strconv.ErrSyntax"
  rw [hf1] at h3
  have h4 := h.filter fun x => x.1 == "strconv.ErrRange"
  rw [hf2] at h4
  exact ⟨Lib.tabIs_of_head (rest := []) gTab gTabType Tryd.underlying115 Tryd.underlying102 cellsU64 cellsTab h2,
    Go.Proofs.cell_of_shapedOpen_int (zero := #[.int .i64 0]) (t := 3) hs (of_decide_eq_true (by kernel_rfl)) (by kernel_rfl) rfl (by kernel_rfl) (by kernel_rfl) Tryd.underlying3,
    cell_err gES gESType h3, cell_err gER gERType h4⟩
theorem trodAll_stays {H : Type} {enc : TypeId × Value → H} {W W' : World} {sp : Nat → Bool} : ∀ {ts : List TypeId} {vs : List Value} {ds : List (DataW H)} {ps : List MemPlace}, (∀ t ∈ ts, Tryd.prog.readableRec t = true ∧ t < Tryd.prog.types.size) →
    DataW.TrodAll enc Tryd.prog W 0 (fun _ => true) true ts vs ds ps → (∀ p ∈ ps, W.sameAt W' p) → (∀ p ∈ ps, sp p.block = true) → DataW.TrodAll enc Tryd.prog W' 0 sp true ts vs ds ps
  | [], [], [], _, _, h, _, _ => h
  | _ :: _, _ :: _, _ :: _, _, hT, ⟨p, q, h1, h2, e⟩, hs, hsp =>
    ⟨p, q, WideElems.Trod_stays laidOut (hT _ (List.mem_cons.2 (.inl rfl))).1 (hT _ (List.mem_cons.2 (.inl rfl))).2 h1 (fun x hx => hs x (by rw [e]; exact List.mem_append_left _ hx)) (fun x hx => hsp x (by rw [e]; exact List.mem_append_left _ hx)),
      trodAll_stays (fun t ht => hT t (List.mem_cons.2 (.inr ht))) h2 (fun x hx => hs x (by rw [e]; exact List.mem_append_right _ hx)) (fun x hx => hsp x (by rw [e]; exact List.mem_append_right _ hx)), e⟩

/-- A call on plain data, as the machine says. -/
def kOf (W : World) : Know := ⟨memOf W, fun _ => none⟩
theorem plain_out {f : Nat} {xs : List X} {b : Bool} (h : G1 f xs (xbool b)) {fn : Func} (hfn : Tryd.prog.funcs[f]? = some fn) {W : World} (hT : GT.holds W) {vs : List Value} (hvs : RepXs (kOf W) (fun _ => none) xs vs) :
    Calls Tryd.prog f vs.toArray W fun e W' => e = .returned (.bool b) ∧ Below W.heap.size W W' :=
  plain_gives pr_sound h hfn hT (fun _ _ _ hv => memOf_mem hv) hvs

set_option maxRecDepth 100000 in
theorem okSl {W : World} {base : Nat} {t e : TypeId} {v : Value} (ht : Tryd.prog.underlying t = some (.slice e)) (h : Value.okWide Tryd.prog W .any base t v) : v.cells.toList = [v] := by
  obtain ⟨a, len, cap, rfl⟩ := okWide_slice ht h
  rfl
/-- A world for the witness: the settled one, the listed tables holding what their initialisers lay. -/
def litsOf : DataW Unit → Array Value
  | .agg l => (l.map fun d => match d with
    | .lit (.int k n) => Value.int k n
    | _ => undef).toArray
  | _ => #[]
def putCells (vs : Array Value) : Obj → Obj
  | .cells _ t frozen => .cells vs t frozen
  | o => o
def litOf1 : DataW Unit → Value
  | .lit (.int k n) => .int k n
  | _ => undef
def litsIn : DataW Unit → List Value
  | .agg l => l.map litOf1
  | d => [litOf1 d]
def litsOf2 : DataW Unit → Array Value
  | .agg l => (l.map litsIn).flatten.toArray
  | _ => #[]
abbrev synS : ByteArray := { data := #[105, 110, 118, 97, 108, 105, 100, 32, 115, 121, 110, 116, 97, 120] }
abbrev rngS : ByteArray := { data := #[118, 97, 108, 117, 101, 32, 111, 117, 116, 32, 111, 102, 32, 114, 97, 110, 103, 101] }
/-- So many blocks has the settled world. -/
noncomputable def low : Nat := (World.holding Tryd.prog default ⟨#[], #[], []⟩).heap.size
noncomputable def laidWorld (os : Os) : World :=
  let w0 := World.holding Tryd.prog os ⟨#[.cells #[.string synS] 125, .cells #[.string rngS] 125], #[], []⟩
  { w0 with heap := ((((((w0.heap.modify 3 (putCells (litsOf Rows.laid_internal_strconv_uint64pow10))).modify 6 (putCells (litsOf Rows.laid_math_bits_deBruijn32tab))).modify 7 (putCells (litsOf Rows.laid_math_bits_deBruijn64tab))).modify 4 (putCells (litsOf2 Rows.laid_unicode_utf8_first))).modify 5 (putCells (litsOf2 Rows.laid_unicode_utf8_acceptRanges))).modify 1 (putCells #[.iface 123 (.pointer (some ⟨low, 0, none⟩))])).modify 2 (putCells #[.iface 123 (.pointer (some ⟨low + 1, 0, none⟩))]) }
theorem two_ok {x y : TypeId} (hx : Tryd.prog.readableRec x = true ∧ x < Tryd.prog.types.size) (hy : Tryd.prog.readableRec y = true ∧ y < Tryd.prog.types.size) : ∀ t ∈ [x, y], Tryd.prog.readableRec t = true ∧ t < Tryd.prog.types.size := by
  intro t ht
  simp only [List.mem_cons, List.not_mem_nil, or_false] at ht
  rcases ht with rfl | rfl
  · exact hx
  · exact hy
theorem actsOk : Tryd.prog.readableRec 22 = true ∧ 22 < Tryd.prog.types.size := ⟨by kernel_rfl, of_decide_eq_true (by kernel_rfl)⟩
theorem strOk : Tryd.prog.readableRec 9 = true ∧ 9 < Tryd.prog.types.size := ⟨by kernel_rfl, of_decide_eq_true (by kernel_rfl)⟩
theorem bulk2 {H : Type} {d0 d1 : DataW H} (h : Rows.uptoSmall H [d0, d1] = true) : Rows.uptoBulk d0 ≤ 1048575 ∧ Rows.uptoBulk d1 ≤ 1048575 := by
  have := of_decide_eq_true h
  simp only [Rows.uptoBulkAll] at this
  have h0 := one_le d0
  have h1 := one_le d1
  omega
def flatTs : List TypeId := [3, 9, 51, 49, 24, 54, 25, 26, 23, 28, 40, 22]
theorem flatOk : flatB Tryd.prog flatTs = true := by kernel_rfl
section
variable {H : Type} {enc : TypeId × Value → H} {W : World} {spare : Nat → Bool} {held : Bool} {base : Nat} {v : Value} {d : DataW H} {ps : List MemPlace} {t : TypeId}
set_option maxRecDepth 100000 in
theorem read_sl {e : TypeId} (hu : Tryd.prog.underlying t = some (.slice e)) (ht : t ∈ flatTs) (hd : DataW.Trod enc Tryd.prog W 0 spare held t v d ps) (hok : Value.okWide Tryd.prog W .any base t v) : ∃ c : C, Rep (memOf W) c v ∧ Pl Tryd.prog t [c] (Rows.uptoBulk d) := by
  have hone := okSl hu hok
  obtain ⟨fuel, h⟩ := hd
  obtain ⟨g, g1, g2, g3⟩ := read_pl flatOk fuel t _ _ ht h
  rw [hone] at g1
  obtain ⟨c, rfl⟩ := g3.one_inv hu
  obtain ⟨u, r, e, h1, _⟩ := g1
  cases e
  exact ⟨c, h1, g3⟩
theorem acs_said {l : List Ac} {m : Nat} (h1 : (l.map acW).sum + 1 ≤ m) (h2 : ∀ a ∈ l, AcOk a) (hm : m ≤ 1048575) : AcsOk l := by
  refine ⟨h2, by omega, fun a ha => ?_⟩
  have h3 := txt_low l a ha
  omega
end
end Go.Proofs.YtcmgabicladmlaaDoor.card

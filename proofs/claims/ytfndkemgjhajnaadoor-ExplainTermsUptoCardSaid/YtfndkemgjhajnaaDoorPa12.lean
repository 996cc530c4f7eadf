/-
  Chapter 30: lines, by both; equal lists of texts, by the evaluator. Conditions: none.
-/
import Derived.Test.YtfndkemgjhajnaaDoorPa11
namespace Go.Proofs.YtfndkemgjhajnaaDoor
open Go Go.Pe Go.Tab
set_option linter.unusedSectionVars false

theorem nilX_ptr (r o : Nat) : nilX (.ptr r o) = out (.ptr r o) := rfl
/-- What a teller holds of lines. -/
def LnX (y0 : X) (L0 : List (List UInt8)) : Prop := (y0 = .nil ∧ L0 = []) ∨ y0 = .own (.cell 0 1) 9 1 (txC L0) L0.length
theorem LnX.y {y0 : X} {L0 : List (List UInt8)} (h : LnX y0 L0) : y0 = .nil ∨ ∃ cs n, y0 = .own (.cell 0 1) 9 1 cs n := by
  rcases h with ⟨h, _⟩ | h
  · exact .inl h
  · exact .inr ⟨_, _, h⟩
theorem rep_blanks (n : Nat) : Lib.repeatL [32, 32] n = blanks n := by
  induction n with
  | zero => rfl
  | succ n ih => rw [blanks_succ, ← ih]; rfl
section
variable (op : Int) (tb ix : List UInt8) (cols : List Cl) (kids : List Pn) (terms lk rk : List Tm) (r : Nat → C) (est cost : Int) (counts : List Int) (deep : Nat) (y0 : X) (L L0 : List (List UInt8)) (rows : List UInt8)
def NSt2 (s : S) : Prop := NSt op tb ix cols kids terms lk rk r est cost counts deep y0 L s ∧ s.fr 9 = xstr (strL rows)
variable (hci : ∀ n ∈ counts, I64 n) (hy : LnX y0 L0)
include hci hy
set_option maxRecDepth 100000 in
theorem node6 (s : S) (hs : NSt op tb ix cols kids terms lk rk r est cost counts deep y0 L s) : WC Tryd.prog pr (heads 2 (tails 8 (Tryd.f20.body.getD Code.skip))) s (okR (NSt2 op tb ix cols kids terms lk rk r est cost counts deep y0 L (rowsL counts L0.length))) := by
  obtain ⟨h0, h2, h4, ho, c, k, hck, h8⟩ := hs
  have hold : Old s.clk (.nm c k 0) := by rw [Z68]; exact hck
  rcases Nat.lt_or_ge L0.length counts.length with ci0 | ci0
  have g1 : decide ((L0.length : Int) < (counts.length : Int)) = true := decide_eq_true (by omega)
  have hrl : rowsL counts L0.length = Lib.itoa counts[L0.length] := by unfold rowsL; rw [List.getElem?_eq_getElem ci0]
  have x1 := fun K => numText_k counts[L0.length] K (small_of (hci _ (List.getElem_mem ci0)))
  have x2 := ia_in counts L0.length ci0
  have x3 := pc_in counts L0.length ci0
  rotate_left
  have g1 : decide ((L0.length : Int) < (counts.length : Int)) = false := decide_eq_false (by omega)
  have hrl : rowsL counts L0.length = [45] := by unfold rowsL; rw [List.getElem?_eq_none ci0]
  have x1 : 77 ≤ 77 := Nat.le_refl _
  have x2 : 77 ≤ 77 := Nat.le_refl _
  have x3 : 77 ≤ 77 := Nat.le_refl _
  rotate_left
  all_goals rw [hrl]
  all_goals rcases hy with ⟨rfl, rfl⟩ | rfl
  all_goals try simp only [List.length_nil, Int.cast_ofNat_Int, List.drop_zero] at g1
  all_goals try simp only [List.length_nil, Int.cast_ofNat_Int, List.drop_zero] at x1
  all_goals try simp only [List.length_nil, Int.cast_ofNat_Int, List.drop_zero] at x2
  all_goals try simp only [List.length_nil, Int.cast_ofNat_Int, List.drop_zero] at x3
  all_goals simp -implicitDefEqProofs (maxSteps := 1000000) only [heads, tails, Tryd.f20, ↓zD, zU, Nat.zero_mul, Nat.reduceMul, List.length_map, Tk.nm.injEq, Tk.cell.injEq, false_and, and_false, Nat.le_add_right, Nat.le_refl, ↓reduceIte, Bool.or_false, Bool.false_or, Bool.and_true, Bool.true_and, Bool.false_and, Bool.true_or, Bool.or_true, Option.isNone_none, Option.isNone_some, List.any_cons, List.any_nil, Bool.and_false, Nat.reduceBEq, Nat.reduceLeDiff, Int.reduceLT, Int.reduceEq, Int.reduceLE, Int.reduceAdd, Int.reduceToNat, Int.reduceNeg, Int.cast_ofNat_Int, Nat.reduceLT, List.drop_succ_cons, List.take_succ_cons, List.singleton_append, Nat.zero_add, List.set_cons_zero, List.set_cons_succ, List.drop_nil, List.take_nil, Option.map_some, Option.map_none, Option.getD_some, Option.getD_none, Option.bind_some, List.cons_append, List.nil_append, List.append_nil, List.map_cons, List.map_nil, List.range_zero, List.take_zero, List.flatten_nil, List.filter_nil, List.length_nil, List.length_cons, List.drop_zero, List.not_mem_nil, List.mem_cons, Bool.true_eq_false, Bool.false_eq_true, Nat.reduceEqDiff, Nat.reduceAdd, List.getElem?_toArray, List.toList_toArray, List.getElem?_cons_zero, List.getElem?_cons_succ, decide_eq_true_eq, beq_self_eq_true, beq_true, beq_false, decide_true, decide_false, Bool.not_true, Bool.not_false, true_and, and_true, or_false, false_or, Bool.and_eq_true, reduceCtorEq, not_false_eq_true, cat_u, lit_strL, List.append_assoc, boxO, zeroX_at, T34, P34, T24, P24, T23, P23, T22, P22, fa34_0, fa34_1, fa34_2, fa34_3, fa34_4, fa34_5, fa34_6, fa34_7, fa34_17, fa34_18, P3, P9, U3, U9, U37, U24, U22, U23, T9, T3, T37, len_txt, pc_t, tails, h0, h2, h4, h8, ho, nilX_ptr, T58, fa58_0, fa58_1, P37, P27, T27, U27, len_ints, g1, x1, x2, x3, pr_obj, obj16, call16, okR_at, old_add hold, old_new hold, hold]
  all_goals refine ⟨⟨?_, ?_, ?_, ?_, c, k, ?_, ?_⟩, ?_⟩ <;> (simp -implicitDefEqProofs (maxSteps := 1000000) only [↓zD, zU, Nat.zero_mul, Nat.reduceMul, List.length_map, Tk.nm.injEq, Tk.cell.injEq, false_and, and_false, Nat.le_add_right, Nat.le_refl, ↓reduceIte, Bool.or_false, Bool.false_or, Bool.and_true, Bool.true_and, Bool.false_and, Bool.true_or, Bool.or_true, Option.isNone_none, Option.isNone_some, List.any_cons, List.any_nil, Bool.and_false, Nat.reduceBEq, Nat.reduceLeDiff, Int.reduceLT, Int.reduceEq, Int.reduceLE, Int.reduceAdd, Int.reduceToNat, Int.reduceNeg, Int.cast_ofNat_Int, Nat.reduceLT, List.drop_succ_cons, List.take_succ_cons, List.singleton_append, Nat.zero_add, List.set_cons_zero, List.set_cons_succ, List.drop_nil, List.take_nil, Option.map_some, Option.map_none, Option.getD_some, Option.getD_none, Option.bind_some, List.cons_append, List.nil_append, List.append_nil, List.map_cons, List.map_nil, List.range_zero, List.take_zero, List.flatten_nil, List.filter_nil, List.length_nil, List.length_cons, List.drop_zero, List.not_mem_nil, List.mem_cons, Bool.true_eq_false, Bool.false_eq_true, Nat.reduceEqDiff, Nat.reduceAdd, List.getElem?_toArray, List.toList_toArray, List.getElem?_cons_zero, List.getElem?_cons_succ, decide_eq_true_eq, beq_self_eq_true, beq_true, beq_false, decide_true, decide_false, Bool.not_true, Bool.not_false, true_and, and_true, or_false, false_or, Bool.and_eq_true, reduceCtorEq, not_false_eq_true, cat_u, lit_strL, List.append_assoc, boxO, zeroX_at, T34, P34, T24, P24, T23, P23, T22, P22, fa34_0, fa34_1, fa34_2, fa34_3, fa34_4, fa34_5, fa34_6, fa34_7, fa34_17, fa34_18, P3, P9, U3, U9, U37, U24, U22, U23, T9, T3, T37, len_txt, pc_t, h0, h2, h4, h8, ho, List.length_append] <;> first | rfl | omega)
omit hci in
set_option maxRecDepth 100000 in
theorem node7 (s : S) (hs : NSt2 op tb ix cols kids terms lk rk r est cost counts deep y0 L rows s) (hl : L.length + 6 ≤ LIM) (he : I64 est) (hc : I64 cost) : WC Tryd.prog pr (heads 1 (tails 10 (Tryd.f20.body.getD Code.skip))) s (okR (NSt op tb ix cols kids terms lk rk r est cost counts deep y0 (L ++ [[101, 115, 116], Lib.itoa est, [99, 111, 115, 116], Lib.itoa cost, [114, 111, 119, 115], rows]))) := by
  obtain ⟨⟨h0, h2, h4, ho, c, k, hck, h8⟩, h9⟩ := hs
  have hold : Old s.clk (.nm c k 0) := by rw [Z68]; exact hck
  have x1 := fun K => numText_k est K (small_of he)
  have x2 := fun K => numText_k cost K (small_of hc)
  have hap := fun tk t t' a b c d e f => ap_s6 tk t t' L a b c d e f (n := L.length) hl
  rcases hy with ⟨rfl, rfl⟩ | rfl
  all_goals simp -implicitDefEqProofs (maxSteps := 1000000) only [heads, tails, Tryd.f20, ↓zD, zU, Nat.zero_mul, Nat.reduceMul, List.length_map, Tk.nm.injEq, Tk.cell.injEq, false_and, and_false, Nat.le_add_right, Nat.le_refl, ↓reduceIte, Bool.or_false, Bool.false_or, Bool.and_true, Bool.true_and, Bool.false_and, Bool.true_or, Bool.or_true, Option.isNone_none, Option.isNone_some, List.any_cons, List.any_nil, Bool.and_false, Nat.reduceBEq, Nat.reduceLeDiff, Int.reduceLT, Int.reduceEq, Int.reduceLE, Int.reduceAdd, Int.reduceToNat, Int.reduceNeg, Int.cast_ofNat_Int, Nat.reduceLT, List.drop_succ_cons, List.take_succ_cons, List.singleton_append, Nat.zero_add, List.set_cons_zero, List.set_cons_succ, List.drop_nil, List.take_nil, Option.map_some, Option.map_none, Option.getD_some, Option.getD_none, Option.bind_some, List.cons_append, List.nil_append, List.append_nil, List.map_cons, List.map_nil, List.range_zero, List.take_zero, List.flatten_nil, List.filter_nil, List.length_nil, List.length_cons, List.drop_zero, List.not_mem_nil, List.mem_cons, Bool.true_eq_false, Bool.false_eq_true, Nat.reduceEqDiff, Nat.reduceAdd, List.getElem?_toArray, List.toList_toArray, List.getElem?_cons_zero, List.getElem?_cons_succ, decide_eq_true_eq, beq_self_eq_true, beq_true, beq_false, decide_true, decide_false, Bool.not_true, Bool.not_false, true_and, and_true, or_false, false_or, Bool.and_eq_true, reduceCtorEq, not_false_eq_true, cat_u, lit_strL, List.append_assoc, boxO, zeroX_at, T34, P34, T24, P24, T23, P23, T22, P22, fa34_0, fa34_1, fa34_2, fa34_3, fa34_4, fa34_5, fa34_6, fa34_7, fa34_17, fa34_18, P3, P9, U3, U9, U37, U24, U22, U23, T9, T3, T37, len_txt, pc_t, tails, h0, h2, h4, h8, h9, ho, x1, x2, bs_s6, hap, pr_obj, obj16, call16, okR_at, old_add hold, old_new hold, hold]
  all_goals refine ⟨?_, ?_, ?_, ?_, s.clk, 9, ?_, ?_⟩ <;> (simp -implicitDefEqProofs (maxSteps := 1000000) only [↓zD, zU, Nat.zero_mul, Nat.reduceMul, List.length_map, Tk.nm.injEq, Tk.cell.injEq, false_and, and_false, Nat.le_add_right, Nat.le_refl, ↓reduceIte, Bool.or_false, Bool.false_or, Bool.and_true, Bool.true_and, Bool.false_and, Bool.true_or, Bool.or_true, Option.isNone_none, Option.isNone_some, List.any_cons, List.any_nil, Bool.and_false, Nat.reduceBEq, Nat.reduceLeDiff, Int.reduceLT, Int.reduceEq, Int.reduceLE, Int.reduceAdd, Int.reduceToNat, Int.reduceNeg, Int.cast_ofNat_Int, Nat.reduceLT, List.drop_succ_cons, List.take_succ_cons, List.singleton_append, Nat.zero_add, List.set_cons_zero, List.set_cons_succ, List.drop_nil, List.take_nil, Option.map_some, Option.map_none, Option.getD_some, Option.getD_none, Option.bind_some, List.cons_append, List.nil_append, List.append_nil, List.map_cons, List.map_nil, List.range_zero, List.take_zero, List.flatten_nil, List.filter_nil, List.length_nil, List.length_cons, List.drop_zero, List.not_mem_nil, List.mem_cons, Bool.true_eq_false, Bool.false_eq_true, Nat.reduceEqDiff, Nat.reduceAdd, List.getElem?_toArray, List.toList_toArray, List.getElem?_cons_zero, List.getElem?_cons_succ, decide_eq_true_eq, beq_self_eq_true, beq_true, beq_false, decide_true, decide_false, Bool.not_true, Bool.not_false, true_and, and_true, or_false, false_or, Bool.and_eq_true, reduceCtorEq, not_false_eq_true, cat_u, lit_strL, List.append_assoc, boxO, zeroX_at, T34, P34, T24, P24, T23, P23, T22, P22, fa34_0, fa34_1, fa34_2, fa34_3, fa34_4, fa34_5, fa34_6, fa34_7, fa34_17, fa34_18, P3, P9, U3, U9, U37, U24, U22, U23, T9, T3, T37, len_txt, pc_t, h0, h2, h4, h8, ho, List.length_append] <;> first | rfl | omega)
/-- Behind the line. -/
def NSt3 (s : S) : Prop := s.fr 0 = .ptr 0 0 ∧ s.fr 2 = .of (ci (deep : Nat)) ∧ s.fr 4 = .ptr 1 0 ∧ s.objs = [.var 58 [.of (intsC counts), .own (.cell 0 1) 9 1 (txC L) L.length], .var 34 [xint op, xstr (strL tb), xstr (strL ix), .of (colsC cols), .of (.sl (pnsC kids) kids.length), .of (termsC terms), .of (termsC lk), .of (termsC rk), .of (r 0), .of (r 1), .of (r 2), .of (r 3), .of (r 4), .of (r 5), .of (r 6), .of (r 7), .of (r 8), .of (r 9), .of (r 10), .of (r 11), .of (r 12), xint est, xint cost], .map (mapIS wordT)]
omit hci in
set_option maxRecDepth 100000 in
theorem node8 (ln : List UInt8) (s : S) (hs : NSt op tb ix cols kids terms lk rk r est cost counts deep y0 L s) (hj : Lib.join L [32] = ln) (hll : L.length ≤ 1048576) (hln : ln.length ≤ 35184372088832) (hd : deep ≤ 2097152) (hl : L0.length + 1 ≤ LIM) :
    WC Tryd.prog pr (heads 1 (tails 11 (Tryd.f20.body.getD Code.skip))) s (okR (NSt3 op tb ix cols kids terms lk rk r est cost counts deep (L0 ++ [blanks deep ++ ln]))) := by
  obtain ⟨h0, h2, h4, ho, c, k, hck, h8⟩ := hs
  have hold : Old s.clk (.nm c k 0) := by rw [Z68]; exact hck
  have hbl := blanks_len deep
  have hoc : Old s.clk (.cell 0 1) := trivial
  have x1 := fun K => join_k L [32] K (by omega) (by rw [hj]; omega)
  have x2 := fun K => rep_k [32, 32] deep K (by omega) (by simp only [List.length_cons, List.length_nil]; omega)
  simp only [rep_blanks, hj] at x1 x2
  have hap := fun tk t t' a => ap_s1 tk t t' L0 a (n := L0.length) hl
  rcases hy with ⟨rfl, rfl⟩ | rfl
  all_goals simp -implicitDefEqProofs (maxSteps := 1000000) only [heads, tails, Tryd.f20, ↓zD, zU, Nat.zero_mul, Nat.reduceMul, List.length_map, Tk.nm.injEq, Tk.cell.injEq, false_and, and_false, Nat.le_add_right, Nat.le_refl, ↓reduceIte, Bool.or_false, Bool.false_or, Bool.and_true, Bool.true_and, Bool.false_and, Bool.true_or, Bool.or_true, Option.isNone_none, Option.isNone_some, List.any_cons, List.any_nil, Bool.and_false, Nat.reduceBEq, Nat.reduceLeDiff, Int.reduceLT, Int.reduceEq, Int.reduceLE, Int.reduceAdd, Int.reduceToNat, Int.reduceNeg, Int.cast_ofNat_Int, Nat.reduceLT, List.drop_succ_cons, List.take_succ_cons, List.singleton_append, Nat.zero_add, List.set_cons_zero, List.set_cons_succ, List.drop_nil, List.take_nil, Option.map_some, Option.map_none, Option.getD_some, Option.getD_none, Option.bind_some, List.cons_append, List.nil_append, List.append_nil, List.map_cons, List.map_nil, List.range_zero, List.take_zero, List.flatten_nil, List.filter_nil, List.length_nil, List.length_cons, List.drop_zero, List.not_mem_nil, List.mem_cons, Bool.true_eq_false, Bool.false_eq_true, Nat.reduceEqDiff, Nat.reduceAdd, List.getElem?_toArray, List.toList_toArray, List.getElem?_cons_zero, List.getElem?_cons_succ, decide_eq_true_eq, beq_self_eq_true, beq_true, beq_false, decide_true, decide_false, Bool.not_true, Bool.not_false, true_and, and_true, or_false, false_or, Bool.and_eq_true, reduceCtorEq, not_false_eq_true, cat_u, lit_strL, List.append_assoc, boxO, zeroX_at, T34, P34, T24, P24, T23, P23, T22, P22, fa34_0, fa34_1, fa34_2, fa34_3, fa34_4, fa34_5, fa34_6, fa34_7, fa34_17, fa34_18, P3, P9, U3, U9, U37, U24, U22, U23, T9, T3, T37, len_txt, pc_t, tails, h0, h2, h4, h8, ho, WS_st, nilX_ptr, T58, fa58_0, fa58_1, P37, x1, x2, bs_s1, hap, ap_s1n, pr_obj, obj26, call26, obj41, call41, okR_at, old_add hold, old_new hold, hold, old_add hoc, old_new hoc, hoc]
  all_goals refine ⟨by ((try simp only [List.length_append, List.length_cons, List.length_nil, SLIM]); omega), ?_⟩
  all_goals refine ⟨?_, ?_, ?_, ?_⟩ <;> (simp -implicitDefEqProofs (maxSteps := 1000000) only [↓zD, zU, Nat.zero_mul, Nat.reduceMul, List.length_map, Tk.nm.injEq, Tk.cell.injEq, false_and, and_false, Nat.le_add_right, Nat.le_refl, ↓reduceIte, Bool.or_false, Bool.false_or, Bool.and_true, Bool.true_and, Bool.false_and, Bool.true_or, Bool.or_true, Option.isNone_none, Option.isNone_some, List.any_cons, List.any_nil, Bool.and_false, Nat.reduceBEq, Nat.reduceLeDiff, Int.reduceLT, Int.reduceEq, Int.reduceLE, Int.reduceAdd, Int.reduceToNat, Int.reduceNeg, Int.cast_ofNat_Int, Nat.reduceLT, List.drop_succ_cons, List.take_succ_cons, List.singleton_append, Nat.zero_add, List.set_cons_zero, List.set_cons_succ, List.drop_nil, List.take_nil, Option.map_some, Option.map_none, Option.getD_some, Option.getD_none, Option.bind_some, List.cons_append, List.nil_append, List.append_nil, List.map_cons, List.map_nil, List.range_zero, List.take_zero, List.flatten_nil, List.filter_nil, List.length_nil, List.length_cons, List.drop_zero, List.not_mem_nil, List.mem_cons, Bool.true_eq_false, Bool.false_eq_true, Nat.reduceEqDiff, Nat.reduceAdd, List.getElem?_toArray, List.toList_toArray, List.getElem?_cons_zero, List.getElem?_cons_succ, decide_eq_true_eq, beq_self_eq_true, beq_true, beq_false, decide_true, decide_false, Bool.not_true, Bool.not_false, true_and, and_true, or_false, false_or, Bool.and_eq_true, reduceCtorEq, not_false_eq_true, cat_u, lit_strL, List.append_assoc, boxO, zeroX_at, T34, P34, T24, P24, T23, P23, T22, P22, fa34_0, fa34_1, fa34_2, fa34_3, fa34_4, fa34_5, fa34_6, fa34_7, fa34_17, fa34_18, P3, P9, U3, U9, U37, U24, U22, U23, T9, T3, T37, len_txt, pc_t, h0, h2, h4, h8, ho, List.length_append, true_and, and_self, if_true, Nat.lt_irrefl, Nat.zero_lt_one, Nat.le_refl] <;> first | rfl | omega | trace_state)
end
end Go.Proofs.YtfndkemgjhajnaaDoor
namespace Go.Proofs.YtfndkemgjhajnaaDoor
open Go Go.Pe Go.Tab
set_option linter.unusedSectionVars false

theorem range1 : List.range 1 = [0] := rfl
theorem flat1 : ([[]] : List (List Nat)).flatten = [] := rfl
/-- A teller's object. -/
def tellO (counts : List Int) (y : X) : Ob := .var 58 [.of (intsC counts), y]
def lnO (W : List (List UInt8)) : X := .own (.cell 0 1) 9 1 (txC W) W.length
section
variable (op : Int) (tb ix : List UInt8) (cols : List Cl) (kids : List Pn) (terms lk rk : List Tm) (r : Nat → C) (est cost : Int) (counts : List Int) (deep : Nat) (L1 : List (List UInt8))
set_option maxRecDepth 100000 in
theorem node9 (s : S) (hs : NSt3 op tb ix cols kids terms lk rk r est cost counts deep L1 s) (hkl : kids.length ≤ 1048576) (hd : deep ≤ 2097152)
    (ih : ∀ k (h : k < kids.length) (W : List (List UInt8)), W = L1 ++ undersF counts (deep + 1) L1.length (kids.take k) →
      Gives Tryd.prog pr 20 [.ptr 0 0, .agg ((pnC kids[k]).map .of), .of (ci ((deep + 1 : Nat)))] [.var 58 [.of (intsC counts), .own (.cell 0 1) 9 1 (txC W) W.length]] ⟨false, [], [tellO counts (lnO (W ++ underF counts (deep + 1) W.length kids[k]))]⟩) :
    WC Tryd.prog pr (tails 12 (Tryd.f20.body.getD Code.skip)) s (endQ Tryd.prog 20 1 ⟨false, [], [tellO counts (lnO (L1 ++ undersF counts (deep + 1) L1.length kids))]⟩) := by
  obtain ⟨h0, h2, h4, ho⟩ := hs
  have hw0 := wrapS deep (by omega)
  simp -implicitDefEqProofs (maxSteps := 1000000) only [heads, tails, Tryd.f20, ↓zD, zU, Nat.zero_mul, Nat.reduceMul, List.length_map, Tk.nm.injEq, Tk.cell.injEq, false_and, and_false, Nat.le_add_right, Nat.le_refl, ↓reduceIte, Bool.or_false, Bool.false_or, Bool.and_true, Bool.true_and, Bool.false_and, Bool.true_or, Bool.or_true, Option.isNone_none, Option.isNone_some, List.any_cons, List.any_nil, Bool.and_false, Nat.reduceBEq, Nat.reduceLeDiff, Int.reduceLT, Int.reduceEq, Int.reduceLE, Int.reduceAdd, Int.reduceToNat, Int.reduceNeg, Int.cast_ofNat_Int, Nat.reduceLT, List.drop_succ_cons, List.take_succ_cons, List.singleton_append, Nat.zero_add, List.set_cons_zero, List.set_cons_succ, List.drop_nil, List.take_nil, Option.map_some, Option.map_none, Option.getD_some, Option.getD_none, Option.bind_some, List.cons_append, List.nil_append, List.append_nil, List.map_cons, List.map_nil, List.range_zero, List.take_zero, List.flatten_nil, List.filter_nil, List.length_nil, List.length_cons, List.drop_zero, List.not_mem_nil, List.mem_cons, Bool.true_eq_false, Bool.false_eq_true, Nat.reduceEqDiff, Nat.reduceAdd, List.getElem?_toArray, List.toList_toArray, List.getElem?_cons_zero, List.getElem?_cons_succ, decide_eq_true_eq, beq_self_eq_true, beq_true, beq_false, decide_true, decide_false, Bool.not_true, Bool.not_false, true_and, and_true, or_false, false_or, Bool.and_eq_true, reduceCtorEq, not_false_eq_true, cat_u, lit_strL, List.append_assoc, boxO, zeroX_at, T34, P34, T24, P24, T23, P23, T22, P22, fa34_0, fa34_1, fa34_2, fa34_3, fa34_4, fa34_5, fa34_6, fa34_7, fa34_17, fa34_18, P3, P9, U3, U9, U37, U24, U22, U23, T9, T3, T37, len_txt, pc_t, tails, h0, h2, h4, ho]
  refine WC_inv _ _ (fun m s => ∃ k : Nat, k ≤ kids.length ∧ m = kids.length - k ∧ s.fr 0 = .ptr 0 0 ∧ s.fr 2 = .of (ci (deep : Nat)) ∧ s.fr 109 = .of (.sl (pnsC kids) kids.length) ∧ s.fr 110 = xint kids.length ∧ s.fr 111 = xint k ∧
    ∃ os W, W = L1 ++ undersF counts (deep + 1) L1.length (kids.take k) ∧ s.objs = (.var 58 [.of (intsC counts), .own (.cell 0 1) 9 1 (txC W) W.length]) :: os) ?_ kids.length _ ?_
  · rintro m s ⟨k, hk1, rfl, h0, h2, h109, h110, h111, os, W, hW, ho⟩
    have hw1 := wrapS k (by omega)
    by_cases c1 : k < kids.length
    · have d1 : decide ((k : Int) < (kids.length : Int)) = true := decide_eq_true (by omega)
      have hcall := fun K => Gives.k (ih k c1 W hW) K
      have hp := pc_pn kids k c1
      have htk := undersF_take counts (deep + 1) L1.length kids k c1
      have hWl : W.length = L1.length + nodesNs (kids.take k) := by rw [hW, List.length_append, undersF_len]
      rw [hWl] at hcall
      generalize underF counts (deep + 1) (L1.length + nodesNs (kids.take k)) kids[k] = U at hcall htk
      rw [← hWl] at hcall
      generalize kids[k] = x at hcall hp
      obtain ⟨op', tb', ix', cols', kids', terms', lk', rk', r', est', cost'⟩ := x
      simp only [pnC] at hp
      simp only [pnC, List.map_cons, List.map_nil] at hcall
      unfold tellO lnO at hcall
      simp -implicitDefEqProofs (maxSteps := 1000000) only [↓zD, zU, Nat.zero_mul, Nat.reduceMul, List.length_map, Tk.nm.injEq, Tk.cell.injEq, false_and, and_false, Nat.le_add_right, Nat.le_refl, ↓reduceIte, Bool.or_false, Bool.false_or, Bool.and_true, Bool.true_and, Bool.false_and, Bool.true_or, Bool.or_true, Option.isNone_none, Option.isNone_some, List.any_cons, List.any_nil, Bool.and_false, Nat.reduceBEq, Nat.reduceLeDiff, Int.reduceLT, Int.reduceEq, Int.reduceLE, Int.reduceAdd, Int.reduceToNat, Int.reduceNeg, Int.cast_ofNat_Int, Nat.reduceLT, List.drop_succ_cons, List.take_succ_cons, List.singleton_append, Nat.zero_add, List.set_cons_zero, List.set_cons_succ, List.drop_nil, List.take_nil, Option.map_some, Option.map_none, Option.getD_some, Option.getD_none, Option.bind_some, List.cons_append, List.nil_append, List.append_nil, List.map_cons, List.map_nil, List.range_zero, List.take_zero, List.flatten_nil, List.filter_nil, List.length_nil, List.length_cons, List.drop_zero, List.not_mem_nil, List.mem_cons, Bool.true_eq_false, Bool.false_eq_true, Nat.reduceEqDiff, Nat.reduceAdd, List.getElem?_toArray, List.toList_toArray, List.getElem?_cons_zero, List.getElem?_cons_succ, decide_eq_true_eq, beq_self_eq_true, beq_true, beq_false, decide_true, decide_false, Bool.not_true, Bool.not_false, true_and, and_true, or_false, false_or, Bool.and_eq_true, reduceCtorEq, not_false_eq_true, cat_u, lit_strL, List.append_assoc, h0, h2, h109, h110, h111, ho, boxO, zeroX_at, T34, P34, T24, P24, T23, P23, T22, P22, fa34_0, fa34_1, fa34_2, fa34_3, fa34_4, fa34_5, fa34_6, fa34_7, fa34_17, fa34_18, P3, P9, U3, U9, U37, U24, U22, U23, T9, T3, T37, len_txt, pc_t, d1, hw0, hw1, ia_pn kids k c1, hp, rd_agg23, hcall, pr_obj, pr_tk, obj20, tk20, call20]
      refine ⟨_, ?_, k + 1, by omega, rfl, rfl, _, W ++ U, by rw [hW, htk, List.append_assoc], rfl⟩
      omega
    · have d1 : decide ((k : Int) < (kids.length : Int)) = false := decide_eq_false (by omega)
      rw [List.take_of_length_le (by omega)] at hW
      simp -implicitDefEqProofs (maxSteps := 1000000) only [↓zD, zU, Nat.zero_mul, Nat.reduceMul, List.length_map, Tk.nm.injEq, Tk.cell.injEq, false_and, and_false, Nat.le_add_right, Nat.le_refl, ↓reduceIte, Bool.or_false, Bool.false_or, Bool.and_true, Bool.true_and, Bool.false_and, Bool.true_or, Bool.or_true, Option.isNone_none, Option.isNone_some, List.any_cons, List.any_nil, Bool.and_false, Nat.reduceBEq, Nat.reduceLeDiff, Int.reduceLT, Int.reduceEq, Int.reduceLE, Int.reduceAdd, Int.reduceToNat, Int.reduceNeg, Int.cast_ofNat_Int, Nat.reduceLT, List.drop_succ_cons, List.take_succ_cons, List.singleton_append, Nat.zero_add, List.set_cons_zero, List.set_cons_succ, List.drop_nil, List.take_nil, Option.map_some, Option.map_none, Option.getD_some, Option.getD_none, Option.bind_some, List.cons_append, List.nil_append, List.append_nil, List.map_cons, List.map_nil, List.range_zero, List.take_zero, List.flatten_nil, List.filter_nil, List.length_nil, List.length_cons, List.drop_zero, List.not_mem_nil, List.mem_cons, Bool.true_eq_false, Bool.false_eq_true, Nat.reduceEqDiff, Nat.reduceAdd, List.getElem?_toArray, List.toList_toArray, List.getElem?_cons_zero, List.getElem?_cons_succ, decide_eq_true_eq, beq_self_eq_true, beq_true, beq_false, decide_true, decide_false, Bool.not_true, Bool.not_false, true_and, and_true, or_false, false_or, Bool.and_eq_true, reduceCtorEq, not_false_eq_true, cat_u, lit_strL, List.append_assoc, h0, h2, h109, h110, h111, ho, boxO, zeroX_at, T34, P34, T24, P24, T23, P23, T22, P22, fa34_0, fa34_1, fa34_2, fa34_3, fa34_4, fa34_5, fa34_6, fa34_7, fa34_17, fa34_18, P3, P9, U3, U9, U37, U24, U22, U23, T9, T3, T37, len_txt, pc_t, d1, range1, flat1, rv20, Tryd.f20]
      subst hW
      rfl
  · refine ⟨0, by omega, by omega, ?_, ?_, ?_, ?_, ?_, [.var 34 [xint op, xstr (strL tb), xstr (strL ix), .of (colsC cols), .of (.sl (pnsC kids) kids.length), .of (termsC terms), .of (termsC lk), .of (termsC rk), .of (r 0), .of (r 1), .of (r 2), .of (r 3), .of (r 4), .of (r 5), .of (r 6), .of (r 7), .of (r 8), .of (r 9), .of (r 10), .of (r 11), .of (r 12), xint est, xint cost], .map (mapIS wordT)], L1, by simp [undersF], ?_⟩
    · simp -implicitDefEqProofs (maxSteps := 1000000) only [↓zD, zU, Nat.zero_mul, Nat.reduceMul, List.length_map, Tk.nm.injEq, Tk.cell.injEq, false_and, and_false, Nat.le_add_right, Nat.le_refl, ↓reduceIte, Bool.or_false, Bool.false_or, Bool.and_true, Bool.true_and, Bool.false_and, Bool.true_or, Bool.or_true, Option.isNone_none, Option.isNone_some, List.any_cons, List.any_nil, Bool.and_false, Nat.reduceBEq, Nat.reduceLeDiff, Int.reduceLT, Int.reduceEq, Int.reduceLE, Int.reduceAdd, Int.reduceToNat, Int.reduceNeg, Int.cast_ofNat_Int, Nat.reduceLT, List.drop_succ_cons, List.take_succ_cons, List.singleton_append, Nat.zero_add, List.set_cons_zero, List.set_cons_succ, List.drop_nil, List.take_nil, Option.map_some, Option.map_none, Option.getD_some, Option.getD_none, Option.bind_some, List.cons_append, List.nil_append, List.append_nil, List.map_cons, List.map_nil, List.range_zero, List.take_zero, List.flatten_nil, List.filter_nil, List.length_nil, List.length_cons, List.drop_zero, List.not_mem_nil, List.mem_cons, Bool.true_eq_false, Bool.false_eq_true, Nat.reduceEqDiff, Nat.reduceAdd, List.getElem?_toArray, List.toList_toArray, List.getElem?_cons_zero, List.getElem?_cons_succ, decide_eq_true_eq, beq_self_eq_true, beq_true, beq_false, decide_true, decide_false, Bool.not_true, Bool.not_false, true_and, and_true, or_false, false_or, Bool.and_eq_true, reduceCtorEq, not_false_eq_true, cat_u, lit_strL, List.append_assoc, boxO, zeroX_at, T34, P34, T24, P24, T23, P23, T22, P22, fa34_0, fa34_1, fa34_2, fa34_3, fa34_4, fa34_5, fa34_6, fa34_7, fa34_17, fa34_18, P3, P9, U3, U9, U37, U24, U22, U23, T9, T3, T37, len_txt, pc_t, h0]
    · simp -implicitDefEqProofs (maxSteps := 1000000) only [↓zD, zU, Nat.zero_mul, Nat.reduceMul, List.length_map, Tk.nm.injEq, Tk.cell.injEq, false_and, and_false, Nat.le_add_right, Nat.le_refl, ↓reduceIte, Bool.or_false, Bool.false_or, Bool.and_true, Bool.true_and, Bool.false_and, Bool.true_or, Bool.or_true, Option.isNone_none, Option.isNone_some, List.any_cons, List.any_nil, Bool.and_false, Nat.reduceBEq, Nat.reduceLeDiff, Int.reduceLT, Int.reduceEq, Int.reduceLE, Int.reduceAdd, Int.reduceToNat, Int.reduceNeg, Int.cast_ofNat_Int, Nat.reduceLT, List.drop_succ_cons, List.take_succ_cons, List.singleton_append, Nat.zero_add, List.set_cons_zero, List.set_cons_succ, List.drop_nil, List.take_nil, Option.map_some, Option.map_none, Option.getD_some, Option.getD_none, Option.bind_some, List.cons_append, List.nil_append, List.append_nil, List.map_cons, List.map_nil, List.range_zero, List.take_zero, List.flatten_nil, List.filter_nil, List.length_nil, List.length_cons, List.drop_zero, List.not_mem_nil, List.mem_cons, Bool.true_eq_false, Bool.false_eq_true, Nat.reduceEqDiff, Nat.reduceAdd, List.getElem?_toArray, List.toList_toArray, List.getElem?_cons_zero, List.getElem?_cons_succ, decide_eq_true_eq, beq_self_eq_true, beq_true, beq_false, decide_true, decide_false, Bool.not_true, Bool.not_false, true_and, and_true, or_false, false_or, Bool.and_eq_true, reduceCtorEq, not_false_eq_true, cat_u, lit_strL, List.append_assoc, boxO, zeroX_at, T34, P34, T24, P24, T23, P23, T22, P22, fa34_0, fa34_1, fa34_2, fa34_3, fa34_4, fa34_5, fa34_6, fa34_7, fa34_17, fa34_18, P3, P9, U3, U9, U37, U24, U22, U23, T9, T3, T37, len_txt, pc_t, h2]
    · simp -implicitDefEqProofs (maxSteps := 1000000) only [↓zD, zU, Nat.zero_mul, Nat.reduceMul, List.length_map, Tk.nm.injEq, Tk.cell.injEq, false_and, and_false, Nat.le_add_right, Nat.le_refl, ↓reduceIte, Bool.or_false, Bool.false_or, Bool.and_true, Bool.true_and, Bool.false_and, Bool.true_or, Bool.or_true, Option.isNone_none, Option.isNone_some, List.any_cons, List.any_nil, Bool.and_false, Nat.reduceBEq, Nat.reduceLeDiff, Int.reduceLT, Int.reduceEq, Int.reduceLE, Int.reduceAdd, Int.reduceToNat, Int.reduceNeg, Int.cast_ofNat_Int, Nat.reduceLT, List.drop_succ_cons, List.take_succ_cons, List.singleton_append, Nat.zero_add, List.set_cons_zero, List.set_cons_succ, List.drop_nil, List.take_nil, Option.map_some, Option.map_none, Option.getD_some, Option.getD_none, Option.bind_some, List.cons_append, List.nil_append, List.append_nil, List.map_cons, List.map_nil, List.range_zero, List.take_zero, List.flatten_nil, List.filter_nil, List.length_nil, List.length_cons, List.drop_zero, List.not_mem_nil, List.mem_cons, Bool.true_eq_false, Bool.false_eq_true, Nat.reduceEqDiff, Nat.reduceAdd, List.getElem?_toArray, List.toList_toArray, List.getElem?_cons_zero, List.getElem?_cons_succ, decide_eq_true_eq, beq_self_eq_true, beq_true, beq_false, decide_true, decide_false, Bool.not_true, Bool.not_false, true_and, and_true, or_false, false_or, Bool.and_eq_true, reduceCtorEq, not_false_eq_true, cat_u, lit_strL, List.append_assoc, boxO, zeroX_at, T34, P34, T24, P24, T23, P23, T22, P22, fa34_0, fa34_1, fa34_2, fa34_3, fa34_4, fa34_5, fa34_6, fa34_7, fa34_17, fa34_18, P3, P9, U3, U9, U37, U24, U22, U23, T9, T3, T37, len_txt, pc_t]
    · simp -implicitDefEqProofs (maxSteps := 1000000) only [↓zD, zU, Nat.zero_mul, Nat.reduceMul, List.length_map, Tk.nm.injEq, Tk.cell.injEq, false_and, and_false, Nat.le_add_right, Nat.le_refl, ↓reduceIte, Bool.or_false, Bool.false_or, Bool.and_true, Bool.true_and, Bool.false_and, Bool.true_or, Bool.or_true, Option.isNone_none, Option.isNone_some, List.any_cons, List.any_nil, Bool.and_false, Nat.reduceBEq, Nat.reduceLeDiff, Int.reduceLT, Int.reduceEq, Int.reduceLE, Int.reduceAdd, Int.reduceToNat, Int.reduceNeg, Int.cast_ofNat_Int, Nat.reduceLT, List.drop_succ_cons, List.take_succ_cons, List.singleton_append, Nat.zero_add, List.set_cons_zero, List.set_cons_succ, List.drop_nil, List.take_nil, Option.map_some, Option.map_none, Option.getD_some, Option.getD_none, Option.bind_some, List.cons_append, List.nil_append, List.append_nil, List.map_cons, List.map_nil, List.range_zero, List.take_zero, List.flatten_nil, List.filter_nil, List.length_nil, List.length_cons, List.drop_zero, List.not_mem_nil, List.mem_cons, Bool.true_eq_false, Bool.false_eq_true, Nat.reduceEqDiff, Nat.reduceAdd, List.getElem?_toArray, List.toList_toArray, List.getElem?_cons_zero, List.getElem?_cons_succ, decide_eq_true_eq, beq_self_eq_true, beq_true, beq_false, decide_true, decide_false, Bool.not_true, Bool.not_false, true_and, and_true, or_false, false_or, Bool.and_eq_true, reduceCtorEq, not_false_eq_true, cat_u, lit_strL, List.append_assoc, boxO, zeroX_at, T34, P34, T24, P24, T23, P23, T22, P22, fa34_0, fa34_1, fa34_2, fa34_3, fa34_4, fa34_5, fa34_6, fa34_7, fa34_17, fa34_18, P3, P9, U3, U9, U37, U24, U22, U23, T9, T3, T37, len_txt, pc_t]
    · simp -implicitDefEqProofs (maxSteps := 1000000) only [↓zD, zU, Nat.zero_mul, Nat.reduceMul, List.length_map, Tk.nm.injEq, Tk.cell.injEq, false_and, and_false, Nat.le_add_right, Nat.le_refl, ↓reduceIte, Bool.or_false, Bool.false_or, Bool.and_true, Bool.true_and, Bool.false_and, Bool.true_or, Bool.or_true, Option.isNone_none, Option.isNone_some, List.any_cons, List.any_nil, Bool.and_false, Nat.reduceBEq, Nat.reduceLeDiff, Int.reduceLT, Int.reduceEq, Int.reduceLE, Int.reduceAdd, Int.reduceToNat, Int.reduceNeg, Int.cast_ofNat_Int, Nat.reduceLT, List.drop_succ_cons, List.take_succ_cons, List.singleton_append, Nat.zero_add, List.set_cons_zero, List.set_cons_succ, List.drop_nil, List.take_nil, Option.map_some, Option.map_none, Option.getD_some, Option.getD_none, Option.bind_some, List.cons_append, List.nil_append, List.append_nil, List.map_cons, List.map_nil, List.range_zero, List.take_zero, List.flatten_nil, List.filter_nil, List.length_nil, List.length_cons, List.drop_zero, List.not_mem_nil, List.mem_cons, Bool.true_eq_false, Bool.false_eq_true, Nat.reduceEqDiff, Nat.reduceAdd, List.getElem?_toArray, List.toList_toArray, List.getElem?_cons_zero, List.getElem?_cons_succ, decide_eq_true_eq, beq_self_eq_true, beq_true, beq_false, decide_true, decide_false, Bool.not_true, Bool.not_false, true_and, and_true, or_false, false_or, Bool.and_eq_true, reduceCtorEq, not_false_eq_true, cat_u, lit_strL, List.append_assoc, boxO, zeroX_at, T34, P34, T24, P24, T23, P23, T22, P22, fa34_0, fa34_1, fa34_2, fa34_3, fa34_4, fa34_5, fa34_6, fa34_7, fa34_17, fa34_18, P3, P9, U3, U9, U37, U24, U22, U23, T9, T3, T37, len_txt, pc_t] <;> rfl
    · simp -implicitDefEqProofs (maxSteps := 1000000) only [↓zD, zU, Nat.zero_mul, Nat.reduceMul, List.length_map, Tk.nm.injEq, Tk.cell.injEq, false_and, and_false, Nat.le_add_right, Nat.le_refl, ↓reduceIte, Bool.or_false, Bool.false_or, Bool.and_true, Bool.true_and, Bool.false_and, Bool.true_or, Bool.or_true, Option.isNone_none, Option.isNone_some, List.any_cons, List.any_nil, Bool.and_false, Nat.reduceBEq, Nat.reduceLeDiff, Int.reduceLT, Int.reduceEq, Int.reduceLE, Int.reduceAdd, Int.reduceToNat, Int.reduceNeg, Int.cast_ofNat_Int, Nat.reduceLT, List.drop_succ_cons, List.take_succ_cons, List.singleton_append, Nat.zero_add, List.set_cons_zero, List.set_cons_succ, List.drop_nil, List.take_nil, Option.map_some, Option.map_none, Option.getD_some, Option.getD_none, Option.bind_some, List.cons_append, List.nil_append, List.append_nil, List.map_cons, List.map_nil, List.range_zero, List.take_zero, List.flatten_nil, List.filter_nil, List.length_nil, List.length_cons, List.drop_zero, List.not_mem_nil, List.mem_cons, Bool.true_eq_false, Bool.false_eq_true, Nat.reduceEqDiff, Nat.reduceAdd, List.getElem?_toArray, List.toList_toArray, List.getElem?_cons_zero, List.getElem?_cons_succ, decide_eq_true_eq, beq_self_eq_true, beq_true, beq_false, decide_true, decide_false, Bool.not_true, Bool.not_false, true_and, and_true, or_false, false_or, Bool.and_eq_true, reduceCtorEq, not_false_eq_true, cat_u, lit_strL, List.append_assoc, boxO, zeroX_at, T34, P34, T24, P24, T23, P23, T22, P22, fa34_0, fa34_1, fa34_2, fa34_3, fa34_4, fa34_5, fa34_6, fa34_7, fa34_17, fa34_18, P3, P9, U3, U9, U37, U24, U22, U23, T9, T3, T37, len_txt, pc_t, ho] <;> rfl
theorem tt (a b n : Nat) (h : b + a = n) : ∀ c : Code, tails a (tails b c) = tails n c := by
  subst h
  induction b with
  | zero => intro c; rw [Nat.zero_add]; rfl
  | succ b ih =>
    intro c
    rw [Nat.succ_add]
    cases c with
    | seq x y => exact ih y
    | _ =>
      show tails a .skip = .skip
      cases a <;> rfl
theorem p_len (rows : List UInt8) : (p2 op tb).length ≤ 2 ∧ (p3 op tb ix).length ≤ 4 ∧ (p4 op tb ix kids lk rk).length ≤ 6 ∧ (p5 (.mk op tb ix cols kids terms lk rk r est cost)).length ≤ 7 := by
  have h2 : (p2 op tb).length ≤ 2 := by unfold p2 p1; split <;> (try simp only [List.length_append, List.length_cons, List.length_nil]) <;> omega
  have h3 : (p3 op tb ix).length ≤ 4 := by unfold p3; split <;> (try simp only [List.length_append, List.length_cons, List.length_nil]) <;> omega
  have h4 : (p4 op tb ix kids lk rk).length ≤ 6 := by unfold p4; split <;> (try simp only [List.length_append, List.length_cons, List.length_nil]) <;> omega
  exact ⟨h2, h3, h4, by unfold p5; simp only; split <;> (try simp only [List.length_append, List.length_cons, List.length_nil]) <;> omega⟩
theorem node_step (L0 : List (List UInt8)) (y0 : X) (hy : LnX y0 L0) (hw : pnWt (.mk op tb ix cols kids terms lk rk r est cost) ≤ 1048576) (hk : PnOk (.mk op tb ix cols kids terms lk rk r est cost)) (hci : ∀ n ∈ counts, I64 n) (hd : deep ≤ 2097152) (hL : L0.length ≤ 2097152)
    (ih : ∀ k (h : k < kids.length) (W : List (List UInt8)), W.length = L0.length + 1 + nodesNs (kids.take k) →
      Gives Tryd.prog pr 20 [.ptr 0 0, .agg ((pnC kids[k]).map .of), .of (ci ((deep + 1 : Nat)))] [tellO counts (lnO W)] ⟨false, [], [tellO counts (lnO (W ++ underF counts (deep + 1) W.length kids[k]))]⟩) :
    Gives Tryd.prog pr 20 [.ptr 0 0, (.agg [xint op, xstr (strL tb), xstr (strL ix), .of (colsC cols), .of (.sl (pnsC kids) kids.length), .of (termsC terms), .of (termsC lk), .of (termsC rk), .of (r 0), .of (r 1), .of (r 2), .of (r 3), .of (r 4), .of (r 5), .of (r 6), .of (r 7), .of (r 8), .of (r 9), .of (r 10), .of (r 11), .of (r 12), xint est, xint cost]), .of (ci (deep : Nat))] [tellO counts y0] ⟨false, [], [tellO counts (lnO (L0 ++ underF counts deep L0.length (.mk op tb ix cols kids terms lk rk r est cost)))]⟩ := by
  have hin := inner_ok op tb ix cols kids terms lk rk r est cost hw
  have hll := lineL_len (.mk op tb ix cols kids terms lk rk r est cost) (rowsL counts L0.length) hw hk (by have := rowsL_len counts hci L0.length; omega)
  obtain ⟨l2, l3, l4, l5⟩ := p_len op tb ix cols kids terms lk rk r est cost []
  simp only [pnWt] at hw
  simp only [PnOk] at hk
  obtain ⟨ho, he, hco, kt, kl, kr, kk⟩ := hk
  have hkl : kids.length ≤ 1048576 := by have := pnsWt_len kids; omega
  have xk := fun K => Gives.k (exkeys_call op tb ix cols kids terms lk rk r est cost (by omega) (by omega) (by omega) kl kr) K
  have xt := fun K => Gives.k (exterms_step op tb ix cols kids terms lk rk r est cost (innerC (.mk op tb ix cols kids terms lk rk r est cost)) hin (innerC_eq ..) (by omega) (by omega) kt) K
  have hlim : ∀ n, n ≤ 3000000 → n ≤ LIM := fun n hn => by unfold LIM; omega
  refine by_body rfl ok20 body20 ar20 rfl ?_
  refine WC_cut 4 (Tryd.f20.body.getD Code.skip) _ _ rfl (node1 op tb ix cols kids terms lk rk r est cost counts deep y0 hy.y) fun s1 h1 => ?_
  refine WC_cut 1 (tails 4 (Tryd.f20.body.getD Code.skip)) _ _ rfl (node2 op tb ix cols kids terms lk rk r est cost counts deep y0 (p1 op) hy.y s1 h1 (hlim _ (by simp [p1]))) fun s2 h2 => ?_
  rw [tt 1 4 5 rfl]
  refine WC_cut 1 (tails 5 (Tryd.f20.body.getD Code.skip)) _ _ rfl (node3 op tb ix cols kids terms lk rk r est cost counts deep y0 (p2 op tb) hy.y s2 h2 (hlim _ (by omega))) fun s3 h3 => ?_
  rw [tt 1 5 6 rfl]
  refine WC_cut 1 (tails 6 (Tryd.f20.body.getD Code.skip)) _ _ rfl (node4 op tb ix cols kids terms lk rk r est cost counts deep y0 (p3 op tb ix) hy.y s3 h3 (hlim _ (by omega)) xk) fun s4 h4 => ?_
  rw [tt 1 6 7 rfl]
  refine WC_cut 1 (tails 7 (Tryd.f20.body.getD Code.skip)) _ _ rfl (node5 op tb ix cols kids terms lk rk r est cost counts deep y0 (p4 op tb ix kids lk rk) hy.y s4 h4 (hlim _ (by omega)) xt) fun s5 h5 => ?_
  rw [tt 1 7 8 rfl]
  refine WC_cut 2 (tails 8 (Tryd.f20.body.getD Code.skip)) _ _ rfl (node6 op tb ix cols kids terms lk rk r est cost counts deep y0 (p5 (.mk op tb ix cols kids terms lk rk r est cost)) L0 hci hy s5 h5) fun s6 h6 => ?_
  rw [tt 2 8 10 rfl]
  refine WC_cut 1 (tails 10 (Tryd.f20.body.getD Code.skip)) _ _ rfl (node7 op tb ix cols kids terms lk rk r est cost counts deep y0 (p5 (.mk op tb ix cols kids terms lk rk r est cost)) L0 (rowsL counts L0.length) hy s6 h6 (hlim _ (by omega)) he hco) fun s7 h7 => ?_
  rw [tt 1 10 11 rfl]
  refine WC_cut 1 (tails 11 (Tryd.f20.body.getD Code.skip)) _ _ rfl (node8 op tb ix cols kids terms lk rk r est cost counts deep y0 (p6 (.mk op tb ix cols kids terms lk rk r est cost) (rowsL counts L0.length)) L0 hy (lineL (.mk op tb ix cols kids terms lk rk r est cost) (rowsL counts L0.length)) s7 h7 (join_p6 _ _) (by simp only [p6, List.length_append, List.length_cons, List.length_nil]; omega) hll hd (hlim _ (by omega))) fun s8 h8 => ?_
  rw [tt 1 11 12 rfl]
  have e : L0 ++ underF counts deep L0.length (.mk op tb ix cols kids terms lk rk r est cost) = (L0 ++ [blanks deep ++ lineL (.mk op tb ix cols kids terms lk rk r est cost) (rowsL counts L0.length)]) ++ undersF counts (deep + 1) (L0 ++ [blanks deep ++ lineL (.mk op tb ix cols kids terms lk rk r est cost) (rowsL counts L0.length)]).length kids := by
    rw [List.length_append, underF]
    simp
  rw [e]
  exact node9 op tb ix cols kids terms lk rk r est cost counts deep _ s8 h8 hkl hd fun k hk W hW => ih k hk W (by rw [hW, List.length_append, undersF_len, List.length_append]; simp)
end
theorem node_call (counts : List Int) (hci : ∀ n ∈ counts, I64 n) : ∀ (n : Nat) (p : Pn) (deep : Nat) (L0 : List (List UInt8)) (y0 : X), LnX y0 L0 → pnWt p ≤ n → n ≤ 1048576 → PnOk p → deep + n ≤ 2097152 → L0.length + nodesN p ≤ 2097152 →
    Gives Tryd.prog pr 20 [.ptr 0 0, .agg ((pnC p).map .of), .of (ci (deep : Nat))] [tellO counts y0] ⟨false, [], [tellO counts (lnO (L0 ++ underF counts deep L0.length p))]⟩
  | 0, p, _, _, _, _, h, _, _, _, _ => absurd (pnWt_pos p) (by omega)
  | n + 1, .mk op tb ix cols kids terms lk rk r est cost, deep, L0, y0, hy, h, hn, hk, hd, hl => by
    refine node_step op tb ix cols kids terms lk rk r est cost counts deep L0 y0 hy (by omega) hk hci (by omega) (by omega) fun k hk' W hW => ?_
    simp only [pnWt] at h
    simp only [PnOk] at hk
    simp only [nodesN] at hl
    have h1 := nodesNs_take kids k hk'
    have h2 := nodesNs_take_le kids (k + 1)
    have h3 := pnWt_mem (List.getElem_mem hk')
    exact node_call counts hci n kids[k] (deep + 1) W (lnO W) (.inr rfl) (by omega) (by omega) ((PnsOk_iff kids).1 hk.2.2.2.2.2.2 _ (List.getElem_mem hk')) (by omega) (by omega)
end Go.Proofs.YtfndkemgjhajnaaDoor
namespace Go.Proofs.YtfndkemgjhajnaaDoor
open Go Go.Pe Go.Tab
set_option linter.unusedSectionVars false

theorem build_tell {d : TD} (h : TT.of Tryd.prog 58 = some d) (x : X) : buildX Tryd.prog 58 (some d) (some [(0, [x])]) = out (.agg [x, .nil]) := by
  rw [T58] at h
  cases h
  rfl
theorem cells_ints (l : List Int) : cellsX (.of (intsC l)) = some [.of (intsC l)] := rfl
section
variable (p : Pn) (counts : List Int) (hw : pnWt p ≤ 1048576) (hk : PnOk p) (hc : counts.length ≤ 1048576) (hci : ∀ n ∈ counts, I64 n)
include hw hk hci
set_option maxRecDepth 100000 in
theorem exlines_call : G1 8 [.of (.agg (pnC p)), .of (intsC counts)] (txO (underF counts 0 0 p)) := by
  have hnd := nodes_le p
  have hcall : ∀ K, CallK Tryd.prog pr 20 [.ptr 0 0, .agg ((pnC p).map .of), .of (ci 0)] [.var 58 [.of (intsC counts), .nil]] K ↔ K ⟨false, [], [tellO counts (lnO ([] ++ underF counts 0 0 p))]⟩ := fun K =>
    Gives.k (node_call counts hci 1048576 p 0 [] .nil (.inl ⟨rfl, rfl⟩) hw (Nat.le_refl _) hk (by omega) (by simp; omega)) K
  rw [List.nil_append] at hcall
  unfold tellO lnO at hcall
  generalize underF counts 0 0 p = W at *
  obtain ⟨op, tb, ix, cols, kids, terms, lk, rk, r, est, cost⟩ := p
  simp only [pnC, List.map_cons, List.map_nil] at hcall ⊢
  refine by_body rfl ok8 body8 ar8 rfl ?_
  simp -implicitDefEqProofs (maxSteps := 1000000) only [Tryd.f8, ↓zD, zU, Nat.zero_mul, Nat.reduceMul, List.length_map, Tk.nm.injEq, Tk.cell.injEq, false_and, and_false, Nat.le_add_right, Nat.le_refl, ↓reduceIte, Bool.or_false, Bool.false_or, Bool.and_true, Bool.true_and, Bool.false_and, Bool.true_or, Bool.or_true, Option.isNone_none, Option.isNone_some, List.any_cons, List.any_nil, Bool.and_false, Nat.reduceBEq, Nat.reduceLeDiff, Int.reduceLT, Int.reduceEq, Int.reduceLE, Int.reduceAdd, Int.reduceToNat, Int.reduceNeg, Int.cast_ofNat_Int, Nat.reduceLT, List.drop_succ_cons, List.take_succ_cons, List.singleton_append, Nat.zero_add, List.set_cons_zero, List.set_cons_succ, List.drop_nil, List.take_nil, Option.map_some, Option.map_none, Option.getD_some, Option.getD_none, Option.bind_some, List.cons_append, List.nil_append, List.append_nil, List.map_cons, List.map_nil, List.range_zero, List.take_zero, List.flatten_nil, List.filter_nil, List.length_nil, List.length_cons, List.drop_zero, List.not_mem_nil, List.mem_cons, Bool.true_eq_false, Bool.false_eq_true, Nat.reduceEqDiff, Nat.reduceAdd, List.getElem?_toArray, List.toList_toArray, List.getElem?_cons_zero, List.getElem?_cons_succ, decide_eq_true_eq, beq_self_eq_true, beq_true, beq_false, decide_true, decide_false, Bool.not_true, Bool.not_false, true_and, and_true, or_false, false_or, Bool.and_eq_true, reduceCtorEq, not_false_eq_true, cat_u, lit_strL, List.append_assoc, rv8, boxO, zeroX_at, T34, P34, T24, P24, T23, P23, T22, P22, fa34_0, fa34_1, fa34_2, fa34_3, fa34_4, fa34_5, fa34_6, fa34_7, fa34_17, fa34_18, P3, P9, U3, U9, U37, U24, U22, U23, T9, T3, T37, len_txt, pc_t, T58, fa58_1, P37, nilX_ptr, build_tell T58, cells_ints, hcall, pr_obj, pr_tk, obj20, tk20, call20]
  rfl
include hc
end
end Go.Proofs.YtfndkemgjhajnaaDoor

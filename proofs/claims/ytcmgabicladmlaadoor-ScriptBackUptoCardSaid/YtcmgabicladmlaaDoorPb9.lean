/-
  Chapter 58: a reply's lines, as the document has them, by the evaluator. Conditions: none.
-/
import Derived.Test.YtcmgabicladmlaaDoorPb8
namespace Go.Proofs.YtcmgabicladmlaaDoor
open Go Go.Pe Go.Tab
set_option linter.unusedSectionVars false

theorem bs_g1 {T : TT} {t e z : Nat} {d : TD} (h : Pe.elemOf T t = some (e, d)) (hz : d.size = z) (hz0 : 0 < z) (hz2 : z ≤ 1000) (hl : d.zero.length = z) (tk : Tk) (xs : List X) (hc : xs.length = z) : buildSliceX tk 1 (Pe.elemOf T t) (some [(0, xs)]) = outO ((X.rds xs).map fun cs => .own tk e z cs 1) := by
  have hzl : (zeroX d).length = z := by simp [zeroX, hl]
  rw [h]
  simp only [buildSliceX, hz]
  rw [if_pos ⟨by omega, hz0, hl⟩]
  simp only [fillX, List.replicate_one, List.flatten_singleton, Nat.zero_mul, Nat.zero_add, hc, hzl, Nat.le_refl, and_self, if_true, List.take_zero, List.nil_append]
  rw [List.drop_of_length_le (by omega), List.append_nil]
  cases X.rds xs <;> rfl
/-- The acts that a call hands back: as nil, or as a row of its own. -/
abbrev ownA (t : Tk) (l : List Ac) (n : Nat) : X := .own t 40 4 (fl acC l) n
def slX (l : List Ac) : X := if l = [] then .nil else ownA (.nm 0 0 0) l l.length
theorem one_k' (t : List UInt8) (K : An → Prop) (h : t.length < 4294967281) : CallK Tryd.prog pr 19 [.of (.lit (.string (strL t)))] [] K ↔ K ⟨false, [.of (.agg [ci (oneA t).1.k, ci (oneA t).1.w, ci (oneA t).1.n, cstr (strL (oneA t).1.t)]), xint (oneA t).2], []⟩ := one_k t K h
theorem bs_a1 (tk : Tk) (k w n : Int) (t : ByteArray) : buildSliceX tk 1 (Pe.elemOf (TT.of Tryd.prog) 22) (some [(0, [xint k, xint w, xint n, xstr t])]) = out (.own tk 40 4 [ci k, ci w, ci n, cstr t] 1) :=
  bs_g1 E22 rfl (by decide) (by decide) rfl tk [xint k, xint w, xint n, xstr t] rfl
theorem ap_an (tk t' : Tk) (k w n : Int) (t : ByteArray) : appendX (TT.of Tryd.prog) tk 22 22 .nil (.own t' 40 4 [ci k, ci w, ci n, cstr t] 1) = out (.own tk 40 4 [ci k, ci w, ci n, cstr t] 1) :=
  ap_nil E22 (by decide) (by decide) tk (.own t' 40 4 [ci k, ci w, ci n, cstr t] 1) [ci k, ci w, ci n, cstr t] 1 rfl rfl (by unfold LIM; omega)
theorem ap_ao (tk t0 t' : Tk) (l : List Ac) (m : Nat) (k w n : Int) (t : ByteArray) (h : m + 1 ≤ LIM) : appendX (TT.of Tryd.prog) tk 22 22 (.own t0 40 4 (fl acC l) m) (.own t' 40 4 [ci k, ci w, ci n, cstr t] 1) = some (.own tk 40 4 (fl acC l ++ [ci k, ci w, ci n, cstr t]) (m + 1), some t0) :=
  ap_own E22 (by decide) (by decide) tk t0 (fl acC l) m (.own t' 40 4 [ci k, ci w, ci n, cstr t] 1) [ci k, ci w, ci n, cstr t] 1 rfl rfl h
theorem fl_snoc (l : List Ac) (a : Ac) : fl acC (l ++ [a]) = fl acC l ++ [ci a.k, ci a.w, ci a.n, cstr (strL a.t)] := by
  simp [fl, acC]
theorem own_snoc (tk : Tk) (o : List Ac) (a : Ac) : X.own tk 40 4 (fl acC o ++ [ci a.k, ci a.w, ci a.n, cstr (strL a.t)]) (o.length + 1) = ownA tk (o ++ [a]) (o ++ [a]).length := by
  rw [← fl_snoc, List.length_append]
  rfl
theorem cut_one (r : List UInt8) (h : lineCut r = none) : Lib.cut r [10] = (r, [], false) := by rw [cut_lf, h]
theorem cut_two (r a q : List UInt8) (h : lineCut r = some (a, q)) : Lib.cut r [10] = (a, q, true) := by rw [cut_lf, h]
theorem line_len2 {r a q : List UInt8} (h : lineCut r = some (a, q)) : a.length + q.length + 1 = r.length := by
  have := congrArg List.length (lineCut_some h).1
  simp only [List.length_append, List.length_cons] at this
  omega
set_option maxRecDepth 100000 in
theorem scParse_call (s : List UInt8) (hl : s.length ≤ 2147483648) : GN 7 [.of (cstr (strL s))] [slX (parseA s).1, xint (parseA s).2.1, xint (parseA s).2.2] := by
  generalize hZ : parseA s = Z
  rw [parse_rest] at hZ
  refine by_body rfl ok7 body7 ar7 rfl ?_
  simp -implicitDefEqProofs (maxSteps := 1000000) only [Tryd.f7, ↓zD, zU, Nat.zero_mul, Nat.reduceMul, List.length_map, Tk.nm.injEq, Tk.cell.injEq, false_and, and_false, Nat.le_add_right, Nat.le_refl, ↓reduceIte, Bool.or_false, Bool.false_or, Bool.and_true, Bool.true_and, Bool.false_and, Bool.true_or, Bool.or_true, Option.isNone_none, Option.isNone_some, List.any_cons, List.any_nil, Bool.and_false, Nat.reduceBEq, Nat.reduceLeDiff, Int.reduceLT, Int.reduceEq, Int.reduceLE, Int.reduceAdd, Int.reduceToNat, Int.reduceNeg, Int.cast_ofNat_Int, Nat.reduceLT, List.drop_succ_cons, List.take_succ_cons, List.singleton_append, Nat.zero_add, List.set_cons_zero, List.set_cons_succ, List.drop_nil, List.take_nil, Option.map_some, Option.map_none, Option.getD_some, Option.getD_none, Option.bind_some, List.cons_append, List.nil_append, List.append_nil, List.map_cons, List.map_nil, List.range_zero, List.take_zero, List.flatten_nil, List.filter_nil, List.length_nil, List.length_cons, List.drop_zero, List.not_mem_nil, List.mem_cons, Bool.true_eq_false, Bool.false_eq_true, Nat.reduceEqDiff, Nat.reduceAdd, List.getElem?_toArray, List.toList_toArray, List.getElem?_cons_zero, List.getElem?_cons_succ, decide_eq_true_eq, beq_self_eq_true, beq_true, beq_false, decide_true, decide_false, Bool.not_true, Bool.not_false, true_and, and_true, or_false, false_or, Bool.and_eq_true, reduceCtorEq, not_false_eq_true, cat_u, lit_strL, List.append_assoc, rv7, U9, U3]
  refine WC_inv _ _ (fun m st => ∃ (o : List Ac) (r : List UInt8), m = r.length ∧ o.length + r.length ≤ s.length ∧ restA o r = Z ∧ st.fr 0 = xstr (strL r) ∧ st.fr 6 = xint ((o.length + 1 : Nat) : Int) ∧ ((o = [] ∧ st.fr 5 = .nil) ∨ (o ≠ [] ∧ ∃ t, Old st.clk t ∧ st.fr 5 = ownA t o o.length))) ?_ s.length _ ?_
  · rintro m st ⟨o, r, rfl, hlen, hr, f0, f6, f5⟩
    have hw := wrapS (o.length + 1) (by omega)
    by_cases hne : r = []
    · subst hne
      rw [rest_nil] at hr
      subst hr
      rcases f5 with ⟨rfl, f5⟩ | ⟨hn, t, hold, f5⟩
      · simp -implicitDefEqProofs (maxSteps := 1000000) only [↓zD, zU, Nat.zero_mul, Nat.reduceMul, List.length_map, Tk.nm.injEq, Tk.cell.injEq, false_and, and_false, Nat.le_add_right, Nat.le_refl, ↓reduceIte, Bool.or_false, Bool.false_or, Bool.and_true, Bool.true_and, Bool.false_and, Bool.true_or, Bool.or_true, Option.isNone_none, Option.isNone_some, List.any_cons, List.any_nil, Bool.and_false, Nat.reduceBEq, Nat.reduceLeDiff, Int.reduceLT, Int.reduceEq, Int.reduceLE, Int.reduceAdd, Int.reduceToNat, Int.reduceNeg, Int.cast_ofNat_Int, Nat.reduceLT, List.drop_succ_cons, List.take_succ_cons, List.singleton_append, Nat.zero_add, List.set_cons_zero, List.set_cons_succ, List.drop_nil, List.take_nil, Option.map_some, Option.map_none, Option.getD_some, Option.getD_none, Option.bind_some, List.cons_append, List.nil_append, List.append_nil, List.map_cons, List.map_nil, List.range_zero, List.take_zero, List.flatten_nil, List.filter_nil, List.length_nil, List.length_cons, List.drop_zero, List.not_mem_nil, List.mem_cons, Bool.true_eq_false, Bool.false_eq_true, Nat.reduceEqDiff, Nat.reduceAdd, List.getElem?_toArray, List.toList_toArray, List.getElem?_cons_zero, List.getElem?_cons_succ, decide_eq_true_eq, beq_self_eq_true, beq_true, beq_false, decide_true, decide_false, Bool.not_true, Bool.not_false, true_and, and_true, or_false, false_or, Bool.and_eq_true, reduceCtorEq, not_false_eq_true, cat_u, lit_strL, List.append_assoc, f0, f5, f6, outx, consX_s, boxO, cells_act, cells_acx, zeroX_at, build_st, T40, P40, T3, T9, U3, U9, fa40_0, fa40_1, fa40_2, fa40_3, P3, P9, U23, T23, U22, strL_eq, rv7, Tryd.f7]
        rfl
      · simp -implicitDefEqProofs (maxSteps := 1000000) only [↓zD, zU, Nat.zero_mul, Nat.reduceMul, List.length_map, Tk.nm.injEq, Tk.cell.injEq, false_and, and_false, Nat.le_add_right, Nat.le_refl, ↓reduceIte, Bool.or_false, Bool.false_or, Bool.and_true, Bool.true_and, Bool.false_and, Bool.true_or, Bool.or_true, Option.isNone_none, Option.isNone_some, List.any_cons, List.any_nil, Bool.and_false, Nat.reduceBEq, Nat.reduceLeDiff, Int.reduceLT, Int.reduceEq, Int.reduceLE, Int.reduceAdd, Int.reduceToNat, Int.reduceNeg, Int.cast_ofNat_Int, Nat.reduceLT, List.drop_succ_cons, List.take_succ_cons, List.singleton_append, Nat.zero_add, List.set_cons_zero, List.set_cons_succ, List.drop_nil, List.take_nil, Option.map_some, Option.map_none, Option.getD_some, Option.getD_none, Option.bind_some, List.cons_append, List.nil_append, List.append_nil, List.map_cons, List.map_nil, List.range_zero, List.take_zero, List.flatten_nil, List.filter_nil, List.length_nil, List.length_cons, List.drop_zero, List.not_mem_nil, List.mem_cons, Bool.true_eq_false, Bool.false_eq_true, Nat.reduceEqDiff, Nat.reduceAdd, List.getElem?_toArray, List.toList_toArray, List.getElem?_cons_zero, List.getElem?_cons_succ, decide_eq_true_eq, beq_self_eq_true, beq_true, beq_false, decide_true, decide_false, Bool.not_true, Bool.not_false, true_and, and_true, or_false, false_or, Bool.and_eq_true, reduceCtorEq, not_false_eq_true, cat_u, lit_strL, List.append_assoc, f0, f5, f6, outx, consX_s, boxO, cells_act, cells_acx, zeroX_at, build_st, T40, P40, T3, T9, U3, U9, fa40_0, fa40_1, fa40_2, fa40_3, P3, P9, U23, T23, U22, strL_eq, rv7, Tryd.f7]
        unfold slX
        rw [if_neg hn]
    · have hck := fun K => cutlf_k r K (by omega)
      cases hc : lineCut r with
      | none =>
        rw [cut_one r hc] at hck
        rw [rest_none hne hc] at hr
        subst hr
        simp -implicitDefEqProofs (maxSteps := 1000000) only [↓zD, zU, Nat.zero_mul, Nat.reduceMul, List.length_map, Tk.nm.injEq, Tk.cell.injEq, false_and, and_false, Nat.le_add_right, Nat.le_refl, ↓reduceIte, Bool.or_false, Bool.false_or, Bool.and_true, Bool.true_and, Bool.false_and, Bool.true_or, Bool.or_true, Option.isNone_none, Option.isNone_some, List.any_cons, List.any_nil, Bool.and_false, Nat.reduceBEq, Nat.reduceLeDiff, Int.reduceLT, Int.reduceEq, Int.reduceLE, Int.reduceAdd, Int.reduceToNat, Int.reduceNeg, Int.cast_ofNat_Int, Nat.reduceLT, List.drop_succ_cons, List.take_succ_cons, List.singleton_append, Nat.zero_add, List.set_cons_zero, List.set_cons_succ, List.drop_nil, List.take_nil, Option.map_some, Option.map_none, Option.getD_some, Option.getD_none, Option.bind_some, List.cons_append, List.nil_append, List.append_nil, List.map_cons, List.map_nil, List.range_zero, List.take_zero, List.flatten_nil, List.filter_nil, List.length_nil, List.length_cons, List.drop_zero, List.not_mem_nil, List.mem_cons, Bool.true_eq_false, Bool.false_eq_true, Nat.reduceEqDiff, Nat.reduceAdd, List.getElem?_toArray, List.toList_toArray, List.getElem?_cons_zero, List.getElem?_cons_succ, decide_eq_true_eq, beq_self_eq_true, beq_true, beq_false, decide_true, decide_false, Bool.not_true, Bool.not_false, true_and, and_true, or_false, false_or, Bool.and_eq_true, reduceCtorEq, not_false_eq_true, cat_u, lit_strL, List.append_assoc, f0, f6, outx, consX_s, boxO, cells_act, cells_acx, zeroX_at, build_st, T40, P40, T3, T9, U3, U9, fa40_0, fa40_1, fa40_2, fa40_3, P3, P9, U23, T23, U22, strL_eq, hne, hck, pr_obj, obj18, call18, obj19, call19, rv7, Tryd.f7]
        rfl
      | some p =>
        obtain ⟨a, q⟩ := p
        have hll := line_len2 hc
        rw [cut_two r a q hc] at hck
        have hok := fun K => one_k' a K (by omega)
        by_cases he : (oneA a).2 = 0
        · rw [rest_ok hc he] at hr
          rw [he] at hok
          rcases f5 with ⟨rfl, f5⟩ | ⟨hn, t, hold, f5⟩
          · simp -implicitDefEqProofs (maxSteps := 1000000) only [↓zD, zU, Nat.zero_mul, Nat.reduceMul, List.length_map, Tk.nm.injEq, Tk.cell.injEq, false_and, and_false, Nat.le_add_right, Nat.le_refl, ↓reduceIte, Bool.or_false, Bool.false_or, Bool.and_true, Bool.true_and, Bool.false_and, Bool.true_or, Bool.or_true, Option.isNone_none, Option.isNone_some, List.any_cons, List.any_nil, Bool.and_false, Nat.reduceBEq, Nat.reduceLeDiff, Int.reduceLT, Int.reduceEq, Int.reduceLE, Int.reduceAdd, Int.reduceToNat, Int.reduceNeg, Int.cast_ofNat_Int, Nat.reduceLT, List.drop_succ_cons, List.take_succ_cons, List.singleton_append, Nat.zero_add, List.set_cons_zero, List.set_cons_succ, List.drop_nil, List.take_nil, Option.map_some, Option.map_none, Option.getD_some, Option.getD_none, Option.bind_some, List.cons_append, List.nil_append, List.append_nil, List.map_cons, List.map_nil, List.range_zero, List.take_zero, List.flatten_nil, List.filter_nil, List.length_nil, List.length_cons, List.drop_zero, List.not_mem_nil, List.mem_cons, Bool.true_eq_false, Bool.false_eq_true, Nat.reduceEqDiff, Nat.reduceAdd, List.getElem?_toArray, List.toList_toArray, List.getElem?_cons_zero, List.getElem?_cons_succ, decide_eq_true_eq, beq_self_eq_true, beq_true, beq_false, decide_true, decide_false, Bool.not_true, Bool.not_false, true_and, and_true, or_false, false_or, Bool.and_eq_true, reduceCtorEq, not_false_eq_true, cat_u, lit_strL, List.append_assoc, f0, f5, f6, outx, consX_s, boxO, cells_act, cells_acx, zeroX_at, build_st, T40, P40, T3, T9, U3, U9, fa40_0, fa40_1, fa40_2, fa40_3, P3, P9, U23, T23, U22, strL_eq, hne, hck, hok, bs_a1, ap_an, hw, pr_obj, obj18, call18, obj19, call19]
            refine ⟨q.length, by omega, [(oneA a).1], q, rfl, by simp only [List.length_cons, List.length_nil]; omega, hr, rfl, rfl, by simp, .nm (st.clk + 5) 3 0, by rw [Z68]; omega, rfl⟩
          · simp -implicitDefEqProofs (maxSteps := 1000000) only [↓zD, zU, Nat.zero_mul, Nat.reduceMul, List.length_map, Tk.nm.injEq, Tk.cell.injEq, false_and, and_false, Nat.le_add_right, Nat.le_refl, ↓reduceIte, Bool.or_false, Bool.false_or, Bool.and_true, Bool.true_and, Bool.false_and, Bool.true_or, Bool.or_true, Option.isNone_none, Option.isNone_some, List.any_cons, List.any_nil, Bool.and_false, Nat.reduceBEq, Nat.reduceLeDiff, Int.reduceLT, Int.reduceEq, Int.reduceLE, Int.reduceAdd, Int.reduceToNat, Int.reduceNeg, Int.cast_ofNat_Int, Nat.reduceLT, List.drop_succ_cons, List.take_succ_cons, List.singleton_append, Nat.zero_add, List.set_cons_zero, List.set_cons_succ, List.drop_nil, List.take_nil, Option.map_some, Option.map_none, Option.getD_some, Option.getD_none, Option.bind_some, List.cons_append, List.nil_append, List.append_nil, List.map_cons, List.map_nil, List.range_zero, List.take_zero, List.flatten_nil, List.filter_nil, List.length_nil, List.length_cons, List.drop_zero, List.not_mem_nil, List.mem_cons, Bool.true_eq_false, Bool.false_eq_true, Nat.reduceEqDiff, Nat.reduceAdd, List.getElem?_toArray, List.toList_toArray, List.getElem?_cons_zero, List.getElem?_cons_succ, decide_eq_true_eq, beq_self_eq_true, beq_true, beq_false, decide_true, decide_false, Bool.not_true, Bool.not_false, true_and, and_true, or_false, false_or, Bool.and_eq_true, reduceCtorEq, not_false_eq_true, cat_u, lit_strL, List.append_assoc, f0, f5, f6, outx, consX_s, boxO, cells_act, cells_acx, zeroX_at, build_st, T40, P40, T3, T9, U3, U9, fa40_0, fa40_1, fa40_2, fa40_3, P3, P9, U23, T23, U22, strL_eq, hne, hck, hok, bs_a1, ap_ao _ _ _ _ _ _ _ _ _ (show o.length + 1 ≤ LIM by unfold LIM; omega), hw, hold, old_add hold, old_new hold, pr_obj, obj18, call18, obj19, call19]
            refine ⟨q.length, by omega, o ++ [(oneA a).1], q, rfl, by simp only [List.length_append, List.length_cons, List.length_nil]; omega, hr, rfl, by simp, by simp, .nm (st.clk + 5) 3 0, by rw [Z68]; omega, own_snoc _ _ _⟩
        · rw [rest_bad hc he] at hr
          subst hr
          have de := decide_eq_false he
          simp -implicitDefEqProofs (maxSteps := 1000000) only [↓zD, zU, Nat.zero_mul, Nat.reduceMul, List.length_map, Tk.nm.injEq, Tk.cell.injEq, false_and, and_false, Nat.le_add_right, Nat.le_refl, ↓reduceIte, Bool.or_false, Bool.false_or, Bool.and_true, Bool.true_and, Bool.false_and, Bool.true_or, Bool.or_true, Option.isNone_none, Option.isNone_some, List.any_cons, List.any_nil, Bool.and_false, Nat.reduceBEq, Nat.reduceLeDiff, Int.reduceLT, Int.reduceEq, Int.reduceLE, Int.reduceAdd, Int.reduceToNat, Int.reduceNeg, Int.cast_ofNat_Int, Nat.reduceLT, List.drop_succ_cons, List.take_succ_cons, List.singleton_append, Nat.zero_add, List.set_cons_zero, List.set_cons_succ, List.drop_nil, List.take_nil, Option.map_some, Option.map_none, Option.getD_some, Option.getD_none, Option.bind_some, List.cons_append, List.nil_append, List.append_nil, List.map_cons, List.map_nil, List.range_zero, List.take_zero, List.flatten_nil, List.filter_nil, List.length_nil, List.length_cons, List.drop_zero, List.not_mem_nil, List.mem_cons, Bool.true_eq_false, Bool.false_eq_true, Nat.reduceEqDiff, Nat.reduceAdd, List.getElem?_toArray, List.toList_toArray, List.getElem?_cons_zero, List.getElem?_cons_succ, decide_eq_true_eq, beq_self_eq_true, beq_true, beq_false, decide_true, decide_false, Bool.not_true, Bool.not_false, true_and, and_true, or_false, false_or, Bool.and_eq_true, reduceCtorEq, not_false_eq_true, cat_u, lit_strL, List.append_assoc, f0, f6, outx, consX_s, boxO, cells_act, cells_acx, zeroX_at, build_st, T40, P40, T3, T9, U3, U9, fa40_0, fa40_1, fa40_2, fa40_3, P3, P9, U23, T23, U22, strL_eq, hne, hck, hok, de, pr_obj, obj18, call18, obj19, call19, rv7, Tryd.f7]
          rfl
  · refine ⟨[], s, rfl, by simp, hZ, by simp -implicitDefEqProofs (maxSteps := 1000000) only [↓zD, zU, Nat.zero_mul, Nat.reduceMul, List.length_map, Tk.nm.injEq, Tk.cell.injEq, false_and, and_false, Nat.le_add_right, Nat.le_refl, ↓reduceIte, Bool.or_false, Bool.false_or, Bool.and_true, Bool.true_and, Bool.false_and, Bool.true_or, Bool.or_true, Option.isNone_none, Option.isNone_some, List.any_cons, List.any_nil, Bool.and_false, Nat.reduceBEq, Nat.reduceLeDiff, Int.reduceLT, Int.reduceEq, Int.reduceLE, Int.reduceAdd, Int.reduceToNat, Int.reduceNeg, Int.cast_ofNat_Int, Nat.reduceLT, List.drop_succ_cons, List.take_succ_cons, List.singleton_append, Nat.zero_add, List.set_cons_zero, List.set_cons_succ, List.drop_nil, List.take_nil, Option.map_some, Option.map_none, Option.getD_some, Option.getD_none, Option.bind_some, List.cons_append, List.nil_append, List.append_nil, List.map_cons, List.map_nil, List.range_zero, List.take_zero, List.flatten_nil, List.filter_nil, List.length_nil, List.length_cons, List.drop_zero, List.not_mem_nil, List.mem_cons, Bool.true_eq_false, Bool.false_eq_true, Nat.reduceEqDiff, Nat.reduceAdd, List.getElem?_toArray, List.toList_toArray, List.getElem?_cons_zero, List.getElem?_cons_succ, decide_eq_true_eq, beq_self_eq_true, beq_true, beq_false, decide_true, decide_false, Bool.not_true, Bool.not_false, true_and, and_true, or_false, false_or, Bool.and_eq_true, reduceCtorEq, not_false_eq_true, cat_u, lit_strL, List.append_assoc] <;> rfl, by simp -implicitDefEqProofs (maxSteps := 1000000) only [↓zD, zU, Nat.zero_mul, Nat.reduceMul, List.length_map, Tk.nm.injEq, Tk.cell.injEq, false_and, and_false, Nat.le_add_right, Nat.le_refl, ↓reduceIte, Bool.or_false, Bool.false_or, Bool.and_true, Bool.true_and, Bool.false_and, Bool.true_or, Bool.or_true, Option.isNone_none, Option.isNone_some, List.any_cons, List.any_nil, Bool.and_false, Nat.reduceBEq, Nat.reduceLeDiff, Int.reduceLT, Int.reduceEq, Int.reduceLE, Int.reduceAdd, Int.reduceToNat, Int.reduceNeg, Int.cast_ofNat_Int, Nat.reduceLT, List.drop_succ_cons, List.take_succ_cons, List.singleton_append, Nat.zero_add, List.set_cons_zero, List.set_cons_succ, List.drop_nil, List.take_nil, Option.map_some, Option.map_none, Option.getD_some, Option.getD_none, Option.bind_some, List.cons_append, List.nil_append, List.append_nil, List.map_cons, List.map_nil, List.range_zero, List.take_zero, List.flatten_nil, List.filter_nil, List.length_nil, List.length_cons, List.drop_zero, List.not_mem_nil, List.mem_cons, Bool.true_eq_false, Bool.false_eq_true, Nat.reduceEqDiff, Nat.reduceAdd, List.getElem?_toArray, List.toList_toArray, List.getElem?_cons_zero, List.getElem?_cons_succ, decide_eq_true_eq, beq_self_eq_true, beq_true, beq_false, decide_true, decide_false, Bool.not_true, Bool.not_false, true_and, and_true, or_false, false_or, Bool.and_eq_true, reduceCtorEq, not_false_eq_true, cat_u, lit_strL, List.append_assoc] <;> rfl, .inl ⟨rfl, by simp -implicitDefEqProofs (maxSteps := 1000000) only [↓zD, zU, Nat.zero_mul, Nat.reduceMul, List.length_map, Tk.nm.injEq, Tk.cell.injEq, false_and, and_false, Nat.le_add_right, Nat.le_refl, ↓reduceIte, Bool.or_false, Bool.false_or, Bool.and_true, Bool.true_and, Bool.false_and, Bool.true_or, Bool.or_true, Option.isNone_none, Option.isNone_some, List.any_cons, List.any_nil, Bool.and_false, Nat.reduceBEq, Nat.reduceLeDiff, Int.reduceLT, Int.reduceEq, Int.reduceLE, Int.reduceAdd, Int.reduceToNat, Int.reduceNeg, Int.cast_ofNat_Int, Nat.reduceLT, List.drop_succ_cons, List.take_succ_cons, List.singleton_append, Nat.zero_add, List.set_cons_zero, List.set_cons_succ, List.drop_nil, List.take_nil, Option.map_some, Option.map_none, Option.getD_some, Option.getD_none, Option.bind_some, List.cons_append, List.nil_append, List.append_nil, List.map_cons, List.map_nil, List.range_zero, List.take_zero, List.flatten_nil, List.filter_nil, List.length_nil, List.length_cons, List.drop_zero, List.not_mem_nil, List.mem_cons, Bool.true_eq_false, Bool.false_eq_true, Nat.reduceEqDiff, Nat.reduceAdd, List.getElem?_toArray, List.toList_toArray, List.getElem?_cons_zero, List.getElem?_cons_succ, decide_eq_true_eq, beq_self_eq_true, beq_true, beq_false, decide_true, decide_false, Bool.not_true, Bool.not_false, true_and, and_true, or_false, false_or, Bool.and_eq_true, reduceCtorEq, not_false_eq_true, cat_u, lit_strL, List.append_assoc] <;> rfl⟩⟩
theorem scParse_k (s : List UInt8) (hl : s.length ≤ 2147483648) (K : An → Prop) : CallK Tryd.prog pr 7 [.of (.lit (.string (strL s)))] [] K ↔ K ⟨false, [slX (parseA s).1, xint (parseA s).2.1, xint (parseA s).2.2], []⟩ := Gives.k (scParse_call s hl) K

end Go.Proofs.YtcmgabicladmlaaDoor
namespace Go.Proofs.YtcmgabicladmlaaDoor
open Go Go.Pe Go.Tab
set_option linter.unusedSectionVars false

def heads : Nat → Code → Code
  | 0, _ => .skip
  | n + 1, .seq a b => .seq a (heads n b)
  | _ + 1, c => c
def tails : Nat → Code → Code
  | 0, c => c
  | n + 1, .seq _ b => tails n b
  | _ + 1, _ => .skip
def longB : Nat → Code → Bool
  | 0, _ => true
  | n + 1, .seq _ b => longB n b
  | _ + 1, _ => false
theorem WC_mono {P : Program} {pr : Pr} {c : Code} {s : S} {R Q : Ex → S → Prop} (h : WC P pr c s R) (hq : ∀ e s', R e s' → Q e s') : WC P pr c s Q :=
  let ⟨n, e, s', h1, h2⟩ := h
  ⟨n, e, s', h1, hq e s' h2⟩
def okR (R : S → Prop) (e : Ex) (s : S) : Prop := e = .normal ∧ R s
theorem okR_at (R : S → Prop) (s : S) : okR R .normal s ↔ R s := ⟨fun h => h.2, fun h => ⟨rfl, h⟩⟩
theorem WC_cut {P : Program} {pr : Pr} {Q : Ex → S → Prop} : ∀ (n : Nat) (c : Code) (s : S) (R : S → Prop), longB n c = true → WC P pr (heads n c) s (okR R) → (∀ s', R s' → WC P pr (tails n c) s' Q) → WC P pr c s Q
  | 0, c, s, R, _, h, hq => by
    have h1 : okR R .normal s := (Z10 s (okR R)).1 h
    exact hq s h1.2
  | n + 1, .seq a b, s, R, hl, h, hq => by
    rw [Zz]
    have h1 := (Zz a (heads n b) s (okR R)).1 h
    refine WC_mono h1 fun e s' he => ?_
    cases e with
    | normal => exact WC_cut n b s' R hl he hq
    | exit i => exact absurd he.1 (by simp)
    | ret => exact absurd he.1 (by simp)
    | pan x => exact absurd he.1 (by simp)
  | n + 1, .region _ _ _, _, _, hl, _, _ => by simp [longB] at hl
  | n + 1, .skip, _, _, hl, _, _ => by simp [longB] at hl
  | n + 1, .cond _ _ _, _, _, hl, _, _ => by simp [longB] at hl
  | n + 1, .block _ _, _, _, hl, _, _ => by simp [longB] at hl
  | n + 1, .loop _, _, _, hl, _, _ => by simp [longB] at hl
  | n + 1, .exit _, _, _, hl, _, _ => by simp [longB] at hl
  | n + 1, .ret, _, _, hl, _, _ => by simp [longB] at hl
  | n + 1, .rangeFunc _ _ _ _, _, _, hl, _, _ => by simp [longB] at hl

theorem bs_s1 (tk : Tk) (s : ByteArray) : buildSliceX tk 1 (Pe.elemOf (TT.of Tryd.prog) 26) (some [(0, [xstr s])]) = out (.own tk 9 1 [cstr s] 1) := bs_1 E26 rfl rfl tk _
section
variable (tk t t' : Tk) (l : List (List UInt8)) (s : List UInt8) {n : Nat} (h : n + 1 ≤ LIM)
include h
theorem ap_s1 : appendX (TT.of Tryd.prog) tk 26 26 (.own t 9 1 (txC l) n) (.own t' 9 1 [cstr (strL s)] 1) = some (.own tk 9 1 (txC (l ++ [s])) (n + 1), some t) := by
  have := ap_own E26 (by decide) (by decide) tk t (txC l) n (.own t' 9 1 [cstr (strL s)] 1) [cstr (strL s)] 1 rfl rfl h
  have e : txC (l ++ [s]) = txC l ++ [cstr (strL s)] := by simp [txC]
  rw [e]
  exact this
end
theorem plus_len {α : Type} (f : α → List UInt8) : ∀ (l : List α) (o : List UInt8), (plusF f o l).length = o.length + (l.map fun x => (f x).length + 1).sum
  | [], o => by simp [plusF]
  | x :: l, o => by
    rw [plusF, plus_len f l]
    simp only [List.length_append, List.length_cons, List.length_nil, List.map_cons, List.sum_cons]
    omega
theorem sum_le {α : Type} {f g : α → Nat} {c : Nat} : ∀ (l : List α), (∀ x ∈ l, f x ≤ c * g x) → (l.map f).sum ≤ c * (l.map g).sum
  | [], _ => by simp
  | x :: l, h => by
    have h1 := h x (List.mem_cons_self ..)
    have h2 := sum_le l fun y hy => h y (List.mem_cons_of_mem _ hy)
    simp only [List.map_cons, List.sum_cons, Nat.mul_add]
    omega
theorem sum_take {α : Type} (w : α → Nat) (l : List α) (k : Nat) : ((l.take k).map w).sum ≤ (l.map w).sum := by
  have := congrArg (fun l => (l.map w).sum) (List.take_append_drop k l)
  simp only [List.map_append, List.sum_append] at this
  omega
theorem colN_len (c : Cl) : (colN c).length + 1 ≤ 2 * c.wt := by
  unfold colN Cl.wt
  split
  · omega
  · simp only [List.length_append, List.length_cons, List.length_nil]; omega
theorem textV_len (v : V) (h : I64 v.n) : (textL v).length + 1 ≤ 21 * vW v := by
  have := textL_len v h
  unfold vW
  omega
/-- The first line. -/
def hdR (r : Rp) : List UInt8 := [114, 101, 112, 108, 121, 32] ++ Lib.itoa r.k ++ [32] ++ Lib.itoa r.e ++ [32] ++ Lib.itoa r.n
def L1 (r : Rp) : List (List UInt8) := [hdR r] ++ if r.cols = [] then [] else [plusF colN [99, 111, 108, 115] r.cols]
def rowT (x : List V) : List UInt8 := plusF textL [114, 111, 119] x
def txtT (t : List UInt8) : List UInt8 := [116, 101, 120, 116, 32] ++ t
theorem lines_eq (r : Rp) : linesR r = L1 r ++ r.rows.map rowT ++ r.text.map txtT := by
  unfold linesR L1 hdR
  have h1 : ∀ x, rowN x = rowT x := fun x => by unfold rowN rowT; rw [plusF_one]
  rw [plusF_one]
  congr 2
  exact List.map_congr_left fun x _ => h1 x
section
variable {r : Rp} (hr : RpOk r 1048576)
include hr
theorem cols_b (k : Nat) : (plusF colN [99, 111, 108, 115] (r.cols.take k)).length ≤ 2097160 := by
  have h1 := plus_len colN (r.cols.take k) [99, 111, 108, 115]
  have h2 := sum_le (f := fun c => (colN c).length + 1) (g := Cl.wt) (c := 2) (r.cols.take k) fun c _ => colN_len c
  have h3 := sum_take Cl.wt r.cols k
  have h4 := hr.w
  simp only [List.length_cons, List.length_nil] at h1
  omega
theorem row_w (i : Nat) (hi : i < r.rows.length) : (r.rows[i].map vW).sum ≤ 1048576 := by
  have h1 := mem_sum (w := rowW) (List.getElem_mem hi)
  have h4 := hr.w
  have : (r.rows[i].map vW).sum ≤ rowW r.rows[i] := by unfold rowW; omega
  omega
theorem row_b (i : Nat) (hi : i < r.rows.length) (k : Nat) : (plusF textL [114, 111, 119] (r.rows[i].take k)).length ≤ 22020160 := by
  have h1 := plus_len textL (r.rows[i].take k) [114, 111, 119]
  have h2 := sum_le (f := fun v => (textL v).length + 1) (g := vW) (c := 21) (r.rows[i].take k) fun v hv => textV_len v (hr.v _ (List.getElem_mem hi) v (List.mem_of_mem_take hv)).2
  have h3 := sum_take vW r.rows[i] k
  have h4 := row_w hr i hi
  simp only [List.length_cons, List.length_nil] at h1
  omega
theorem val_ok (i : Nat) (hi : i < r.rows.length) (k : Nat) (hk : k < r.rows[i].length) : VOk r.rows[i][k] := by
  have h1 := hr.v _ (List.getElem_mem hi) _ (List.getElem_mem hk)
  have h2 := mem_sum (w := vW) (List.getElem_mem hk)
  have h3 := row_w hr i hi
  have h5 : r.rows[i][k].s.size + 4 ≤ (r.rows[i].map vW).sum := h2
  exact ⟨small_of h1.1, small_of h1.2, by omega⟩
theorem counts_b : r.cols.length ≤ 1048576 ∧ r.rows.length ≤ 1048576 ∧ r.text.length ≤ 1048576 := by
  have h1 := sum_pos (l := r.cols) (w := Cl.wt) fun x _ => by unfold Cl.wt; omega
  have h2 := sum_pos (l := r.rows) (w := rowW) fun x _ => by unfold rowW; omega
  have h3 := sum_pos (l := r.text) (w := txW) fun x _ => by unfold txW; omega
  have h4 := hr.w
  omega
theorem row_n (i : Nat) (hi : i < r.rows.length) : r.rows[i].length ≤ 1048576 := by
  have h1 := sum_pos (l := r.rows[i]) (w := vW) fun x _ => by unfold vW; omega
  have := row_w hr i hi
  omega
theorem text_b (i : Nat) (hi : i < r.text.length) : r.text[i].length ≤ 1048576 := by
  have h1 := mem_sum (w := txW) (List.getElem_mem hi)
  have h4 := hr.w
  unfold txW at h1
  have : r.text[i].length + 1 ≤ (r.text.map txW).sum := h1
  omega
end
theorem L1_len (r : Rp) : (L1 r).length ≤ 2 := by
  unfold L1
  split <;> simp

theorem clC_len (c : Cl) : (clC c).length = 3 := rfl
theorem valC_len (v : V) : (valC v).length = 3 := rfl
theorem ia_cl (l : List Cl) (k : Nat) (h : k < l.length) : indexAddrX (TT.of Tryd.prog) 24 (.of (.sl (fl clC l) l.length)) (.of (.lit (.int .i64 k))) = out (.of (.ref (fl clC (l.drop k)))) :=
  ia_fl clC_len E24 rfl (by decide) l _ rfl k h
theorem ia_vl (l : List V) (k : Nat) (h : k < l.length) : indexAddrX (TT.of Tryd.prog) 54 (.of (.sl (fl valC l) l.length)) (.of (.lit (.int .i64 k))) = out (.of (.ref (fl valC (l.drop k)))) :=
  ia_fl valC_len E54 rfl (by decide) l _ rfl k h
theorem one_len {α : Type} (f : α → C) (x : α) : ([f x] : List C).length = 1 := rfl
theorem ia_rw (l : List (List V)) (k : Nat) (h : k < l.length) : indexAddrX (TT.of Tryd.prog) 25 (.of (.sl (fl (fun x => [rowC x]) l) l.length)) (.of (.lit (.int .i64 k))) = out (.of (.ref (fl (fun x => [rowC x]) (l.drop k)))) :=
  ia_fl (one_len rowC) E25 rfl (by decide) l _ rfl k h
theorem ia_tx (l : List (List UInt8)) (k : Nat) (h : k < l.length) : indexAddrX (TT.of Tryd.prog) 26 (.of (.sl (fl (fun x => [cstr (strL x)]) l) l.length)) (.of (.lit (.int .i64 k))) = out (.of (.ref (fl (fun x => [cstr (strL x)]) (l.drop k)))) :=
  ia_fl (one_len fun x => cstr (strL x)) E26 rfl (by decide) l _ rfl k h
set_option maxRecDepth 100000 in
theorem ld_cl (l : List Cl) (k : Nat) (h : k < l.length) (objs : List Ob) : loadX (TT.of Tryd.prog) objs 49 (.of (.ref (fl clC (l.drop k)))) = out (.of (.agg [cstr (strL l[k].tb), cstr (strL l[k].nm), ci l[k].ty])) :=
  ld_fl (g := fun c => .agg [cstr (strL c.tb), cstr (strL c.nm), ci c.ty]) (fun x r => Q49 (cstr (strL x.tb)) (cstr (strL x.nm)) (ci x.ty) r) l k h objs
set_option maxRecDepth 100000 in
theorem ld_vl (l : List V) (k : Nat) (h : k < l.length) (objs : List Ob) : loadX (TT.of Tryd.prog) objs 51 (.of (.ref (fl valC (l.drop k)))) = out (.of (valX l[k])) :=
  ld_fl (g := valX) (fun x r => Q51 (ci x.k) (ci x.n) (cstr x.s) r) l k h objs
set_option maxRecDepth 100000 in
theorem ld_rw (l : List (List V)) (k : Nat) (h : k < l.length) (objs : List Ob) : loadX (TT.of Tryd.prog) objs 54 (.of (.ref (fl (fun x => [rowC x]) (l.drop k)))) = out (.of (.sl (fl valC l[k]) l[k].length)) :=
  ld_fl (g := rowC) (fun x r => Q54 (rowC x) r) l k h objs
set_option maxRecDepth 100000 in
theorem ld_tx (l : List (List UInt8)) (k : Nat) (h : k < l.length) (objs : List Ob) : loadX (TT.of Tryd.prog) objs 9 (.of (.ref (fl (fun x => [cstr (strL x)]) (l.drop k)))) = out (xstr (strL l[k])) :=
  ld_fl (g := fun x => cstr (strL x)) (fun x r => Q9 (cstr (strL x)) r) l k h objs
theorem cols_fl (l : List Cl) : colsC l = .sl (fl clC l) l.length := rfl
theorem rows_fl (l : List (List V)) : rowsC l = .sl (fl (fun x => [rowC x]) l) l.length := by unfold rowsC fl; rw [fl_one]
theorem tx_fl (l : List (List UInt8)) : tsC l = .sl (fl (fun x => [cstr (strL x)]) l) l.length := by unfold tsC fl; rw [fl_one]
/-- A reply's fields. -/
abbrev rpA (r : Rp) : List C := [ci r.k, ci r.e, ci r.n, .sl (fl clC r.cols) r.cols.length, .sl (fl (fun x => [rowC x]) r.rows) r.rows.length, .sl (fl (fun x => [cstr (strL x)]) r.text) r.text.length]
theorem rp_fl (r : Rp) : rpC r = rpA r := by unfold rpC; rw [cols_fl, rows_fl, tx_fl]
theorem cells_rp (a b c d e f : C) : cellsX (.of (.agg [a, b, c, d, e, f])) = some [.of a, .of b, .of c, .of d, .of e, .of f] := rfl
abbrev RO (r : Rp) : Ob := .var 28 [xint r.k, xint r.e, xint r.n, .of (.sl (fl clC r.cols) r.cols.length), .of (.sl (fl (fun x => [rowC x]) r.rows) r.rows.length), .of (.sl (fl (fun x => [cstr (strL x)]) r.text) r.text.length)]
/-- The lines so far. -/
def LS (r : Rp) (L : List (List UInt8)) (s : S) : Prop := s.fr 1 = .ptr 0 0 ∧ (∃ q, s.objs = RO r :: q) ∧ ∃ t n, Old s.clk t ∧ L.length = n ∧ s.fr 3 = .own t 9 1 (txC L) n
end Go.Proofs.YtcmgabicladmlaaDoor
namespace Go.Proofs.YtcmgabicladmlaaDoor
open Go Go.Pe Go.Tab
set_option linter.unusedSectionVars false

theorem take_map {α β : Type} (f : α → β) (l : List α) (k : Nat) (h : k < l.length) : (l.take (k + 1)).map f = (l.take k).map f ++ [f l[k]] := by
  rw [List.take_succ_eq_append_getElem h, List.map_append]
  rfl
section
variable (r : Rp) (hr : RpOk r 1048576)
include hr
/-- Lines, handed back. -/
abbrev txX (L : List (List UInt8)) : X := .own (.nm 0 0 0) 9 1 (txC L) L.length
end
end Go.Proofs.YtcmgabicladmlaaDoor

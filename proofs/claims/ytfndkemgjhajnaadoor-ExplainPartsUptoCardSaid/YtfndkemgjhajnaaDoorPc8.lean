/-
  Chapter 30: the nodes of a plan, its kids and columns, by the evaluator. Conditions: none.
-/
import Derived.Test.YtfndkemgjhajnaaDoorPc7
namespace Go.Proofs.YtfndkemgjhajnaaDoor
open Go Go.Pe Go.Tab

theorem small_of {n : Int} (h : I64 n) : small64 n = true := decide_eq_true h
abbrev txX (x : X) (l : List (List UInt8)) : Prop := asSl x = some (txC l, l.length)
theorem fl_tx : ∀ l : List (List UInt8), fl (fun s => [cstr (strL s)]) l = txC l
  | [] => rfl
  | s :: l => by
    have h := fl_tx l
    simp only [fl, txC, List.map_cons, List.flatten_cons, List.cons_append, List.nil_append] at h ⊢
    rw [h]
set_option maxRecDepth 100000 in
theorem ia_tx (l : List (List UInt8)) (x : X) (hx : txX x l) (k : Nat) (h : k < l.length) : indexAddrX (TT.of Tryd.prog) 37 x (xint k) = out (.of (.ref ((txC l).drop k))) := by
  have h1 := fl_tx l
  have h2 := ia_fl (f := fun s => [cstr (strL s)]) (z := 1) (fun _ => rfl) E37 rfl (by decide) l x (by rw [h1]; exact hx) k h
  rw [h2]
  congr 3
  have h3 := fl_drop (f := fun s => [cstr (strL s)]) (z := 1) (fun _ => rfl) l k
  rw [h1, Nat.mul_one] at h3
  exact h3.symm
theorem ia_cols (cols : List Cl) (k : Nat) (h : k < cols.length) : indexAddrX (TT.of Tryd.prog) 22 (.of (colsC cols)) (xint k) = out (.of (.ref (fl clC (cols.drop k)))) :=
  ia_fl (f := clC) (z := 3) (fun _ => rfl) E22 rfl (by decide) cols _ rfl k h
theorem len_cols (u : Nat) (cols : List Cl) : lenX (some (.slice u)) (.of (colsC cols)) = out (xint cols.length) := rfl
theorem ref_cols (cols : List Cl) (k : Nat) (h : k < cols.length) : fl clC (cols.drop k) = cstr (strL cols[k].tb) :: cstr (strL cols[k].nm) :: ci cols[k].ty :: fl clC (cols.drop (k + 1)) := fl_at clC cols k h
theorem ix_cols (cols : List Cl) (a : Int) (h0 : 0 ≤ a) (h1 : a < cols.length) : ∃ (k : Nat) (h : k < cols.length), a = k ∧ cols[a.toNat]? = some cols[k] := by
  refine ⟨a.toNat, by omega, by omega, ?_⟩
  rw [List.getElem?_eq_getElem]

section
variable (cols : List Cl) (op k n d a ty : Int) (s : ByteArray) (nm : List UInt8) (kc sub : C) (hc : ClsOk cols) (hd : I64 d) (ha : I64 a)
include hc hd ha
set_option maxRecDepth 100000 in
theorem excolumn_call : G1 25 [.of (.agg [ci op, ci k, ci n, cstr s, ci d, ci a, cstr (strL nm), kc, sub, ci ty]), .of (colsC cols)] (xstr (strL (colL cols d a))) := by
  have l1 := itoa_short d hd.1 hd.2
  have l2 := itoa_short a ha.1 ha.2
  refine by_body rfl ok25 body25 ar25 rfl ?_
  by_cases h1 : d = 0
  · have d1 : decide (d = 0) = true := decide_eq_true h1
    by_cases h2 : a < 0
    · have e : colL cols d a = [36] ++ Lib.itoa d ++ [46] ++ Lib.itoa a := by unfold colL; rw [if_pos (.inr (.inl h2))]
      have d2 : decide (a < 0) = true := decide_eq_true h2
      rw [e]
      simp -implicitDefEqProofs (maxSteps := 1000000) only [Tryd.f25, ↓zD, zU, Nat.zero_mul, Nat.reduceMul, List.length_map, Tk.nm.injEq, Tk.cell.injEq, false_and, and_false, Nat.le_add_right, Nat.le_refl, ↓reduceIte, Bool.or_false, Bool.false_or, Bool.and_true, Bool.true_and, Bool.false_and, Bool.true_or, Bool.or_true, Option.isNone_none, Option.isNone_some, List.any_cons, List.any_nil, Bool.and_false, Nat.reduceBEq, Nat.reduceLeDiff, Int.reduceLT, Int.reduceEq, Int.reduceLE, Int.reduceAdd, Int.reduceToNat, Int.reduceNeg, Int.cast_ofNat_Int, Nat.reduceLT, List.drop_succ_cons, List.take_succ_cons, List.singleton_append, Nat.zero_add, List.set_cons_zero, List.set_cons_succ, List.drop_nil, List.take_nil, Option.map_some, Option.map_none, Option.getD_some, Option.getD_none, Option.bind_some, List.cons_append, List.nil_append, List.append_nil, List.map_cons, List.map_nil, List.range_zero, List.take_zero, List.flatten_nil, List.filter_nil, List.length_nil, List.length_cons, List.drop_zero, List.not_mem_nil, List.mem_cons, Bool.true_eq_false, Bool.false_eq_true, Nat.reduceEqDiff, Nat.reduceAdd, List.getElem?_toArray, List.toList_toArray, List.getElem?_cons_zero, List.getElem?_cons_succ, decide_eq_true_eq, beq_self_eq_true, beq_true, beq_false, decide_true, decide_false, Bool.not_true, Bool.not_false, true_and, and_true, or_false, false_or, Bool.and_eq_true, reduceCtorEq, not_false_eq_true, cat_u, lit_strL, List.append_assoc, rv25, zeroX_at, T46, boxO, T3, T9, U3, U9, U22, U37, fa46_0, fa46_1, fa46_2, fa46_3, fa46_4, fa46_5, P3, P9, d1, d2, numText_k _ _ (small_of hd), numText_k _ _ (small_of ha), pr_obj, obj16, call16] <;> ((try simp only [List.length_append, List.length_cons, List.length_nil, SLIM]); omega)
    · have d2 : decide (a < 0) = false := decide_eq_false h2
      by_cases h3 : (cols.length : Int) ≤ a
      · have e : colL cols d a = [36] ++ Lib.itoa d ++ [46] ++ Lib.itoa a := by unfold colL; rw [if_pos (.inr (.inr h3))]
        have d3 : decide ((cols.length : Int) ≤ a) = true := decide_eq_true h3
        rw [e]
        simp -implicitDefEqProofs (maxSteps := 1000000) only [Tryd.f25, ↓zD, zU, Nat.zero_mul, Nat.reduceMul, List.length_map, Tk.nm.injEq, Tk.cell.injEq, false_and, and_false, Nat.le_add_right, Nat.le_refl, ↓reduceIte, Bool.or_false, Bool.false_or, Bool.and_true, Bool.true_and, Bool.false_and, Bool.true_or, Bool.or_true, Option.isNone_none, Option.isNone_some, List.any_cons, List.any_nil, Bool.and_false, Nat.reduceBEq, Nat.reduceLeDiff, Int.reduceLT, Int.reduceEq, Int.reduceLE, Int.reduceAdd, Int.reduceToNat, Int.reduceNeg, Int.cast_ofNat_Int, Nat.reduceLT, List.drop_succ_cons, List.take_succ_cons, List.singleton_append, Nat.zero_add, List.set_cons_zero, List.set_cons_succ, List.drop_nil, List.take_nil, Option.map_some, Option.map_none, Option.getD_some, Option.getD_none, Option.bind_some, List.cons_append, List.nil_append, List.append_nil, List.map_cons, List.map_nil, List.range_zero, List.take_zero, List.flatten_nil, List.filter_nil, List.length_nil, List.length_cons, List.drop_zero, List.not_mem_nil, List.mem_cons, Bool.true_eq_false, Bool.false_eq_true, Nat.reduceEqDiff, Nat.reduceAdd, List.getElem?_toArray, List.toList_toArray, List.getElem?_cons_zero, List.getElem?_cons_succ, decide_eq_true_eq, beq_self_eq_true, beq_true, beq_false, decide_true, decide_false, Bool.not_true, Bool.not_false, true_and, and_true, or_false, false_or, Bool.and_eq_true, reduceCtorEq, not_false_eq_true, cat_u, lit_strL, List.append_assoc, rv25, zeroX_at, T46, boxO, T3, T9, U3, U9, U22, U37, fa46_0, fa46_1, fa46_2, fa46_3, fa46_4, fa46_5, P3, P9, len_cols, d1, d2, d3, numText_k _ _ (small_of hd), numText_k _ _ (small_of ha), pr_obj, obj16, call16] <;> ((try simp only [List.length_append, List.length_cons, List.length_nil, SLIM]); omega)
      · have d3 : decide ((cols.length : Int) ≤ a) = false := decide_eq_false h3
        obtain ⟨i, hi, rfl, e1⟩ := ix_cols cols a (by omega) (by omega)
        have hw := hc _ (List.getElem_mem hi)
        unfold Cl.wt at hw
        by_cases h4 : cols[i].tb = []
        · have e : colL cols d i = cols[i].nm := by unfold colL; rw [if_neg (by omega), e1]; simp only [h4, if_true]
          rw [e]
          simp -implicitDefEqProofs (maxSteps := 1000000) only [Tryd.f25, ↓zD, zU, Nat.zero_mul, Nat.reduceMul, List.length_map, Tk.nm.injEq, Tk.cell.injEq, false_and, and_false, Nat.le_add_right, Nat.le_refl, ↓reduceIte, Bool.or_false, Bool.false_or, Bool.and_true, Bool.true_and, Bool.false_and, Bool.true_or, Bool.or_true, Option.isNone_none, Option.isNone_some, List.any_cons, List.any_nil, Bool.and_false, Nat.reduceBEq, Nat.reduceLeDiff, Int.reduceLT, Int.reduceEq, Int.reduceLE, Int.reduceAdd, Int.reduceToNat, Int.reduceNeg, Int.cast_ofNat_Int, Nat.reduceLT, List.drop_succ_cons, List.take_succ_cons, List.singleton_append, Nat.zero_add, List.set_cons_zero, List.set_cons_succ, List.drop_nil, List.take_nil, Option.map_some, Option.map_none, Option.getD_some, Option.getD_none, Option.bind_some, List.cons_append, List.nil_append, List.append_nil, List.map_cons, List.map_nil, List.range_zero, List.take_zero, List.flatten_nil, List.filter_nil, List.length_nil, List.length_cons, List.drop_zero, List.not_mem_nil, List.mem_cons, Bool.true_eq_false, Bool.false_eq_true, Nat.reduceEqDiff, Nat.reduceAdd, List.getElem?_toArray, List.toList_toArray, List.getElem?_cons_zero, List.getElem?_cons_succ, decide_eq_true_eq, beq_self_eq_true, beq_true, beq_false, decide_true, decide_false, Bool.not_true, Bool.not_false, true_and, and_true, or_false, false_or, Bool.and_eq_true, reduceCtorEq, not_false_eq_true, cat_u, lit_strL, List.append_assoc, rv25, zeroX_at, T46, boxO, T3, T9, U3, U9, U22, U37, fa46_0, fa46_1, fa46_2, fa46_3, fa46_4, fa46_5, P3, P9, len_cols, d1, d2, d3, ia_cols cols i hi, Q54, T54, fa54_0, fa54_1, fr54_0, fr54_1, ref_cols cols i hi, Q9, strL_eq, h4] <;> ((try simp only [List.length_append, List.length_cons, List.length_nil, SLIM]); omega)
        · have e : colL cols d i = cols[i].tb ++ [46] ++ cols[i].nm := by unfold colL; rw [if_neg (by omega), e1]; simp only [h4, if_false]
          rw [e]
          simp -implicitDefEqProofs (maxSteps := 1000000) only [Tryd.f25, ↓zD, zU, Nat.zero_mul, Nat.reduceMul, List.length_map, Tk.nm.injEq, Tk.cell.injEq, false_and, and_false, Nat.le_add_right, Nat.le_refl, ↓reduceIte, Bool.or_false, Bool.false_or, Bool.and_true, Bool.true_and, Bool.false_and, Bool.true_or, Bool.or_true, Option.isNone_none, Option.isNone_some, List.any_cons, List.any_nil, Bool.and_false, Nat.reduceBEq, Nat.reduceLeDiff, Int.reduceLT, Int.reduceEq, Int.reduceLE, Int.reduceAdd, Int.reduceToNat, Int.reduceNeg, Int.cast_ofNat_Int, Nat.reduceLT, List.drop_succ_cons, List.take_succ_cons, List.singleton_append, Nat.zero_add, List.set_cons_zero, List.set_cons_succ, List.drop_nil, List.take_nil, Option.map_some, Option.map_none, Option.getD_some, Option.getD_none, Option.bind_some, List.cons_append, List.nil_append, List.append_nil, List.map_cons, List.map_nil, List.range_zero, List.take_zero, List.flatten_nil, List.filter_nil, List.length_nil, List.length_cons, List.drop_zero, List.not_mem_nil, List.mem_cons, Bool.true_eq_false, Bool.false_eq_true, Nat.reduceEqDiff, Nat.reduceAdd, List.getElem?_toArray, List.toList_toArray, List.getElem?_cons_zero, List.getElem?_cons_succ, decide_eq_true_eq, beq_self_eq_true, beq_true, beq_false, decide_true, decide_false, Bool.not_true, Bool.not_false, true_and, and_true, or_false, false_or, Bool.and_eq_true, reduceCtorEq, not_false_eq_true, cat_u, lit_strL, List.append_assoc, rv25, zeroX_at, T46, boxO, T3, T9, U3, U9, U22, U37, fa46_0, fa46_1, fa46_2, fa46_3, fa46_4, fa46_5, P3, P9, len_cols, d1, d2, d3, ia_cols cols i hi, Q54, T54, fa54_0, fa54_1, fr54_0, fr54_1, ref_cols cols i hi, Q9, strL_eq, h4] <;> ((try simp only [List.length_append, List.length_cons, List.length_nil, SLIM]); omega)
  · have e : colL cols d a = [36] ++ Lib.itoa d ++ [46] ++ Lib.itoa a := by unfold colL; rw [if_pos (.inl h1)]
    have d1 : decide (d = 0) = false := decide_eq_false h1
    rw [e]
    simp -implicitDefEqProofs (maxSteps := 1000000) only [Tryd.f25, ↓zD, zU, Nat.zero_mul, Nat.reduceMul, List.length_map, Tk.nm.injEq, Tk.cell.injEq, false_and, and_false, Nat.le_add_right, Nat.le_refl, ↓reduceIte, Bool.or_false, Bool.false_or, Bool.and_true, Bool.true_and, Bool.false_and, Bool.true_or, Bool.or_true, Option.isNone_none, Option.isNone_some, List.any_cons, List.any_nil, Bool.and_false, Nat.reduceBEq, Nat.reduceLeDiff, Int.reduceLT, Int.reduceEq, Int.reduceLE, Int.reduceAdd, Int.reduceToNat, Int.reduceNeg, Int.cast_ofNat_Int, Nat.reduceLT, List.drop_succ_cons, List.take_succ_cons, List.singleton_append, Nat.zero_add, List.set_cons_zero, List.set_cons_succ, List.drop_nil, List.take_nil, Option.map_some, Option.map_none, Option.getD_some, Option.getD_none, Option.bind_some, List.cons_append, List.nil_append, List.append_nil, List.map_cons, List.map_nil, List.range_zero, List.take_zero, List.flatten_nil, List.filter_nil, List.length_nil, List.length_cons, List.drop_zero, List.not_mem_nil, List.mem_cons, Bool.true_eq_false, Bool.false_eq_true, Nat.reduceEqDiff, Nat.reduceAdd, List.getElem?_toArray, List.toList_toArray, List.getElem?_cons_zero, List.getElem?_cons_succ, decide_eq_true_eq, beq_self_eq_true, beq_true, beq_false, decide_true, decide_false, Bool.not_true, Bool.not_false, true_and, and_true, or_false, false_or, Bool.and_eq_true, reduceCtorEq, not_false_eq_true, cat_u, lit_strL, List.append_assoc, rv25, zeroX_at, T46, boxO, T3, T9, U3, U9, U22, U37, fa46_0, fa46_1, fa46_2, fa46_3, fa46_4, fa46_5, P3, P9, d1, numText_k _ _ (small_of hd), numText_k _ _ (small_of ha), pr_obj, obj16, call16] <;> ((try simp only [List.length_append, List.length_cons, List.length_nil, SLIM]); omega)
end

section
variable (tk : Tk) (a b c : List UInt8) (r : List (List UInt8)) {n : Nat} (hn : r.length = n)
include hn
theorem ia_t0 : indexAddrX (TT.of Tryd.prog) 37 (.of (.sl (txC (a :: r)) (n + 1))) (.of (.lit (.int .i64 0))) = out (.of (.ref (txC (a :: r)))) := by subst hn; exact ia_tx (a :: r) _ rfl 0 (by simp)
theorem ia_t1 : indexAddrX (TT.of Tryd.prog) 37 (.of (.sl (txC (a :: b :: r)) (n + 1 + 1))) (.of (.lit (.int .i64 1))) = out (.of (.ref (txC (b :: r)))) := by subst hn; exact ia_tx (a :: b :: r) _ rfl 1 (by simp)
theorem ia_o0 : indexAddrX (TT.of Tryd.prog) 37 (.own tk 9 1 (txC (a :: r)) (n + 1)) (.of (.lit (.int .i64 0))) = out (.of (.ref (txC (a :: r)))) := by subst hn; exact ia_tx (a :: r) _ rfl 0 (by simp)
theorem ia_o1 : indexAddrX (TT.of Tryd.prog) 37 (.own tk 9 1 (txC (a :: b :: r)) (n + 1 + 1)) (.of (.lit (.int .i64 1))) = out (.of (.ref (txC (b :: r)))) := by subst hn; exact ia_tx (a :: b :: r) _ rfl 1 (by simp)
theorem ia_o2 : indexAddrX (TT.of Tryd.prog) 37 (.own tk 9 1 (txC (a :: b :: c :: r)) (n + 1 + 1 + 1)) (.of (.lit (.int .i64 2))) = out (.of (.ref (txC (c :: r)))) := by subst hn; exact ia_tx (a :: b :: c :: r) _ rfl 2 (by simp)
omit hn in
theorem pc_t : pieceC (TT.of Tryd.prog) 9 (txC (a :: r)) = some (cstr (strL a)) := by
  show pieceC (TT.of Tryd.prog) 9 (cstr (strL a) :: txC r) = _
  simp only [Q9]
omit hn in
theorem txC_len (l : List (List UInt8)) : (txC l).length = l.length := by simp [txC]
theorem sl_t2 : sliceX (TT.of Tryd.prog) 37 (.of (.sl (txC (a :: b :: r)) (n + 1 + 1))) (some (.of (.lit (.int .i64 2)))) none = out (.of (.sl (txC r) n)) := by
  subst hn
  simp only [sliceX, E37, asSl, bndX, litInt]
  rw [if_pos ⟨by decide, by omega, by omega, by simp [txC]⟩]
  simp only [Int.toNat_natCast, Int.reduceToNat]
  exact congrArg (fun y => out (.of (.sl y r.length))) (List.take_of_length_le (Nat.le_trans (Nat.le_of_eq (txC_len r)) (Nat.le_of_eq (Nat.mul_one _).symm)))
theorem sl_o1 : sliceX (TT.of Tryd.prog) 37 (.own tk 9 1 (txC (a :: r)) (n + 1)) (some (.of (.lit (.int .i64 1)))) none = out (.of (.sl (txC r) n)) := by
  subst hn
  simp only [sliceX, E37, asSl, bndX, litInt]
  rw [if_pos ⟨by decide, by omega, by omega, by simp [txC]⟩]
  simp only [Int.toNat_natCast, Int.reduceToNat]
  exact congrArg (fun y => out (.of (.sl y r.length))) (List.take_of_length_le (Nat.le_trans (Nat.le_of_eq (txC_len r)) (Nat.le_of_eq (Nat.mul_one _).symm)))
end
theorem lt1 (n : Nat) : decide ((1 : Int) < ((n + 1 + 1 : Nat) : Int)) = true := decide_eq_true (by omega)
theorem lens_cons (a : List UInt8) (r : List (List UInt8)) : Lib.lens (a :: r) = a.length + Lib.lens r := by simp [Lib.lens]
theorem lens_nil : Lib.lens [] = 0 := rfl

set_option maxRecDepth 100000 in
theorem excases_call (l : List (List UInt8)) (h : Lib.lens l + 13 * l.length + 10 ≤ SLIM) : G1 27 [.of (.sl (txC l) l.length)] (xstr (strL (caseF [40, 99, 97, 115, 101] l))) := by
  generalize hW : caseF [40, 99, 97, 115, 101] l = w
  refine by_body rfl ok27 body27 ar27 rfl ?_
  simp -implicitDefEqProofs (maxSteps := 1000000) only [Tryd.f27, ↓zD, zU, Nat.zero_mul, Nat.reduceMul, List.length_map, Tk.nm.injEq, Tk.cell.injEq, false_and, and_false, Nat.le_add_right, Nat.le_refl, ↓reduceIte, Bool.or_false, Bool.false_or, Bool.and_true, Bool.true_and, Bool.false_and, Bool.true_or, Bool.or_true, Option.isNone_none, Option.isNone_some, List.any_cons, List.any_nil, Bool.and_false, Nat.reduceBEq, Nat.reduceLeDiff, Int.reduceLT, Int.reduceEq, Int.reduceLE, Int.reduceAdd, Int.reduceToNat, Int.reduceNeg, Int.cast_ofNat_Int, Nat.reduceLT, List.drop_succ_cons, List.take_succ_cons, List.singleton_append, Nat.zero_add, List.set_cons_zero, List.set_cons_succ, List.drop_nil, List.take_nil, Option.map_some, Option.map_none, Option.getD_some, Option.getD_none, Option.bind_some, List.cons_append, List.nil_append, List.append_nil, List.map_cons, List.map_nil, List.range_zero, List.take_zero, List.flatten_nil, List.filter_nil, List.length_nil, List.length_cons, List.drop_zero, List.not_mem_nil, List.mem_cons, Bool.true_eq_false, Bool.false_eq_true, Nat.reduceEqDiff, Nat.reduceAdd, List.getElem?_toArray, List.toList_toArray, List.getElem?_cons_zero, List.getElem?_cons_succ, decide_eq_true_eq, beq_self_eq_true, beq_true, beq_false, decide_true, decide_false, Bool.not_true, Bool.not_false, true_and, and_true, or_false, false_or, Bool.and_eq_true, reduceCtorEq, not_false_eq_true, cat_u, lit_strL, List.append_assoc, rv27]
  refine WC_inv _ _ (fun m s => ∃ (o : List UInt8) (r : List (List UInt8)), m = r.length ∧ s.fr 0 = .of (.sl (txC r) r.length) ∧ s.fr 3 = xstr (strL o) ∧ s.objs = [] ∧ caseF o r = w ∧ o.length + Lib.lens r + 13 * r.length + 5 ≤ SLIM) ?_ l.length _ ?_
  · rintro m s ⟨o, r, rfl, h0, h3, ho, he, hb⟩
    match r with
    | a :: b :: r =>
      have d1 := lt1 r.length
      simp only [List.length_cons] at h0
      simp only [lens_cons, List.length_cons, SLIM] at hb
      simp -implicitDefEqProofs (maxSteps := 1000000) only [↓zD, zU, Nat.zero_mul, Nat.reduceMul, List.length_map, Tk.nm.injEq, Tk.cell.injEq, false_and, and_false, Nat.le_add_right, Nat.le_refl, ↓reduceIte, Bool.or_false, Bool.false_or, Bool.and_true, Bool.true_and, Bool.false_and, Bool.true_or, Bool.or_true, Option.isNone_none, Option.isNone_some, List.any_cons, List.any_nil, Bool.and_false, Nat.reduceBEq, Nat.reduceLeDiff, Int.reduceLT, Int.reduceEq, Int.reduceLE, Int.reduceAdd, Int.reduceToNat, Int.reduceNeg, Int.cast_ofNat_Int, Nat.reduceLT, List.drop_succ_cons, List.take_succ_cons, List.singleton_append, Nat.zero_add, List.set_cons_zero, List.set_cons_succ, List.drop_nil, List.take_nil, Option.map_some, Option.map_none, Option.getD_some, Option.getD_none, Option.bind_some, List.cons_append, List.nil_append, List.append_nil, List.map_cons, List.map_nil, List.range_zero, List.take_zero, List.flatten_nil, List.filter_nil, List.length_nil, List.length_cons, List.drop_zero, List.not_mem_nil, List.mem_cons, Bool.true_eq_false, Bool.false_eq_true, Nat.reduceEqDiff, Nat.reduceAdd, List.getElem?_toArray, List.toList_toArray, List.getElem?_cons_zero, List.getElem?_cons_succ, decide_eq_true_eq, beq_self_eq_true, beq_true, beq_false, decide_true, decide_false, Bool.not_true, Bool.not_false, true_and, and_true, or_false, false_or, Bool.and_eq_true, reduceCtorEq, not_false_eq_true, cat_u, lit_strL, List.append_assoc, h0, h3, ho, U37, U9, U3, d1, ia_t0, ia_t1, pc_t, sl_t2, rv27, Tryd.f27]
      refine ⟨by ((try simp only [List.length_append, List.length_cons, List.length_nil, SLIM]); omega), by ((try simp only [List.length_append, List.length_cons, List.length_nil, SLIM]); omega), by ((try simp only [List.length_append, List.length_cons, List.length_nil, SLIM]); omega), by ((try simp only [List.length_append, List.length_cons, List.length_nil, SLIM]); omega), r.length, by omega, _, r, rfl, rfl, rfl, ?_, by ((try simp only [List.length_append, List.length_cons, List.length_nil, SLIM]); omega)⟩
      rw [← he, caseF]
      congr 1
      simp
    | [a] =>
      simp only [List.length_cons, List.length_nil, Nat.zero_add] at h0
      simp only [lens_cons, lens_nil, List.length_cons, List.length_nil, SLIM] at hb
      simp only [caseF] at he
      subst he
      simp -implicitDefEqProofs (maxSteps := 1000000) only [↓zD, zU, Nat.zero_mul, Nat.reduceMul, List.length_map, Tk.nm.injEq, Tk.cell.injEq, false_and, and_false, Nat.le_add_right, Nat.le_refl, ↓reduceIte, Bool.or_false, Bool.false_or, Bool.and_true, Bool.true_and, Bool.false_and, Bool.true_or, Bool.or_true, Option.isNone_none, Option.isNone_some, List.any_cons, List.any_nil, Bool.and_false, Nat.reduceBEq, Nat.reduceLeDiff, Int.reduceLT, Int.reduceEq, Int.reduceLE, Int.reduceAdd, Int.reduceToNat, Int.reduceNeg, Int.cast_ofNat_Int, Nat.reduceLT, List.drop_succ_cons, List.take_succ_cons, List.singleton_append, Nat.zero_add, List.set_cons_zero, List.set_cons_succ, List.drop_nil, List.take_nil, Option.map_some, Option.map_none, Option.getD_some, Option.getD_none, Option.bind_some, List.cons_append, List.nil_append, List.append_nil, List.map_cons, List.map_nil, List.range_zero, List.take_zero, List.flatten_nil, List.filter_nil, List.length_nil, List.length_cons, List.drop_zero, List.not_mem_nil, List.mem_cons, Bool.true_eq_false, Bool.false_eq_true, Nat.reduceEqDiff, Nat.reduceAdd, List.getElem?_toArray, List.toList_toArray, List.getElem?_cons_zero, List.getElem?_cons_succ, decide_eq_true_eq, beq_self_eq_true, beq_true, beq_false, decide_true, decide_false, Bool.not_true, Bool.not_false, true_and, and_true, or_false, false_or, Bool.and_eq_true, reduceCtorEq, not_false_eq_true, cat_u, lit_strL, List.append_assoc, h0, h3, ho, U37, U9, U3, ia_t0, pc_t, rv27, Tryd.f27]
      <;> (and_intros <;> first | ((try simp only [List.length_append, List.length_cons, List.length_nil, SLIM]); omega) | rfl)
    | [] =>
      simp only [List.length_nil] at h0
      simp only [lens_nil, List.length_nil, SLIM] at hb
      simp only [caseF] at he
      subst he
      simp -implicitDefEqProofs (maxSteps := 1000000) only [↓zD, zU, Nat.zero_mul, Nat.reduceMul, List.length_map, Tk.nm.injEq, Tk.cell.injEq, false_and, and_false, Nat.le_add_right, Nat.le_refl, ↓reduceIte, Bool.or_false, Bool.false_or, Bool.and_true, Bool.true_and, Bool.false_and, Bool.true_or, Bool.or_true, Option.isNone_none, Option.isNone_some, List.any_cons, List.any_nil, Bool.and_false, Nat.reduceBEq, Nat.reduceLeDiff, Int.reduceLT, Int.reduceEq, Int.reduceLE, Int.reduceAdd, Int.reduceToNat, Int.reduceNeg, Int.cast_ofNat_Int, Nat.reduceLT, List.drop_succ_cons, List.take_succ_cons, List.singleton_append, Nat.zero_add, List.set_cons_zero, List.set_cons_succ, List.drop_nil, List.take_nil, Option.map_some, Option.map_none, Option.getD_some, Option.getD_none, Option.bind_some, List.cons_append, List.nil_append, List.append_nil, List.map_cons, List.map_nil, List.range_zero, List.take_zero, List.flatten_nil, List.filter_nil, List.length_nil, List.length_cons, List.drop_zero, List.not_mem_nil, List.mem_cons, Bool.true_eq_false, Bool.false_eq_true, Nat.reduceEqDiff, Nat.reduceAdd, List.getElem?_toArray, List.toList_toArray, List.getElem?_cons_zero, List.getElem?_cons_succ, decide_eq_true_eq, beq_self_eq_true, beq_true, beq_false, decide_true, decide_false, Bool.not_true, Bool.not_false, true_and, and_true, or_false, false_or, Bool.and_eq_true, reduceCtorEq, not_false_eq_true, cat_u, lit_strL, List.append_assoc, h0, h3, ho, U37, U9, U3, rv27, Tryd.f27]
      <;> (and_intros <;> first | ((try simp only [List.length_append, List.length_cons, List.length_nil, SLIM]); omega) | rfl)
  · exact ⟨[40, 99, 97, 115, 101], l, rfl, by simp -implicitDefEqProofs only [↓zD, zU, Nat.zero_mul, Nat.reduceMul, List.length_map, Tk.nm.injEq, Tk.cell.injEq, false_and, and_false, Nat.le_add_right, Nat.le_refl, ↓reduceIte, Bool.or_false, Bool.false_or, Bool.and_true, Bool.true_and, Bool.false_and, Bool.true_or, Bool.or_true, Option.isNone_none, Option.isNone_some, List.any_cons, List.any_nil, Bool.and_false, Nat.reduceBEq, Nat.reduceLeDiff, Int.reduceLT, Int.reduceEq, Int.reduceLE, Int.reduceAdd, Int.reduceToNat, Int.reduceNeg, Int.cast_ofNat_Int, Nat.reduceLT, List.drop_succ_cons, List.take_succ_cons, List.singleton_append, Nat.zero_add, List.set_cons_zero, List.set_cons_succ, List.drop_nil, List.take_nil, Option.map_some, Option.map_none, Option.getD_some, Option.getD_none, Option.bind_some, List.cons_append, List.nil_append, List.append_nil, List.map_cons, List.map_nil, List.range_zero, List.take_zero, List.flatten_nil, List.filter_nil, List.length_nil, List.length_cons, List.drop_zero, List.not_mem_nil, List.mem_cons, Bool.true_eq_false, Bool.false_eq_true, Nat.reduceEqDiff, Nat.reduceAdd, List.getElem?_toArray, List.toList_toArray, List.getElem?_cons_zero, List.getElem?_cons_succ, decide_eq_true_eq, beq_self_eq_true, beq_true, beq_false, decide_true, decide_false, Bool.not_true, Bool.not_false, true_and, and_true, or_false, false_or, Bool.and_eq_true, reduceCtorEq, not_false_eq_true, Z1u], by simp -implicitDefEqProofs only [↓zD, zU, Nat.zero_mul, Nat.reduceMul, List.length_map, Tk.nm.injEq, Tk.cell.injEq, false_and, and_false, Nat.le_add_right, Nat.le_refl, ↓reduceIte, Bool.or_false, Bool.false_or, Bool.and_true, Bool.true_and, Bool.false_and, Bool.true_or, Bool.or_true, Option.isNone_none, Option.isNone_some, List.any_cons, List.any_nil, Bool.and_false, Nat.reduceBEq, Nat.reduceLeDiff, Int.reduceLT, Int.reduceEq, Int.reduceLE, Int.reduceAdd, Int.reduceToNat, Int.reduceNeg, Int.cast_ofNat_Int, Nat.reduceLT, List.drop_succ_cons, List.take_succ_cons, List.singleton_append, Nat.zero_add, List.set_cons_zero, List.set_cons_succ, List.drop_nil, List.take_nil, Option.map_some, Option.map_none, Option.getD_some, Option.getD_none, Option.bind_some, List.cons_append, List.nil_append, List.append_nil, List.map_cons, List.map_nil, List.range_zero, List.take_zero, List.flatten_nil, List.filter_nil, List.length_nil, List.length_cons, List.drop_zero, List.not_mem_nil, List.mem_cons, Bool.true_eq_false, Bool.false_eq_true, Nat.reduceEqDiff, Nat.reduceAdd, List.getElem?_toArray, List.toList_toArray, List.getElem?_cons_zero, List.getElem?_cons_succ, decide_eq_true_eq, beq_self_eq_true, beq_true, beq_false, decide_true, decide_false, Bool.not_true, Bool.not_false, true_and, and_true, or_false, false_or, Bool.and_eq_true, reduceCtorEq, not_false_eq_true, Z1u], by simp -implicitDefEqProofs only [↓zD, zU, Nat.zero_mul, Nat.reduceMul, List.length_map, Tk.nm.injEq, Tk.cell.injEq, false_and, and_false, Nat.le_add_right, Nat.le_refl, ↓reduceIte, Bool.or_false, Bool.false_or, Bool.and_true, Bool.true_and, Bool.false_and, Bool.true_or, Bool.or_true, Option.isNone_none, Option.isNone_some, List.any_cons, List.any_nil, Bool.and_false, Nat.reduceBEq, Nat.reduceLeDiff, Int.reduceLT, Int.reduceEq, Int.reduceLE, Int.reduceAdd, Int.reduceToNat, Int.reduceNeg, Int.cast_ofNat_Int, Nat.reduceLT, List.drop_succ_cons, List.take_succ_cons, List.singleton_append, Nat.zero_add, List.set_cons_zero, List.set_cons_succ, List.drop_nil, List.take_nil, Option.map_some, Option.map_none, Option.getD_some, Option.getD_none, Option.bind_some, List.cons_append, List.nil_append, List.append_nil, List.map_cons, List.map_nil, List.range_zero, List.take_zero, List.flatten_nil, List.filter_nil, List.length_nil, List.length_cons, List.drop_zero, List.not_mem_nil, List.mem_cons, Bool.true_eq_false, Bool.false_eq_true, Nat.reduceEqDiff, Nat.reduceAdd, List.getElem?_toArray, List.toList_toArray, List.getElem?_cons_zero, List.getElem?_cons_succ, decide_eq_true_eq, beq_self_eq_true, beq_true, beq_false, decide_true, decide_false, Bool.not_true, Bool.not_false, true_and, and_true, or_false, false_or, Bool.and_eq_true, reduceCtorEq, not_false_eq_true, Z1u], hW, by simp only [List.length_cons, List.length_nil]; omega⟩
theorem excases_k (l : List (List UInt8)) (K : An → Prop) (h : Lib.lens l + 13 * l.length + 10 ≤ SLIM) : CallK Tryd.prog pr 27 [.of (.sl (txC l) l.length)] [] K ↔ K ⟨false, [xstr (strL (caseF [40, 99, 97, 115, 101] l))], []⟩ := Gives.k (excases_call l h) K

section
variable (cols : List Cl) (op k n d a ty : Int) (s : ByteArray) (nm : List UInt8) (kc sub : C) (hc : ClsOk cols) (hd : I64 d) (ha : I64 a)
include hc hd ha
end
end Go.Proofs.YtfndkemgjhajnaaDoor
namespace Go.Proofs.YtfndkemgjhajnaaDoor
open Go Go.Pe Go.Tab

theorem bs_s1 (tk : Tk) (s : ByteArray) : buildSliceX tk 1 (Pe.elemOf (TT.of Tryd.prog) 37) (some [(0, [xstr s])]) = out (.own tk 9 1 [cstr s] 1) := bs_1 E37 rfl rfl tk _
theorem bs_s2 (tk : Tk) (a b : ByteArray) : buildSliceX tk 2 (Pe.elemOf (TT.of Tryd.prog) 37) (some [(0, [xstr a]), (1, [xstr b])]) = out (.own tk 9 1 [cstr a, cstr b] 2) := by
  rw [E37]
  rfl
theorem bs_s6 (tk : Tk) (a b c d e f : ByteArray) : buildSliceX tk 6 (Pe.elemOf (TT.of Tryd.prog) 37) (some [(0, [xstr a]), (1, [xstr b]), (2, [xstr c]), (3, [xstr d]), (4, [xstr e]), (5, [xstr f])]) = out (.own tk 9 1 [cstr a, cstr b, cstr c, cstr d, cstr e, cstr f] 6) := by
  rw [E37]
  rfl
section
variable (tk t t' : Tk) (l : List (List UInt8)) (s : List UInt8) {n : Nat} (h : n + 1 ≤ LIM)
include h
theorem ap_s1 : appendX (TT.of Tryd.prog) tk 37 37 (.own t 9 1 (txC l) n) (.own t' 9 1 [cstr (strL s)] 1) = some (.own tk 9 1 (txC (l ++ [s])) (n + 1), some t) := by
  have := ap_own E37 (by decide) (by decide) tk t (txC l) n (.own t' 9 1 [cstr (strL s)] 1) [cstr (strL s)] 1 rfl rfl h
  have e : txC (l ++ [s]) = txC l ++ [cstr (strL s)] := by simp [txC]
  rw [e]
  exact this
end
theorem ap_s1n (tk t' : Tk) (s : List UInt8) : appendX (TT.of Tryd.prog) tk 37 37 .nil (.own t' 9 1 [cstr (strL s)] 1) = out (.own tk 9 1 (txC [s]) 1) :=
  ap_nil E37 (by decide) (by decide) tk (.own t' 9 1 [cstr (strL s)] 1) [cstr (strL s)] 1 rfl rfl (by unfold LIM; omega)
theorem len_txt (u : Nat) (cs : List C) (n : Nat) : lenX (some (.slice u)) (.of (.sl cs n)) = out (xint n) := rfl
theorem join_le (l : List (List UInt8)) (sep : List UInt8) : (Lib.join l sep).length ≤ sep.length * l.length + Lib.lens l := by
  cases l with
  | nil => simp [Lib.join_nil]
  | cons x r =>
    rw [Lib.join_length, List.length_cons, Nat.mul_succ]
    omega
theorem pc_tx (l : List (List UInt8)) (k : Nat) (h : k < l.length) : pieceC (TT.of Tryd.prog) 9 ((txC l).drop k) = some (cstr (strL l[k])) := by
  have : (txC l).drop k = cstr (strL l[k]) :: (txC l).drop (k + 1) := by
    have hk : k < (txC l).length := by simpa [txC] using h
    rw [List.drop_eq_getElem_cons hk]
    simp [txC]
  rw [this, Q9]

end Go.Proofs.YtfndkemgjhajnaaDoor
namespace Go.Proofs.YtfndkemgjhajnaaDoor
open Go Go.Pe Go.Tab

theorem tmC_len (t : Tm) : (tmC t).length = 10 := by cases t; rfl
theorem tmsC_fl (l : List Tm) : tmsC l = fl tmC l := by rw [tmsC_eq]; rfl
theorem ia_tm (l : List Tm) (k : Nat) (h : k < l.length) : indexAddrX (TT.of Tryd.prog) 24 (.of (.sl (tmsC l) l.length)) (xint k) = out (.of (.ref (fl tmC (l.drop k)))) :=
  ia_fl (f := tmC) (z := 10) tmC_len E24 rfl (by decide) l _ (by rw [tmsC_fl]; rfl) k h
theorem pc_tm (l : List Tm) (k : Nat) (h : k < l.length) : pieceC (TT.of Tryd.prog) 46 (fl tmC (l.drop k)) = some (.agg (tmC l[k])) := by
  rw [fl_at tmC l k h]
  cases l[k]
  exact Q46 ..
theorem textsF_len' (cols : List Cl) (l : List Tm) : (textsF cols l).length = l.length := by rw [textsF_map, List.length_map]
theorem textsF_take (cols : List Cl) (l : List Tm) (k : Nat) (h : k < l.length) : textsF cols (l.take (k + 1)) = textsF cols (l.take k) ++ [textF cols l[k]] := by
  rw [textsF_map, textsF_map, List.take_succ_eq_append_getElem h, List.map_append]
  rfl
def txO (L : List (List UInt8)) : X := .own (.nm 0 0 0) 9 1 (txC L) L.length

end Go.Proofs.YtfndkemgjhajnaaDoor
namespace Go.Proofs.YtfndkemgjhajnaaDoor
open Go Go.Pe Go.Tab

/-- What is known of the texts of a term's kids. -/
structure LOk (L : List (List UInt8)) : Prop where
  n : L.length ≤ 1048576
  s : Lib.lens L + 16 * L.length ≤ 4398046511104
theorem LOk.of (cols : List Cl) (ks : List Tm) (hc : ClsOk cols) (hk : TmsOk ks) (hw : Tm.wts ks ≤ 1048576) : LOk (textsF cols ks) := by
  have h1 := textsF_len cols hc ks hk
  have h2 := wts_len ks
  exact ⟨by rw [textsF_len']; omega, by omega⟩
theorem rd_agg3 (a b c : C) : X.rd (.agg [.of a, .of b, .of c]) = some (.agg [a, b, c]) := rfl
theorem rd_agg10 (a b c d e f g h i j : C) : X.rd (.agg [.of a, .of b, .of c, .of d, .of e, .of f, .of g, .of h, .of i, .of j]) = some (.agg [a, b, c, d, e, f, g, h, i, j]) := rfl
theorem vaText_k (v : V) (K : An → Prop) (hv : VOk v) : CallK Tryd.prog pr 24 [.of (.agg [ci v.k, ci v.n, cstr v.s])] [] K ↔ K ⟨false, [xstr (textS v)], []⟩ := Gives.k (vaText_call v hv) K
section
variable (cols : List Cl) (op : Int) (v : V) (d a : Int) (nm : List UInt8) (ks : List Tm) (sub : C) (ty : Int)
  (hc : ClsOk cols) (hop : I64 op) (hv : VOk v) (hvs : v.s.size ≤ 1048576) (hd : I64 d) (ha : I64 a) (hnm : nm.length ≤ 1048576) (hL : LOk (textsF cols ks))
  (hk : G1 30 [.of (.sl (tmsC ks) ks.length), .of (colsC cols)] (txO (textsF cols ks)))
include hc hop hv hvs hd ha hnm hL hk
end
theorem opQ (cols : List Cl) (op : Int) (v : V) (d a : Int) (nm : List UInt8) (L : List (List UInt8)) (h1 : op ≠ 1) (h2 : op ≠ 2) (h3 : op ≠ 24) (h4 : op ≠ 26) (h5 : op ≠ 27)
    (ha : L.length = 1 → op ≠ 3 ∧ op ≠ 4 ∧ op ≠ 19 ∧ op ≠ 28) (hb : L.length = 2 → lookT signT op = none ∧ op ≠ 21 ∧ op ≠ 23) (hc : 3 ≤ L.length → op ≠ 21 ∧ op ≠ 23 ∧ (op = 22 → L.length ≠ 3)) :
    opText cols op v d a nm L = [63] := by
  unfold opText
  rw [if_neg h1, if_neg h2, if_neg h3, if_neg h4, if_neg h5]
  match L with
  | [] => rfl
  | [x] =>
    obtain ⟨a1, a2, a3, a4⟩ := ha rfl
    simp only [if_neg a1, if_neg a2, if_neg a3, if_neg a4]
  | [x, y] =>
    obtain ⟨a1, a2, a3⟩ := hb rfl
    simp only [a1, if_neg a2, if_neg a3]
  | x :: y :: z :: r =>
    obtain ⟨a1, a2, a3⟩ := hc (by simp)
    simp only [if_neg a1, if_neg a2]
    rw [if_neg]
    rintro ⟨h, rfl⟩
    exact a3 h rfl
theorem len1 {α : Type} {L : List α} (h : L.length = 1) : ∃ x, L = [x] := List.length_eq_one_iff.1 h
theorem len2 {α : Type} {L : List α} (h : L.length = 2) : ∃ x y, L = [x, y] := match L, h with
  | [x, y], _ => ⟨x, y, rfl⟩
theorem len3 {α : Type} {L : List α} (h : L.length = 3) : ∃ x y z, L = [x, y, z] := match L, h with
  | [x, y, z], _ => ⟨x, y, z, rfl⟩
theorem le2 {α : Type} {L : List α} (h : 2 ≤ L.length) : ∃ x y r, L = x :: y :: r := match L, h with
  | [], h => absurd h (by simp)
  | [x], h => absurd h (by simp)
  | x :: y :: r, _ => ⟨x, y, r, rfl⟩
end Go.Proofs.YtfndkemgjhajnaaDoor
namespace Go.Proofs.YtfndkemgjhajnaaDoor
open Go Go.Pe Go.Tab

section
variable (cols : List Cl) (op : Int) (v : V) (d a : Int) (nm : List UInt8) (ks : List Tm) (sub : C) (ty : Int)
  (hc : ClsOk cols) (hop : I64 op) (hv : VOk v) (hd : I64 d) (ha : I64 a) (hnm : nm.length ≤ 1048576) (hL : LOk (textsF cols ks))
  (ih : ∀ t ∈ ks, G1 14 [.of (.agg (tmC t)), .of (colsC cols)] (xstr (strL (textF cols t))))
include hc hop hv hd ha hnm hL ih
set_option linter.unusedSectionVars false in
set_option maxRecDepth 100000 in
set_option maxHeartbeats 1600000 in
theorem exterm_s1 (hA : op = 1 ∨ op = 2 ∨ op = 24 ∨ op = 26 ∨ op = 27 ∨ op = 3 ∨ op = 4 ∨ op = 19 ∨ op = 28 ∨ op = 21 ∨ op = 23 ∨ op = 22) : G1 14 [.of (.agg [ci op, ci v.k, ci v.n, cstr v.s, ci d, ci a, cstr (strL nm), .sl (tmsC ks) ks.length, sub, ci ty]), .of (colsC cols)] (xstr (strL (opText cols op v d a nm (textsF cols ks)))) := by
  have hkl : ks.length ≤ 1048576 := by have := hL.n; rw [textsF_len'] at this; exact this
  refine by_body rfl ok14 body14 ar14 rfl ?_
  simp -implicitDefEqProofs (maxSteps := 1000000) only [Tryd.f14, ↓zD, zU, Nat.zero_mul, Nat.reduceMul, List.length_map, Tk.nm.injEq, Tk.cell.injEq, false_and, and_false, Nat.le_add_right, Nat.le_refl, ↓reduceIte, Bool.or_false, Bool.false_or, Bool.and_true, Bool.true_and, Bool.false_and, Bool.true_or, Bool.or_true, Option.isNone_none, Option.isNone_some, List.any_cons, List.any_nil, Bool.and_false, Nat.reduceBEq, Nat.reduceLeDiff, Int.reduceLT, Int.reduceEq, Int.reduceLE, Int.reduceAdd, Int.reduceToNat, Int.reduceNeg, Int.cast_ofNat_Int, Nat.reduceLT, List.drop_succ_cons, List.take_succ_cons, List.singleton_append, Nat.zero_add, List.set_cons_zero, List.set_cons_succ, List.drop_nil, List.take_nil, Option.map_some, Option.map_none, Option.getD_some, Option.getD_none, Option.bind_some, List.cons_append, List.nil_append, List.append_nil, List.map_cons, List.map_nil, List.range_zero, List.take_zero, List.flatten_nil, List.filter_nil, List.length_nil, List.length_cons, List.drop_zero, List.not_mem_nil, List.mem_cons, Bool.true_eq_false, Bool.false_eq_true, Nat.reduceEqDiff, Nat.reduceAdd, List.getElem?_toArray, List.toList_toArray, List.getElem?_cons_zero, List.getElem?_cons_succ, decide_eq_true_eq, beq_self_eq_true, beq_true, beq_false, decide_true, decide_false, Bool.not_true, Bool.not_false, true_and, and_true, or_false, false_or, Bool.and_eq_true, reduceCtorEq, not_false_eq_true, cat_u, lit_strL, List.append_assoc, rv14, boxO, zeroX_at, T46, P46, T43, P43, T24, P24, fa46_0, fa46_1, fa46_2, fa46_3, fa46_4, fa46_5, P3, P9, U3, U9, U37, U24, U22, T9, T3, T37, len_txt, pc_t]
  refine WC_inv _ _ (fun m s => ∃ k : Nat, k ≤ ks.length ∧ m = ks.length - k ∧ s.fr 1 = .of (colsC cols) ∧ s.fr 2 = .ptr 0 0 ∧ s.fr 11 = .of (.sl (tmsC ks) ks.length) ∧ s.fr 12 = xint ks.length ∧ s.fr 13 = xint k ∧
    (∃ os, s.objs = .var 46 [xint op, xint v.k, xint v.n, xstr v.s, xint d, xint a, xstr (strL nm), .of (.sl (tmsC ks) ks.length), .of sub, xint ty] :: os) ∧
    ((k = 0 ∧ s.fr 5 = .nil) ∨ (0 < k ∧ ∃ t, Old s.clk t ∧ s.fr 5 = .own t 9 1 (txC (textsF cols (ks.take k))) k))) ?_ ks.length _ ?_
  · rintro m s ⟨k, hk1, rfl, h1, h2, h11, h12, h13, ⟨os, ho⟩, h5⟩
    have hw := wrapS k (by omega)
    by_cases c1 : k < ks.length
    · have d1 : decide ((k : Int) < (ks.length : Int)) = true := decide_eq_true (by omega)
      have hcall := fun K => Gives.k (ih ks[k] (List.getElem_mem c1)) K
      have hp := pc_tm ks k c1
      have htk := textsF_take cols ks k c1
      have hlen : k + 1 ≤ LIM := by unfold LIM; omega
      generalize ks[k] = x at hcall hp htk
      obtain ⟨op', v', d', a', nm', ks', sub', ty'⟩ := x
      simp only [tmC] at hcall hp
      rcases h5 with ⟨hk0, h5⟩ | ⟨hk0, t, hold, h5⟩
      · simp -implicitDefEqProofs (maxSteps := 1000000) only [↓zD, zU, Nat.zero_mul, Nat.reduceMul, List.length_map, Tk.nm.injEq, Tk.cell.injEq, false_and, and_false, Nat.le_add_right, Nat.le_refl, ↓reduceIte, Bool.or_false, Bool.false_or, Bool.and_true, Bool.true_and, Bool.false_and, Bool.true_or, Bool.or_true, Option.isNone_none, Option.isNone_some, List.any_cons, List.any_nil, Bool.and_false, Nat.reduceBEq, Nat.reduceLeDiff, Int.reduceLT, Int.reduceEq, Int.reduceLE, Int.reduceAdd, Int.reduceToNat, Int.reduceNeg, Int.cast_ofNat_Int, Nat.reduceLT, List.drop_succ_cons, List.take_succ_cons, List.singleton_append, Nat.zero_add, List.set_cons_zero, List.set_cons_succ, List.drop_nil, List.take_nil, Option.map_some, Option.map_none, Option.getD_some, Option.getD_none, Option.bind_some, List.cons_append, List.nil_append, List.append_nil, List.map_cons, List.map_nil, List.range_zero, List.take_zero, List.flatten_nil, List.filter_nil, List.length_nil, List.length_cons, List.drop_zero, List.not_mem_nil, List.mem_cons, Bool.true_eq_false, Bool.false_eq_true, Nat.reduceEqDiff, Nat.reduceAdd, List.getElem?_toArray, List.toList_toArray, List.getElem?_cons_zero, List.getElem?_cons_succ, decide_eq_true_eq, beq_self_eq_true, beq_true, beq_false, decide_true, decide_false, Bool.not_true, Bool.not_false, true_and, and_true, or_false, false_or, Bool.and_eq_true, reduceCtorEq, not_false_eq_true, cat_u, lit_strL, List.append_assoc, h1, h2, h5, h11, h12, h13, ho, boxO, zeroX_at, T46, P46, T43, P43, T24, P24, fa46_0, fa46_1, fa46_2, fa46_3, fa46_4, fa46_5, P3, P9, U3, U9, U37, U24, U22, T9, T3, T37, len_txt, pc_t, d1, hw, ia_tm ks k c1, hp, rd_agg10, hcall, pr_obj, obj14, call14, bs_s1, ap_s1n]
        refine ⟨_, ?_, k + 1, by omega, rfl, rfl, ⟨_, rfl⟩, by omega, .nm (s.clk + 2) 5 0, ?_, by subst hk0; rw [htk]; rfl⟩
        · omega
        · rw [Z68]; omega
      · simp -implicitDefEqProofs (maxSteps := 1000000) only [↓zD, zU, Nat.zero_mul, Nat.reduceMul, List.length_map, Tk.nm.injEq, Tk.cell.injEq, false_and, and_false, Nat.le_add_right, Nat.le_refl, ↓reduceIte, Bool.or_false, Bool.false_or, Bool.and_true, Bool.true_and, Bool.false_and, Bool.true_or, Bool.or_true, Option.isNone_none, Option.isNone_some, List.any_cons, List.any_nil, Bool.and_false, Nat.reduceBEq, Nat.reduceLeDiff, Int.reduceLT, Int.reduceEq, Int.reduceLE, Int.reduceAdd, Int.reduceToNat, Int.reduceNeg, Int.cast_ofNat_Int, Nat.reduceLT, List.drop_succ_cons, List.take_succ_cons, List.singleton_append, Nat.zero_add, List.set_cons_zero, List.set_cons_succ, List.drop_nil, List.take_nil, Option.map_some, Option.map_none, Option.getD_some, Option.getD_none, Option.bind_some, List.cons_append, List.nil_append, List.append_nil, List.map_cons, List.map_nil, List.range_zero, List.take_zero, List.flatten_nil, List.filter_nil, List.length_nil, List.length_cons, List.drop_zero, List.not_mem_nil, List.mem_cons, Bool.true_eq_false, Bool.false_eq_true, Nat.reduceEqDiff, Nat.reduceAdd, List.getElem?_toArray, List.toList_toArray, List.getElem?_cons_zero, List.getElem?_cons_succ, decide_eq_true_eq, beq_self_eq_true, beq_true, beq_false, decide_true, decide_false, Bool.not_true, Bool.not_false, true_and, and_true, or_false, false_or, Bool.and_eq_true, reduceCtorEq, not_false_eq_true, cat_u, lit_strL, List.append_assoc, h1, h2, h5, h11, h12, h13, ho, boxO, zeroX_at, T46, P46, T43, P43, T24, P24, fa46_0, fa46_1, fa46_2, fa46_3, fa46_4, fa46_5, P3, P9, U3, U9, U37, U24, U22, T9, T3, T37, len_txt, pc_t, d1, hw, ia_tm ks k c1, hp, rd_agg10, hcall, pr_obj, obj14, call14, bs_s1, ap_s1 _ _ _ _ _ hlen, old_add hold, old_new hold, hold]
        refine ⟨_, ?_, k + 1, by omega, rfl, rfl, ⟨_, rfl⟩, by omega, _, ?_, by rw [htk]⟩
        · omega
        · rw [Z68]; omega
    · have d0 : decide ((k : Int) < (ks.length : Int)) = false := decide_eq_false (by omega)
      rw [List.take_of_length_le (by omega)] at h5
      obtain rfl : k = ks.length := by omega
      rw [← textsF_len' cols ks] at h5
      have h5' : (textsF cols ks = [] ∧ s.fr 5 = .nil) ∨ ∃ t, Old s.clk t ∧ s.fr 5 = .own t 9 1 (txC (textsF cols ks)) (textsF cols ks).length := by
        rcases h5 with ⟨hk0, h5⟩ | ⟨_, h5⟩
        · exact .inl ⟨List.eq_nil_of_length_eq_zero hk0, h5⟩
        · exact .inr h5
      clear h5 ih
      generalize textsF cols ks = L at hL h5' ⊢
      obtain ⟨hn, hs⟩ := hL
      have hlk : ∀ os : List Ob, lookupX (TT.of Tryd.prog) (.var 46 [xint op, xint v.k, xint v.n, xstr v.s, xint d, xint a, xstr (strL nm), .of (.sl (tmsC ks) ks.length), .of sub, xint ty] :: (os ++ [.map (mapIS signT)])) 63 (.mp (os.length + 1)) (.of (.lit (.int .i64 op))) true = out (.tup (lookX (lookT signT op))) := fun os => look_IS (l := signT) (by simp) op
      have rv := rv14
      have l1 : ∀ n : Nat, decide ((2 : Int) ≤ ((n + 1 + 1 : Nat) : Int)) = true := fun n => decide_eq_true (by omega)
      rcases hA with rfl | rfl | rfl | rfl | rfl | rfl | rfl | rfl | rfl | rfl | rfl | rfl
      have e' : lookT signT 1 = none := rfl
      rw [show opText cols 1 v d a nm L = textL v by simp [opText]]
      have x1 := fun K => vaText_k v K hv
      have h5 : 77 ≤ 77 := Nat.le_refl 77
      have q1 : 77 ≤ 77 := Nat.le_refl 77
      rotate_left
      have e' : lookT signT 2 = none := rfl
      rw [show opText cols 2 v d a nm L = colL cols d a by simp [opText]]
      have x1 := fun K => Gives.k (excolumn_call cols 2 v.k v.n d a ty v.s nm (.sl (tmsC ks) ks.length) sub hc hd ha) K
      have h5 : 77 ≤ 77 := Nat.le_refl 77
      have q1 : 77 ≤ 77 := Nat.le_refl 77
      rotate_left
      have e' : lookT signT 24 = none := rfl
      have q1 := join_le L [44, 32]
      simp only [List.length_cons, List.length_nil] at q1
      rw [show opText cols 24 v d a nm L = nm ++ [40] ++ Lib.join L [44, 32] ++ [41] by simp [opText]]
      rcases h5' with ⟨rfl, h5⟩ | ⟨t, hold, h5⟩
      have x1 : ∀ K, CallK Tryd.prog pr 26 [.of (.sl [] 0), .of (cstr (strL [44, 32]))] [] K ↔ K ⟨false, [xstr (strL (Lib.join [] [44, 32]))], []⟩ := fun K => join_k [] [44, 32] K (by simp) (by simp [Lib.join_nil])
      rotate_left
      have x1 := fun K => join_k L [44, 32] K (by omega) (by omega)
      rotate_left
      have e' : lookT signT 26 = none := rfl
      rw [show opText cols 26 v d a nm L = [40, 113, 117, 101, 114, 121, 41] by simp [opText]]
      have x1 : 77 ≤ 77 := Nat.le_refl 77
      have h5 : 77 ≤ 77 := Nat.le_refl 77
      have q1 : 77 ≤ 77 := Nat.le_refl 77
      rotate_left
      have e' : lookT signT 27 = none := rfl
      rw [show opText cols 27 v d a nm L = [40, 101, 120, 105, 115, 116, 115, 32, 113, 117, 101, 114, 121, 41] by simp [opText]]
      have x1 : 77 ≤ 77 := Nat.le_refl 77
      have h5 : 77 ≤ 77 := Nat.le_refl 77
      have q1 : 77 ≤ 77 := Nat.le_refl 77
      rotate_left
      have e' : lookT signT 3 = none := rfl
      by_cases hl : L.length = 1
      obtain ⟨x, rfl⟩ := len1 hl
      obtain ⟨t, hold, h5⟩ := h5'.resolve_left (by simp)
      simp only [lens_cons, lens_nil, List.length_cons, List.length_nil, Nat.zero_add] at hs h5
      rw [show opText cols 3 v d a nm [x] = [40, 45, 32] ++ x ++ [41] by simp [opText]]
      have x1 : 77 ≤ 77 := Nat.le_refl 77
      have q1 : 77 ≤ 77 := Nat.le_refl 77
      rotate_left
      have q1 : decide ((L.length : Int) = 1) = false := decide_eq_false (by omega)
      have x1 : 77 ≤ 77 := Nat.le_refl 77
      rw [opQ cols 3 v d a nm L (by decide) (by decide) (by decide) (by decide) (by decide) (by intro h; omega) (fun _ => ⟨rfl, by decide, by decide⟩) (fun _ => ⟨by decide, by decide, fun h => by omega⟩)]
      rcases h5' with ⟨rfl, h5⟩ | ⟨t, hold, h5⟩
      rotate_left
      rotate_left
      have e' : lookT signT 4 = none := rfl
      by_cases hl : L.length = 1
      obtain ⟨x, rfl⟩ := len1 hl
      obtain ⟨t, hold, h5⟩ := h5'.resolve_left (by simp)
      simp only [lens_cons, lens_nil, List.length_cons, List.length_nil, Nat.zero_add] at hs h5
      rw [show opText cols 4 v d a nm [x] = [40, 110, 111, 116, 32] ++ x ++ [41] by simp [opText]]
      have x1 : 77 ≤ 77 := Nat.le_refl 77
      have q1 : 77 ≤ 77 := Nat.le_refl 77
      rotate_left
      have q1 : decide ((L.length : Int) = 1) = false := decide_eq_false (by omega)
      have x1 : 77 ≤ 77 := Nat.le_refl 77
      rw [opQ cols 4 v d a nm L (by decide) (by decide) (by decide) (by decide) (by decide) (by intro h; omega) (fun _ => ⟨rfl, by decide, by decide⟩) (fun _ => ⟨by decide, by decide, fun h => by omega⟩)]
      rcases h5' with ⟨rfl, h5⟩ | ⟨t, hold, h5⟩
      rotate_left
      rotate_left
      have e' : lookT signT 19 = none := rfl
      by_cases hl : L.length = 1
      obtain ⟨x, rfl⟩ := len1 hl
      obtain ⟨t, hold, h5⟩ := h5'.resolve_left (by simp)
      simp only [lens_cons, lens_nil, List.length_cons, List.length_nil, Nat.zero_add] at hs h5
      rw [show opText cols 19 v d a nm [x] = [40] ++ x ++ [32, 105, 115, 32, 110, 117, 108, 108, 41] by simp [opText]]
      have x1 : 77 ≤ 77 := Nat.le_refl 77
      have q1 : 77 ≤ 77 := Nat.le_refl 77
      rotate_left
      have q1 : decide ((L.length : Int) = 1) = false := decide_eq_false (by omega)
      have x1 : 77 ≤ 77 := Nat.le_refl 77
      rw [opQ cols 19 v d a nm L (by decide) (by decide) (by decide) (by decide) (by decide) (by intro h; omega) (fun _ => ⟨rfl, by decide, by decide⟩) (fun _ => ⟨by decide, by decide, fun h => by omega⟩)]
      rcases h5' with ⟨rfl, h5⟩ | ⟨t, hold, h5⟩
      rotate_left
      rotate_left
      have e' : lookT signT 28 = none := rfl
      by_cases hl : L.length = 1
      obtain ⟨x, rfl⟩ := len1 hl
      obtain ⟨t, hold, h5⟩ := h5'.resolve_left (by simp)
      simp only [lens_cons, lens_nil, List.length_cons, List.length_nil, Nat.zero_add] at hs h5
      rw [show opText cols 28 v d a nm [x] = [40] ++ x ++ [32, 105, 110, 32, 113, 117, 101, 114, 121, 41] by simp [opText]]
      have x1 : 77 ≤ 77 := Nat.le_refl 77
      have q1 : 77 ≤ 77 := Nat.le_refl 77
      rotate_left
      have q1 : decide ((L.length : Int) = 1) = false := decide_eq_false (by omega)
      have x1 : 77 ≤ 77 := Nat.le_refl 77
      rw [opQ cols 28 v d a nm L (by decide) (by decide) (by decide) (by decide) (by decide) (by intro h; omega) (fun _ => ⟨rfl, by decide, by decide⟩) (fun _ => ⟨by decide, by decide, fun h => by omega⟩)]
      rcases h5' with ⟨rfl, h5⟩ | ⟨t, hold, h5⟩
      rotate_left
      rotate_left
      have e' : lookT signT 21 = none := rfl
      by_cases hl : 2 ≤ L.length
      obtain ⟨x, y, r, rfl⟩ := le2 hl
      obtain ⟨t, hold, h5⟩ := h5'.resolve_left (by simp)
      simp only [lens_cons, List.length_cons] at hs h5
      have q1 := join_le (y :: r) [44, 32]
      simp only [lens_cons, List.length_cons, List.length_nil] at q1
      rw [show opText cols 21 v d a nm (x :: y :: r) = [40] ++ x ++ [32, 105, 110, 32, 40] ++ Lib.join (y :: r) [44, 32] ++ [41, 41] by cases r <;> simp [opText, lookT, signT]]
      have x1 : ∀ K, CallK Tryd.prog pr 26 [.of (.sl (txC (y :: r)) (r.length + 1)), .of (cstr (strL [44, 32]))] [] K ↔ K ⟨false, [xstr (strL (Lib.join (y :: r) [44, 32]))], []⟩ := fun K => join_k (y :: r) [44, 32] K (by simp only [List.length_cons]; omega) (by omega)
      rotate_left
      have q1 : decide (2 ≤ (L.length : Int)) = false := decide_eq_false (by omega)
      have x1 : 77 ≤ 77 := Nat.le_refl 77
      rw [opQ cols 21 v d a nm L (by decide) (by decide) (by decide) (by decide) (by decide) (fun _ => by decide) (fun h => by omega) (fun h => by omega)]
      rcases h5' with ⟨rfl, h5⟩ | ⟨t, hold, h5⟩
      rotate_left
      rotate_left
      have e' : lookT signT 23 = none := rfl
      by_cases hl : 2 ≤ L.length
      obtain ⟨x, y, r, rfl⟩ := le2 hl
      obtain ⟨t, hold, h5⟩ := h5'.resolve_left (by simp)
      simp only [lens_cons, List.length_cons] at hs h5
      rw [show opText cols 23 v d a nm (x :: y :: r) = caseF [40, 99, 97, 115, 101] (x :: y :: r) by cases r <;> simp [opText, lookT, signT]]
      have x1 : ∀ K, CallK Tryd.prog pr 27 [.of (.sl (txC (x :: y :: r)) (r.length + 1 + 1))] [] K ↔ K ⟨false, [xstr (strL (caseF [40, 99, 97, 115, 101] (x :: y :: r)))], []⟩ := fun K => excases_k (x :: y :: r) K (by simp only [lens_cons, List.length_cons, SLIM]; omega)
      have q1 : 77 ≤ 77 := Nat.le_refl 77
      rotate_left
      have q1 : decide (2 ≤ (L.length : Int)) = false := decide_eq_false (by omega)
      have x1 : 77 ≤ 77 := Nat.le_refl 77
      rw [opQ cols 23 v d a nm L (by decide) (by decide) (by decide) (by decide) (by decide) (fun _ => by decide) (fun h => by omega) (fun h => by omega)]
      rcases h5' with ⟨rfl, h5⟩ | ⟨t, hold, h5⟩
      rotate_left
      rotate_left
      have e' : lookT signT 22 = none := rfl
      by_cases hl : L.length = 3
      obtain ⟨x, y, z, rfl⟩ := len3 hl
      obtain ⟨t, hold, h5⟩ := h5'.resolve_left (by simp)
      simp only [lens_cons, lens_nil, List.length_cons, List.length_nil, Nat.zero_add, Nat.reduceAdd] at hs h5
      rw [show opText cols 22 v d a nm [x, y, z] = [40] ++ x ++ [32, 98, 101, 116, 119, 101, 101, 110, 32] ++ y ++ [32, 97, 110, 100, 32] ++ z ++ [41] by simp [opText]]
      have x1 : 77 ≤ 77 := Nat.le_refl 77
      have q1 : 77 ≤ 77 := Nat.le_refl 77
      rotate_left
      have q1 : decide ((L.length : Int) = 3) = false := decide_eq_false (by omega)
      have x1 : 77 ≤ 77 := Nat.le_refl 77
      rw [opQ cols 22 v d a nm L (by decide) (by decide) (by decide) (by decide) (by decide) (fun _ => by decide) (fun _ => ⟨rfl, by decide, by decide⟩) (fun _ => ⟨by decide, by decide, fun _ => hl⟩)]
      rcases h5' with ⟨rfl, h5⟩ | ⟨t, hold, h5⟩
      rotate_left
      rotate_left
      all_goals (simp -implicitDefEqProofs (maxSteps := 1000000) only [↓zD, zU, Nat.zero_mul, Nat.reduceMul, List.length_map, Tk.nm.injEq, Tk.cell.injEq, false_and, and_false, Nat.le_add_right, Nat.le_refl, ↓reduceIte, Bool.or_false, Bool.false_or, Bool.and_true, Bool.true_and, Bool.false_and, Bool.true_or, Bool.or_true, Option.isNone_none, Option.isNone_some, List.any_cons, List.any_nil, Bool.and_false, Nat.reduceBEq, Nat.reduceLeDiff, Int.reduceLT, Int.reduceEq, Int.reduceLE, Int.reduceAdd, Int.reduceToNat, Int.reduceNeg, Int.cast_ofNat_Int, Nat.reduceLT, List.drop_succ_cons, List.take_succ_cons, List.singleton_append, Nat.zero_add, List.set_cons_zero, List.set_cons_succ, List.drop_nil, List.take_nil, Option.map_some, Option.map_none, Option.getD_some, Option.getD_none, Option.bind_some, List.cons_append, List.nil_append, List.append_nil, List.map_cons, List.map_nil, List.range_zero, List.take_zero, List.flatten_nil, List.filter_nil, List.length_nil, List.length_cons, List.drop_zero, List.not_mem_nil, List.mem_cons, Bool.true_eq_false, Bool.false_eq_true, Nat.reduceEqDiff, Nat.reduceAdd, List.getElem?_toArray, List.toList_toArray, List.getElem?_cons_zero, List.getElem?_cons_succ, decide_eq_true_eq, beq_self_eq_true, beq_true, beq_false, decide_true, decide_false, Bool.not_true, Bool.not_false, true_and, and_true, or_false, false_or, Bool.and_eq_true, reduceCtorEq, not_false_eq_true, cat_u, lit_strL, List.append_assoc, h1, h2, h11, h12, h13, ho, boxO, zeroX_at, T46, P46, T43, P43, T24, P24, fa46_0, fa46_1, fa46_2, fa46_3, fa46_4, fa46_5, P3, P9, U3, U9, U37, U24, U22, T9, T3, T37, len_txt, pc_t, d0, WS_mk signs_call call23 obj23, obj23, hlk, lookX, ia_o0, ia_o1, ia_o2, sl_o1, pr_obj, rv, Tryd.f14, e', h5, q1, x1, l1, rd_agg3, rd_agg10, strL_textL, obj24, call24, obj25, call25, obj26, call26, obj27, call27] <;> (and_intros <;> first | ((try simp only [List.length_append, List.length_cons, List.length_nil, SLIM]); omega) | rfl))
  · refine ⟨0, by omega, by omega, ?_, ?_, ?_, ?_, ?_, ?_, .inl ⟨rfl, ?_⟩⟩ <;> (simp -implicitDefEqProofs (maxSteps := 1000000) only [↓zD, zU, Nat.zero_mul, Nat.reduceMul, List.length_map, Tk.nm.injEq, Tk.cell.injEq, false_and, and_false, Nat.le_add_right, Nat.le_refl, ↓reduceIte, Bool.or_false, Bool.false_or, Bool.and_true, Bool.true_and, Bool.false_and, Bool.true_or, Bool.or_true, Option.isNone_none, Option.isNone_some, List.any_cons, List.any_nil, Bool.and_false, Nat.reduceBEq, Nat.reduceLeDiff, Int.reduceLT, Int.reduceEq, Int.reduceLE, Int.reduceAdd, Int.reduceToNat, Int.reduceNeg, Int.cast_ofNat_Int, Nat.reduceLT, List.drop_succ_cons, List.take_succ_cons, List.singleton_append, Nat.zero_add, List.set_cons_zero, List.set_cons_succ, List.drop_nil, List.take_nil, Option.map_some, Option.map_none, Option.getD_some, Option.getD_none, Option.bind_some, List.cons_append, List.nil_append, List.append_nil, List.map_cons, List.map_nil, List.range_zero, List.take_zero, List.flatten_nil, List.filter_nil, List.length_nil, List.length_cons, List.drop_zero, List.not_mem_nil, List.mem_cons, Bool.true_eq_false, Bool.false_eq_true, Nat.reduceEqDiff, Nat.reduceAdd, List.getElem?_toArray, List.toList_toArray, List.getElem?_cons_zero, List.getElem?_cons_succ, decide_eq_true_eq, beq_self_eq_true, beq_true, beq_false, decide_true, decide_false, Bool.not_true, Bool.not_false, true_and, and_true, or_false, false_or, Bool.and_eq_true, reduceCtorEq, not_false_eq_true, cat_u, lit_strL, List.append_assoc, boxO, zeroX_at, T46, P46, T43, P43, T24, P24, fa46_0, fa46_1, fa46_2, fa46_3, fa46_4, fa46_5, P3, P9, U3, U9, U37, U24, U22, T9, T3, T37, len_txt, pc_t] <;> (try rfl) <;> exact ⟨_, rfl⟩)
end
end Go.Proofs.YtfndkemgjhajnaaDoor
namespace Go.Proofs.YtfndkemgjhajnaaDoor
open Go Go.Pe Go.Tab

section
variable (cols : List Cl) (op : Int) (v : V) (d a : Int) (nm : List UInt8) (ks : List Tm) (sub : C) (ty : Int)
  (hc : ClsOk cols) (hop : I64 op) (hv : VOk v) (hd : I64 d) (ha : I64 a) (hnm : nm.length ≤ 1048576) (hL : LOk (textsF cols ks))
  (ih : ∀ t ∈ ks, G1 14 [.of (.agg (tmC t)), .of (colsC cols)] (xstr (strL (textF cols t))))
include hc hop hv hd ha hnm hL ih
set_option linter.unusedSectionVars false in
set_option maxRecDepth 100000 in
set_option maxHeartbeats 1600000 in
theorem exterm_s2 (hA : ¬ (op = 1 ∨ op = 2 ∨ op = 24 ∨ op = 26 ∨ op = 27 ∨ op = 3 ∨ op = 4 ∨ op = 19 ∨ op = 28 ∨ op = 21 ∨ op = 23 ∨ op = 22)) : G1 14 [.of (.agg [ci op, ci v.k, ci v.n, cstr v.s, ci d, ci a, cstr (strL nm), .sl (tmsC ks) ks.length, sub, ci ty]), .of (colsC cols)] (xstr (strL (opText cols op v d a nm (textsF cols ks)))) := by
  have hkl : ks.length ≤ 1048576 := by have := hL.n; rw [textsF_len'] at this; exact this
  refine by_body rfl ok14 body14 ar14 rfl ?_
  simp -implicitDefEqProofs (maxSteps := 1000000) only [Tryd.f14, ↓zD, zU, Nat.zero_mul, Nat.reduceMul, List.length_map, Tk.nm.injEq, Tk.cell.injEq, false_and, and_false, Nat.le_add_right, Nat.le_refl, ↓reduceIte, Bool.or_false, Bool.false_or, Bool.and_true, Bool.true_and, Bool.false_and, Bool.true_or, Bool.or_true, Option.isNone_none, Option.isNone_some, List.any_cons, List.any_nil, Bool.and_false, Nat.reduceBEq, Nat.reduceLeDiff, Int.reduceLT, Int.reduceEq, Int.reduceLE, Int.reduceAdd, Int.reduceToNat, Int.reduceNeg, Int.cast_ofNat_Int, Nat.reduceLT, List.drop_succ_cons, List.take_succ_cons, List.singleton_append, Nat.zero_add, List.set_cons_zero, List.set_cons_succ, List.drop_nil, List.take_nil, Option.map_some, Option.map_none, Option.getD_some, Option.getD_none, Option.bind_some, List.cons_append, List.nil_append, List.append_nil, List.map_cons, List.map_nil, List.range_zero, List.take_zero, List.flatten_nil, List.filter_nil, List.length_nil, List.length_cons, List.drop_zero, List.not_mem_nil, List.mem_cons, Bool.true_eq_false, Bool.false_eq_true, Nat.reduceEqDiff, Nat.reduceAdd, List.getElem?_toArray, List.toList_toArray, List.getElem?_cons_zero, List.getElem?_cons_succ, decide_eq_true_eq, beq_self_eq_true, beq_true, beq_false, decide_true, decide_false, Bool.not_true, Bool.not_false, true_and, and_true, or_false, false_or, Bool.and_eq_true, reduceCtorEq, not_false_eq_true, cat_u, lit_strL, List.append_assoc, rv14, boxO, zeroX_at, T46, P46, T43, P43, T24, P24, fa46_0, fa46_1, fa46_2, fa46_3, fa46_4, fa46_5, P3, P9, U3, U9, U37, U24, U22, T9, T3, T37, len_txt, pc_t]
  refine WC_inv _ _ (fun m s => ∃ k : Nat, k ≤ ks.length ∧ m = ks.length - k ∧ s.fr 1 = .of (colsC cols) ∧ s.fr 2 = .ptr 0 0 ∧ s.fr 11 = .of (.sl (tmsC ks) ks.length) ∧ s.fr 12 = xint ks.length ∧ s.fr 13 = xint k ∧
    (∃ os, s.objs = .var 46 [xint op, xint v.k, xint v.n, xstr v.s, xint d, xint a, xstr (strL nm), .of (.sl (tmsC ks) ks.length), .of sub, xint ty] :: os) ∧
    ((k = 0 ∧ s.fr 5 = .nil) ∨ (0 < k ∧ ∃ t, Old s.clk t ∧ s.fr 5 = .own t 9 1 (txC (textsF cols (ks.take k))) k))) ?_ ks.length _ ?_
  · rintro m s ⟨k, hk1, rfl, h1, h2, h11, h12, h13, ⟨os, ho⟩, h5⟩
    have hw := wrapS k (by omega)
    by_cases c1 : k < ks.length
    · have d1 : decide ((k : Int) < (ks.length : Int)) = true := decide_eq_true (by omega)
      have hcall := fun K => Gives.k (ih ks[k] (List.getElem_mem c1)) K
      have hp := pc_tm ks k c1
      have htk := textsF_take cols ks k c1
      have hlen : k + 1 ≤ LIM := by unfold LIM; omega
      generalize ks[k] = x at hcall hp htk
      obtain ⟨op', v', d', a', nm', ks', sub', ty'⟩ := x
      simp only [tmC] at hcall hp
      rcases h5 with ⟨hk0, h5⟩ | ⟨hk0, t, hold, h5⟩
      · simp -implicitDefEqProofs (maxSteps := 1000000) only [↓zD, zU, Nat.zero_mul, Nat.reduceMul, List.length_map, Tk.nm.injEq, Tk.cell.injEq, false_and, and_false, Nat.le_add_right, Nat.le_refl, ↓reduceIte, Bool.or_false, Bool.false_or, Bool.and_true, Bool.true_and, Bool.false_and, Bool.true_or, Bool.or_true, Option.isNone_none, Option.isNone_some, List.any_cons, List.any_nil, Bool.and_false, Nat.reduceBEq, Nat.reduceLeDiff, Int.reduceLT, Int.reduceEq, Int.reduceLE, Int.reduceAdd, Int.reduceToNat, Int.reduceNeg, Int.cast_ofNat_Int, Nat.reduceLT, List.drop_succ_cons, List.take_succ_cons, List.singleton_append, Nat.zero_add, List.set_cons_zero, List.set_cons_succ, List.drop_nil, List.take_nil, Option.map_some, Option.map_none, Option.getD_some, Option.getD_none, Option.bind_some, List.cons_append, List.nil_append, List.append_nil, List.map_cons, List.map_nil, List.range_zero, List.take_zero, List.flatten_nil, List.filter_nil, List.length_nil, List.length_cons, List.drop_zero, List.not_mem_nil, List.mem_cons, Bool.true_eq_false, Bool.false_eq_true, Nat.reduceEqDiff, Nat.reduceAdd, List.getElem?_toArray, List.toList_toArray, List.getElem?_cons_zero, List.getElem?_cons_succ, decide_eq_true_eq, beq_self_eq_true, beq_true, beq_false, decide_true, decide_false, Bool.not_true, Bool.not_false, true_and, and_true, or_false, false_or, Bool.and_eq_true, reduceCtorEq, not_false_eq_true, cat_u, lit_strL, List.append_assoc, h1, h2, h5, h11, h12, h13, ho, boxO, zeroX_at, T46, P46, T43, P43, T24, P24, fa46_0, fa46_1, fa46_2, fa46_3, fa46_4, fa46_5, P3, P9, U3, U9, U37, U24, U22, T9, T3, T37, len_txt, pc_t, d1, hw, ia_tm ks k c1, hp, rd_agg10, hcall, pr_obj, obj14, call14, bs_s1, ap_s1n]
        refine ⟨_, ?_, k + 1, by omega, rfl, rfl, ⟨_, rfl⟩, by omega, .nm (s.clk + 2) 5 0, ?_, by subst hk0; rw [htk]; rfl⟩
        · omega
        · rw [Z68]; omega
      · simp -implicitDefEqProofs (maxSteps := 1000000) only [↓zD, zU, Nat.zero_mul, Nat.reduceMul, List.length_map, Tk.nm.injEq, Tk.cell.injEq, false_and, and_false, Nat.le_add_right, Nat.le_refl, ↓reduceIte, Bool.or_false, Bool.false_or, Bool.and_true, Bool.true_and, Bool.false_and, Bool.true_or, Bool.or_true, Option.isNone_none, Option.isNone_some, List.any_cons, List.any_nil, Bool.and_false, Nat.reduceBEq, Nat.reduceLeDiff, Int.reduceLT, Int.reduceEq, Int.reduceLE, Int.reduceAdd, Int.reduceToNat, Int.reduceNeg, Int.cast_ofNat_Int, Nat.reduceLT, List.drop_succ_cons, List.take_succ_cons, List.singleton_append, Nat.zero_add, List.set_cons_zero, List.set_cons_succ, List.drop_nil, List.take_nil, Option.map_some, Option.map_none, Option.getD_some, Option.getD_none, Option.bind_some, List.cons_append, List.nil_append, List.append_nil, List.map_cons, List.map_nil, List.range_zero, List.take_zero, List.flatten_nil, List.filter_nil, List.length_nil, List.length_cons, List.drop_zero, List.not_mem_nil, List.mem_cons, Bool.true_eq_false, Bool.false_eq_true, Nat.reduceEqDiff, Nat.reduceAdd, List.getElem?_toArray, List.toList_toArray, List.getElem?_cons_zero, List.getElem?_cons_succ, decide_eq_true_eq, beq_self_eq_true, beq_true, beq_false, decide_true, decide_false, Bool.not_true, Bool.not_false, true_and, and_true, or_false, false_or, Bool.and_eq_true, reduceCtorEq, not_false_eq_true, cat_u, lit_strL, List.append_assoc, h1, h2, h5, h11, h12, h13, ho, boxO, zeroX_at, T46, P46, T43, P43, T24, P24, fa46_0, fa46_1, fa46_2, fa46_3, fa46_4, fa46_5, P3, P9, U3, U9, U37, U24, U22, T9, T3, T37, len_txt, pc_t, d1, hw, ia_tm ks k c1, hp, rd_agg10, hcall, pr_obj, obj14, call14, bs_s1, ap_s1 _ _ _ _ _ hlen, old_add hold, old_new hold, hold]
        refine ⟨_, ?_, k + 1, by omega, rfl, rfl, ⟨_, rfl⟩, by omega, _, ?_, by rw [htk]⟩
        · omega
        · rw [Z68]; omega
    · have d0 : decide ((k : Int) < (ks.length : Int)) = false := decide_eq_false (by omega)
      rw [List.take_of_length_le (by omega)] at h5
      obtain rfl : k = ks.length := by omega
      rw [← textsF_len' cols ks] at h5
      have h5' : (textsF cols ks = [] ∧ s.fr 5 = .nil) ∨ ∃ t, Old s.clk t ∧ s.fr 5 = .own t 9 1 (txC (textsF cols ks)) (textsF cols ks).length := by
        rcases h5 with ⟨hk0, h5⟩ | ⟨_, h5⟩
        · exact .inl ⟨List.eq_nil_of_length_eq_zero hk0, h5⟩
        · exact .inr h5
      clear h5 ih
      generalize textsF cols ks = L at hL h5' ⊢
      obtain ⟨hn, hs⟩ := hL
      have hlk : ∀ os : List Ob, lookupX (TT.of Tryd.prog) (.var 46 [xint op, xint v.k, xint v.n, xstr v.s, xint d, xint a, xstr (strL nm), .of (.sl (tmsC ks) ks.length), .of sub, xint ty] :: (os ++ [.map (mapIS signT)])) 63 (.mp (os.length + 1)) (.of (.lit (.int .i64 op))) true = out (.tup (lookX (lookT signT op))) := fun os => look_IS (l := signT) (by simp) op
      have rv := rv14
      have l1 : ∀ n : Nat, decide ((2 : Int) ≤ ((n + 1 + 1 : Nat) : Int)) = true := fun n => decide_eq_true (by omega)
      have f1 : decide (op = 1) = false := decide_eq_false (fun e => hA (by subst e; simp))
      have f2 : decide (op = 2) = false := decide_eq_false (fun e => hA (by subst e; simp))
      have f24 : decide (op = 24) = false := decide_eq_false (fun e => hA (by subst e; simp))
      have f26 : decide (op = 26) = false := decide_eq_false (fun e => hA (by subst e; simp))
      have f27 : decide (op = 27) = false := decide_eq_false (fun e => hA (by subst e; simp))
      have f3 : decide (op = 3) = false := decide_eq_false (fun e => hA (by subst e; simp))
      have f4 : decide (op = 4) = false := decide_eq_false (fun e => hA (by subst e; simp))
      have f19 : decide (op = 19) = false := decide_eq_false (fun e => hA (by subst e; simp))
      have f28 : decide (op = 28) = false := decide_eq_false (fun e => hA (by subst e; simp))
      have f21 : decide (op = 21) = false := decide_eq_false (fun e => hA (by subst e; simp))
      have f23 : decide (op = 23) = false := decide_eq_false (fun e => hA (by subst e; simp))
      have f22 : decide (op = 22) = false := decide_eq_false (fun e => hA (by subst e; simp))
      have e1 : op ≠ 1 := of_decide_eq_false f1
      have e2 : op ≠ 2 := of_decide_eq_false f2
      have e24 : op ≠ 24 := of_decide_eq_false f24
      have e26 : op ≠ 26 := of_decide_eq_false f26
      have e27 : op ≠ 27 := of_decide_eq_false f27
      have e3 : op ≠ 3 := of_decide_eq_false f3
      have e4 : op ≠ 4 := of_decide_eq_false f4
      have e19 : op ≠ 19 := of_decide_eq_false f19
      have e28 : op ≠ 28 := of_decide_eq_false f28
      have e21 : op ≠ 21 := of_decide_eq_false f21
      have e23 : op ≠ 23 := of_decide_eq_false f23
      have e22 : op ≠ 22 := of_decide_eq_false f22
      rcases e' : lookT signT op with _ | sg
      rw [opQ cols op v d a nm L e1 e2 e24 e26 e27 (fun _ => ⟨e3, e4, e19, e28⟩) (fun _ => ⟨e', e21, e23⟩) (fun _ => ⟨e21, e23, fun h => absurd h e22⟩)]
      have x1 : 77 ≤ 77 := Nat.le_refl 77
      have h5 : 77 ≤ 77 := Nat.le_refl 77
      have q1 : 77 ≤ 77 := Nat.le_refl 77
      rotate_left
      have hsg := sign_len e'
      have x1 : 77 ≤ 77 := Nat.le_refl 77
      by_cases hl : L.length = 2
      obtain ⟨x, y, rfl⟩ := len2 hl
      obtain ⟨t, hold, h5⟩ := h5'.resolve_left (by simp)
      simp only [lens_cons, lens_nil, List.length_cons, List.length_nil, Nat.zero_add, Nat.reduceAdd] at hs h5
      rw [show opText cols op v d a nm [x, y] = [40] ++ x ++ [32] ++ sg ++ [32] ++ y ++ [41] by unfold opText; rw [if_neg e1, if_neg e2, if_neg e24, if_neg e26, if_neg e27]; simp only [e']]
      have q1 : 77 ≤ 77 := Nat.le_refl 77
      rotate_left
      have q1 : decide ((L.length : Int) = 2) = false := decide_eq_false (by omega)
      rw [opQ cols op v d a nm L e1 e2 e24 e26 e27 (fun _ => ⟨e3, e4, e19, e28⟩) (fun h => absurd h hl) (fun _ => ⟨e21, e23, fun h => absurd h e22⟩)]
      rcases h5' with ⟨rfl, h5⟩ | ⟨t, hold, h5⟩
      all_goals (simp -implicitDefEqProofs (maxSteps := 1000000) only [↓zD, zU, Nat.zero_mul, Nat.reduceMul, List.length_map, Tk.nm.injEq, Tk.cell.injEq, false_and, and_false, Nat.le_add_right, Nat.le_refl, ↓reduceIte, Bool.or_false, Bool.false_or, Bool.and_true, Bool.true_and, Bool.false_and, Bool.true_or, Bool.or_true, Option.isNone_none, Option.isNone_some, List.any_cons, List.any_nil, Bool.and_false, Nat.reduceBEq, Nat.reduceLeDiff, Int.reduceLT, Int.reduceEq, Int.reduceLE, Int.reduceAdd, Int.reduceToNat, Int.reduceNeg, Int.cast_ofNat_Int, Nat.reduceLT, List.drop_succ_cons, List.take_succ_cons, List.singleton_append, Nat.zero_add, List.set_cons_zero, List.set_cons_succ, List.drop_nil, List.take_nil, Option.map_some, Option.map_none, Option.getD_some, Option.getD_none, Option.bind_some, List.cons_append, List.nil_append, List.append_nil, List.map_cons, List.map_nil, List.range_zero, List.take_zero, List.flatten_nil, List.filter_nil, List.length_nil, List.length_cons, List.drop_zero, List.not_mem_nil, List.mem_cons, Bool.true_eq_false, Bool.false_eq_true, Nat.reduceEqDiff, Nat.reduceAdd, List.getElem?_toArray, List.toList_toArray, List.getElem?_cons_zero, List.getElem?_cons_succ, decide_eq_true_eq, beq_self_eq_true, beq_true, beq_false, decide_true, decide_false, Bool.not_true, Bool.not_false, true_and, and_true, or_false, false_or, Bool.and_eq_true, reduceCtorEq, not_false_eq_true, cat_u, lit_strL, List.append_assoc, h1, h2, h11, h12, h13, ho, boxO, zeroX_at, T46, P46, T43, P43, T24, P24, fa46_0, fa46_1, fa46_2, fa46_3, fa46_4, fa46_5, P3, P9, U3, U9, U37, U24, U22, T9, T3, T37, len_txt, pc_t, d0, WS_mk signs_call call23 obj23, obj23, hlk, lookX, ia_o0, ia_o1, ia_o2, sl_o1, pr_obj, rv, Tryd.f14, e', h5, q1, x1, l1, rd_agg3, rd_agg10, strL_textL, obj24, call24, obj25, call25, obj26, call26, obj27, call27, f1, f2, f24, f26, f27, f3, f4, f19, f28, f21, f23, f22] <;> (and_intros <;> first | ((try simp only [List.length_append, List.length_cons, List.length_nil, SLIM]); omega) | rfl))
  · refine ⟨0, by omega, by omega, ?_, ?_, ?_, ?_, ?_, ?_, .inl ⟨rfl, ?_⟩⟩ <;> (simp -implicitDefEqProofs (maxSteps := 1000000) only [↓zD, zU, Nat.zero_mul, Nat.reduceMul, List.length_map, Tk.nm.injEq, Tk.cell.injEq, false_and, and_false, Nat.le_add_right, Nat.le_refl, ↓reduceIte, Bool.or_false, Bool.false_or, Bool.and_true, Bool.true_and, Bool.false_and, Bool.true_or, Bool.or_true, Option.isNone_none, Option.isNone_some, List.any_cons, List.any_nil, Bool.and_false, Nat.reduceBEq, Nat.reduceLeDiff, Int.reduceLT, Int.reduceEq, Int.reduceLE, Int.reduceAdd, Int.reduceToNat, Int.reduceNeg, Int.cast_ofNat_Int, Nat.reduceLT, List.drop_succ_cons, List.take_succ_cons, List.singleton_append, Nat.zero_add, List.set_cons_zero, List.set_cons_succ, List.drop_nil, List.take_nil, Option.map_some, Option.map_none, Option.getD_some, Option.getD_none, Option.bind_some, List.cons_append, List.nil_append, List.append_nil, List.map_cons, List.map_nil, List.range_zero, List.take_zero, List.flatten_nil, List.filter_nil, List.length_nil, List.length_cons, List.drop_zero, List.not_mem_nil, List.mem_cons, Bool.true_eq_false, Bool.false_eq_true, Nat.reduceEqDiff, Nat.reduceAdd, List.getElem?_toArray, List.toList_toArray, List.getElem?_cons_zero, List.getElem?_cons_succ, decide_eq_true_eq, beq_self_eq_true, beq_true, beq_false, decide_true, decide_false, Bool.not_true, Bool.not_false, true_and, and_true, or_false, false_or, Bool.and_eq_true, reduceCtorEq, not_false_eq_true, cat_u, lit_strL, List.append_assoc, boxO, zeroX_at, T46, P46, T43, P43, T24, P24, fa46_0, fa46_1, fa46_2, fa46_3, fa46_4, fa46_5, P3, P9, U3, U9, U37, U24, U22, T9, T3, T37, len_txt, pc_t] <;> (try rfl) <;> exact ⟨_, rfl⟩)
end
end Go.Proofs.YtfndkemgjhajnaaDoor
namespace Go.Proofs.YtfndkemgjhajnaaDoor
open Go Go.Pe Go.Tab

section
variable (cols : List Cl) (op : Int) (v : V) (d a : Int) (nm : List UInt8) (ks : List Tm) (sub : C) (ty : Int)
  (hc : ClsOk cols) (hop : I64 op) (hv : VOk v) (hd : I64 d) (ha : I64 a) (hnm : nm.length ≤ 1048576) (hL : LOk (textsF cols ks))
  (ih : ∀ t ∈ ks, G1 14 [.of (.agg (tmC t)), .of (colsC cols)] (xstr (strL (textF cols t))))
include hc hop hv hd ha hnm hL ih
theorem exterm_step : G1 14 [.of (.agg [ci op, ci v.k, ci v.n, cstr v.s, ci d, ci a, cstr (strL nm), .sl (tmsC ks) ks.length, sub, ci ty]), .of (colsC cols)] (xstr (strL (opText cols op v d a nm (textsF cols ks)))) := by
  by_cases hA : op = 1 ∨ op = 2 ∨ op = 24 ∨ op = 26 ∨ op = 27 ∨ op = 3 ∨ op = 4 ∨ op = 19 ∨ op = 28 ∨ op = 21 ∨ op = 23 ∨ op = 22
  · exact exterm_s1 cols op v d a nm ks sub ty hc hop hv hd ha hnm hL ih hA
  · exact exterm_s2 cols op v d a nm ks sub ty hc hop hv hd ha hnm hL ih hA
end
theorem exterm_call (cols : List Cl) (hc : ClsOk cols) : ∀ (n : Nat) (t : Tm), t.wt ≤ n → n ≤ 1048576 → TmOk t → G1 14 [.of (.agg (tmC t)), .of (colsC cols)] (xstr (strL (textF cols t)))
  | 0, t, h, _, _ => absurd (wt_pos t) (by omega)
  | n + 1, .mk op v d a nm ks sub ty, h, hn, ht => by
    simp only [TmOk] at ht
    obtain ⟨t1, t2, t3, t4, t5, t6, t7, t8, t9⟩ := ht
    simp only [Tm.wt] at h
    exact exterm_step cols op v d a nm ks sub ty hc t1 ⟨small_of t2, small_of t3, by omega⟩ t5 t6 t7 (LOk.of cols ks hc t9 (by omega))
      fun t ht => exterm_call cols hc n t (by
        have := mem_sum (w := Tm.wt) ht
        rw [← wts_sum] at this
        omega) (by omega) ((TmsOk_iff ks).1 t9 t ht)
end Go.Proofs.YtfndkemgjhajnaaDoor
namespace Go.Proofs.YtfndkemgjhajnaaDoor
open Go Go.Pe Go.Tab

def clsWt (l : List Cl) : Nat := (l.map Cl.wt).sum
mutual
def pnWt : Pn → Nat
  | .mk _ tb ix cols kids terms lk rk _ _ _ => tb.length + ix.length + clsWt cols + pnsWt kids + Tm.wts terms + Tm.wts lk + Tm.wts rk + 10
def pnsWt : List Pn → Nat
  | [] => 0
  | p :: r => pnWt p + pnsWt r
end
mutual
def PnOk : Pn → Prop
  | .mk op _ _ _ kids terms lk rk _ est cost => I64 op ∧ I64 est ∧ I64 cost ∧ TmsOk terms ∧ TmsOk lk ∧ TmsOk rk ∧ PnsOk kids
def PnsOk : List Pn → Prop
  | [] => True
  | p :: r => PnOk p ∧ PnsOk r
end
theorem PnsOk_iff : ∀ l : List Pn, PnsOk l ↔ ∀ p ∈ l, PnOk p
  | [] => by simp [PnsOk]
  | p :: r => by simp [PnsOk, PnsOk_iff r]
theorem pnsWt_sum : ∀ l : List Pn, pnsWt l = (l.map pnWt).sum
  | [] => rfl
  | p :: r => by rw [pnsWt, List.map_cons, List.sum_cons, pnsWt_sum r]
theorem pnWt_pos (p : Pn) : 10 ≤ pnWt p := by cases p; simp only [pnWt]; omega
theorem pnsWt_len (l : List Pn) : l.length ≤ pnsWt l := by
  rw [pnsWt_sum]
  exact sum_pos fun x _ => Nat.le_trans (by omega) (pnWt_pos x)
theorem pnWt_mem {l : List Pn} {p : Pn} (h : p ∈ l) : pnWt p ≤ pnsWt l := by rw [pnsWt_sum]; exact mem_sum (w := pnWt) h
theorem clsOk_wt {l : List Cl} (h : clsWt l ≤ 1048576) : ClsOk l := fun c hc => Nat.le_trans (mem_sum (w := Cl.wt) hc) h
theorem clsWt_app (a b : List Cl) : clsWt (a ++ b) = clsWt a + clsWt b := by simp [clsWt]
theorem cls_len (l : List Cl) : l.length ≤ clsWt l := sum_pos fun c _ => by unfold Cl.wt; omega
theorem cols_wt (p : Pn) : clsWt p.cols + 10 ≤ pnWt p := by cases p; simp only [pnWt, Pn.cols]; omega
theorem flat_wt : ∀ l : List Pn, clsWt (l.map Pn.cols).flatten ≤ pnsWt l
  | [] => by simp [clsWt, pnsWt]
  | p :: r => by
    have h1 := flat_wt r
    have h2 := cols_wt p
    rw [List.map_cons, List.flatten_cons, clsWt_app, pnsWt]
    omega
mutual
theorem nodes_le : ∀ p : Pn, nodesN p ≤ pnWt p
  | .mk op tb ix cols kids terms lk rk r est cost => by
    have := nodess_le kids
    simp only [nodesN, pnWt]
    omega
theorem nodess_le : ∀ l : List Pn, nodesNs l ≤ pnsWt l
  | [] => Nat.le_refl _
  | p :: r => by
    have h1 := nodes_le p
    have h2 := nodess_le r
    simp only [nodesNs, pnsWt]
    omega
end
theorem nodesNs_take (l : List Pn) (k : Nat) (h : k < l.length) : nodesNs (l.take (k + 1)) = nodesNs (l.take k) + nodesN l[k] := by
  rw [List.take_succ_eq_append_getElem h, nodesNs_snoc]
theorem nodesNs_take_le : ∀ (l : List Pn) (k : Nat), nodesNs (l.take k) ≤ nodesNs l
  | [], k => by simp [nodesNs]
  | p :: l, 0 => by simp [nodesNs]
  | p :: l, k + 1 => by
    have := nodesNs_take_le l k
    simp only [List.take_succ_cons, nodesNs]
    omega

theorem pnC_len (p : Pn) : (pnC p).length = 23 := by cases p; rfl
theorem pnsC_fl (l : List Pn) : pnsC l = fl pnC l := by rw [pnsC_eq]; rfl
theorem ia_pn (l : List Pn) (k : Nat) (h : k < l.length) : indexAddrX (TT.of Tryd.prog) 23 (.of (.sl (pnsC l) l.length)) (xint k) = out (.of (.ref (fl pnC (l.drop k)))) :=
  ia_fl (f := pnC) (z := 23) pnC_len E23 rfl (by decide) l _ (by rw [pnsC_fl]; rfl) k h
theorem pc_pn (l : List Pn) (k : Nat) (h : k < l.length) : pieceC (TT.of Tryd.prog) 34 (fl pnC (l.drop k)) = some (.agg (pnC l[k])) := by
  rw [fl_at pnC l k h]
  cases l[k]
  exact Q34 ..
theorem rd_agg23 (a b c d e f g h i j k l m n o p q r s t u v w : C) : X.rd (.agg [.of a, .of b, .of c, .of d, .of e, .of f, .of g, .of h, .of i, .of j, .of k, .of l, .of m, .of n, .of o, .of p, .of q, .of r, .of s, .of t, .of u, .of v, .of w]) = some (.agg [a, b, c, d, e, f, g, h, i, j, k, l, m, n, o, p, q, r, s, t, u, v, w]) := rfl
theorem wrapN (a b : Nat) (h : a + b < 4611686018427387904) : IntKind.i64.wrap ((a : Int) + (b : Int)) = ((a + b : Nat) : Int) := by rw [wrap64_ok _ (by omega) (by omega)]; omega

section
variable (op : Int) (tb ix : List UInt8) (cols : List Cl) (kids : List Pn) (terms lk rk : List Tm) (r : Nat → C) (est cost : Int)
set_option linter.unusedSectionVars false in
set_option maxRecDepth 100000 in
theorem exnodes_step (hw : pnsWt kids ≤ 1048576) (ih : ∀ p ∈ kids, G1 11 [.of (.agg (pnC p))] (xint (nodesN p : Nat))) : G1 11 [.of (.agg [ci op, cstr (strL tb), cstr (strL ix), colsC cols, .sl (pnsC kids) kids.length, termsC terms, termsC lk, termsC rk, r 0, r 1, r 2, r 3, r 4, r 5, r 6, r 7, r 8, r 9, r 10, r 11, r 12, ci est, ci cost])] (xint ((nodesNs kids + 1 : Nat))) := by
  have hkl : kids.length ≤ 1048576 := by have := pnsWt_len kids; omega
  have hnl := nodess_le kids
  refine by_body rfl ok11 body11 ar11 rfl ?_
  simp -implicitDefEqProofs (maxSteps := 1000000) only [Tryd.f11, ↓zD, zU, Nat.zero_mul, Nat.reduceMul, List.length_map, Tk.nm.injEq, Tk.cell.injEq, false_and, and_false, Nat.le_add_right, Nat.le_refl, ↓reduceIte, Bool.or_false, Bool.false_or, Bool.and_true, Bool.true_and, Bool.false_and, Bool.true_or, Bool.or_true, Option.isNone_none, Option.isNone_some, List.any_cons, List.any_nil, Bool.and_false, Nat.reduceBEq, Nat.reduceLeDiff, Int.reduceLT, Int.reduceEq, Int.reduceLE, Int.reduceAdd, Int.reduceToNat, Int.reduceNeg, Int.cast_ofNat_Int, Nat.reduceLT, List.drop_succ_cons, List.take_succ_cons, List.singleton_append, Nat.zero_add, List.set_cons_zero, List.set_cons_succ, List.drop_nil, List.take_nil, Option.map_some, Option.map_none, Option.getD_some, Option.getD_none, Option.bind_some, List.cons_append, List.nil_append, List.append_nil, List.map_cons, List.map_nil, List.range_zero, List.take_zero, List.flatten_nil, List.filter_nil, List.length_nil, List.length_cons, List.drop_zero, List.not_mem_nil, List.mem_cons, Bool.true_eq_false, Bool.false_eq_true, Nat.reduceEqDiff, Nat.reduceAdd, List.getElem?_toArray, List.toList_toArray, List.getElem?_cons_zero, List.getElem?_cons_succ, decide_eq_true_eq, beq_self_eq_true, beq_true, beq_false, decide_true, decide_false, Bool.not_true, Bool.not_false, true_and, and_true, or_false, false_or, Bool.and_eq_true, reduceCtorEq, not_false_eq_true, cat_u, lit_strL, List.append_assoc, rv11, boxO, zeroX_at, T34, P34, T24, P24, T23, P23, T22, P22, fa34_0, fa34_1, fa34_2, fa34_3, fa34_4, fa34_5, fa34_6, fa34_7, fa34_17, fa34_18, P3, P9, U3, U9, U37, U24, U22, U23, T9, T3, T37, len_txt, pc_t]
  refine WC_inv _ _ (fun m s => ∃ k : Nat, k ≤ kids.length ∧ m = kids.length - k ∧ s.fr 7 = .of (.sl (pnsC kids) kids.length) ∧ s.fr 8 = xint kids.length ∧ s.fr 9 = xint k ∧ (∃ os, s.objs = .var 34 [xint op, xstr (strL tb), xstr (strL ix), .of (colsC cols), .of (.sl (pnsC kids) kids.length), .of (termsC terms), .of (termsC lk), .of (termsC rk), .of (r 0), .of (r 1), .of (r 2), .of (r 3), .of (r 4), .of (r 5), .of (r 6), .of (r 7), .of (r 8), .of (r 9), .of (r 10), .of (r 11), .of (r 12), xint est, xint cost] :: os) ∧ s.fr 3 = xint ((nodesNs (kids.take k) + 1 : Nat))) ?_ kids.length _ ?_
  · rintro m s ⟨k, hk1, rfl, h7, h8, h9, ⟨os, ho⟩, h3⟩
    have hw1 := wrapS k (by omega)
    by_cases c1 : k < kids.length
    · have d1 : decide ((k : Int) < (kids.length : Int)) = true := decide_eq_true (by omega)
      have hcall := fun K => Gives.k (ih kids[k] (List.getElem_mem c1)) K
      have hp := pc_pn kids k c1
      have htk := nodesNs_take kids k c1
      have hle := nodesNs_take_le kids (k + 1)
      generalize kids[k] = x at hcall hp htk
      have hw2 := wrapN (nodesNs (kids.take k) + 1) (nodesN x) (by omega)
      obtain ⟨op', tb', ix', cols', kids', terms', lk', rk', r', est', cost'⟩ := x
      simp only [pnC] at hcall hp
      simp -implicitDefEqProofs (maxSteps := 1000000) only [↓zD, zU, Nat.zero_mul, Nat.reduceMul, List.length_map, Tk.nm.injEq, Tk.cell.injEq, false_and, and_false, Nat.le_add_right, Nat.le_refl, ↓reduceIte, Bool.or_false, Bool.false_or, Bool.and_true, Bool.true_and, Bool.false_and, Bool.true_or, Bool.or_true, Option.isNone_none, Option.isNone_some, List.any_cons, List.any_nil, Bool.and_false, Nat.reduceBEq, Nat.reduceLeDiff, Int.reduceLT, Int.reduceEq, Int.reduceLE, Int.reduceAdd, Int.reduceToNat, Int.reduceNeg, Int.cast_ofNat_Int, Nat.reduceLT, List.drop_succ_cons, List.take_succ_cons, List.singleton_append, Nat.zero_add, List.set_cons_zero, List.set_cons_succ, List.drop_nil, List.take_nil, Option.map_some, Option.map_none, Option.getD_some, Option.getD_none, Option.bind_some, List.cons_append, List.nil_append, List.append_nil, List.map_cons, List.map_nil, List.range_zero, List.take_zero, List.flatten_nil, List.filter_nil, List.length_nil, List.length_cons, List.drop_zero, List.not_mem_nil, List.mem_cons, Bool.true_eq_false, Bool.false_eq_true, Nat.reduceEqDiff, Nat.reduceAdd, List.getElem?_toArray, List.toList_toArray, List.getElem?_cons_zero, List.getElem?_cons_succ, decide_eq_true_eq, beq_self_eq_true, beq_true, beq_false, decide_true, decide_false, Bool.not_true, Bool.not_false, true_and, and_true, or_false, false_or, Bool.and_eq_true, reduceCtorEq, not_false_eq_true, cat_u, lit_strL, List.append_assoc, h3, h7, h8, h9, ho, boxO, zeroX_at, T34, P34, T24, P24, T23, P23, T22, P22, fa34_0, fa34_1, fa34_2, fa34_3, fa34_4, fa34_5, fa34_6, fa34_7, fa34_17, fa34_18, P3, P9, U3, U9, U37, U24, U22, U23, T9, T3, T37, len_txt, pc_t, d1, hw1, hw2, ia_pn kids k c1, hp, rd_agg23, hcall, pr_obj, obj11, call11]
      refine ⟨_, ?_, k + 1, by omega, rfl, rfl, ⟨_, rfl⟩, by rw [htk]; congr 3; omega⟩
      omega
    · have d1 : decide ((k : Int) < (kids.length : Int)) = false := decide_eq_false (by omega)
      rw [List.take_of_length_le (by omega)] at h3
      simp -implicitDefEqProofs (maxSteps := 1000000) only [↓zD, zU, Nat.zero_mul, Nat.reduceMul, List.length_map, Tk.nm.injEq, Tk.cell.injEq, false_and, and_false, Nat.le_add_right, Nat.le_refl, ↓reduceIte, Bool.or_false, Bool.false_or, Bool.and_true, Bool.true_and, Bool.false_and, Bool.true_or, Bool.or_true, Option.isNone_none, Option.isNone_some, List.any_cons, List.any_nil, Bool.and_false, Nat.reduceBEq, Nat.reduceLeDiff, Int.reduceLT, Int.reduceEq, Int.reduceLE, Int.reduceAdd, Int.reduceToNat, Int.reduceNeg, Int.cast_ofNat_Int, Nat.reduceLT, List.drop_succ_cons, List.take_succ_cons, List.singleton_append, Nat.zero_add, List.set_cons_zero, List.set_cons_succ, List.drop_nil, List.take_nil, Option.map_some, Option.map_none, Option.getD_some, Option.getD_none, Option.bind_some, List.cons_append, List.nil_append, List.append_nil, List.map_cons, List.map_nil, List.range_zero, List.take_zero, List.flatten_nil, List.filter_nil, List.length_nil, List.length_cons, List.drop_zero, List.not_mem_nil, List.mem_cons, Bool.true_eq_false, Bool.false_eq_true, Nat.reduceEqDiff, Nat.reduceAdd, List.getElem?_toArray, List.toList_toArray, List.getElem?_cons_zero, List.getElem?_cons_succ, decide_eq_true_eq, beq_self_eq_true, beq_true, beq_false, decide_true, decide_false, Bool.not_true, Bool.not_false, true_and, and_true, or_false, false_or, Bool.and_eq_true, reduceCtorEq, not_false_eq_true, cat_u, lit_strL, List.append_assoc, h3, h7, h8, h9, ho, boxO, zeroX_at, T34, P34, T24, P24, T23, P23, T22, P22, fa34_0, fa34_1, fa34_2, fa34_3, fa34_4, fa34_5, fa34_6, fa34_7, fa34_17, fa34_18, P3, P9, U3, U9, U37, U24, U22, U23, T9, T3, T37, len_txt, pc_t, d1, rv11, Tryd.f11]
  · refine ⟨0, by omega, by omega, ?_, ?_, ?_, ?_, ?_⟩ <;> (simp -implicitDefEqProofs (maxSteps := 1000000) only [↓zD, zU, Nat.zero_mul, Nat.reduceMul, List.length_map, Tk.nm.injEq, Tk.cell.injEq, false_and, and_false, Nat.le_add_right, Nat.le_refl, ↓reduceIte, Bool.or_false, Bool.false_or, Bool.and_true, Bool.true_and, Bool.false_and, Bool.true_or, Bool.or_true, Option.isNone_none, Option.isNone_some, List.any_cons, List.any_nil, Bool.and_false, Nat.reduceBEq, Nat.reduceLeDiff, Int.reduceLT, Int.reduceEq, Int.reduceLE, Int.reduceAdd, Int.reduceToNat, Int.reduceNeg, Int.cast_ofNat_Int, Nat.reduceLT, List.drop_succ_cons, List.take_succ_cons, List.singleton_append, Nat.zero_add, List.set_cons_zero, List.set_cons_succ, List.drop_nil, List.take_nil, Option.map_some, Option.map_none, Option.getD_some, Option.getD_none, Option.bind_some, List.cons_append, List.nil_append, List.append_nil, List.map_cons, List.map_nil, List.range_zero, List.take_zero, List.flatten_nil, List.filter_nil, List.length_nil, List.length_cons, List.drop_zero, List.not_mem_nil, List.mem_cons, Bool.true_eq_false, Bool.false_eq_true, Nat.reduceEqDiff, Nat.reduceAdd, List.getElem?_toArray, List.toList_toArray, List.getElem?_cons_zero, List.getElem?_cons_succ, decide_eq_true_eq, beq_self_eq_true, beq_true, beq_false, decide_true, decide_false, Bool.not_true, Bool.not_false, true_and, and_true, or_false, false_or, Bool.and_eq_true, reduceCtorEq, not_false_eq_true, cat_u, lit_strL, List.append_assoc, boxO, zeroX_at, T34, P34, T24, P24, T23, P23, T22, P22, fa34_0, fa34_1, fa34_2, fa34_3, fa34_4, fa34_5, fa34_6, fa34_7, fa34_17, fa34_18, P3, P9, U3, U9, U37, U24, U22, U23, T9, T3, T37, len_txt, pc_t] <;> (try rfl) <;> exact ⟨_, rfl⟩)
end
end Go.Proofs.YtfndkemgjhajnaaDoor
namespace Go.Proofs.YtfndkemgjhajnaaDoor
open Go Go.Pe Go.Tab
set_option linter.unusedSectionVars false

section
variable (op : Int) (tb ix : List UInt8) (cols : List Cl) (kids : List Pn) (terms lk rk : List Tm) (r : Nat → C) (est cost : Int)
set_option maxRecDepth 100000 in
theorem exkid_none (i : Nat) (h : kids.length ≤ i) : G1 52 [.of (.agg [ci op, cstr (strL tb), cstr (strL ix), colsC cols, .sl (pnsC kids) kids.length, termsC terms, termsC lk, termsC rk, r 0, r 1, r 2, r 3, r 4, r 5, r 6, r 7, r 8, r 9, r 10, r 11, r 12, ci est, ci cost]), .of (ci i)] .nil := by
  have d1 : decide ((kids.length : Int) ≤ (i : Int)) = true := decide_eq_true (by omega)
  refine by_body rfl ok52 body52 ar52 rfl ?_
  simp -implicitDefEqProofs (maxSteps := 1000000) only [Tryd.f52, ↓zD, zU, Nat.zero_mul, Nat.reduceMul, List.length_map, Tk.nm.injEq, Tk.cell.injEq, false_and, and_false, Nat.le_add_right, Nat.le_refl, ↓reduceIte, Bool.or_false, Bool.false_or, Bool.and_true, Bool.true_and, Bool.false_and, Bool.true_or, Bool.or_true, Option.isNone_none, Option.isNone_some, List.any_cons, List.any_nil, Bool.and_false, Nat.reduceBEq, Nat.reduceLeDiff, Int.reduceLT, Int.reduceEq, Int.reduceLE, Int.reduceAdd, Int.reduceToNat, Int.reduceNeg, Int.cast_ofNat_Int, Nat.reduceLT, List.drop_succ_cons, List.take_succ_cons, List.singleton_append, Nat.zero_add, List.set_cons_zero, List.set_cons_succ, List.drop_nil, List.take_nil, Option.map_some, Option.map_none, Option.getD_some, Option.getD_none, Option.bind_some, List.cons_append, List.nil_append, List.append_nil, List.map_cons, List.map_nil, List.range_zero, List.take_zero, List.flatten_nil, List.filter_nil, List.length_nil, List.length_cons, List.drop_zero, List.not_mem_nil, List.mem_cons, Bool.true_eq_false, Bool.false_eq_true, Nat.reduceEqDiff, Nat.reduceAdd, List.getElem?_toArray, List.toList_toArray, List.getElem?_cons_zero, List.getElem?_cons_succ, decide_eq_true_eq, beq_self_eq_true, beq_true, beq_false, decide_true, decide_false, Bool.not_true, Bool.not_false, true_and, and_true, or_false, false_or, Bool.and_eq_true, reduceCtorEq, not_false_eq_true, cat_u, lit_strL, List.append_assoc, rv52, boxO, zeroX_at, T34, P34, T24, P24, T23, P23, T22, P22, fa34_0, fa34_1, fa34_2, fa34_3, fa34_4, fa34_5, fa34_6, fa34_7, fa34_17, fa34_18, P3, P9, U3, U9, U37, U24, U22, U23, T9, T3, T37, len_txt, pc_t, d1]
theorem sl_pn (l : List Pn) (k : Nat) (h : k < l.length) : sliceX (TT.of Tryd.prog) 23 (.of (.sl (pnsC l) l.length)) (some (xint k)) (some (xint ((k + 1 : Nat)))) = out (.of (.sl (pnC l[k]) 1)) := by
  have hl : (pnsC l).length = l.length * 23 := by rw [pnsC_fl]; exact fl_len pnC_len l
  have e1 : k + 1 - k = 1 := by omega
  have hd : ((pnsC l).drop (k * 23)).take 23 = pnC l[k] := by
    rw [pnsC_fl, fl_drop pnC_len, fl_at pnC l k h, List.take_left' (pnC_len _)]
  simp only [sliceX, E23, asSl, bndX, litInt]
  rw [if_pos ⟨by omega, by omega, by omega, hl⟩]
  simp only [Int.toNat_natCast, e1, Nat.one_mul, hd]
set_option maxRecDepth 100000 in
theorem exkid_some (i : Nat) (h : i < kids.length) (hk : kids.length ≤ 1048576) : G1 52 [.of (.agg [ci op, cstr (strL tb), cstr (strL ix), colsC cols, .sl (pnsC kids) kids.length, termsC terms, termsC lk, termsC rk, r 0, r 1, r 2, r 3, r 4, r 5, r 6, r 7, r 8, r 9, r 10, r 11, r 12, ci est, ci cost]), .of (ci i)] (.of (.sl (pnC kids[i]) 1)) := by
  have d1 : decide ((kids.length : Int) ≤ (i : Int)) = false := decide_eq_false (by omega)
  have hw1 := wrapS i (by omega)
  refine by_body rfl ok52 body52 ar52 rfl ?_
  simp -implicitDefEqProofs (maxSteps := 1000000) only [Tryd.f52, ↓zD, zU, Nat.zero_mul, Nat.reduceMul, List.length_map, Tk.nm.injEq, Tk.cell.injEq, false_and, and_false, Nat.le_add_right, Nat.le_refl, ↓reduceIte, Bool.or_false, Bool.false_or, Bool.and_true, Bool.true_and, Bool.false_and, Bool.true_or, Bool.or_true, Option.isNone_none, Option.isNone_some, List.any_cons, List.any_nil, Bool.and_false, Nat.reduceBEq, Nat.reduceLeDiff, Int.reduceLT, Int.reduceEq, Int.reduceLE, Int.reduceAdd, Int.reduceToNat, Int.reduceNeg, Int.cast_ofNat_Int, Nat.reduceLT, List.drop_succ_cons, List.take_succ_cons, List.singleton_append, Nat.zero_add, List.set_cons_zero, List.set_cons_succ, List.drop_nil, List.take_nil, Option.map_some, Option.map_none, Option.getD_some, Option.getD_none, Option.bind_some, List.cons_append, List.nil_append, List.append_nil, List.map_cons, List.map_nil, List.range_zero, List.take_zero, List.flatten_nil, List.filter_nil, List.length_nil, List.length_cons, List.drop_zero, List.not_mem_nil, List.mem_cons, Bool.true_eq_false, Bool.false_eq_true, Nat.reduceEqDiff, Nat.reduceAdd, List.getElem?_toArray, List.toList_toArray, List.getElem?_cons_zero, List.getElem?_cons_succ, decide_eq_true_eq, beq_self_eq_true, beq_true, beq_false, decide_true, decide_false, Bool.not_true, Bool.not_false, true_and, and_true, or_false, false_or, Bool.and_eq_true, reduceCtorEq, not_false_eq_true, cat_u, lit_strL, List.append_assoc, rv52, boxO, zeroX_at, T34, P34, T24, P24, T23, P23, T22, P22, fa34_0, fa34_1, fa34_2, fa34_3, fa34_4, fa34_5, fa34_6, fa34_7, fa34_17, fa34_18, P3, P9, U3, U9, U37, U24, U22, U23, T9, T3, T37, len_txt, pc_t, d1, hw1, sl_pn kids i h]
end
theorem exnodes_call : ∀ (n : Nat) (p : Pn), pnWt p ≤ n → n ≤ 1048576 → G1 11 [.of (.agg (pnC p))] (xint (nodesN p : Nat))
  | 0, p, h, _ => absurd (pnWt_pos p) (by omega)
  | n + 1, .mk op tb ix cols kids terms lk rk r est cost, h, hn => by
    simp only [pnWt] at h
    exact exnodes_step op tb ix cols kids terms lk rk r est cost (by omega) fun p hp => exnodes_call n p (by have := pnWt_mem hp; omega) (by omega)
def flatC (l : List Pn) : List Cl := (l.map Pn.cols).flatten
theorem fl_app {α : Type} (f : α → List C) (a b : List α) : fl f (a ++ b) = fl f a ++ fl f b := by simp [fl]
theorem flatC_take (l : List Pn) (k : Nat) (h : k < l.length) : flatC (l.take (k + 1)) = flatC (l.take k) ++ l[k].cols := by
  unfold flatC
  rw [List.take_succ_eq_append_getElem h, List.map_append, List.flatten_append]
  simp
theorem clC_len (c : Cl) : (clC c).length = 3 := rfl
theorem ap_cn (tk : Tk) (c : List Cl) (h : c.length ≤ LIM) : appendX (TT.of Tryd.prog) tk 22 22 .nil (.of (colsC c)) = out (.own tk 54 3 (fl clC c) c.length) :=
  ap_nil E22 (by decide) (by decide) tk (.of (colsC c)) (fl clC c) c.length rfl (fl_len clC_len c) h
theorem ap_co (tk t : Tk) (a c : List Cl) (h : a.length + c.length ≤ LIM) : appendX (TT.of Tryd.prog) tk 22 22 (.own t 54 3 (fl clC a) a.length) (.of (colsC c)) = some (.own tk 54 3 (fl clC (a ++ c)) (a ++ c).length, some t) := by
  have := ap_own E22 (by decide) (by decide) tk t (fl clC a) a.length (.of (colsC c)) (fl clC c) c.length rfl (fl_len clC_len c) h
  rw [fl_app, List.length_append]
  exact this
def clsO (c : List Cl) : X := .own (.nm 0 0 0) 54 3 (fl clC c) c.length
set_option maxRecDepth 100000 in
theorem exunder_nil : G1 51 [.of (.sl [] 0)] .nil := by
  refine by_body rfl ok51 body51 ar51 rfl ?_
  simp -implicitDefEqProofs (maxSteps := 1000000) only [Tryd.f51, ↓zD, zU, Nat.zero_mul, Nat.reduceMul, List.length_map, Tk.nm.injEq, Tk.cell.injEq, false_and, and_false, Nat.le_add_right, Nat.le_refl, ↓reduceIte, Bool.or_false, Bool.false_or, Bool.and_true, Bool.true_and, Bool.false_and, Bool.true_or, Bool.or_true, Option.isNone_none, Option.isNone_some, List.any_cons, List.any_nil, Bool.and_false, Nat.reduceBEq, Nat.reduceLeDiff, Int.reduceLT, Int.reduceEq, Int.reduceLE, Int.reduceAdd, Int.reduceToNat, Int.reduceNeg, Int.cast_ofNat_Int, Nat.reduceLT, List.drop_succ_cons, List.take_succ_cons, List.singleton_append, Nat.zero_add, List.set_cons_zero, List.set_cons_succ, List.drop_nil, List.take_nil, Option.map_some, Option.map_none, Option.getD_some, Option.getD_none, Option.bind_some, List.cons_append, List.nil_append, List.append_nil, List.map_cons, List.map_nil, List.range_zero, List.take_zero, List.flatten_nil, List.filter_nil, List.length_nil, List.length_cons, List.drop_zero, List.not_mem_nil, List.mem_cons, Bool.true_eq_false, Bool.false_eq_true, Nat.reduceEqDiff, Nat.reduceAdd, List.getElem?_toArray, List.toList_toArray, List.getElem?_cons_zero, List.getElem?_cons_succ, decide_eq_true_eq, beq_self_eq_true, beq_true, beq_false, decide_true, decide_false, Bool.not_true, Bool.not_false, true_and, and_true, or_false, false_or, Bool.and_eq_true, reduceCtorEq, not_false_eq_true, cat_u, lit_strL, List.append_assoc, rv51, boxO, zeroX_at, T34, P34, T24, P24, T23, P23, T22, P22, fa34_0, fa34_1, fa34_2, fa34_3, fa34_4, fa34_5, fa34_6, fa34_7, fa34_17, fa34_18, P3, P9, U3, U9, U37, U24, U22, U23, T9, T3, T37, len_txt, pc_t]
  refine WC_inv _ _ (fun m s => s.fr 3 = .nil ∧ s.fr 7 = xint 0 ∧ s.fr 8 = xint 0 ∧ s.objs = []) ?_ 0 _ ?_
  · rintro m s ⟨h3, h7, h8, ho⟩
    simp -implicitDefEqProofs (maxSteps := 1000000) only [↓zD, zU, Nat.zero_mul, Nat.reduceMul, List.length_map, Tk.nm.injEq, Tk.cell.injEq, false_and, and_false, Nat.le_add_right, Nat.le_refl, ↓reduceIte, Bool.or_false, Bool.false_or, Bool.and_true, Bool.true_and, Bool.false_and, Bool.true_or, Bool.or_true, Option.isNone_none, Option.isNone_some, List.any_cons, List.any_nil, Bool.and_false, Nat.reduceBEq, Nat.reduceLeDiff, Int.reduceLT, Int.reduceEq, Int.reduceLE, Int.reduceAdd, Int.reduceToNat, Int.reduceNeg, Int.cast_ofNat_Int, Nat.reduceLT, List.drop_succ_cons, List.take_succ_cons, List.singleton_append, Nat.zero_add, List.set_cons_zero, List.set_cons_succ, List.drop_nil, List.take_nil, Option.map_some, Option.map_none, Option.getD_some, Option.getD_none, Option.bind_some, List.cons_append, List.nil_append, List.append_nil, List.map_cons, List.map_nil, List.range_zero, List.take_zero, List.flatten_nil, List.filter_nil, List.length_nil, List.length_cons, List.drop_zero, List.not_mem_nil, List.mem_cons, Bool.true_eq_false, Bool.false_eq_true, Nat.reduceEqDiff, Nat.reduceAdd, List.getElem?_toArray, List.toList_toArray, List.getElem?_cons_zero, List.getElem?_cons_succ, decide_eq_true_eq, beq_self_eq_true, beq_true, beq_false, decide_true, decide_false, Bool.not_true, Bool.not_false, true_and, and_true, or_false, false_or, Bool.and_eq_true, reduceCtorEq, not_false_eq_true, cat_u, lit_strL, List.append_assoc, h3, h7, h8, ho, boxO, zeroX_at, T34, P34, T24, P24, T23, P23, T22, P22, fa34_0, fa34_1, fa34_2, fa34_3, fa34_4, fa34_5, fa34_6, fa34_7, fa34_17, fa34_18, P3, P9, U3, U9, U37, U24, U22, U23, T9, T3, T37, len_txt, pc_t, rv51, Tryd.f51]
  · refine ⟨?_, ?_, ?_, ?_⟩ <;> (simp -implicitDefEqProofs (maxSteps := 1000000) only [↓zD, zU, Nat.zero_mul, Nat.reduceMul, List.length_map, Tk.nm.injEq, Tk.cell.injEq, false_and, and_false, Nat.le_add_right, Nat.le_refl, ↓reduceIte, Bool.or_false, Bool.false_or, Bool.and_true, Bool.true_and, Bool.false_and, Bool.true_or, Bool.or_true, Option.isNone_none, Option.isNone_some, List.any_cons, List.any_nil, Bool.and_false, Nat.reduceBEq, Nat.reduceLeDiff, Int.reduceLT, Int.reduceEq, Int.reduceLE, Int.reduceAdd, Int.reduceToNat, Int.reduceNeg, Int.cast_ofNat_Int, Nat.reduceLT, List.drop_succ_cons, List.take_succ_cons, List.singleton_append, Nat.zero_add, List.set_cons_zero, List.set_cons_succ, List.drop_nil, List.take_nil, Option.map_some, Option.map_none, Option.getD_some, Option.getD_none, Option.bind_some, List.cons_append, List.nil_append, List.append_nil, List.map_cons, List.map_nil, List.range_zero, List.take_zero, List.flatten_nil, List.filter_nil, List.length_nil, List.length_cons, List.drop_zero, List.not_mem_nil, List.mem_cons, Bool.true_eq_false, Bool.false_eq_true, Nat.reduceEqDiff, Nat.reduceAdd, List.getElem?_toArray, List.toList_toArray, List.getElem?_cons_zero, List.getElem?_cons_succ, decide_eq_true_eq, beq_self_eq_true, beq_true, beq_false, decide_true, decide_false, Bool.not_true, Bool.not_false, true_and, and_true, or_false, false_or, Bool.and_eq_true, reduceCtorEq, not_false_eq_true, cat_u, lit_strL, List.append_assoc, boxO, zeroX_at, T34, P34, T24, P24, T23, P23, T22, P22, fa34_0, fa34_1, fa34_2, fa34_3, fa34_4, fa34_5, fa34_6, fa34_7, fa34_17, fa34_18, P3, P9, U3, U9, U37, U24, U22, U23, T9, T3, T37, len_txt, pc_t] <;> rfl)
set_option maxRecDepth 100000 in
theorem exunder_call (kids : List Pn) (h0 : kids ≠ []) (hw : pnsWt kids ≤ 1048576) : G1 51 [.of (.sl (pnsC kids) kids.length)] (clsO (flatC kids)) := by
  have hkl : kids.length ≤ 1048576 := by have := pnsWt_len kids; omega
  have hfl : (flatC kids).length ≤ 1048576 := by have h1 := flat_wt kids; have h2 := cls_len (flatC kids); unfold flatC at *; omega
  refine by_body rfl ok51 body51 ar51 rfl ?_
  simp -implicitDefEqProofs (maxSteps := 1000000) only [Tryd.f51, ↓zD, zU, Nat.zero_mul, Nat.reduceMul, List.length_map, Tk.nm.injEq, Tk.cell.injEq, false_and, and_false, Nat.le_add_right, Nat.le_refl, ↓reduceIte, Bool.or_false, Bool.false_or, Bool.and_true, Bool.true_and, Bool.false_and, Bool.true_or, Bool.or_true, Option.isNone_none, Option.isNone_some, List.any_cons, List.any_nil, Bool.and_false, Nat.reduceBEq, Nat.reduceLeDiff, Int.reduceLT, Int.reduceEq, Int.reduceLE, Int.reduceAdd, Int.reduceToNat, Int.reduceNeg, Int.cast_ofNat_Int, Nat.reduceLT, List.drop_succ_cons, List.take_succ_cons, List.singleton_append, Nat.zero_add, List.set_cons_zero, List.set_cons_succ, List.drop_nil, List.take_nil, Option.map_some, Option.map_none, Option.getD_some, Option.getD_none, Option.bind_some, List.cons_append, List.nil_append, List.append_nil, List.map_cons, List.map_nil, List.range_zero, List.take_zero, List.flatten_nil, List.filter_nil, List.length_nil, List.length_cons, List.drop_zero, List.not_mem_nil, List.mem_cons, Bool.true_eq_false, Bool.false_eq_true, Nat.reduceEqDiff, Nat.reduceAdd, List.getElem?_toArray, List.toList_toArray, List.getElem?_cons_zero, List.getElem?_cons_succ, decide_eq_true_eq, beq_self_eq_true, beq_true, beq_false, decide_true, decide_false, Bool.not_true, Bool.not_false, true_and, and_true, or_false, false_or, Bool.and_eq_true, reduceCtorEq, not_false_eq_true, cat_u, lit_strL, List.append_assoc, rv51, boxO, zeroX_at, T34, P34, T24, P24, T23, P23, T22, P22, fa34_0, fa34_1, fa34_2, fa34_3, fa34_4, fa34_5, fa34_6, fa34_7, fa34_17, fa34_18, P3, P9, U3, U9, U37, U24, U22, U23, T9, T3, T37, len_txt, pc_t]
  refine WC_inv _ _ (fun m s => ∃ k : Nat, k ≤ kids.length ∧ m = kids.length - k ∧ s.fr 6 = .of (.sl (pnsC kids) kids.length) ∧ s.fr 7 = xint kids.length ∧ s.fr 8 = xint k ∧
    ((k = 0 ∧ s.fr 3 = .nil) ∨ (0 < k ∧ ∃ t, Old s.clk t ∧ s.fr 3 = .own t 54 3 (fl clC (flatC (kids.take k))) (flatC (kids.take k)).length))) ?_ kids.length _ ?_
  · rintro m s ⟨k, hk1, rfl, h6, h7, h8, h3⟩
    have hw1 := wrapS k (by omega)
    by_cases c1 : k < kids.length
    · have d1 : decide ((k : Int) < (kids.length : Int)) = true := decide_eq_true (by omega)
      have hp := pc_pn kids k c1
      have htk := flatC_take kids k c1
      have hlen : (flatC (kids.take (k + 1))).length ≤ LIM := by
        have h1 := flat_wt (kids.take (k + 1)); have h2 := cls_len (flatC (kids.take (k + 1)))
        have h3 : pnsWt (kids.take (k + 1)) ≤ pnsWt kids := by
          have := List.take_append_drop (k + 1) kids
          rw [pnsWt_sum, pnsWt_sum]
          conv => rhs; rw [← this]
          rw [List.map_append, List.sum_append]
          omega
        unfold flatC LIM at *; omega
      rw [htk, List.length_append] at hlen
      generalize kids[k] = x at hp htk hlen
      obtain ⟨op', tb', ix', cols', kids', terms', lk', rk', r', est', cost'⟩ := x
      simp only [pnC] at hp
      simp only [Pn.cols] at htk hlen
      rcases h3 with ⟨hk0, h3⟩ | ⟨hk0, t, hold, h3⟩
      · simp -implicitDefEqProofs (maxSteps := 1000000) only [↓zD, zU, Nat.zero_mul, Nat.reduceMul, List.length_map, Tk.nm.injEq, Tk.cell.injEq, false_and, and_false, Nat.le_add_right, Nat.le_refl, ↓reduceIte, Bool.or_false, Bool.false_or, Bool.and_true, Bool.true_and, Bool.false_and, Bool.true_or, Bool.or_true, Option.isNone_none, Option.isNone_some, List.any_cons, List.any_nil, Bool.and_false, Nat.reduceBEq, Nat.reduceLeDiff, Int.reduceLT, Int.reduceEq, Int.reduceLE, Int.reduceAdd, Int.reduceToNat, Int.reduceNeg, Int.cast_ofNat_Int, Nat.reduceLT, List.drop_succ_cons, List.take_succ_cons, List.singleton_append, Nat.zero_add, List.set_cons_zero, List.set_cons_succ, List.drop_nil, List.take_nil, Option.map_some, Option.map_none, Option.getD_some, Option.getD_none, Option.bind_some, List.cons_append, List.nil_append, List.append_nil, List.map_cons, List.map_nil, List.range_zero, List.take_zero, List.flatten_nil, List.filter_nil, List.length_nil, List.length_cons, List.drop_zero, List.not_mem_nil, List.mem_cons, Bool.true_eq_false, Bool.false_eq_true, Nat.reduceEqDiff, Nat.reduceAdd, List.getElem?_toArray, List.toList_toArray, List.getElem?_cons_zero, List.getElem?_cons_succ, decide_eq_true_eq, beq_self_eq_true, beq_true, beq_false, decide_true, decide_false, Bool.not_true, Bool.not_false, true_and, and_true, or_false, false_or, Bool.and_eq_true, reduceCtorEq, not_false_eq_true, cat_u, lit_strL, List.append_assoc, h3, h6, h7, h8, boxO, zeroX_at, T34, P34, T24, P24, T23, P23, T22, P22, fa34_0, fa34_1, fa34_2, fa34_3, fa34_4, fa34_5, fa34_6, fa34_7, fa34_17, fa34_18, P3, P9, U3, U9, U37, U24, U22, U23, T9, T3, T37, len_txt, pc_t, d1, hw1, ia_pn kids k c1, hp, ap_cn _ _ (show cols'.length ≤ LIM by omega)]
        refine ⟨_, ?_, k + 1, by omega, rfl, rfl, by omega, .nm (s.clk + 2) 3 0, ?_, by subst hk0; rw [htk]; rfl⟩
        · omega
        · rw [Z68]; omega
      · simp -implicitDefEqProofs (maxSteps := 1000000) only [↓zD, zU, Nat.zero_mul, Nat.reduceMul, List.length_map, Tk.nm.injEq, Tk.cell.injEq, false_and, and_false, Nat.le_add_right, Nat.le_refl, ↓reduceIte, Bool.or_false, Bool.false_or, Bool.and_true, Bool.true_and, Bool.false_and, Bool.true_or, Bool.or_true, Option.isNone_none, Option.isNone_some, List.any_cons, List.any_nil, Bool.and_false, Nat.reduceBEq, Nat.reduceLeDiff, Int.reduceLT, Int.reduceEq, Int.reduceLE, Int.reduceAdd, Int.reduceToNat, Int.reduceNeg, Int.cast_ofNat_Int, Nat.reduceLT, List.drop_succ_cons, List.take_succ_cons, List.singleton_append, Nat.zero_add, List.set_cons_zero, List.set_cons_succ, List.drop_nil, List.take_nil, Option.map_some, Option.map_none, Option.getD_some, Option.getD_none, Option.bind_some, List.cons_append, List.nil_append, List.append_nil, List.map_cons, List.map_nil, List.range_zero, List.take_zero, List.flatten_nil, List.filter_nil, List.length_nil, List.length_cons, List.drop_zero, List.not_mem_nil, List.mem_cons, Bool.true_eq_false, Bool.false_eq_true, Nat.reduceEqDiff, Nat.reduceAdd, List.getElem?_toArray, List.toList_toArray, List.getElem?_cons_zero, List.getElem?_cons_succ, decide_eq_true_eq, beq_self_eq_true, beq_true, beq_false, decide_true, decide_false, Bool.not_true, Bool.not_false, true_and, and_true, or_false, false_or, Bool.and_eq_true, reduceCtorEq, not_false_eq_true, cat_u, lit_strL, List.append_assoc, h3, h6, h7, h8, boxO, zeroX_at, T34, P34, T24, P24, T23, P23, T22, P22, fa34_0, fa34_1, fa34_2, fa34_3, fa34_4, fa34_5, fa34_6, fa34_7, fa34_17, fa34_18, P3, P9, U3, U9, U37, U24, U22, U23, T9, T3, T37, len_txt, pc_t, d1, hw1, ia_pn kids k c1, hp, ap_co _ _ _ _ hlen, old_add hold, old_new hold, hold]
        refine ⟨_, ?_, k + 1, by omega, rfl, rfl, by omega, _, ?_, by rw [htk]⟩
        · omega
        · rw [Z68]; omega
    · have d1 : decide ((k : Int) < (kids.length : Int)) = false := decide_eq_false (by omega)
      rw [List.take_of_length_le (by omega)] at h3
      rcases h3 with ⟨hk0, h3⟩ | ⟨hk0, t, hold, h3⟩
      · exact absurd (List.eq_nil_of_length_eq_zero (by omega)) h0
      · simp -implicitDefEqProofs (maxSteps := 1000000) only [↓zD, zU, Nat.zero_mul, Nat.reduceMul, List.length_map, Tk.nm.injEq, Tk.cell.injEq, false_and, and_false, Nat.le_add_right, Nat.le_refl, ↓reduceIte, Bool.or_false, Bool.false_or, Bool.and_true, Bool.true_and, Bool.false_and, Bool.true_or, Bool.or_true, Option.isNone_none, Option.isNone_some, List.any_cons, List.any_nil, Bool.and_false, Nat.reduceBEq, Nat.reduceLeDiff, Int.reduceLT, Int.reduceEq, Int.reduceLE, Int.reduceAdd, Int.reduceToNat, Int.reduceNeg, Int.cast_ofNat_Int, Nat.reduceLT, List.drop_succ_cons, List.take_succ_cons, List.singleton_append, Nat.zero_add, List.set_cons_zero, List.set_cons_succ, List.drop_nil, List.take_nil, Option.map_some, Option.map_none, Option.getD_some, Option.getD_none, Option.bind_some, List.cons_append, List.nil_append, List.append_nil, List.map_cons, List.map_nil, List.range_zero, List.take_zero, List.flatten_nil, List.filter_nil, List.length_nil, List.length_cons, List.drop_zero, List.not_mem_nil, List.mem_cons, Bool.true_eq_false, Bool.false_eq_true, Nat.reduceEqDiff, Nat.reduceAdd, List.getElem?_toArray, List.toList_toArray, List.getElem?_cons_zero, List.getElem?_cons_succ, decide_eq_true_eq, beq_self_eq_true, beq_true, beq_false, decide_true, decide_false, Bool.not_true, Bool.not_false, true_and, and_true, or_false, false_or, Bool.and_eq_true, reduceCtorEq, not_false_eq_true, cat_u, lit_strL, List.append_assoc, h3, h6, h7, h8, boxO, zeroX_at, T34, P34, T24, P24, T23, P23, T22, P22, fa34_0, fa34_1, fa34_2, fa34_3, fa34_4, fa34_5, fa34_6, fa34_7, fa34_17, fa34_18, P3, P9, U3, U9, U37, U24, U22, U23, T9, T3, T37, len_txt, pc_t, d1, rv51, Tryd.f51]
        rfl
  · refine ⟨0, by omega, by omega, ?_, ?_, ?_, .inl ⟨rfl, ?_⟩⟩ <;> (simp -implicitDefEqProofs (maxSteps := 1000000) only [↓zD, zU, Nat.zero_mul, Nat.reduceMul, List.length_map, Tk.nm.injEq, Tk.cell.injEq, false_and, and_false, Nat.le_add_right, Nat.le_refl, ↓reduceIte, Bool.or_false, Bool.false_or, Bool.and_true, Bool.true_and, Bool.false_and, Bool.true_or, Bool.or_true, Option.isNone_none, Option.isNone_some, List.any_cons, List.any_nil, Bool.and_false, Nat.reduceBEq, Nat.reduceLeDiff, Int.reduceLT, Int.reduceEq, Int.reduceLE, Int.reduceAdd, Int.reduceToNat, Int.reduceNeg, Int.cast_ofNat_Int, Nat.reduceLT, List.drop_succ_cons, List.take_succ_cons, List.singleton_append, Nat.zero_add, List.set_cons_zero, List.set_cons_succ, List.drop_nil, List.take_nil, Option.map_some, Option.map_none, Option.getD_some, Option.getD_none, Option.bind_some, List.cons_append, List.nil_append, List.append_nil, List.map_cons, List.map_nil, List.range_zero, List.take_zero, List.flatten_nil, List.filter_nil, List.length_nil, List.length_cons, List.drop_zero, List.not_mem_nil, List.mem_cons, Bool.true_eq_false, Bool.false_eq_true, Nat.reduceEqDiff, Nat.reduceAdd, List.getElem?_toArray, List.toList_toArray, List.getElem?_cons_zero, List.getElem?_cons_succ, decide_eq_true_eq, beq_self_eq_true, beq_true, beq_false, decide_true, decide_false, Bool.not_true, Bool.not_false, true_and, and_true, or_false, false_or, Bool.and_eq_true, reduceCtorEq, not_false_eq_true, cat_u, lit_strL, List.append_assoc, boxO, zeroX_at, T34, P34, T24, P24, T23, P23, T22, P22, fa34_0, fa34_1, fa34_2, fa34_3, fa34_4, fa34_5, fa34_6, fa34_7, fa34_17, fa34_18, P3, P9, U3, U9, U37, U24, U22, U23, T9, T3, T37, len_txt, pc_t] <;> rfl)
end Go.Proofs.YtfndkemgjhajnaaDoor

/-
  Chapter 30: the program's text of a term, by the evaluator. Conditions: none.
-/
import Derived.Test.YtfndkemgjhajnaaDoorPb8
namespace Go.Proofs.YtfndkemgjhajnaaDoor
open Go Go.Pe Go.Tab

def opsT : List (List UInt8) := [[43], [45], [42], [47], [37], [124, 124], [61], [60, 62], [60], [60, 61], [62], [62, 61], [97, 110, 100], [111, 114]]
def idxP : Nat → List X → List (Nat × List X)
  | _, [] => []
  | i, x :: xs => (i, [x]) :: idxP (i + 1) xs
theorem fill_idx (f : Nat → Option (Nat × Nat)) (hf : ∀ i, f i = some (i, 1)) (z : X) : ∀ (xs pre : List X), fillX f (pre ++ List.replicate xs.length z) (idxP pre.length xs) = some (pre ++ xs)
  | [], pre => by simp [idxP, fillX]
  | x :: xs, pre => by
    have h := fill_idx f hf z xs (pre ++ [x])
    simp only [idxP, fillX, hf, List.length_cons, List.length_nil, List.length_append, List.length_replicate]
    rw [if_pos ⟨by simp, by omega⟩]
    rw [List.length_append, List.length_cons, List.length_nil, Nat.zero_add] at h
    rw [List.replicate_succ, List.take_left, List.drop_append]
    have e : pre.length + 1 - pre.length = 1 := by omega
    rw [List.drop_of_length_le (by omega), e]
    simp only [List.drop_succ_cons, List.drop_zero, List.nil_append]
    rw [h]
    simp
theorem rds_of : ∀ l : List ByteArray, X.rds (l.map fun s => xstr s) = some (l.map fun s => cstr s)
  | [] => rfl
  | s :: l => by
    have h := rds_of l
    simp only [List.map_cons, X.rds, h]
    rfl
theorem bs_all (tk : Tk) (l : List ByteArray) (n : Nat) (h : l.length = n) (hn : n ≤ 16777216) : buildSliceX tk n (Pe.elemOf (TT.of Tryd.prog) 37) (some (idxP 0 (l.map fun s => xstr s))) = out (.own tk 9 1 (l.map fun s => cstr s) n) := by
  subst h
  rw [E37]
  have h1 := fill_idx (fun i => some (i * 1, 1)) (fun i => by rw [Nat.mul_one]) (xstr ⟨[].toArray⟩) (l.map fun s => xstr s) []
  have e : (List.replicate l.length (zeroX ⟨.string, 1, 16, false, [.string ⟨[].toArray⟩], []⟩)).flatten = List.replicate (l.map fun s => xstr s).length (xstr ⟨[].toArray⟩) := by
    rw [List.length_map]
    generalize l.length = n
    induction n with
    | zero => rfl
    | succ n ih => rw [List.replicate_succ, List.replicate_succ, List.flatten_cons, ih]; rfl
  simp only [List.nil_append, List.length_nil] at h1
  simp only [buildSliceX]
  rw [if_pos ⟨by omega, by decide, rfl⟩, e, h1]
  simp only [rds_of]
theorem bs_s14 (tk : Tk) (a b c d e f g h i j k l m n : ByteArray) : buildSliceX tk 14 (Pe.elemOf (TT.of Tryd.prog) 37) (some [(0, [xstr a]), (1, [xstr b]), (2, [xstr c]), (3, [xstr d]), (4, [xstr e]), (5, [xstr f]), (6, [xstr g]), (7, [xstr h]), (8, [xstr i]), (9, [xstr j]), (10, [xstr k]), (11, [xstr l]), (12, [xstr m]), (13, [xstr n])]) = out (.own tk 9 1 [cstr a, cstr b, cstr c, cstr d, cstr e, cstr f, cstr g, cstr h, cstr i, cstr j, cstr k, cstr l, cstr m, cstr n] 14) :=
  bs_all tk [a, b, c, d, e, f, g, h, i, j, k, l, m, n] 14 rfl (by omega)
theorem ops_look : ∀ k : Fin 14, lookT signT ((k.val : Int) + 5) = some (opsT[k.val]'(by have := k.isLt; exact this)) := by decide
theorem ia_ops (tk : Tk) (k : Nat) (h : k < opsT.length) : indexAddrX (TT.of Tryd.prog) 37 (.own tk 9 1 (txC opsT) 14) (xint k) = out (.of (.ref ((txC opsT).drop k))) := ia_tx opsT _ rfl k h
theorem txC_ops : [cstr (strL [43]), cstr (strL [45]), cstr (strL [42]), cstr (strL [47]), cstr (strL [37]), cstr (strL [124, 124]), cstr (strL [61]), cstr (strL [60, 62]), cstr (strL [60]), cstr (strL [60, 61]), cstr (strL [62]), cstr (strL [62, 61]), cstr (strL [97, 110, 100]), cstr (strL [111, 114])] = txC opsT := rfl
theorem look_none : ∀ {l : List (Int × List UInt8)} {op : Int}, (∀ p ∈ l, p.1 ≠ op) → lookT l op = none
  | [], _, _ => rfl
  | p :: l, op, h => by
    unfold lookT
    rw [if_neg (h p (List.mem_cons_self ..))]
    exact look_none fun q hq => h q (List.mem_cons_of_mem _ hq)
set_option maxRecDepth 100000 in
theorem rtwo_call (op : Int) (x y : List UInt8) (h : x.length + y.length ≤ 70368744177664) (ho : I64 op) : G1 34 [.of (ci op), .of (cstr (strL x)), .of (cstr (strL y))] (xstr (strL (twoL op x y))) := by
  refine by_body rfl ok34 body34 ar34 rfl ?_
  by_cases h1 : op = 20
  · subst h1
    have e : twoL 20 x y = [40] ++ x ++ [32, 108, 105, 107, 101, 32] ++ y ++ [41] := by simp [twoL, lookT, signT]
    rw [e]
    simp -implicitDefEqProofs (maxSteps := 1000000) only [Tryd.f34, ↓zD, zU, Nat.zero_mul, Nat.reduceMul, List.length_map, Tk.nm.injEq, Tk.cell.injEq, false_and, and_false, Nat.le_add_right, Nat.le_refl, ↓reduceIte, Bool.or_false, Bool.false_or, Bool.and_true, Bool.true_and, Bool.false_and, Bool.true_or, Bool.or_true, Option.isNone_none, Option.isNone_some, List.any_cons, List.any_nil, Bool.and_false, Nat.reduceBEq, Nat.reduceLeDiff, Int.reduceLT, Int.reduceEq, Int.reduceLE, Int.reduceAdd, Int.reduceToNat, Int.reduceNeg, Int.cast_ofNat_Int, Nat.reduceLT, List.drop_succ_cons, List.take_succ_cons, List.singleton_append, Nat.zero_add, List.set_cons_zero, List.set_cons_succ, List.drop_nil, List.take_nil, Option.map_some, Option.map_none, Option.getD_some, Option.getD_none, Option.bind_some, List.cons_append, List.nil_append, List.append_nil, List.map_cons, List.map_nil, List.range_zero, List.take_zero, List.flatten_nil, List.filter_nil, List.length_nil, List.length_cons, List.drop_zero, List.not_mem_nil, List.mem_cons, Bool.true_eq_false, Bool.false_eq_true, Nat.reduceEqDiff, Nat.reduceAdd, List.getElem?_toArray, List.toList_toArray, List.getElem?_cons_zero, List.getElem?_cons_succ, decide_eq_true_eq, beq_self_eq_true, beq_true, beq_false, decide_true, decide_false, Bool.not_true, Bool.not_false, true_and, and_true, or_false, false_or, Bool.and_eq_true, reduceCtorEq, not_false_eq_true, cat_u, lit_strL, List.append_assoc, rv34, U3, U9, U37, U24, U22, T9, T3, T37, len_txt, pc_t, bs_s14] <;> (and_intros <;> first | ((try simp only [List.length_append, List.length_cons, List.length_nil, SLIM]); omega) | rfl)
  · have d1 : decide (op = 20) = false := decide_eq_false h1
    by_cases h2 : op < 5
    · have d2 : decide (op < 5) = true := decide_eq_true h2
      have e : twoL op x y = [63] := by
        unfold twoL
        rw [look_none (by simp only [signT, List.forall_mem_cons, List.not_mem_nil, false_implies, implies_true, and_true]; omega)]
      rw [e]
      simp -implicitDefEqProofs (maxSteps := 1000000) only [Tryd.f34, ↓zD, zU, Nat.zero_mul, Nat.reduceMul, List.length_map, Tk.nm.injEq, Tk.cell.injEq, false_and, and_false, Nat.le_add_right, Nat.le_refl, ↓reduceIte, Bool.or_false, Bool.false_or, Bool.and_true, Bool.true_and, Bool.false_and, Bool.true_or, Bool.or_true, Option.isNone_none, Option.isNone_some, List.any_cons, List.any_nil, Bool.and_false, Nat.reduceBEq, Nat.reduceLeDiff, Int.reduceLT, Int.reduceEq, Int.reduceLE, Int.reduceAdd, Int.reduceToNat, Int.reduceNeg, Int.cast_ofNat_Int, Nat.reduceLT, List.drop_succ_cons, List.take_succ_cons, List.singleton_append, Nat.zero_add, List.set_cons_zero, List.set_cons_succ, List.drop_nil, List.take_nil, Option.map_some, Option.map_none, Option.getD_some, Option.getD_none, Option.bind_some, List.cons_append, List.nil_append, List.append_nil, List.map_cons, List.map_nil, List.range_zero, List.take_zero, List.flatten_nil, List.filter_nil, List.length_nil, List.length_cons, List.drop_zero, List.not_mem_nil, List.mem_cons, Bool.true_eq_false, Bool.false_eq_true, Nat.reduceEqDiff, Nat.reduceAdd, List.getElem?_toArray, List.toList_toArray, List.getElem?_cons_zero, List.getElem?_cons_succ, decide_eq_true_eq, beq_self_eq_true, beq_true, beq_false, decide_true, decide_false, Bool.not_true, Bool.not_false, true_and, and_true, or_false, false_or, Bool.and_eq_true, reduceCtorEq, not_false_eq_true, cat_u, lit_strL, List.append_assoc, rv34, U3, U9, U37, U24, U22, T9, T3, T37, len_txt, pc_t, bs_s14, d1, d2]
    · have d2 : decide (op < 5) = false := decide_eq_false h2
      by_cases h3 : 18 < op
      · have d3 : decide (18 < op) = true := decide_eq_true h3
        have e : twoL op x y = [63] := by
          unfold twoL
          rw [look_none (by simp only [signT, List.forall_mem_cons, List.not_mem_nil, false_implies, implies_true, and_true]; omega)]
        rw [e]
        simp -implicitDefEqProofs (maxSteps := 1000000) only [Tryd.f34, ↓zD, zU, Nat.zero_mul, Nat.reduceMul, List.length_map, Tk.nm.injEq, Tk.cell.injEq, false_and, and_false, Nat.le_add_right, Nat.le_refl, ↓reduceIte, Bool.or_false, Bool.false_or, Bool.and_true, Bool.true_and, Bool.false_and, Bool.true_or, Bool.or_true, Option.isNone_none, Option.isNone_some, List.any_cons, List.any_nil, Bool.and_false, Nat.reduceBEq, Nat.reduceLeDiff, Int.reduceLT, Int.reduceEq, Int.reduceLE, Int.reduceAdd, Int.reduceToNat, Int.reduceNeg, Int.cast_ofNat_Int, Nat.reduceLT, List.drop_succ_cons, List.take_succ_cons, List.singleton_append, Nat.zero_add, List.set_cons_zero, List.set_cons_succ, List.drop_nil, List.take_nil, Option.map_some, Option.map_none, Option.getD_some, Option.getD_none, Option.bind_some, List.cons_append, List.nil_append, List.append_nil, List.map_cons, List.map_nil, List.range_zero, List.take_zero, List.flatten_nil, List.filter_nil, List.length_nil, List.length_cons, List.drop_zero, List.not_mem_nil, List.mem_cons, Bool.true_eq_false, Bool.false_eq_true, Nat.reduceEqDiff, Nat.reduceAdd, List.getElem?_toArray, List.toList_toArray, List.getElem?_cons_zero, List.getElem?_cons_succ, decide_eq_true_eq, beq_self_eq_true, beq_true, beq_false, decide_true, decide_false, Bool.not_true, Bool.not_false, true_and, and_true, or_false, false_or, Bool.and_eq_true, reduceCtorEq, not_false_eq_true, cat_u, lit_strL, List.append_assoc, rv34, U3, U9, U37, U24, U22, T9, T3, T37, len_txt, pc_t, bs_s14, d1, d2, d3]
      · have d3 : decide (18 < op) = false := decide_eq_false h3
        obtain ⟨k, rfl⟩ : ∃ k : Nat, op = (k : Int) + 5 := ⟨(op - 5).toNat, by omega⟩
        have hk : k < opsT.length := by show k < 14; omega
        have hl : (opsT[k]).length ≤ 4 := (show ∀ q ∈ opsT, q.length ≤ 4 by decide) _ (List.getElem_mem hk)
        have e : twoL ((k : Int) + 5) x y = [40] ++ x ++ [32] ++ opsT[k] ++ [32] ++ y ++ [41] := by
          unfold twoL
          rw [ops_look ⟨k, hk⟩]
          rfl
        have hw : IntKind.i64.wrap ((k : Int) + 5 - 5) = (k : Int) := by rw [wrap64_ok _ (by omega) (by omega)]; omega
        rw [e]
        simp -implicitDefEqProofs (maxSteps := 1000000) only [Tryd.f34, ↓zD, zU, Nat.zero_mul, Nat.reduceMul, List.length_map, Tk.nm.injEq, Tk.cell.injEq, false_and, and_false, Nat.le_add_right, Nat.le_refl, ↓reduceIte, Bool.or_false, Bool.false_or, Bool.and_true, Bool.true_and, Bool.false_and, Bool.true_or, Bool.or_true, Option.isNone_none, Option.isNone_some, List.any_cons, List.any_nil, Bool.and_false, Nat.reduceBEq, Nat.reduceLeDiff, Int.reduceLT, Int.reduceEq, Int.reduceLE, Int.reduceAdd, Int.reduceToNat, Int.reduceNeg, Int.cast_ofNat_Int, Nat.reduceLT, List.drop_succ_cons, List.take_succ_cons, List.singleton_append, Nat.zero_add, List.set_cons_zero, List.set_cons_succ, List.drop_nil, List.take_nil, Option.map_some, Option.map_none, Option.getD_some, Option.getD_none, Option.bind_some, List.cons_append, List.nil_append, List.append_nil, List.map_cons, List.map_nil, List.range_zero, List.take_zero, List.flatten_nil, List.filter_nil, List.length_nil, List.length_cons, List.drop_zero, List.not_mem_nil, List.mem_cons, Bool.true_eq_false, Bool.false_eq_true, Nat.reduceEqDiff, Nat.reduceAdd, List.getElem?_toArray, List.toList_toArray, List.getElem?_cons_zero, List.getElem?_cons_succ, decide_eq_true_eq, beq_self_eq_true, beq_true, beq_false, decide_true, decide_false, Bool.not_true, Bool.not_false, true_and, and_true, or_false, false_or, Bool.and_eq_true, reduceCtorEq, not_false_eq_true, cat_u, lit_strL, List.append_assoc, rv34, U3, U9, U37, U24, U22, T9, T3, T37, len_txt, pc_t, bs_s14, txC_ops, d1, d2, d3, hw, ia_ops _ k hk, pc_tx opsT k hk] <;> (and_intros <;> first | ((try simp only [List.length_append, List.length_cons, List.length_nil, SLIM]); omega) | rfl)
theorem rtwo_k (op : Int) (x y : List UInt8) (K : An → Prop) (h : x.length + y.length ≤ 70368744177664) (ho : I64 op) : CallK Tryd.prog pr 34 [.of (ci op), .of (cstr (strL x)), .of (cstr (strL y))] [] K ↔ K ⟨false, [xstr (strL (twoL op x y))], []⟩ := Gives.k (rtwo_call op x y h ho) K

theorem tmC_len (t : Tm) : (tmC t).length = 10 := by cases t; rfl
theorem tmsC_fl (l : List Tm) : tmsC l = fl tmC l := by rw [tmsC_eq]; rfl
theorem ia_tm (l : List Tm) (k : Nat) (h : k < l.length) : indexAddrX (TT.of Tryd.prog) 24 (.of (.sl (tmsC l) l.length)) (xint k) = out (.of (.ref (fl tmC (l.drop k)))) :=
  ia_fl (f := tmC) (z := 10) tmC_len E24 rfl (by decide) l _ (by rw [tmsC_fl]; rfl) k h
theorem pc_tm (l : List Tm) (k : Nat) (h : k < l.length) : pieceC (TT.of Tryd.prog) 46 (fl tmC (l.drop k)) = some (.agg (tmC l[k])) := by
  rw [fl_at tmC l k h]
  cases l[k]
  exact Q46 ..
theorem textsF_len' (cols : List Cl) (l : List Tm) : (textsF cols l).length = l.length := by rw [textsF_map, List.length_map]
theorem textsF_take (cols : List Cl) (l : List Tm) (k : Nat) (h : k < l.length) : textsF cols (l.take (k + 1)) = textsF cols (l.take k) ++ [textF cols l[k]] := by
  rw [textsF_map, textsF_map, List.take_succ_eq_append_getElem h, List.map_append]
  rfl
def txO (L : List (List UInt8)) : X := .own (.nm 0 0 0) 9 1 (txC L) L.length

set_option maxRecDepth 100000 in
theorem rtexts_call (cols : List Cl) (l : List Tm) (hl : l.length ≤ 1048576) (ih : ∀ t ∈ l, G1 15 [.of (.agg (tmC t)), .of (colsC cols)] (xstr (strL (textF cols t)))) : G1 30 [.of (.sl (tmsC l) l.length), .of (colsC cols)] (txO (textsF cols l)) := by
  refine by_body rfl ok30 body30 ar30 rfl ?_
  simp -implicitDefEqProofs (maxSteps := 1000000) only [Tryd.f30, ↓zD, zU, Nat.zero_mul, Nat.reduceMul, List.length_map, Tk.nm.injEq, Tk.cell.injEq, false_and, and_false, Nat.le_add_right, Nat.le_refl, ↓reduceIte, Bool.or_false, Bool.false_or, Bool.and_true, Bool.true_and, Bool.false_and, Bool.true_or, Bool.or_true, Option.isNone_none, Option.isNone_some, List.any_cons, List.any_nil, Bool.and_false, Nat.reduceBEq, Nat.reduceLeDiff, Int.reduceLT, Int.reduceEq, Int.reduceLE, Int.reduceAdd, Int.reduceToNat, Int.reduceNeg, Int.cast_ofNat_Int, Nat.reduceLT, List.drop_succ_cons, List.take_succ_cons, List.singleton_append, Nat.zero_add, List.set_cons_zero, List.set_cons_succ, List.drop_nil, List.take_nil, Option.map_some, Option.map_none, Option.getD_some, Option.getD_none, Option.bind_some, List.cons_append, List.nil_append, List.append_nil, List.map_cons, List.map_nil, List.range_zero, List.take_zero, List.flatten_nil, List.filter_nil, List.length_nil, List.length_cons, List.drop_zero, List.not_mem_nil, List.mem_cons, Bool.true_eq_false, Bool.false_eq_true, Nat.reduceEqDiff, Nat.reduceAdd, List.getElem?_toArray, List.toList_toArray, List.getElem?_cons_zero, List.getElem?_cons_succ, decide_eq_true_eq, beq_self_eq_true, beq_true, beq_false, decide_true, decide_false, Bool.not_true, Bool.not_false, true_and, and_true, or_false, false_or, Bool.and_eq_true, reduceCtorEq, not_false_eq_true, cat_u, lit_strL, List.append_assoc, rv30, bs_s0]
  refine WC_inv _ _ (fun m s => ∃ k : Nat, k ≤ l.length ∧ m = l.length - k ∧ s.fr 0 = .of (.sl (tmsC l) l.length) ∧ s.fr 1 = .of (colsC cols) ∧ s.fr 6 = xint k ∧ s.objs = [] ∧ ∃ t, Old s.clk t ∧ s.fr 5 = .own t 9 1 (txC (textsF cols (l.take k))) k) ?_ l.length _ ?_
  · rintro m s ⟨k, hk1, rfl, h0, h1, h6, ho, t, hold, h5⟩
    have hw := wrapS k (by omega)
    by_cases c1 : k < l.length
    · have d1 : decide ((k : Int) < (l.length : Int)) = true := decide_eq_true (by omega)
      have hcall := fun K => Gives.k (ih l[k] (List.getElem_mem c1)) K
      have hlen : k + 1 ≤ LIM := by unfold LIM; omega
      simp -implicitDefEqProofs (maxSteps := 1000000) only [↓zD, zU, Nat.zero_mul, Nat.reduceMul, List.length_map, Tk.nm.injEq, Tk.cell.injEq, false_and, and_false, Nat.le_add_right, Nat.le_refl, ↓reduceIte, Bool.or_false, Bool.false_or, Bool.and_true, Bool.true_and, Bool.false_and, Bool.true_or, Bool.or_true, Option.isNone_none, Option.isNone_some, List.any_cons, List.any_nil, Bool.and_false, Nat.reduceBEq, Nat.reduceLeDiff, Int.reduceLT, Int.reduceEq, Int.reduceLE, Int.reduceAdd, Int.reduceToNat, Int.reduceNeg, Int.cast_ofNat_Int, Nat.reduceLT, List.drop_succ_cons, List.take_succ_cons, List.singleton_append, Nat.zero_add, List.set_cons_zero, List.set_cons_succ, List.drop_nil, List.take_nil, Option.map_some, Option.map_none, Option.getD_some, Option.getD_none, Option.bind_some, List.cons_append, List.nil_append, List.append_nil, List.map_cons, List.map_nil, List.range_zero, List.take_zero, List.flatten_nil, List.filter_nil, List.length_nil, List.length_cons, List.drop_zero, List.not_mem_nil, List.mem_cons, Bool.true_eq_false, Bool.false_eq_true, Nat.reduceEqDiff, Nat.reduceAdd, List.getElem?_toArray, List.toList_toArray, List.getElem?_cons_zero, List.getElem?_cons_succ, decide_eq_true_eq, beq_self_eq_true, beq_true, beq_false, decide_true, decide_false, Bool.not_true, Bool.not_false, true_and, and_true, or_false, false_or, Bool.and_eq_true, reduceCtorEq, not_false_eq_true, cat_u, lit_strL, List.append_assoc, h0, h1, h5, h6, ho, U3, U9, U37, U24, U22, T9, T3, T37, len_txt, pc_t, d1, hw, ia_tm l k c1, pc_tm l k c1, hcall, pr_obj, obj15, call15, bs_s1, ap_s1 _ _ _ _ _ hlen, old_add hold, old_new hold, hold]
      refine ⟨_, ?_, k + 1, by omega, rfl, rfl, _, ?_, by rw [textsF_take cols l k c1]⟩
      · omega
      · rw [Z68]; omega
    · have d1 : decide ((k : Int) < (l.length : Int)) = false := decide_eq_false (by omega)
      rw [List.take_of_length_le (by omega)] at h5
      obtain rfl : k = l.length := by omega
      simp -implicitDefEqProofs (maxSteps := 1000000) only [↓zD, zU, Nat.zero_mul, Nat.reduceMul, List.length_map, Tk.nm.injEq, Tk.cell.injEq, false_and, and_false, Nat.le_add_right, Nat.le_refl, ↓reduceIte, Bool.or_false, Bool.false_or, Bool.and_true, Bool.true_and, Bool.false_and, Bool.true_or, Bool.or_true, Option.isNone_none, Option.isNone_some, List.any_cons, List.any_nil, Bool.and_false, Nat.reduceBEq, Nat.reduceLeDiff, Int.reduceLT, Int.reduceEq, Int.reduceLE, Int.reduceAdd, Int.reduceToNat, Int.reduceNeg, Int.cast_ofNat_Int, Nat.reduceLT, List.drop_succ_cons, List.take_succ_cons, List.singleton_append, Nat.zero_add, List.set_cons_zero, List.set_cons_succ, List.drop_nil, List.take_nil, Option.map_some, Option.map_none, Option.getD_some, Option.getD_none, Option.bind_some, List.cons_append, List.nil_append, List.append_nil, List.map_cons, List.map_nil, List.range_zero, List.take_zero, List.flatten_nil, List.filter_nil, List.length_nil, List.length_cons, List.drop_zero, List.not_mem_nil, List.mem_cons, Bool.true_eq_false, Bool.false_eq_true, Nat.reduceEqDiff, Nat.reduceAdd, List.getElem?_toArray, List.toList_toArray, List.getElem?_cons_zero, List.getElem?_cons_succ, decide_eq_true_eq, beq_self_eq_true, beq_true, beq_false, decide_true, decide_false, Bool.not_true, Bool.not_false, true_and, and_true, or_false, false_or, Bool.and_eq_true, reduceCtorEq, not_false_eq_true, cat_u, lit_strL, List.append_assoc, h0, h1, h5, h6, ho, U3, U9, U37, U24, U22, T9, T3, T37, len_txt, pc_t, d1, rv30, Tryd.f30]
      unfold txO
      rw [textsF_len']
  · refine ⟨0, by omega, by omega, by simp -implicitDefEqProofs only [↓zD, zU, Nat.zero_mul, Nat.reduceMul, List.length_map, Tk.nm.injEq, Tk.cell.injEq, false_and, and_false, Nat.le_add_right, Nat.le_refl, ↓reduceIte, Bool.or_false, Bool.false_or, Bool.and_true, Bool.true_and, Bool.false_and, Bool.true_or, Bool.or_true, Option.isNone_none, Option.isNone_some, List.any_cons, List.any_nil, Bool.and_false, Nat.reduceBEq, Nat.reduceLeDiff, Int.reduceLT, Int.reduceEq, Int.reduceLE, Int.reduceAdd, Int.reduceToNat, Int.reduceNeg, Int.cast_ofNat_Int, Nat.reduceLT, List.drop_succ_cons, List.take_succ_cons, List.singleton_append, Nat.zero_add, List.set_cons_zero, List.set_cons_succ, List.drop_nil, List.take_nil, Option.map_some, Option.map_none, Option.getD_some, Option.getD_none, Option.bind_some, List.cons_append, List.nil_append, List.append_nil, List.map_cons, List.map_nil, List.range_zero, List.take_zero, List.flatten_nil, List.filter_nil, List.length_nil, List.length_cons, List.drop_zero, List.not_mem_nil, List.mem_cons, Bool.true_eq_false, Bool.false_eq_true, Nat.reduceEqDiff, Nat.reduceAdd, List.getElem?_toArray, List.toList_toArray, List.getElem?_cons_zero, List.getElem?_cons_succ, decide_eq_true_eq, beq_self_eq_true, beq_true, beq_false, decide_true, decide_false, Bool.not_true, Bool.not_false, true_and, and_true, or_false, false_or, Bool.and_eq_true, reduceCtorEq, not_false_eq_true, Z1u], by simp -implicitDefEqProofs only [↓zD, zU, Nat.zero_mul, Nat.reduceMul, List.length_map, Tk.nm.injEq, Tk.cell.injEq, false_and, and_false, Nat.le_add_right, Nat.le_refl, ↓reduceIte, Bool.or_false, Bool.false_or, Bool.and_true, Bool.true_and, Bool.false_and, Bool.true_or, Bool.or_true, Option.isNone_none, Option.isNone_some, List.any_cons, List.any_nil, Bool.and_false, Nat.reduceBEq, Nat.reduceLeDiff, Int.reduceLT, Int.reduceEq, Int.reduceLE, Int.reduceAdd, Int.reduceToNat, Int.reduceNeg, Int.cast_ofNat_Int, Nat.reduceLT, List.drop_succ_cons, List.take_succ_cons, List.singleton_append, Nat.zero_add, List.set_cons_zero, List.set_cons_succ, List.drop_nil, List.take_nil, Option.map_some, Option.map_none, Option.getD_some, Option.getD_none, Option.bind_some, List.cons_append, List.nil_append, List.append_nil, List.map_cons, List.map_nil, List.range_zero, List.take_zero, List.flatten_nil, List.filter_nil, List.length_nil, List.length_cons, List.drop_zero, List.not_mem_nil, List.mem_cons, Bool.true_eq_false, Bool.false_eq_true, Nat.reduceEqDiff, Nat.reduceAdd, List.getElem?_toArray, List.toList_toArray, List.getElem?_cons_zero, List.getElem?_cons_succ, decide_eq_true_eq, beq_self_eq_true, beq_true, beq_false, decide_true, decide_false, Bool.not_true, Bool.not_false, true_and, and_true, or_false, false_or, Bool.and_eq_true, reduceCtorEq, not_false_eq_true, Z1u], by simp -implicitDefEqProofs only [↓zD, zU, Nat.zero_mul, Nat.reduceMul, List.length_map, Tk.nm.injEq, Tk.cell.injEq, false_and, and_false, Nat.le_add_right, Nat.le_refl, ↓reduceIte, Bool.or_false, Bool.false_or, Bool.and_true, Bool.true_and, Bool.false_and, Bool.true_or, Bool.or_true, Option.isNone_none, Option.isNone_some, List.any_cons, List.any_nil, Bool.and_false, Nat.reduceBEq, Nat.reduceLeDiff, Int.reduceLT, Int.reduceEq, Int.reduceLE, Int.reduceAdd, Int.reduceToNat, Int.reduceNeg, Int.cast_ofNat_Int, Nat.reduceLT, List.drop_succ_cons, List.take_succ_cons, List.singleton_append, Nat.zero_add, List.set_cons_zero, List.set_cons_succ, List.drop_nil, List.take_nil, Option.map_some, Option.map_none, Option.getD_some, Option.getD_none, Option.bind_some, List.cons_append, List.nil_append, List.append_nil, List.map_cons, List.map_nil, List.range_zero, List.take_zero, List.flatten_nil, List.filter_nil, List.length_nil, List.length_cons, List.drop_zero, List.not_mem_nil, List.mem_cons, Bool.true_eq_false, Bool.false_eq_true, Nat.reduceEqDiff, Nat.reduceAdd, List.getElem?_toArray, List.toList_toArray, List.getElem?_cons_zero, List.getElem?_cons_succ, decide_eq_true_eq, beq_self_eq_true, beq_true, beq_false, decide_true, decide_false, Bool.not_true, Bool.not_false, true_and, and_true, or_false, false_or, Bool.and_eq_true, reduceCtorEq, not_false_eq_true, Z1u] <;> rfl, by simp -implicitDefEqProofs only [↓zD, zU, Nat.zero_mul, Nat.reduceMul, List.length_map, Tk.nm.injEq, Tk.cell.injEq, false_and, and_false, Nat.le_add_right, Nat.le_refl, ↓reduceIte, Bool.or_false, Bool.false_or, Bool.and_true, Bool.true_and, Bool.false_and, Bool.true_or, Bool.or_true, Option.isNone_none, Option.isNone_some, List.any_cons, List.any_nil, Bool.and_false, Nat.reduceBEq, Nat.reduceLeDiff, Int.reduceLT, Int.reduceEq, Int.reduceLE, Int.reduceAdd, Int.reduceToNat, Int.reduceNeg, Int.cast_ofNat_Int, Nat.reduceLT, List.drop_succ_cons, List.take_succ_cons, List.singleton_append, Nat.zero_add, List.set_cons_zero, List.set_cons_succ, List.drop_nil, List.take_nil, Option.map_some, Option.map_none, Option.getD_some, Option.getD_none, Option.bind_some, List.cons_append, List.nil_append, List.append_nil, List.map_cons, List.map_nil, List.range_zero, List.take_zero, List.flatten_nil, List.filter_nil, List.length_nil, List.length_cons, List.drop_zero, List.not_mem_nil, List.mem_cons, Bool.true_eq_false, Bool.false_eq_true, Nat.reduceEqDiff, Nat.reduceAdd, List.getElem?_toArray, List.toList_toArray, List.getElem?_cons_zero, List.getElem?_cons_succ, decide_eq_true_eq, beq_self_eq_true, beq_true, beq_false, decide_true, decide_false, Bool.not_true, Bool.not_false, true_and, and_true, or_false, false_or, Bool.and_eq_true, reduceCtorEq, not_false_eq_true, Z1u], .nm 2 0 0, ?_, ?_⟩
    · simp -implicitDefEqProofs only [↓zD, zU, Nat.zero_mul, Nat.reduceMul, List.length_map, Tk.nm.injEq, Tk.cell.injEq, false_and, and_false, Nat.le_add_right, Nat.le_refl, ↓reduceIte, Bool.or_false, Bool.false_or, Bool.and_true, Bool.true_and, Bool.false_and, Bool.true_or, Bool.or_true, Option.isNone_none, Option.isNone_some, List.any_cons, List.any_nil, Bool.and_false, Nat.reduceBEq, Nat.reduceLeDiff, Int.reduceLT, Int.reduceEq, Int.reduceLE, Int.reduceAdd, Int.reduceToNat, Int.reduceNeg, Int.cast_ofNat_Int, Nat.reduceLT, List.drop_succ_cons, List.take_succ_cons, List.singleton_append, Nat.zero_add, List.set_cons_zero, List.set_cons_succ, List.drop_nil, List.take_nil, Option.map_some, Option.map_none, Option.getD_some, Option.getD_none, Option.bind_some, List.cons_append, List.nil_append, List.append_nil, List.map_cons, List.map_nil, List.range_zero, List.take_zero, List.flatten_nil, List.filter_nil, List.length_nil, List.length_cons, List.drop_zero, List.not_mem_nil, List.mem_cons, Bool.true_eq_false, Bool.false_eq_true, Nat.reduceEqDiff, Nat.reduceAdd, List.getElem?_toArray, List.toList_toArray, List.getElem?_cons_zero, List.getElem?_cons_succ, decide_eq_true_eq, beq_self_eq_true, beq_true, beq_false, decide_true, decide_false, Bool.not_true, Bool.not_false, true_and, and_true, or_false, false_or, Bool.and_eq_true, reduceCtorEq, not_false_eq_true, Z1u]
    · simp -implicitDefEqProofs only [↓zD, zU, Nat.zero_mul, Nat.reduceMul, List.length_map, Tk.nm.injEq, Tk.cell.injEq, false_and, and_false, Nat.le_add_right, Nat.le_refl, ↓reduceIte, Bool.or_false, Bool.false_or, Bool.and_true, Bool.true_and, Bool.false_and, Bool.true_or, Bool.or_true, Option.isNone_none, Option.isNone_some, List.any_cons, List.any_nil, Bool.and_false, Nat.reduceBEq, Nat.reduceLeDiff, Int.reduceLT, Int.reduceEq, Int.reduceLE, Int.reduceAdd, Int.reduceToNat, Int.reduceNeg, Int.cast_ofNat_Int, Nat.reduceLT, List.drop_succ_cons, List.take_succ_cons, List.singleton_append, Nat.zero_add, List.set_cons_zero, List.set_cons_succ, List.drop_nil, List.take_nil, Option.map_some, Option.map_none, Option.getD_some, Option.getD_none, Option.bind_some, List.cons_append, List.nil_append, List.append_nil, List.map_cons, List.map_nil, List.range_zero, List.take_zero, List.flatten_nil, List.filter_nil, List.length_nil, List.length_cons, List.drop_zero, List.not_mem_nil, List.mem_cons, Bool.true_eq_false, Bool.false_eq_true, Nat.reduceEqDiff, Nat.reduceAdd, List.getElem?_toArray, List.toList_toArray, List.getElem?_cons_zero, List.getElem?_cons_succ, decide_eq_true_eq, beq_self_eq_true, beq_true, beq_false, decide_true, decide_false, Bool.not_true, Bool.not_false, true_and, and_true, or_false, false_or, Bool.and_eq_true, reduceCtorEq, not_false_eq_true, Z1u] <;> rfl
end Go.Proofs.YtfndkemgjhajnaaDoor
namespace Go.Proofs.YtfndkemgjhajnaaDoor
open Go Go.Pe Go.Tab

/-- What is known of the texts of a term's kids. -/
structure LOk (L : List (List UInt8)) : Prop where
  n : L.length ≤ 1048576
  s : Lib.lens L + 16 * L.length ≤ 4398046511104
theorem LOk.of (cols : List Cl) (ks : List Tm) (hc : ClsOk cols) (hk : TmsOk ks) (hw : Tm.wts ks ≤ 1048576) : LOk (textsF cols ks) := by
  have h1 := textsF_len cols hc ks hk
  have h2 := wts_len ks
  exact ⟨by rw [textsF_len']; omega, by omega⟩
theorem rd_agg3 (a b c : C) : X.rd (.agg [.of a, .of b, .of c]) = some (.agg [a, b, c]) := rfl
theorem rd_agg10 (a b c d e f g h i j : C) : X.rd (.agg [.of a, .of b, .of c, .of d, .of e, .of f, .of g, .of h, .of i, .of j]) = some (.agg [a, b, c, d, e, f, g, h, i, j]) := rfl
theorem r3Text_k (v : V) (K : An → Prop) (hv : VOk v) : CallK Tryd.prog pr 28 [.of (.agg [ci v.k, ci v.n, cstr v.s])] [] K ↔ K ⟨false, [xstr (textS v)], []⟩ := Gives.k (r3Text_call v hv) K
theorem vaText_k (v : V) (K : An → Prop) (hv : VOk v) : CallK Tryd.prog pr 24 [.of (.agg [ci v.k, ci v.n, cstr v.s])] [] K ↔ K ⟨false, [xstr (textS v)], []⟩ := Gives.k (vaText_call v hv) K
theorem opText_one (cols : List Cl) (op : Int) (v : V) (d a : Int) (nm x : List UInt8) (h1 : op ≠ 1) (h2 : op ≠ 2) (h3 : op ≠ 24) (h4 : op ≠ 26) (h5 : op ≠ 27) : opText cols op v d a nm [x] = oneL op x := by
  unfold opText oneL
  rw [if_neg h1, if_neg h2, if_neg h3, if_neg h4, if_neg h5]

section
variable (cols : List Cl) (op : Int) (v : V) (d a : Int) (nm : List UInt8) (ks : List Tm) (sub : C) (ty : Int)
  (hc : ClsOk cols) (hop : I64 op) (hv : VOk v) (hvs : v.s.size ≤ 1048576) (hd : I64 d) (ha : I64 a) (hnm : nm.length ≤ 1048576) (hL : LOk (textsF cols ks))
  (hk : G1 30 [.of (.sl (tmsC ks) ks.length), .of (colsC cols)] (txO (textsF cols ks)))
include hc hop hv hvs hd ha hnm hL hk
set_option linter.unusedSectionVars false in
set_option maxRecDepth 100000 in
theorem rterm_step : G1 15 [.of (.agg [ci op, ci v.k, ci v.n, cstr v.s, ci d, ci a, cstr (strL nm), .sl (tmsC ks) ks.length, sub, ci ty]), .of (colsC cols)] (xstr (strL (opText cols op v d a nm (textsF cols ks)))) := by
  have hcall := fun K => Gives.k hk K
  generalize textsF cols ks = L at hL hcall ⊢
  obtain ⟨hn, hs⟩ := hL
  unfold txO at hcall
  refine by_body rfl ok15 body15 ar15 rfl ?_
  by_cases h1 : op = 1
  · subst h1
    have e : opText cols 1 v d a nm L = textL v := by simp [opText]
    rw [e]
    simp -implicitDefEqProofs (maxSteps := 1000000) only [Tryd.f15, ↓zD, zU, Nat.zero_mul, Nat.reduceMul, List.length_map, Tk.nm.injEq, Tk.cell.injEq, false_and, and_false, Nat.le_add_right, Nat.le_refl, ↓reduceIte, Bool.or_false, Bool.false_or, Bool.and_true, Bool.true_and, Bool.false_and, Bool.true_or, Bool.or_true, Option.isNone_none, Option.isNone_some, List.any_cons, List.any_nil, Bool.and_false, Nat.reduceBEq, Nat.reduceLeDiff, Int.reduceLT, Int.reduceEq, Int.reduceLE, Int.reduceAdd, Int.reduceToNat, Int.reduceNeg, Int.cast_ofNat_Int, Nat.reduceLT, List.drop_succ_cons, List.take_succ_cons, List.singleton_append, Nat.zero_add, List.set_cons_zero, List.set_cons_succ, List.drop_nil, List.take_nil, Option.map_some, Option.map_none, Option.getD_some, Option.getD_none, Option.bind_some, List.cons_append, List.nil_append, List.append_nil, List.map_cons, List.map_nil, List.range_zero, List.take_zero, List.flatten_nil, List.filter_nil, List.length_nil, List.length_cons, List.drop_zero, List.not_mem_nil, List.mem_cons, Bool.true_eq_false, Bool.false_eq_true, Nat.reduceEqDiff, Nat.reduceAdd, List.getElem?_toArray, List.toList_toArray, List.getElem?_cons_zero, List.getElem?_cons_succ, decide_eq_true_eq, beq_self_eq_true, beq_true, beq_false, decide_true, decide_false, Bool.not_true, Bool.not_false, true_and, and_true, or_false, false_or, Bool.and_eq_true, reduceCtorEq, not_false_eq_true, cat_u, lit_strL, List.append_assoc, rv15, boxO, T46, P46, T43, P43, T24, P24, fa46_0, fa46_1, fa46_2, fa46_3, fa46_4, fa46_5, P3, P9, U3, U9, U37, U24, U22, T9, T3, T37, len_txt, pc_t, rd_agg3, r3Text_k v _ hv, strL_textL, pr_obj, obj28, call28]
  by_cases h2 : op = 2
  · subst h2
    have e : opText cols 2 v d a nm L = colL cols d a := by simp [opText]
    rw [e]
    simp -implicitDefEqProofs (maxSteps := 1000000) only [Tryd.f15, ↓zD, zU, Nat.zero_mul, Nat.reduceMul, List.length_map, Tk.nm.injEq, Tk.cell.injEq, false_and, and_false, Nat.le_add_right, Nat.le_refl, ↓reduceIte, Bool.or_false, Bool.false_or, Bool.and_true, Bool.true_and, Bool.false_and, Bool.true_or, Bool.or_true, Option.isNone_none, Option.isNone_some, List.any_cons, List.any_nil, Bool.and_false, Nat.reduceBEq, Nat.reduceLeDiff, Int.reduceLT, Int.reduceEq, Int.reduceLE, Int.reduceAdd, Int.reduceToNat, Int.reduceNeg, Int.cast_ofNat_Int, Nat.reduceLT, List.drop_succ_cons, List.take_succ_cons, List.singleton_append, Nat.zero_add, List.set_cons_zero, List.set_cons_succ, List.drop_nil, List.take_nil, Option.map_some, Option.map_none, Option.getD_some, Option.getD_none, Option.bind_some, List.cons_append, List.nil_append, List.append_nil, List.map_cons, List.map_nil, List.range_zero, List.take_zero, List.flatten_nil, List.filter_nil, List.length_nil, List.length_cons, List.drop_zero, List.not_mem_nil, List.mem_cons, Bool.true_eq_false, Bool.false_eq_true, Nat.reduceEqDiff, Nat.reduceAdd, List.getElem?_toArray, List.toList_toArray, List.getElem?_cons_zero, List.getElem?_cons_succ, decide_eq_true_eq, beq_self_eq_true, beq_true, beq_false, decide_true, decide_false, Bool.not_true, Bool.not_false, true_and, and_true, or_false, false_or, Bool.and_eq_true, reduceCtorEq, not_false_eq_true, cat_u, lit_strL, List.append_assoc, rv15, boxO, T46, P46, T43, P43, T24, P24, fa46_0, fa46_1, fa46_2, fa46_3, fa46_4, fa46_5, P3, P9, U3, U9, U37, U24, U22, T9, T3, T37, len_txt, pc_t, rd_agg10, fun K => Gives.k (rcolumn_call cols 2 v.k v.n d a ty v.s nm (.sl (tmsC ks) ks.length) sub hc hd ha) K, pr_obj, obj29, call29]
  by_cases h26 : op = 26
  · subst h26
    have e : opText cols 26 v d a nm L = [40, 113, 117, 101, 114, 121, 41] := by simp [opText]
    rw [e]
    simp -implicitDefEqProofs (maxSteps := 1000000) only [Tryd.f15, ↓zD, zU, Nat.zero_mul, Nat.reduceMul, List.length_map, Tk.nm.injEq, Tk.cell.injEq, false_and, and_false, Nat.le_add_right, Nat.le_refl, ↓reduceIte, Bool.or_false, Bool.false_or, Bool.and_true, Bool.true_and, Bool.false_and, Bool.true_or, Bool.or_true, Option.isNone_none, Option.isNone_some, List.any_cons, List.any_nil, Bool.and_false, Nat.reduceBEq, Nat.reduceLeDiff, Int.reduceLT, Int.reduceEq, Int.reduceLE, Int.reduceAdd, Int.reduceToNat, Int.reduceNeg, Int.cast_ofNat_Int, Nat.reduceLT, List.drop_succ_cons, List.take_succ_cons, List.singleton_append, Nat.zero_add, List.set_cons_zero, List.set_cons_succ, List.drop_nil, List.take_nil, Option.map_some, Option.map_none, Option.getD_some, Option.getD_none, Option.bind_some, List.cons_append, List.nil_append, List.append_nil, List.map_cons, List.map_nil, List.range_zero, List.take_zero, List.flatten_nil, List.filter_nil, List.length_nil, List.length_cons, List.drop_zero, List.not_mem_nil, List.mem_cons, Bool.true_eq_false, Bool.false_eq_true, Nat.reduceEqDiff, Nat.reduceAdd, List.getElem?_toArray, List.toList_toArray, List.getElem?_cons_zero, List.getElem?_cons_succ, decide_eq_true_eq, beq_self_eq_true, beq_true, beq_false, decide_true, decide_false, Bool.not_true, Bool.not_false, true_and, and_true, or_false, false_or, Bool.and_eq_true, reduceCtorEq, not_false_eq_true, cat_u, lit_strL, List.append_assoc, rv15, boxO, T46, P46, T43, P43, T24, P24, fa46_0, fa46_1, fa46_2, fa46_3, fa46_4, fa46_5, P3, P9, U3, U9, U37, U24, U22, T9, T3, T37, len_txt, pc_t]
  by_cases h27 : op = 27
  · subst h27
    have e : opText cols 27 v d a nm L = [40, 101, 120, 105, 115, 116, 115, 32, 113, 117, 101, 114, 121, 41] := by simp [opText]
    rw [e]
    simp -implicitDefEqProofs (maxSteps := 1000000) only [Tryd.f15, ↓zD, zU, Nat.zero_mul, Nat.reduceMul, List.length_map, Tk.nm.injEq, Tk.cell.injEq, false_and, and_false, Nat.le_add_right, Nat.le_refl, ↓reduceIte, Bool.or_false, Bool.false_or, Bool.and_true, Bool.true_and, Bool.false_and, Bool.true_or, Bool.or_true, Option.isNone_none, Option.isNone_some, List.any_cons, List.any_nil, Bool.and_false, Nat.reduceBEq, Nat.reduceLeDiff, Int.reduceLT, Int.reduceEq, Int.reduceLE, Int.reduceAdd, Int.reduceToNat, Int.reduceNeg, Int.cast_ofNat_Int, Nat.reduceLT, List.drop_succ_cons, List.take_succ_cons, List.singleton_append, Nat.zero_add, List.set_cons_zero, List.set_cons_succ, List.drop_nil, List.take_nil, Option.map_some, Option.map_none, Option.getD_some, Option.getD_none, Option.bind_some, List.cons_append, List.nil_append, List.append_nil, List.map_cons, List.map_nil, List.range_zero, List.take_zero, List.flatten_nil, List.filter_nil, List.length_nil, List.length_cons, List.drop_zero, List.not_mem_nil, List.mem_cons, Bool.true_eq_false, Bool.false_eq_true, Nat.reduceEqDiff, Nat.reduceAdd, List.getElem?_toArray, List.toList_toArray, List.getElem?_cons_zero, List.getElem?_cons_succ, decide_eq_true_eq, beq_self_eq_true, beq_true, beq_false, decide_true, decide_false, Bool.not_true, Bool.not_false, true_and, and_true, or_false, false_or, Bool.and_eq_true, reduceCtorEq, not_false_eq_true, cat_u, lit_strL, List.append_assoc, rv15, boxO, T46, P46, T43, P43, T24, P24, fa46_0, fa46_1, fa46_2, fa46_3, fa46_4, fa46_5, P3, P9, U3, U9, U37, U24, U22, T9, T3, T37, len_txt, pc_t]
  by_cases h24 : op = 24
  · subst h24
    have e : opText cols 24 v d a nm L = nm ++ [40] ++ Lib.join L [44, 32] ++ [41] := by simp [opText]
    have hj := join_le L [44, 32]
    simp only [List.length_cons, List.length_nil] at hj
    rw [e]
    simp -implicitDefEqProofs (maxSteps := 1000000) only [Tryd.f15, ↓zD, zU, Nat.zero_mul, Nat.reduceMul, List.length_map, Tk.nm.injEq, Tk.cell.injEq, false_and, and_false, Nat.le_add_right, Nat.le_refl, ↓reduceIte, Bool.or_false, Bool.false_or, Bool.and_true, Bool.true_and, Bool.false_and, Bool.true_or, Bool.or_true, Option.isNone_none, Option.isNone_some, List.any_cons, List.any_nil, Bool.and_false, Nat.reduceBEq, Nat.reduceLeDiff, Int.reduceLT, Int.reduceEq, Int.reduceLE, Int.reduceAdd, Int.reduceToNat, Int.reduceNeg, Int.cast_ofNat_Int, Nat.reduceLT, List.drop_succ_cons, List.take_succ_cons, List.singleton_append, Nat.zero_add, List.set_cons_zero, List.set_cons_succ, List.drop_nil, List.take_nil, Option.map_some, Option.map_none, Option.getD_some, Option.getD_none, Option.bind_some, List.cons_append, List.nil_append, List.append_nil, List.map_cons, List.map_nil, List.range_zero, List.take_zero, List.flatten_nil, List.filter_nil, List.length_nil, List.length_cons, List.drop_zero, List.not_mem_nil, List.mem_cons, Bool.true_eq_false, Bool.false_eq_true, Nat.reduceEqDiff, Nat.reduceAdd, List.getElem?_toArray, List.toList_toArray, List.getElem?_cons_zero, List.getElem?_cons_succ, decide_eq_true_eq, beq_self_eq_true, beq_true, beq_false, decide_true, decide_false, Bool.not_true, Bool.not_false, true_and, and_true, or_false, false_or, Bool.and_eq_true, reduceCtorEq, not_false_eq_true, cat_u, lit_strL, List.append_assoc, rv15, boxO, T46, P46, T43, P43, T24, P24, fa46_0, fa46_1, fa46_2, fa46_3, fa46_4, fa46_5, P3, P9, U3, U9, U37, U24, U22, T9, T3, T37, len_txt, pc_t, hcall, rjoin_k L [44, 32] _ rfl (by omega), pr_obj, obj30, call30, obj31, call31] <;> (and_intros <;> first | ((try simp only [List.length_append, List.length_cons, List.length_nil, SLIM]); omega) | rfl)
  have d1 : decide (op = 1) = false := decide_eq_false h1
  have d2 : decide (op = 2) = false := decide_eq_false h2
  have d3 : decide (op = 26) = false := decide_eq_false h26
  have d4 : decide (op = 27) = false := decide_eq_false h27
  have d5 : decide (op = 24) = false := decide_eq_false h24
  have q3 : ∀ n : Nat, decide (((n + 1 + 1 + 1 : Nat) : Int) = 1) = false := fun n => decide_eq_false (by omega)
  have q4 : ∀ n : Nat, decide (((n + 1 + 1 + 1 : Nat) : Int) = 2) = false := fun n => decide_eq_false (by omega)
  have q5 : ∀ n : Nat, decide (((n + 1 + 1 + 1 + 1 : Nat) : Int) = 3) = false := fun n => decide_eq_false (by omega)
  by_cases h21 : op = 21
  · subst h21
    match L with
    | [] =>
      have e : opText cols 21 v d a nm [] = [63] := by simp [opText]
      rw [e]
      simp -implicitDefEqProofs (maxSteps := 1000000) only [Tryd.f15, ↓zD, zU, Nat.zero_mul, Nat.reduceMul, List.length_map, Tk.nm.injEq, Tk.cell.injEq, false_and, and_false, Nat.le_add_right, Nat.le_refl, ↓reduceIte, Bool.or_false, Bool.false_or, Bool.and_true, Bool.true_and, Bool.false_and, Bool.true_or, Bool.or_true, Option.isNone_none, Option.isNone_some, List.any_cons, List.any_nil, Bool.and_false, Nat.reduceBEq, Nat.reduceLeDiff, Int.reduceLT, Int.reduceEq, Int.reduceLE, Int.reduceAdd, Int.reduceToNat, Int.reduceNeg, Int.cast_ofNat_Int, Nat.reduceLT, List.drop_succ_cons, List.take_succ_cons, List.singleton_append, Nat.zero_add, List.set_cons_zero, List.set_cons_succ, List.drop_nil, List.take_nil, Option.map_some, Option.map_none, Option.getD_some, Option.getD_none, Option.bind_some, List.cons_append, List.nil_append, List.append_nil, List.map_cons, List.map_nil, List.range_zero, List.take_zero, List.flatten_nil, List.filter_nil, List.length_nil, List.length_cons, List.drop_zero, List.not_mem_nil, List.mem_cons, Bool.true_eq_false, Bool.false_eq_true, Nat.reduceEqDiff, Nat.reduceAdd, List.getElem?_toArray, List.toList_toArray, List.getElem?_cons_zero, List.getElem?_cons_succ, decide_eq_true_eq, beq_self_eq_true, beq_true, beq_false, decide_true, decide_false, Bool.not_true, Bool.not_false, true_and, and_true, or_false, false_or, Bool.and_eq_true, reduceCtorEq, not_false_eq_true, cat_u, lit_strL, List.append_assoc, rv15, boxO, T46, P46, T43, P43, T24, P24, fa46_0, fa46_1, fa46_2, fa46_3, fa46_4, fa46_5, P3, P9, U3, U9, U37, U24, U22, T9, T3, T37, len_txt, pc_t, hcall, pr_obj, obj30, call30, ia_o0, ia_o1, ia_o2, sl_o1]
    | [x] =>
      simp only [lens_cons, lens_nil, List.length_cons, List.length_nil] at hs
      rw [opText_one cols 21 v d a nm x (by decide) (by decide) (by decide) (by decide) (by decide)]
      simp -implicitDefEqProofs (maxSteps := 1000000) only [Tryd.f15, ↓zD, zU, Nat.zero_mul, Nat.reduceMul, List.length_map, Tk.nm.injEq, Tk.cell.injEq, false_and, and_false, Nat.le_add_right, Nat.le_refl, ↓reduceIte, Bool.or_false, Bool.false_or, Bool.and_true, Bool.true_and, Bool.false_and, Bool.true_or, Bool.or_true, Option.isNone_none, Option.isNone_some, List.any_cons, List.any_nil, Bool.and_false, Nat.reduceBEq, Nat.reduceLeDiff, Int.reduceLT, Int.reduceEq, Int.reduceLE, Int.reduceAdd, Int.reduceToNat, Int.reduceNeg, Int.cast_ofNat_Int, Nat.reduceLT, List.drop_succ_cons, List.take_succ_cons, List.singleton_append, Nat.zero_add, List.set_cons_zero, List.set_cons_succ, List.drop_nil, List.take_nil, Option.map_some, Option.map_none, Option.getD_some, Option.getD_none, Option.bind_some, List.cons_append, List.nil_append, List.append_nil, List.map_cons, List.map_nil, List.range_zero, List.take_zero, List.flatten_nil, List.filter_nil, List.length_nil, List.length_cons, List.drop_zero, List.not_mem_nil, List.mem_cons, Bool.true_eq_false, Bool.false_eq_true, Nat.reduceEqDiff, Nat.reduceAdd, List.getElem?_toArray, List.toList_toArray, List.getElem?_cons_zero, List.getElem?_cons_succ, decide_eq_true_eq, beq_self_eq_true, beq_true, beq_false, decide_true, decide_false, Bool.not_true, Bool.not_false, true_and, and_true, or_false, false_or, Bool.and_eq_true, reduceCtorEq, not_false_eq_true, cat_u, lit_strL, List.append_assoc, rv15, boxO, T46, P46, T43, P43, T24, P24, fa46_0, fa46_1, fa46_2, fa46_3, fa46_4, fa46_5, P3, P9, U3, U9, U37, U24, U22, T9, T3, T37, len_txt, pc_t, hcall, pr_obj, obj30, call30, ia_o0, ia_o1, ia_o2, sl_o1, rone_k 21 x _ (by omega), obj33, call33]
    | x :: y :: r =>
      simp only [lens_cons, lens_nil, List.length_cons, List.length_nil] at hs
      have e : opText cols 21 v d a nm (x :: y :: r) = [40] ++ x ++ [32, 105, 110, 32, 40] ++ Lib.join (y :: r) [44, 32] ++ [41, 41] := by
        cases r <;> simp [opText, lookT, signT]
      have hj := join_le (y :: r) [44, 32]
      simp only [lens_cons, List.length_cons, List.length_nil] at hj
      have hjk : ∀ K, CallK Tryd.prog pr 31 [.of (.sl (txC (y :: r)) (r.length + 1)), .of (cstr (strL [44, 32]))] [] K ↔ K ⟨false, [xstr (strL (Lib.join (y :: r) [44, 32]))], []⟩ := fun K => rjoin_k (y :: r) [44, 32] K rfl (by simp only [lens_cons, List.length_cons]; omega)
      rw [e]
      simp -implicitDefEqProofs (maxSteps := 1000000) only [Tryd.f15, ↓zD, zU, Nat.zero_mul, Nat.reduceMul, List.length_map, Tk.nm.injEq, Tk.cell.injEq, false_and, and_false, Nat.le_add_right, Nat.le_refl, ↓reduceIte, Bool.or_false, Bool.false_or, Bool.and_true, Bool.true_and, Bool.false_and, Bool.true_or, Bool.or_true, Option.isNone_none, Option.isNone_some, List.any_cons, List.any_nil, Bool.and_false, Nat.reduceBEq, Nat.reduceLeDiff, Int.reduceLT, Int.reduceEq, Int.reduceLE, Int.reduceAdd, Int.reduceToNat, Int.reduceNeg, Int.cast_ofNat_Int, Nat.reduceLT, List.drop_succ_cons, List.take_succ_cons, List.singleton_append, Nat.zero_add, List.set_cons_zero, List.set_cons_succ, List.drop_nil, List.take_nil, Option.map_some, Option.map_none, Option.getD_some, Option.getD_none, Option.bind_some, List.cons_append, List.nil_append, List.append_nil, List.map_cons, List.map_nil, List.range_zero, List.take_zero, List.flatten_nil, List.filter_nil, List.length_nil, List.length_cons, List.drop_zero, List.not_mem_nil, List.mem_cons, Bool.true_eq_false, Bool.false_eq_true, Nat.reduceEqDiff, Nat.reduceAdd, List.getElem?_toArray, List.toList_toArray, List.getElem?_cons_zero, List.getElem?_cons_succ, decide_eq_true_eq, beq_self_eq_true, beq_true, beq_false, decide_true, decide_false, Bool.not_true, Bool.not_false, true_and, and_true, or_false, false_or, Bool.and_eq_true, reduceCtorEq, not_false_eq_true, cat_u, lit_strL, List.append_assoc, rv15, boxO, T46, P46, T43, P43, T24, P24, fa46_0, fa46_1, fa46_2, fa46_3, fa46_4, fa46_5, P3, P9, U3, U9, U37, U24, U22, T9, T3, T37, len_txt, pc_t, hcall, pr_obj, obj30, call30, ia_o0, ia_o1, ia_o2, sl_o1, lt1, hjk, obj31, call31] <;> (and_intros <;> first | ((try simp only [List.length_append, List.length_cons, List.length_nil, SLIM]); omega) | rfl)
  have d6 : decide (op = 21) = false := decide_eq_false h21
  by_cases h23 : op = 23
  · subst h23
    match L with
    | [] =>
      have e : opText cols 23 v d a nm [] = [63] := by simp [opText]
      rw [e]
      simp -implicitDefEqProofs (maxSteps := 1000000) only [Tryd.f15, ↓zD, zU, Nat.zero_mul, Nat.reduceMul, List.length_map, Tk.nm.injEq, Tk.cell.injEq, false_and, and_false, Nat.le_add_right, Nat.le_refl, ↓reduceIte, Bool.or_false, Bool.false_or, Bool.and_true, Bool.true_and, Bool.false_and, Bool.true_or, Bool.or_true, Option.isNone_none, Option.isNone_some, List.any_cons, List.any_nil, Bool.and_false, Nat.reduceBEq, Nat.reduceLeDiff, Int.reduceLT, Int.reduceEq, Int.reduceLE, Int.reduceAdd, Int.reduceToNat, Int.reduceNeg, Int.cast_ofNat_Int, Nat.reduceLT, List.drop_succ_cons, List.take_succ_cons, List.singleton_append, Nat.zero_add, List.set_cons_zero, List.set_cons_succ, List.drop_nil, List.take_nil, Option.map_some, Option.map_none, Option.getD_some, Option.getD_none, Option.bind_some, List.cons_append, List.nil_append, List.append_nil, List.map_cons, List.map_nil, List.range_zero, List.take_zero, List.flatten_nil, List.filter_nil, List.length_nil, List.length_cons, List.drop_zero, List.not_mem_nil, List.mem_cons, Bool.true_eq_false, Bool.false_eq_true, Nat.reduceEqDiff, Nat.reduceAdd, List.getElem?_toArray, List.toList_toArray, List.getElem?_cons_zero, List.getElem?_cons_succ, decide_eq_true_eq, beq_self_eq_true, beq_true, beq_false, decide_true, decide_false, Bool.not_true, Bool.not_false, true_and, and_true, or_false, false_or, Bool.and_eq_true, reduceCtorEq, not_false_eq_true, cat_u, lit_strL, List.append_assoc, rv15, boxO, T46, P46, T43, P43, T24, P24, fa46_0, fa46_1, fa46_2, fa46_3, fa46_4, fa46_5, P3, P9, U3, U9, U37, U24, U22, T9, T3, T37, len_txt, pc_t, hcall, pr_obj, obj30, call30, ia_o0, ia_o1, ia_o2, sl_o1]
    | [x] =>
      simp only [lens_cons, lens_nil, List.length_cons, List.length_nil] at hs
      rw [opText_one cols 23 v d a nm x (by decide) (by decide) (by decide) (by decide) (by decide)]
      simp -implicitDefEqProofs (maxSteps := 1000000) only [Tryd.f15, ↓zD, zU, Nat.zero_mul, Nat.reduceMul, List.length_map, Tk.nm.injEq, Tk.cell.injEq, false_and, and_false, Nat.le_add_right, Nat.le_refl, ↓reduceIte, Bool.or_false, Bool.false_or, Bool.and_true, Bool.true_and, Bool.false_and, Bool.true_or, Bool.or_true, Option.isNone_none, Option.isNone_some, List.any_cons, List.any_nil, Bool.and_false, Nat.reduceBEq, Nat.reduceLeDiff, Int.reduceLT, Int.reduceEq, Int.reduceLE, Int.reduceAdd, Int.reduceToNat, Int.reduceNeg, Int.cast_ofNat_Int, Nat.reduceLT, List.drop_succ_cons, List.take_succ_cons, List.singleton_append, Nat.zero_add, List.set_cons_zero, List.set_cons_succ, List.drop_nil, List.take_nil, Option.map_some, Option.map_none, Option.getD_some, Option.getD_none, Option.bind_some, List.cons_append, List.nil_append, List.append_nil, List.map_cons, List.map_nil, List.range_zero, List.take_zero, List.flatten_nil, List.filter_nil, List.length_nil, List.length_cons, List.drop_zero, List.not_mem_nil, List.mem_cons, Bool.true_eq_false, Bool.false_eq_true, Nat.reduceEqDiff, Nat.reduceAdd, List.getElem?_toArray, List.toList_toArray, List.getElem?_cons_zero, List.getElem?_cons_succ, decide_eq_true_eq, beq_self_eq_true, beq_true, beq_false, decide_true, decide_false, Bool.not_true, Bool.not_false, true_and, and_true, or_false, false_or, Bool.and_eq_true, reduceCtorEq, not_false_eq_true, cat_u, lit_strL, List.append_assoc, rv15, boxO, T46, P46, T43, P43, T24, P24, fa46_0, fa46_1, fa46_2, fa46_3, fa46_4, fa46_5, P3, P9, U3, U9, U37, U24, U22, T9, T3, T37, len_txt, pc_t, hcall, pr_obj, obj30, call30, ia_o0, ia_o1, ia_o2, sl_o1, rone_k 23 x _ (by omega), obj33, call33]
    | x :: y :: r =>
      have e : opText cols 23 v d a nm (x :: y :: r) = caseF [40, 99, 97, 115, 101] (x :: y :: r) := by
        cases r <;> simp [opText, lookT, signT]
      have hjk : ∀ K, CallK Tryd.prog pr 32 [.of (.sl (txC (x :: y :: r)) (r.length + 1 + 1))] [] K ↔ K ⟨false, [xstr (strL (caseF [40, 99, 97, 115, 101] (x :: y :: r)))], []⟩ := fun K => rcases_k (x :: y :: r) K (by unfold SLIM; omega)
      rw [e]
      simp -implicitDefEqProofs (maxSteps := 1000000) only [Tryd.f15, ↓zD, zU, Nat.zero_mul, Nat.reduceMul, List.length_map, Tk.nm.injEq, Tk.cell.injEq, false_and, and_false, Nat.le_add_right, Nat.le_refl, ↓reduceIte, Bool.or_false, Bool.false_or, Bool.and_true, Bool.true_and, Bool.false_and, Bool.true_or, Bool.or_true, Option.isNone_none, Option.isNone_some, List.any_cons, List.any_nil, Bool.and_false, Nat.reduceBEq, Nat.reduceLeDiff, Int.reduceLT, Int.reduceEq, Int.reduceLE, Int.reduceAdd, Int.reduceToNat, Int.reduceNeg, Int.cast_ofNat_Int, Nat.reduceLT, List.drop_succ_cons, List.take_succ_cons, List.singleton_append, Nat.zero_add, List.set_cons_zero, List.set_cons_succ, List.drop_nil, List.take_nil, Option.map_some, Option.map_none, Option.getD_some, Option.getD_none, Option.bind_some, List.cons_append, List.nil_append, List.append_nil, List.map_cons, List.map_nil, List.range_zero, List.take_zero, List.flatten_nil, List.filter_nil, List.length_nil, List.length_cons, List.drop_zero, List.not_mem_nil, List.mem_cons, Bool.true_eq_false, Bool.false_eq_true, Nat.reduceEqDiff, Nat.reduceAdd, List.getElem?_toArray, List.toList_toArray, List.getElem?_cons_zero, List.getElem?_cons_succ, decide_eq_true_eq, beq_self_eq_true, beq_true, beq_false, decide_true, decide_false, Bool.not_true, Bool.not_false, true_and, and_true, or_false, false_or, Bool.and_eq_true, reduceCtorEq, not_false_eq_true, cat_u, lit_strL, List.append_assoc, rv15, boxO, T46, P46, T43, P43, T24, P24, fa46_0, fa46_1, fa46_2, fa46_3, fa46_4, fa46_5, P3, P9, U3, U9, U37, U24, U22, T9, T3, T37, len_txt, pc_t, hcall, pr_obj, obj30, call30, ia_o0, ia_o1, ia_o2, sl_o1, lt1, hjk, obj32, call32] <;> (and_intros <;> first | ((try simp only [List.length_append, List.length_cons, List.length_nil, SLIM]); omega) | rfl)
  have d7 : decide (op = 23) = false := decide_eq_false h23
  by_cases h22 : op = 22
  · subst h22
    match L with
    | [] =>
      have e : opText cols 22 v d a nm [] = [63] := by simp [opText]
      rw [e]
      simp -implicitDefEqProofs (maxSteps := 1000000) only [Tryd.f15, ↓zD, zU, Nat.zero_mul, Nat.reduceMul, List.length_map, Tk.nm.injEq, Tk.cell.injEq, false_and, and_false, Nat.le_add_right, Nat.le_refl, ↓reduceIte, Bool.or_false, Bool.false_or, Bool.and_true, Bool.true_and, Bool.false_and, Bool.true_or, Bool.or_true, Option.isNone_none, Option.isNone_some, List.any_cons, List.any_nil, Bool.and_false, Nat.reduceBEq, Nat.reduceLeDiff, Int.reduceLT, Int.reduceEq, Int.reduceLE, Int.reduceAdd, Int.reduceToNat, Int.reduceNeg, Int.cast_ofNat_Int, Nat.reduceLT, List.drop_succ_cons, List.take_succ_cons, List.singleton_append, Nat.zero_add, List.set_cons_zero, List.set_cons_succ, List.drop_nil, List.take_nil, Option.map_some, Option.map_none, Option.getD_some, Option.getD_none, Option.bind_some, List.cons_append, List.nil_append, List.append_nil, List.map_cons, List.map_nil, List.range_zero, List.take_zero, List.flatten_nil, List.filter_nil, List.length_nil, List.length_cons, List.drop_zero, List.not_mem_nil, List.mem_cons, Bool.true_eq_false, Bool.false_eq_true, Nat.reduceEqDiff, Nat.reduceAdd, List.getElem?_toArray, List.toList_toArray, List.getElem?_cons_zero, List.getElem?_cons_succ, decide_eq_true_eq, beq_self_eq_true, beq_true, beq_false, decide_true, decide_false, Bool.not_true, Bool.not_false, true_and, and_true, or_false, false_or, Bool.and_eq_true, reduceCtorEq, not_false_eq_true, cat_u, lit_strL, List.append_assoc, rv15, boxO, T46, P46, T43, P43, T24, P24, fa46_0, fa46_1, fa46_2, fa46_3, fa46_4, fa46_5, P3, P9, U3, U9, U37, U24, U22, T9, T3, T37, len_txt, pc_t, hcall, pr_obj, obj30, call30, ia_o0, ia_o1, ia_o2, sl_o1]
    | [x] =>
      simp only [lens_cons, lens_nil, List.length_cons, List.length_nil] at hs
      rw [opText_one cols 22 v d a nm x (by decide) (by decide) (by decide) (by decide) (by decide)]
      simp -implicitDefEqProofs (maxSteps := 1000000) only [Tryd.f15, ↓zD, zU, Nat.zero_mul, Nat.reduceMul, List.length_map, Tk.nm.injEq, Tk.cell.injEq, false_and, and_false, Nat.le_add_right, Nat.le_refl, ↓reduceIte, Bool.or_false, Bool.false_or, Bool.and_true, Bool.true_and, Bool.false_and, Bool.true_or, Bool.or_true, Option.isNone_none, Option.isNone_some, List.any_cons, List.any_nil, Bool.and_false, Nat.reduceBEq, Nat.reduceLeDiff, Int.reduceLT, Int.reduceEq, Int.reduceLE, Int.reduceAdd, Int.reduceToNat, Int.reduceNeg, Int.cast_ofNat_Int, Nat.reduceLT, List.drop_succ_cons, List.take_succ_cons, List.singleton_append, Nat.zero_add, List.set_cons_zero, List.set_cons_succ, List.drop_nil, List.take_nil, Option.map_some, Option.map_none, Option.getD_some, Option.getD_none, Option.bind_some, List.cons_append, List.nil_append, List.append_nil, List.map_cons, List.map_nil, List.range_zero, List.take_zero, List.flatten_nil, List.filter_nil, List.length_nil, List.length_cons, List.drop_zero, List.not_mem_nil, List.mem_cons, Bool.true_eq_false, Bool.false_eq_true, Nat.reduceEqDiff, Nat.reduceAdd, List.getElem?_toArray, List.toList_toArray, List.getElem?_cons_zero, List.getElem?_cons_succ, decide_eq_true_eq, beq_self_eq_true, beq_true, beq_false, decide_true, decide_false, Bool.not_true, Bool.not_false, true_and, and_true, or_false, false_or, Bool.and_eq_true, reduceCtorEq, not_false_eq_true, cat_u, lit_strL, List.append_assoc, rv15, boxO, T46, P46, T43, P43, T24, P24, fa46_0, fa46_1, fa46_2, fa46_3, fa46_4, fa46_5, P3, P9, U3, U9, U37, U24, U22, T9, T3, T37, len_txt, pc_t, hcall, pr_obj, obj30, call30, ia_o0, ia_o1, ia_o2, sl_o1, rone_k 22 x _ (by omega), obj33, call33]
    | [x, y] =>
      simp only [lens_cons, lens_nil, List.length_cons, List.length_nil] at hs
      have e : opText cols 22 v d a nm [x, y] = twoL 22 x y := by simp [opText, twoL, lookT, signT]
      rw [e]
      simp -implicitDefEqProofs (maxSteps := 1000000) only [Tryd.f15, ↓zD, zU, Nat.zero_mul, Nat.reduceMul, List.length_map, Tk.nm.injEq, Tk.cell.injEq, false_and, and_false, Nat.le_add_right, Nat.le_refl, ↓reduceIte, Bool.or_false, Bool.false_or, Bool.and_true, Bool.true_and, Bool.false_and, Bool.true_or, Bool.or_true, Option.isNone_none, Option.isNone_some, List.any_cons, List.any_nil, Bool.and_false, Nat.reduceBEq, Nat.reduceLeDiff, Int.reduceLT, Int.reduceEq, Int.reduceLE, Int.reduceAdd, Int.reduceToNat, Int.reduceNeg, Int.cast_ofNat_Int, Nat.reduceLT, List.drop_succ_cons, List.take_succ_cons, List.singleton_append, Nat.zero_add, List.set_cons_zero, List.set_cons_succ, List.drop_nil, List.take_nil, Option.map_some, Option.map_none, Option.getD_some, Option.getD_none, Option.bind_some, List.cons_append, List.nil_append, List.append_nil, List.map_cons, List.map_nil, List.range_zero, List.take_zero, List.flatten_nil, List.filter_nil, List.length_nil, List.length_cons, List.drop_zero, List.not_mem_nil, List.mem_cons, Bool.true_eq_false, Bool.false_eq_true, Nat.reduceEqDiff, Nat.reduceAdd, List.getElem?_toArray, List.toList_toArray, List.getElem?_cons_zero, List.getElem?_cons_succ, decide_eq_true_eq, beq_self_eq_true, beq_true, beq_false, decide_true, decide_false, Bool.not_true, Bool.not_false, true_and, and_true, or_false, false_or, Bool.and_eq_true, reduceCtorEq, not_false_eq_true, cat_u, lit_strL, List.append_assoc, rv15, boxO, T46, P46, T43, P43, T24, P24, fa46_0, fa46_1, fa46_2, fa46_3, fa46_4, fa46_5, P3, P9, U3, U9, U37, U24, U22, T9, T3, T37, len_txt, pc_t, hcall, pr_obj, obj30, call30, ia_o0, ia_o1, ia_o2, sl_o1, rtwo_k 22 x y _ (by omega) hop, obj34, call34]
    | [x, y, z] =>
      simp only [lens_cons, lens_nil, List.length_cons, List.length_nil] at hs
      have e : opText cols 22 v d a nm [x, y, z] = [40] ++ x ++ [32, 98, 101, 116, 119, 101, 101, 110, 32] ++ y ++ [32, 97, 110, 100, 32] ++ z ++ [41] := by simp [opText]
      rw [e]
      simp -implicitDefEqProofs (maxSteps := 1000000) only [Tryd.f15, ↓zD, zU, Nat.zero_mul, Nat.reduceMul, List.length_map, Tk.nm.injEq, Tk.cell.injEq, false_and, and_false, Nat.le_add_right, Nat.le_refl, ↓reduceIte, Bool.or_false, Bool.false_or, Bool.and_true, Bool.true_and, Bool.false_and, Bool.true_or, Bool.or_true, Option.isNone_none, Option.isNone_some, List.any_cons, List.any_nil, Bool.and_false, Nat.reduceBEq, Nat.reduceLeDiff, Int.reduceLT, Int.reduceEq, Int.reduceLE, Int.reduceAdd, Int.reduceToNat, Int.reduceNeg, Int.cast_ofNat_Int, Nat.reduceLT, List.drop_succ_cons, List.take_succ_cons, List.singleton_append, Nat.zero_add, List.set_cons_zero, List.set_cons_succ, List.drop_nil, List.take_nil, Option.map_some, Option.map_none, Option.getD_some, Option.getD_none, Option.bind_some, List.cons_append, List.nil_append, List.append_nil, List.map_cons, List.map_nil, List.range_zero, List.take_zero, List.flatten_nil, List.filter_nil, List.length_nil, List.length_cons, List.drop_zero, List.not_mem_nil, List.mem_cons, Bool.true_eq_false, Bool.false_eq_true, Nat.reduceEqDiff, Nat.reduceAdd, List.getElem?_toArray, List.toList_toArray, List.getElem?_cons_zero, List.getElem?_cons_succ, decide_eq_true_eq, beq_self_eq_true, beq_true, beq_false, decide_true, decide_false, Bool.not_true, Bool.not_false, true_and, and_true, or_false, false_or, Bool.and_eq_true, reduceCtorEq, not_false_eq_true, cat_u, lit_strL, List.append_assoc, rv15, boxO, T46, P46, T43, P43, T24, P24, fa46_0, fa46_1, fa46_2, fa46_3, fa46_4, fa46_5, P3, P9, U3, U9, U37, U24, U22, T9, T3, T37, len_txt, pc_t, hcall, pr_obj, obj30, call30, ia_o0, ia_o1, ia_o2, sl_o1] <;> (and_intros <;> first | ((try simp only [List.length_append, List.length_cons, List.length_nil, SLIM]); omega) | rfl)
    | x :: y :: z :: w :: r =>
      have e : opText cols 22 v d a nm (x :: y :: z :: w :: r) = [63] := by simp [opText]
      rw [e]
      simp -implicitDefEqProofs (maxSteps := 1000000) only [Tryd.f15, ↓zD, zU, Nat.zero_mul, Nat.reduceMul, List.length_map, Tk.nm.injEq, Tk.cell.injEq, false_and, and_false, Nat.le_add_right, Nat.le_refl, ↓reduceIte, Bool.or_false, Bool.false_or, Bool.and_true, Bool.true_and, Bool.false_and, Bool.true_or, Bool.or_true, Option.isNone_none, Option.isNone_some, List.any_cons, List.any_nil, Bool.and_false, Nat.reduceBEq, Nat.reduceLeDiff, Int.reduceLT, Int.reduceEq, Int.reduceLE, Int.reduceAdd, Int.reduceToNat, Int.reduceNeg, Int.cast_ofNat_Int, Nat.reduceLT, List.drop_succ_cons, List.take_succ_cons, List.singleton_append, Nat.zero_add, List.set_cons_zero, List.set_cons_succ, List.drop_nil, List.take_nil, Option.map_some, Option.map_none, Option.getD_some, Option.getD_none, Option.bind_some, List.cons_append, List.nil_append, List.append_nil, List.map_cons, List.map_nil, List.range_zero, List.take_zero, List.flatten_nil, List.filter_nil, List.length_nil, List.length_cons, List.drop_zero, List.not_mem_nil, List.mem_cons, Bool.true_eq_false, Bool.false_eq_true, Nat.reduceEqDiff, Nat.reduceAdd, List.getElem?_toArray, List.toList_toArray, List.getElem?_cons_zero, List.getElem?_cons_succ, decide_eq_true_eq, beq_self_eq_true, beq_true, beq_false, decide_true, decide_false, Bool.not_true, Bool.not_false, true_and, and_true, or_false, false_or, Bool.and_eq_true, reduceCtorEq, not_false_eq_true, cat_u, lit_strL, List.append_assoc, rv15, boxO, T46, P46, T43, P43, T24, P24, fa46_0, fa46_1, fa46_2, fa46_3, fa46_4, fa46_5, P3, P9, U3, U9, U37, U24, U22, T9, T3, T37, len_txt, pc_t, hcall, pr_obj, obj30, call30, ia_o0, ia_o1, ia_o2, sl_o1, q3, q4, q5]
  have d8 : decide (op = 22) = false := decide_eq_false h22
  match L with
  | [] =>
    have e : opText cols op v d a nm [] = [63] := by
      unfold opText
      rw [if_neg h1, if_neg h2, if_neg h24, if_neg h26, if_neg h27]
    rw [e]
    simp -implicitDefEqProofs (maxSteps := 1000000) only [Tryd.f15, ↓zD, zU, Nat.zero_mul, Nat.reduceMul, List.length_map, Tk.nm.injEq, Tk.cell.injEq, false_and, and_false, Nat.le_add_right, Nat.le_refl, ↓reduceIte, Bool.or_false, Bool.false_or, Bool.and_true, Bool.true_and, Bool.false_and, Bool.true_or, Bool.or_true, Option.isNone_none, Option.isNone_some, List.any_cons, List.any_nil, Bool.and_false, Nat.reduceBEq, Nat.reduceLeDiff, Int.reduceLT, Int.reduceEq, Int.reduceLE, Int.reduceAdd, Int.reduceToNat, Int.reduceNeg, Int.cast_ofNat_Int, Nat.reduceLT, List.drop_succ_cons, List.take_succ_cons, List.singleton_append, Nat.zero_add, List.set_cons_zero, List.set_cons_succ, List.drop_nil, List.take_nil, Option.map_some, Option.map_none, Option.getD_some, Option.getD_none, Option.bind_some, List.cons_append, List.nil_append, List.append_nil, List.map_cons, List.map_nil, List.range_zero, List.take_zero, List.flatten_nil, List.filter_nil, List.length_nil, List.length_cons, List.drop_zero, List.not_mem_nil, List.mem_cons, Bool.true_eq_false, Bool.false_eq_true, Nat.reduceEqDiff, Nat.reduceAdd, List.getElem?_toArray, List.toList_toArray, List.getElem?_cons_zero, List.getElem?_cons_succ, decide_eq_true_eq, beq_self_eq_true, beq_true, beq_false, decide_true, decide_false, Bool.not_true, Bool.not_false, true_and, and_true, or_false, false_or, Bool.and_eq_true, reduceCtorEq, not_false_eq_true, cat_u, lit_strL, List.append_assoc, rv15, boxO, T46, P46, T43, P43, T24, P24, fa46_0, fa46_1, fa46_2, fa46_3, fa46_4, fa46_5, P3, P9, U3, U9, U37, U24, U22, T9, T3, T37, len_txt, pc_t, hcall, pr_obj, obj30, call30, ia_o0, ia_o1, ia_o2, sl_o1, d1, d2, d3, d4, d5, d6, d7, d8]
  | [x] =>
    simp only [lens_cons, lens_nil, List.length_cons, List.length_nil] at hs
    rw [opText_one cols op v d a nm x h1 h2 h24 h26 h27]
    simp -implicitDefEqProofs (maxSteps := 1000000) only [Tryd.f15, ↓zD, zU, Nat.zero_mul, Nat.reduceMul, List.length_map, Tk.nm.injEq, Tk.cell.injEq, false_and, and_false, Nat.le_add_right, Nat.le_refl, ↓reduceIte, Bool.or_false, Bool.false_or, Bool.and_true, Bool.true_and, Bool.false_and, Bool.true_or, Bool.or_true, Option.isNone_none, Option.isNone_some, List.any_cons, List.any_nil, Bool.and_false, Nat.reduceBEq, Nat.reduceLeDiff, Int.reduceLT, Int.reduceEq, Int.reduceLE, Int.reduceAdd, Int.reduceToNat, Int.reduceNeg, Int.cast_ofNat_Int, Nat.reduceLT, List.drop_succ_cons, List.take_succ_cons, List.singleton_append, Nat.zero_add, List.set_cons_zero, List.set_cons_succ, List.drop_nil, List.take_nil, Option.map_some, Option.map_none, Option.getD_some, Option.getD_none, Option.bind_some, List.cons_append, List.nil_append, List.append_nil, List.map_cons, List.map_nil, List.range_zero, List.take_zero, List.flatten_nil, List.filter_nil, List.length_nil, List.length_cons, List.drop_zero, List.not_mem_nil, List.mem_cons, Bool.true_eq_false, Bool.false_eq_true, Nat.reduceEqDiff, Nat.reduceAdd, List.getElem?_toArray, List.toList_toArray, List.getElem?_cons_zero, List.getElem?_cons_succ, decide_eq_true_eq, beq_self_eq_true, beq_true, beq_false, decide_true, decide_false, Bool.not_true, Bool.not_false, true_and, and_true, or_false, false_or, Bool.and_eq_true, reduceCtorEq, not_false_eq_true, cat_u, lit_strL, List.append_assoc, rv15, boxO, T46, P46, T43, P43, T24, P24, fa46_0, fa46_1, fa46_2, fa46_3, fa46_4, fa46_5, P3, P9, U3, U9, U37, U24, U22, T9, T3, T37, len_txt, pc_t, hcall, pr_obj, obj30, call30, ia_o0, ia_o1, ia_o2, sl_o1, d1, d2, d3, d4, d5, d6, d7, d8, rone_k op x _ (by omega), obj33, call33]
  | [x, y] =>
    simp only [lens_cons, lens_nil, List.length_cons, List.length_nil] at hs
    have e : opText cols op v d a nm [x, y] = twoL op x y := by
      unfold opText twoL
      rw [if_neg h1, if_neg h2, if_neg h24, if_neg h26, if_neg h27]
      simp only [if_neg h21, if_neg h23]
      cases lookT signT op <;> rfl
    rw [e]
    simp -implicitDefEqProofs (maxSteps := 1000000) only [Tryd.f15, ↓zD, zU, Nat.zero_mul, Nat.reduceMul, List.length_map, Tk.nm.injEq, Tk.cell.injEq, false_and, and_false, Nat.le_add_right, Nat.le_refl, ↓reduceIte, Bool.or_false, Bool.false_or, Bool.and_true, Bool.true_and, Bool.false_and, Bool.true_or, Bool.or_true, Option.isNone_none, Option.isNone_some, List.any_cons, List.any_nil, Bool.and_false, Nat.reduceBEq, Nat.reduceLeDiff, Int.reduceLT, Int.reduceEq, Int.reduceLE, Int.reduceAdd, Int.reduceToNat, Int.reduceNeg, Int.cast_ofNat_Int, Nat.reduceLT, List.drop_succ_cons, List.take_succ_cons, List.singleton_append, Nat.zero_add, List.set_cons_zero, List.set_cons_succ, List.drop_nil, List.take_nil, Option.map_some, Option.map_none, Option.getD_some, Option.getD_none, Option.bind_some, List.cons_append, List.nil_append, List.append_nil, List.map_cons, List.map_nil, List.range_zero, List.take_zero, List.flatten_nil, List.filter_nil, List.length_nil, List.length_cons, List.drop_zero, List.not_mem_nil, List.mem_cons, Bool.true_eq_false, Bool.false_eq_true, Nat.reduceEqDiff, Nat.reduceAdd, List.getElem?_toArray, List.toList_toArray, List.getElem?_cons_zero, List.getElem?_cons_succ, decide_eq_true_eq, beq_self_eq_true, beq_true, beq_false, decide_true, decide_false, Bool.not_true, Bool.not_false, true_and, and_true, or_false, false_or, Bool.and_eq_true, reduceCtorEq, not_false_eq_true, cat_u, lit_strL, List.append_assoc, rv15, boxO, T46, P46, T43, P43, T24, P24, fa46_0, fa46_1, fa46_2, fa46_3, fa46_4, fa46_5, P3, P9, U3, U9, U37, U24, U22, T9, T3, T37, len_txt, pc_t, hcall, pr_obj, obj30, call30, ia_o0, ia_o1, ia_o2, sl_o1, d1, d2, d3, d4, d5, d6, d7, d8, rtwo_k op x y _ (by omega) hop, obj34, call34]
  | x :: y :: z :: r =>
    have e : opText cols op v d a nm (x :: y :: z :: r) = [63] := by
      unfold opText
      rw [if_neg h1, if_neg h2, if_neg h24, if_neg h26, if_neg h27]
      simp only [if_neg h21, if_neg h23, h22, false_and, if_false]
    rw [e]
    simp -implicitDefEqProofs (maxSteps := 1000000) only [Tryd.f15, ↓zD, zU, Nat.zero_mul, Nat.reduceMul, List.length_map, Tk.nm.injEq, Tk.cell.injEq, false_and, and_false, Nat.le_add_right, Nat.le_refl, ↓reduceIte, Bool.or_false, Bool.false_or, Bool.and_true, Bool.true_and, Bool.false_and, Bool.true_or, Bool.or_true, Option.isNone_none, Option.isNone_some, List.any_cons, List.any_nil, Bool.and_false, Nat.reduceBEq, Nat.reduceLeDiff, Int.reduceLT, Int.reduceEq, Int.reduceLE, Int.reduceAdd, Int.reduceToNat, Int.reduceNeg, Int.cast_ofNat_Int, Nat.reduceLT, List.drop_succ_cons, List.take_succ_cons, List.singleton_append, Nat.zero_add, List.set_cons_zero, List.set_cons_succ, List.drop_nil, List.take_nil, Option.map_some, Option.map_none, Option.getD_some, Option.getD_none, Option.bind_some, List.cons_append, List.nil_append, List.append_nil, List.map_cons, List.map_nil, List.range_zero, List.take_zero, List.flatten_nil, List.filter_nil, List.length_nil, List.length_cons, List.drop_zero, List.not_mem_nil, List.mem_cons, Bool.true_eq_false, Bool.false_eq_true, Nat.reduceEqDiff, Nat.reduceAdd, List.getElem?_toArray, List.toList_toArray, List.getElem?_cons_zero, List.getElem?_cons_succ, decide_eq_true_eq, beq_self_eq_true, beq_true, beq_false, decide_true, decide_false, Bool.not_true, Bool.not_false, true_and, and_true, or_false, false_or, Bool.and_eq_true, reduceCtorEq, not_false_eq_true, cat_u, lit_strL, List.append_assoc, rv15, boxO, T46, P46, T43, P43, T24, P24, fa46_0, fa46_1, fa46_2, fa46_3, fa46_4, fa46_5, P3, P9, U3, U9, U37, U24, U22, T9, T3, T37, len_txt, pc_t, hcall, pr_obj, obj30, call30, ia_o0, ia_o1, ia_o2, sl_o1, d1, d2, d3, d4, d5, d6, d7, d8, q3, q4]
end
theorem rterm_call (cols : List Cl) (hc : ClsOk cols) : ∀ (n : Nat) (t : Tm), t.wt ≤ n → n ≤ 1048576 → TmOk t → G1 15 [.of (.agg (tmC t)), .of (colsC cols)] (xstr (strL (textF cols t)))
  | 0, t, h, _, _ => absurd (wt_pos t) (by omega)
  | n + 1, .mk op v d a nm ks sub ty, h, hn, ht => by
    simp only [TmOk] at ht
    obtain ⟨t1, t2, t3, t4, t5, t6, t7, t8, t9⟩ := ht
    simp only [Tm.wt] at h
    have hks := wts_len ks
    exact rterm_step cols op v d a nm ks sub ty hc t1 ⟨small_of t2, small_of t3, by omega⟩ t4 t5 t6 t7 (LOk.of cols ks hc t9 (by omega))
      (rtexts_call cols ks t8 fun t ht => rterm_call cols hc n t (by
        have := mem_sum (w := Tm.wt) ht
        rw [← wts_sum] at this
        omega) (by omega) ((TmsOk_iff ks).1 t9 t ht))
theorem rtexts_ok (cols : List Cl) (hc : ClsOk cols) (l : List Tm) (h : Tm.wts l ≤ 1048576) (hl : TmsOk l) : G1 30 [.of (.sl (tmsC l) l.length), .of (colsC cols)] (txO (textsF cols l)) := by
  have := wts_len l
  exact rtexts_call cols l (by omega) fun t ht => rterm_call cols hc (Tm.wts l) t (by rw [wts_sum]; exact mem_sum (w := Tm.wt) ht) h ((TmsOk_iff l).1 hl t ht)
theorem opQ (cols : List Cl) (op : Int) (v : V) (d a : Int) (nm : List UInt8) (L : List (List UInt8)) (h1 : op ≠ 1) (h2 : op ≠ 2) (h3 : op ≠ 24) (h4 : op ≠ 26) (h5 : op ≠ 27)
    (ha : L.length = 1 → op ≠ 3 ∧ op ≠ 4 ∧ op ≠ 19 ∧ op ≠ 28) (hb : L.length = 2 → lookT signT op = none ∧ op ≠ 21 ∧ op ≠ 23) (hc : 3 ≤ L.length → op ≠ 21 ∧ op ≠ 23 ∧ (op = 22 → L.length ≠ 3)) :
    opText cols op v d a nm L = [63] := by
  unfold opText
  rw [if_neg h1, if_neg h2, if_neg h3, if_neg h4, if_neg h5]
  match L with
  | [] => rfl
  | [x] =>
    obtain ⟨a1, a2, a3, a4⟩ := ha rfl
    simp only [if_neg a1, if_neg a2, if_neg a3, if_neg a4]
  | [x, y] =>
    obtain ⟨a1, a2, a3⟩ := hb rfl
    simp only [a1, if_neg a2, if_neg a3]
  | x :: y :: z :: r =>
    obtain ⟨a1, a2, a3⟩ := hc (by simp)
    simp only [if_neg a1, if_neg a2]
    rw [if_neg]
    rintro ⟨h, rfl⟩
    exact a3 h rfl
theorem len1 {α : Type} {L : List α} (h : L.length = 1) : ∃ x, L = [x] := List.length_eq_one_iff.1 h
theorem len2 {α : Type} {L : List α} (h : L.length = 2) : ∃ x y, L = [x, y] := match L, h with
  | [x, y], _ => ⟨x, y, rfl⟩
theorem len3 {α : Type} {L : List α} (h : L.length = 3) : ∃ x y z, L = [x, y, z] := match L, h with
  | [x, y, z], _ => ⟨x, y, z, rfl⟩
theorem le2 {α : Type} {L : List α} (h : 2 ≤ L.length) : ∃ x y r, L = x :: y :: r := match L, h with
  | [], h => absurd h (by simp)
  | [x], h => absurd h (by simp)
  | x :: y :: r, _ => ⟨x, y, r, rfl⟩
end Go.Proofs.YtfndkemgjhajnaaDoor
namespace Go.Proofs.YtfndkemgjhajnaaDoor
open Go Go.Pe Go.Tab

section
variable (cols : List Cl) (op : Int) (v : V) (d a : Int) (nm : List UInt8) (ks : List Tm) (sub : C) (ty : Int)
  (hc : ClsOk cols) (hop : I64 op) (hv : VOk v) (hd : I64 d) (ha : I64 a) (hnm : nm.length ≤ 1048576) (hL : LOk (textsF cols ks))
  (ih : ∀ t ∈ ks, G1 14 [.of (.agg (tmC t)), .of (colsC cols)] (xstr (strL (textF cols t))))
include hc hop hv hd ha hnm hL ih
set_option linter.unusedSectionVars false in
set_option maxRecDepth 100000 in
set_option maxHeartbeats 1600000 in
theorem exterm_s1 (hA : op = 1 ∨ op = 2 ∨ op = 24 ∨ op = 26 ∨ op = 27 ∨ op = 3 ∨ op = 4 ∨ op = 19 ∨ op = 28 ∨ op = 21 ∨ op = 23 ∨ op = 22) : G1 14 [.of (.agg [ci op, ci v.k, ci v.n, cstr v.s, ci d, ci a, cstr (strL nm), .sl (tmsC ks) ks.length, sub, ci ty]), .of (colsC cols)] (xstr (strL (opText cols op v d a nm (textsF cols ks)))) := by
  have hkl : ks.length ≤ 1048576 := by have := hL.n; rw [textsF_len'] at this; exact this
  refine by_body rfl ok14 body14 ar14 rfl ?_
  simp -implicitDefEqProofs (maxSteps := 1000000) only [Tryd.f14, ↓zD, zU, Nat.zero_mul, Nat.reduceMul, List.length_map, Tk.nm.injEq, Tk.cell.injEq, false_and, and_false, Nat.le_add_right, Nat.le_refl, ↓reduceIte, Bool.or_false, Bool.false_or, Bool.and_true, Bool.true_and, Bool.false_and, Bool.true_or, Bool.or_true, Option.isNone_none, Option.isNone_some, List.any_cons, List.any_nil, Bool.and_false, Nat.reduceBEq, Nat.reduceLeDiff, Int.reduceLT, Int.reduceEq, Int.reduceLE, Int.reduceAdd, Int.reduceToNat, Int.reduceNeg, Int.cast_ofNat_Int, Nat.reduceLT, List.drop_succ_cons, List.take_succ_cons, List.singleton_append, Nat.zero_add, List.set_cons_zero, List.set_cons_succ, List.drop_nil, List.take_nil, Option.map_some, Option.map_none, Option.getD_some, Option.getD_none, Option.bind_some, List.cons_append, List.nil_append, List.append_nil, List.map_cons, List.map_nil, List.range_zero, List.take_zero, List.flatten_nil, List.filter_nil, List.length_nil, List.length_cons, List.drop_zero, List.not_mem_nil, List.mem_cons, Bool.true_eq_false, Bool.false_eq_true, Nat.reduceEqDiff, Nat.reduceAdd, List.getElem?_toArray, List.toList_toArray, List.getElem?_cons_zero, List.getElem?_cons_succ, decide_eq_true_eq, beq_self_eq_true, beq_true, beq_false, decide_true, decide_false, Bool.not_true, Bool.not_false, true_and, and_true, or_false, false_or, Bool.and_eq_true, reduceCtorEq, not_false_eq_true, cat_u, lit_strL, List.append_assoc, rv14, boxO, zeroX_at, T46, P46, T43, P43, T24, P24, fa46_0, fa46_1, fa46_2, fa46_3, fa46_4, fa46_5, P3, P9, U3, U9, U37, U24, U22, T9, T3, T37, len_txt, pc_t]
  refine WC_inv _ _ (fun m s => ∃ k : Nat, k ≤ ks.length ∧ m = ks.length - k ∧ s.fr 1 = .of (colsC cols) ∧ s.fr 2 = .ptr 0 0 ∧ s.fr 11 = .of (.sl (tmsC ks) ks.length) ∧ s.fr 12 = xint ks.length ∧ s.fr 13 = xint k ∧
    (∃ os, s.objs = .var 46 [xint op, xint v.k, xint v.n, xstr v.s, xint d, xint a, xstr (strL nm), .of (.sl (tmsC ks) ks.length), .of sub, xint ty] :: os) ∧
    ((k = 0 ∧ s.fr 5 = .nil) ∨ (0 < k ∧ ∃ t, Old s.clk t ∧ s.fr 5 = .own t 9 1 (txC (textsF cols (ks.take k))) k))) ?_ ks.length _ ?_
  · rintro m s ⟨k, hk1, rfl, h1, h2, h11, h12, h13, ⟨os, ho⟩, h5⟩
    have hw := wrapS k (by omega)
    by_cases c1 : k < ks.length
    · have d1 : decide ((k : Int) < (ks.length : Int)) = true := decide_eq_true (by omega)
      have hcall := fun K => Gives.k (ih ks[k] (List.getElem_mem c1)) K
      have hp := pc_tm ks k c1
      have htk := textsF_take cols ks k c1
      have hlen : k + 1 ≤ LIM := by unfold LIM; omega
      generalize ks[k] = x at hcall hp htk
      obtain ⟨op', v', d', a', nm', ks', sub', ty'⟩ := x
      simp only [tmC] at hcall hp
      rcases h5 with ⟨hk0, h5⟩ | ⟨hk0, t, hold, h5⟩
      · simp -implicitDefEqProofs (maxSteps := 1000000) only [↓zD, zU, Nat.zero_mul, Nat.reduceMul, List.length_map, Tk.nm.injEq, Tk.cell.injEq, false_and, and_false, Nat.le_add_right, Nat.le_refl, ↓reduceIte, Bool.or_false, Bool.false_or, Bool.and_true, Bool.true_and, Bool.false_and, Bool.true_or, Bool.or_true, Option.isNone_none, Option.isNone_some, List.any_cons, List.any_nil, Bool.and_false, Nat.reduceBEq, Nat.reduceLeDiff, Int.reduceLT, Int.reduceEq, Int.reduceLE, Int.reduceAdd, Int.reduceToNat, Int.reduceNeg, Int.cast_ofNat_Int, Nat.reduceLT, List.drop_succ_cons, List.take_succ_cons, List.singleton_append, Nat.zero_add, List.set_cons_zero, List.set_cons_succ, List.drop_nil, List.take_nil, Option.map_some, Option.map_none, Option.getD_some, Option.getD_none, Option.bind_some, List.cons_append, List.nil_append, List.append_nil, List.map_cons, List.map_nil, List.range_zero, List.take_zero, List.flatten_nil, List.filter_nil, List.length_nil, List.length_cons, List.drop_zero, List.not_mem_nil, List.mem_cons, Bool.true_eq_false, Bool.false_eq_true, Nat.reduceEqDiff, Nat.reduceAdd, List.getElem?_toArray, List.toList_toArray, List.getElem?_cons_zero, List.getElem?_cons_succ, decide_eq_true_eq, beq_self_eq_true, beq_true, beq_false, decide_true, decide_false, Bool.not_true, Bool.not_false, true_and, and_true, or_false, false_or, Bool.and_eq_true, reduceCtorEq, not_false_eq_true, cat_u, lit_strL, List.append_assoc, h1, h2, h5, h11, h12, h13, ho, boxO, zeroX_at, T46, P46, T43, P43, T24, P24, fa46_0, fa46_1, fa46_2, fa46_3, fa46_4, fa46_5, P3, P9, U3, U9, U37, U24, U22, T9, T3, T37, len_txt, pc_t, d1, hw, ia_tm ks k c1, hp, rd_agg10, hcall, pr_obj, obj14, call14, bs_s1, ap_s1n]
        refine ⟨_, ?_, k + 1, by omega, rfl, rfl, ⟨_, rfl⟩, by omega, .nm (s.clk + 2) 5 0, ?_, by subst hk0; rw [htk]; rfl⟩
        · omega
        · rw [Z68]; omega
      · simp -implicitDefEqProofs (maxSteps := 1000000) only [↓zD, zU, Nat.zero_mul, Nat.reduceMul, List.length_map, Tk.nm.injEq, Tk.cell.injEq, false_and, and_false, Nat.le_add_right, Nat.le_refl, ↓reduceIte, Bool.or_false, Bool.false_or, Bool.and_true, Bool.true_and, Bool.false_and, Bool.true_or, Bool.or_true, Option.isNone_none, Option.isNone_some, List.any_cons, List.any_nil, Bool.and_false, Nat.reduceBEq, Nat.reduceLeDiff, Int.reduceLT, Int.reduceEq, Int.reduceLE, Int.reduceAdd, Int.reduceToNat, Int.reduceNeg, Int.cast_ofNat_Int, Nat.reduceLT, List.drop_succ_cons, List.take_succ_cons, List.singleton_append, Nat.zero_add, List.set_cons_zero, List.set_cons_succ, List.drop_nil, List.take_nil, Option.map_some, Option.map_none, Option.getD_some, Option.getD_none, Option.bind_some, List.cons_append, List.nil_append, List.append_nil, List.map_cons, List.map_nil, List.range_zero, List.take_zero, List.flatten_nil, List.filter_nil, List.length_nil, List.length_cons, List.drop_zero, List.not_mem_nil, List.mem_cons, Bool.true_eq_false, Bool.false_eq_true, Nat.reduceEqDiff, Nat.reduceAdd, List.getElem?_toArray, List.toList_toArray, List.getElem?_cons_zero, List.getElem?_cons_succ, decide_eq_true_eq, beq_self_eq_true, beq_true, beq_false, decide_true, decide_false, Bool.not_true, Bool.not_false, true_and, and_true, or_false, false_or, Bool.and_eq_true, reduceCtorEq, not_false_eq_true, cat_u, lit_strL, List.append_assoc, h1, h2, h5, h11, h12, h13, ho, boxO, zeroX_at, T46, P46, T43, P43, T24, P24, fa46_0, fa46_1, fa46_2, fa46_3, fa46_4, fa46_5, P3, P9, U3, U9, U37, U24, U22, T9, T3, T37, len_txt, pc_t, d1, hw, ia_tm ks k c1, hp, rd_agg10, hcall, pr_obj, obj14, call14, bs_s1, ap_s1 _ _ _ _ _ hlen, old_add hold, old_new hold, hold]
        refine ⟨_, ?_, k + 1, by omega, rfl, rfl, ⟨_, rfl⟩, by omega, _, ?_, by rw [htk]⟩
        · omega
        · rw [Z68]; omega
    · have d0 : decide ((k : Int) < (ks.length : Int)) = false := decide_eq_false (by omega)
      rw [List.take_of_length_le (by omega)] at h5
      obtain rfl : k = ks.length := by omega
      rw [← textsF_len' cols ks] at h5
      have h5' : (textsF cols ks = [] ∧ s.fr 5 = .nil) ∨ ∃ t, Old s.clk t ∧ s.fr 5 = .own t 9 1 (txC (textsF cols ks)) (textsF cols ks).length := by
        rcases h5 with ⟨hk0, h5⟩ | ⟨_, h5⟩
        · exact .inl ⟨List.eq_nil_of_length_eq_zero hk0, h5⟩
        · exact .inr h5
      clear h5 ih
      generalize textsF cols ks = L at hL h5' ⊢
      obtain ⟨hn, hs⟩ := hL
      have hlk : ∀ os : List Ob, lookupX (TT.of Tryd.prog) (.var 46 [xint op, xint v.k, xint v.n, xstr v.s, xint d, xint a, xstr (strL nm), .of (.sl (tmsC ks) ks.length), .of sub, xint ty] :: (os ++ [.map (mapIS signT)])) 63 (.mp (os.length + 1)) (.of (.lit (.int .i64 op))) true = out (.tup (lookX (lookT signT op))) := fun os => look_IS (l := signT) (by simp) op
      have rv := rv14
      have l1 : ∀ n : Nat, decide ((2 : Int) ≤ ((n + 1 + 1 : Nat) : Int)) = true := fun n => decide_eq_true (by omega)
      rcases hA with rfl | rfl | rfl | rfl | rfl | rfl | rfl | rfl | rfl | rfl | rfl | rfl
      have e' : lookT signT 1 = none := rfl
      rw [show opText cols 1 v d a nm L = textL v by simp [opText]]
      have x1 := fun K => vaText_k v K hv
      have h5 : 77 ≤ 77 := Nat.le_refl 77
      have q1 : 77 ≤ 77 := Nat.le_refl 77
      rotate_left
      have e' : lookT signT 2 = none := rfl
      rw [show opText cols 2 v d a nm L = colL cols d a by simp [opText]]
      have x1 := fun K => Gives.k (excolumn_call cols 2 v.k v.n d a ty v.s nm (.sl (tmsC ks) ks.length) sub hc hd ha) K
      have h5 : 77 ≤ 77 := Nat.le_refl 77
      have q1 : 77 ≤ 77 := Nat.le_refl 77
      rotate_left
      have e' : lookT signT 24 = none := rfl
      have q1 := join_le L [44, 32]
      simp only [List.length_cons, List.length_nil] at q1
      rw [show opText cols 24 v d a nm L = nm ++ [40] ++ Lib.join L [44, 32] ++ [41] by simp [opText]]
      rcases h5' with ⟨rfl, h5⟩ | ⟨t, hold, h5⟩
      have x1 : ∀ K, CallK Tryd.prog pr 26 [.of (.sl [] 0), .of (cstr (strL [44, 32]))] [] K ↔ K ⟨false, [xstr (strL (Lib.join [] [44, 32]))], []⟩ := fun K => join_k [] [44, 32] K (by simp) (by simp [Lib.join_nil])
      rotate_left
      have x1 := fun K => join_k L [44, 32] K (by omega) (by omega)
      rotate_left
      have e' : lookT signT 26 = none := rfl
      rw [show opText cols 26 v d a nm L = [40, 113, 117, 101, 114, 121, 41] by simp [opText]]
      have x1 : 77 ≤ 77 := Nat.le_refl 77
      have h5 : 77 ≤ 77 := Nat.le_refl 77
      have q1 : 77 ≤ 77 := Nat.le_refl 77
      rotate_left
      have e' : lookT signT 27 = none := rfl
      rw [show opText cols 27 v d a nm L = [40, 101, 120, 105, 115, 116, 115, 32, 113, 117, 101, 114, 121, 41] by simp [opText]]
      have x1 : 77 ≤ 77 := Nat.le_refl 77
      have h5 : 77 ≤ 77 := Nat.le_refl 77
      have q1 : 77 ≤ 77 := Nat.le_refl 77
      rotate_left
      have e' : lookT signT 3 = none := rfl
      by_cases hl : L.length = 1
      obtain ⟨x, rfl⟩ := len1 hl
      obtain ⟨t, hold, h5⟩ := h5'.resolve_left (by simp)
      simp only [lens_cons, lens_nil, List.length_cons, List.length_nil, Nat.zero_add] at hs h5
      rw [show opText cols 3 v d a nm [x] = [40, 45, 32] ++ x ++ [41] by simp [opText]]
      have x1 : 77 ≤ 77 := Nat.le_refl 77
      have q1 : 77 ≤ 77 := Nat.le_refl 77
      rotate_left
      have q1 : decide ((L.length : Int) = 1) = false := decide_eq_false (by omega)
      have x1 : 77 ≤ 77 := Nat.le_refl 77
      rw [opQ cols 3 v d a nm L (by decide) (by decide) (by decide) (by decide) (by decide) (by intro h; omega) (fun _ => ⟨rfl, by decide, by decide⟩) (fun _ => ⟨by decide, by decide, fun h => by omega⟩)]
      rcases h5' with ⟨rfl, h5⟩ | ⟨t, hold, h5⟩
      rotate_left
      rotate_left
      have e' : lookT signT 4 = none := rfl
      by_cases hl : L.length = 1
      obtain ⟨x, rfl⟩ := len1 hl
      obtain ⟨t, hold, h5⟩ := h5'.resolve_left (by simp)
      simp only [lens_cons, lens_nil, List.length_cons, List.length_nil, Nat.zero_add] at hs h5
      rw [show opText cols 4 v d a nm [x] = [40, 110, 111, 116, 32] ++ x ++ [41] by simp [opText]]
      have x1 : 77 ≤ 77 := Nat.le_refl 77
      have q1 : 77 ≤ 77 := Nat.le_refl 77
      rotate_left
      have q1 : decide ((L.length : Int) = 1) = false := decide_eq_false (by omega)
      have x1 : 77 ≤ 77 := Nat.le_refl 77
      rw [opQ cols 4 v d a nm L (by decide) (by decide) (by decide) (by decide) (by decide) (by intro h; omega) (fun _ => ⟨rfl, by decide, by decide⟩) (fun _ => ⟨by decide, by decide, fun h => by omega⟩)]
      rcases h5' with ⟨rfl, h5⟩ | ⟨t, hold, h5⟩
      rotate_left
      rotate_left
      have e' : lookT signT 19 = none := rfl
      by_cases hl : L.length = 1
      obtain ⟨x, rfl⟩ := len1 hl
      obtain ⟨t, hold, h5⟩ := h5'.resolve_left (by simp)
      simp only [lens_cons, lens_nil, List.length_cons, List.length_nil, Nat.zero_add] at hs h5
      rw [show opText cols 19 v d a nm [x] = [40] ++ x ++ [32, 105, 115, 32, 110, 117, 108, 108, 41] by simp [opText]]
      have x1 : 77 ≤ 77 := Nat.le_refl 77
      have q1 : 77 ≤ 77 := Nat.le_refl 77
      rotate_left
      have q1 : decide ((L.length : Int) = 1) = false := decide_eq_false (by omega)
      have x1 : 77 ≤ 77 := Nat.le_refl 77
      rw [opQ cols 19 v d a nm L (by decide) (by decide) (by decide) (by decide) (by decide) (by intro h; omega) (fun _ => ⟨rfl, by decide, by decide⟩) (fun _ => ⟨by decide, by decide, fun h => by omega⟩)]
      rcases h5' with ⟨rfl, h5⟩ | ⟨t, hold, h5⟩
      rotate_left
      rotate_left
      have e' : lookT signT 28 = none := rfl
      by_cases hl : L.length = 1
      obtain ⟨x, rfl⟩ := len1 hl
      obtain ⟨t, hold, h5⟩ := h5'.resolve_left (by simp)
      simp only [lens_cons, lens_nil, List.length_cons, List.length_nil, Nat.zero_add] at hs h5
      rw [show opText cols 28 v d a nm [x] = [40] ++ x ++ [32, 105, 110, 32, 113, 117, 101, 114, 121, 41] by simp [opText]]
      have x1 : 77 ≤ 77 := Nat.le_refl 77
      have q1 : 77 ≤ 77 := Nat.le_refl 77
      rotate_left
      have q1 : decide ((L.length : Int) = 1) = false := decide_eq_false (by omega)
      have x1 : 77 ≤ 77 := Nat.le_refl 77
      rw [opQ cols 28 v d a nm L (by decide) (by decide) (by decide) (by decide) (by decide) (by intro h; omega) (fun _ => ⟨rfl, by decide, by decide⟩) (fun _ => ⟨by decide, by decide, fun h => by omega⟩)]
      rcases h5' with ⟨rfl, h5⟩ | ⟨t, hold, h5⟩
      rotate_left
      rotate_left
      have e' : lookT signT 21 = none := rfl
      by_cases hl : 2 ≤ L.length
      obtain ⟨x, y, r, rfl⟩ := le2 hl
      obtain ⟨t, hold, h5⟩ := h5'.resolve_left (by simp)
      simp only [lens_cons, List.length_cons] at hs h5
      have q1 := join_le (y :: r) [44, 32]
      simp only [lens_cons, List.length_cons, List.length_nil] at q1
      rw [show opText cols 21 v d a nm (x :: y :: r) = [40] ++ x ++ [32, 105, 110, 32, 40] ++ Lib.join (y :: r) [44, 32] ++ [41, 41] by cases r <;> simp [opText, lookT, signT]]
      have x1 : ∀ K, CallK Tryd.prog pr 26 [.of (.sl (txC (y :: r)) (r.length + 1)), .of (cstr (strL [44, 32]))] [] K ↔ K ⟨false, [xstr (strL (Lib.join (y :: r) [44, 32]))], []⟩ := fun K => join_k (y :: r) [44, 32] K (by simp only [List.length_cons]; omega) (by omega)
      rotate_left
      have q1 : decide (2 ≤ (L.length : Int)) = false := decide_eq_false (by omega)
      have x1 : 77 ≤ 77 := Nat.le_refl 77
      rw [opQ cols 21 v d a nm L (by decide) (by decide) (by decide) (by decide) (by decide) (fun _ => by decide) (fun h => by omega) (fun h => by omega)]
      rcases h5' with ⟨rfl, h5⟩ | ⟨t, hold, h5⟩
      rotate_left
      rotate_left
      have e' : lookT signT 23 = none := rfl
      by_cases hl : 2 ≤ L.length
      obtain ⟨x, y, r, rfl⟩ := le2 hl
      obtain ⟨t, hold, h5⟩ := h5'.resolve_left (by simp)
      simp only [lens_cons, List.length_cons] at hs h5
      rw [show opText cols 23 v d a nm (x :: y :: r) = caseF [40, 99, 97, 115, 101] (x :: y :: r) by cases r <;> simp [opText, lookT, signT]]
      have x1 : ∀ K, CallK Tryd.prog pr 27 [.of (.sl (txC (x :: y :: r)) (r.length + 1 + 1))] [] K ↔ K ⟨false, [xstr (strL (caseF [40, 99, 97, 115, 101] (x :: y :: r)))], []⟩ := fun K => excases_k (x :: y :: r) K (by simp only [lens_cons, List.length_cons, SLIM]; omega)
      have q1 : 77 ≤ 77 := Nat.le_refl 77
      rotate_left
      have q1 : decide (2 ≤ (L.length : Int)) = false := decide_eq_false (by omega)
      have x1 : 77 ≤ 77 := Nat.le_refl 77
      rw [opQ cols 23 v d a nm L (by decide) (by decide) (by decide) (by decide) (by decide) (fun _ => by decide) (fun h => by omega) (fun h => by omega)]
      rcases h5' with ⟨rfl, h5⟩ | ⟨t, hold, h5⟩
      rotate_left
      rotate_left
      have e' : lookT signT 22 = none := rfl
      by_cases hl : L.length = 3
      obtain ⟨x, y, z, rfl⟩ := len3 hl
      obtain ⟨t, hold, h5⟩ := h5'.resolve_left (by simp)
      simp only [lens_cons, lens_nil, List.length_cons, List.length_nil, Nat.zero_add, Nat.reduceAdd] at hs h5
      rw [show opText cols 22 v d a nm [x, y, z] = [40] ++ x ++ [32, 98, 101, 116, 119, 101, 101, 110, 32] ++ y ++ [32, 97, 110, 100, 32] ++ z ++ [41] by simp [opText]]
      have x1 : 77 ≤ 77 := Nat.le_refl 77
      have q1 : 77 ≤ 77 := Nat.le_refl 77
      rotate_left
      have q1 : decide ((L.length : Int) = 3) = false := decide_eq_false (by omega)
      have x1 : 77 ≤ 77 := Nat.le_refl 77
      rw [opQ cols 22 v d a nm L (by decide) (by decide) (by decide) (by decide) (by decide) (fun _ => by decide) (fun _ => ⟨rfl, by decide, by decide⟩) (fun _ => ⟨by decide, by decide, fun _ => hl⟩)]
      rcases h5' with ⟨rfl, h5⟩ | ⟨t, hold, h5⟩
      rotate_left
      rotate_left
      all_goals (simp -implicitDefEqProofs (maxSteps := 1000000) only [↓zD, zU, Nat.zero_mul, Nat.reduceMul, List.length_map, Tk.nm.injEq, Tk.cell.injEq, false_and, and_false, Nat.le_add_right, Nat.le_refl, ↓reduceIte, Bool.or_false, Bool.false_or, Bool.and_true, Bool.true_and, Bool.false_and, Bool.true_or, Bool.or_true, Option.isNone_none, Option.isNone_some, List.any_cons, List.any_nil, Bool.and_false, Nat.reduceBEq, Nat.reduceLeDiff, Int.reduceLT, Int.reduceEq, Int.reduceLE, Int.reduceAdd, Int.reduceToNat, Int.reduceNeg, Int.cast_ofNat_Int, Nat.reduceLT, List.drop_succ_cons, List.take_succ_cons, List.singleton_append, Nat.zero_add, List.set_cons_zero, List.set_cons_succ, List.drop_nil, List.take_nil, Option.map_some, Option.map_none, Option.getD_some, Option.getD_none, Option.bind_some, List.cons_append, List.nil_append, List.append_nil, List.map_cons, List.map_nil, List.range_zero, List.take_zero, List.flatten_nil, List.filter_nil, List.length_nil, List.length_cons, List.drop_zero, List.not_mem_nil, List.mem_cons, Bool.true_eq_false, Bool.false_eq_true, Nat.reduceEqDiff, Nat.reduceAdd, List.getElem?_toArray, List.toList_toArray, List.getElem?_cons_zero, List.getElem?_cons_succ, decide_eq_true_eq, beq_self_eq_true, beq_true, beq_false, decide_true, decide_false, Bool.not_true, Bool.not_false, true_and, and_true, or_false, false_or, Bool.and_eq_true, reduceCtorEq, not_false_eq_true, cat_u, lit_strL, List.append_assoc, h1, h2, h11, h12, h13, ho, boxO, zeroX_at, T46, P46, T43, P43, T24, P24, fa46_0, fa46_1, fa46_2, fa46_3, fa46_4, fa46_5, P3, P9, U3, U9, U37, U24, U22, T9, T3, T37, len_txt, pc_t, d0, WS_mk signs_call call23 obj23, obj23, hlk, lookX, ia_o0, ia_o1, ia_o2, sl_o1, pr_obj, rv, Tryd.f14, e', h5, q1, x1, l1, rd_agg3, rd_agg10, strL_textL, obj24, call24, obj25, call25, obj26, call26, obj27, call27] <;> (and_intros <;> first | ((try simp only [List.length_append, List.length_cons, List.length_nil, SLIM]); omega) | rfl))
  · refine ⟨0, by omega, by omega, ?_, ?_, ?_, ?_, ?_, ?_, .inl ⟨rfl, ?_⟩⟩ <;> (simp -implicitDefEqProofs (maxSteps := 1000000) only [↓zD, zU, Nat.zero_mul, Nat.reduceMul, List.length_map, Tk.nm.injEq, Tk.cell.injEq, false_and, and_false, Nat.le_add_right, Nat.le_refl, ↓reduceIte, Bool.or_false, Bool.false_or, Bool.and_true, Bool.true_and, Bool.false_and, Bool.true_or, Bool.or_true, Option.isNone_none, Option.isNone_some, List.any_cons, List.any_nil, Bool.and_false, Nat.reduceBEq, Nat.reduceLeDiff, Int.reduceLT, Int.reduceEq, Int.reduceLE, Int.reduceAdd, Int.reduceToNat, Int.reduceNeg, Int.cast_ofNat_Int, Nat.reduceLT, List.drop_succ_cons, List.take_succ_cons, List.singleton_append, Nat.zero_add, List.set_cons_zero, List.set_cons_succ, List.drop_nil, List.take_nil, Option.map_some, Option.map_none, Option.getD_some, Option.getD_none, Option.bind_some, List.cons_append, List.nil_append, List.append_nil, List.map_cons, List.map_nil, List.range_zero, List.take_zero, List.flatten_nil, List.filter_nil, List.length_nil, List.length_cons, List.drop_zero, List.not_mem_nil, List.mem_cons, Bool.true_eq_false, Bool.false_eq_true, Nat.reduceEqDiff, Nat.reduceAdd, List.getElem?_toArray, List.toList_toArray, List.getElem?_cons_zero, List.getElem?_cons_succ, decide_eq_true_eq, beq_self_eq_true, beq_true, beq_false, decide_true, decide_false, Bool.not_true, Bool.not_false, true_and, and_true, or_false, false_or, Bool.and_eq_true, reduceCtorEq, not_false_eq_true, cat_u, lit_strL, List.append_assoc, boxO, zeroX_at, T46, P46, T43, P43, T24, P24, fa46_0, fa46_1, fa46_2, fa46_3, fa46_4, fa46_5, P3, P9, U3, U9, U37, U24, U22, T9, T3, T37, len_txt, pc_t] <;> (try rfl) <;> exact ⟨_, rfl⟩)
end
end Go.Proofs.YtfndkemgjhajnaaDoor
namespace Go.Proofs.YtfndkemgjhajnaaDoor
open Go Go.Pe Go.Tab

section
variable (cols : List Cl) (op : Int) (v : V) (d a : Int) (nm : List UInt8) (ks : List Tm) (sub : C) (ty : Int)
  (hc : ClsOk cols) (hop : I64 op) (hv : VOk v) (hd : I64 d) (ha : I64 a) (hnm : nm.length ≤ 1048576) (hL : LOk (textsF cols ks))
  (ih : ∀ t ∈ ks, G1 14 [.of (.agg (tmC t)), .of (colsC cols)] (xstr (strL (textF cols t))))
include hc hop hv hd ha hnm hL ih
set_option linter.unusedSectionVars false in
set_option maxRecDepth 100000 in
set_option maxHeartbeats 1600000 in
theorem exterm_s2 (hA : ¬ (op = 1 ∨ op = 2 ∨ op = 24 ∨ op = 26 ∨ op = 27 ∨ op = 3 ∨ op = 4 ∨ op = 19 ∨ op = 28 ∨ op = 21 ∨ op = 23 ∨ op = 22)) : G1 14 [.of (.agg [ci op, ci v.k, ci v.n, cstr v.s, ci d, ci a, cstr (strL nm), .sl (tmsC ks) ks.length, sub, ci ty]), .of (colsC cols)] (xstr (strL (opText cols op v d a nm (textsF cols ks)))) := by
  have hkl : ks.length ≤ 1048576 := by have := hL.n; rw [textsF_len'] at this; exact this
  refine by_body rfl ok14 body14 ar14 rfl ?_
  simp -implicitDefEqProofs (maxSteps := 1000000) only [Tryd.f14, ↓zD, zU, Nat.zero_mul, Nat.reduceMul, List.length_map, Tk.nm.injEq, Tk.cell.injEq, false_and, and_false, Nat.le_add_right, Nat.le_refl, ↓reduceIte, Bool.or_false, Bool.false_or, Bool.and_true, Bool.true_and, Bool.false_and, Bool.true_or, Bool.or_true, Option.isNone_none, Option.isNone_some, List.any_cons, List.any_nil, Bool.and_false, Nat.reduceBEq, Nat.reduceLeDiff, Int.reduceLT, Int.reduceEq, Int.reduceLE, Int.reduceAdd, Int.reduceToNat, Int.reduceNeg, Int.cast_ofNat_Int, Nat.reduceLT, List.drop_succ_cons, List.take_succ_cons, List.singleton_append, Nat.zero_add, List.set_cons_zero, List.set_cons_succ, List.drop_nil, List.take_nil, Option.map_some, Option.map_none, Option.getD_some, Option.getD_none, Option.bind_some, List.cons_append, List.nil_append, List.append_nil, List.map_cons, List.map_nil, List.range_zero, List.take_zero, List.flatten_nil, List.filter_nil, List.length_nil, List.length_cons, List.drop_zero, List.not_mem_nil, List.mem_cons, Bool.true_eq_false, Bool.false_eq_true, Nat.reduceEqDiff, Nat.reduceAdd, List.getElem?_toArray, List.toList_toArray, List.getElem?_cons_zero, List.getElem?_cons_succ, decide_eq_true_eq, beq_self_eq_true, beq_true, beq_false, decide_true, decide_false, Bool.not_true, Bool.not_false, true_and, and_true, or_false, false_or, Bool.and_eq_true, reduceCtorEq, not_false_eq_true, cat_u, lit_strL, List.append_assoc, rv14, boxO, zeroX_at, T46, P46, T43, P43, T24, P24, fa46_0, fa46_1, fa46_2, fa46_3, fa46_4, fa46_5, P3, P9, U3, U9, U37, U24, U22, T9, T3, T37, len_txt, pc_t]
  refine WC_inv _ _ (fun m s => ∃ k : Nat, k ≤ ks.length ∧ m = ks.length - k ∧ s.fr 1 = .of (colsC cols) ∧ s.fr 2 = .ptr 0 0 ∧ s.fr 11 = .of (.sl (tmsC ks) ks.length) ∧ s.fr 12 = xint ks.length ∧ s.fr 13 = xint k ∧
    (∃ os, s.objs = .var 46 [xint op, xint v.k, xint v.n, xstr v.s, xint d, xint a, xstr (strL nm), .of (.sl (tmsC ks) ks.length), .of sub, xint ty] :: os) ∧
    ((k = 0 ∧ s.fr 5 = .nil) ∨ (0 < k ∧ ∃ t, Old s.clk t ∧ s.fr 5 = .own t 9 1 (txC (textsF cols (ks.take k))) k))) ?_ ks.length _ ?_
  · rintro m s ⟨k, hk1, rfl, h1, h2, h11, h12, h13, ⟨os, ho⟩, h5⟩
    have hw := wrapS k (by omega)
    by_cases c1 : k < ks.length
    · have d1 : decide ((k : Int) < (ks.length : Int)) = true := decide_eq_true (by omega)
      have hcall := fun K => Gives.k (ih ks[k] (List.getElem_mem c1)) K
      have hp := pc_tm ks k c1
      have htk := textsF_take cols ks k c1
      have hlen : k + 1 ≤ LIM := by unfold LIM; omega
      generalize ks[k] = x at hcall hp htk
      obtain ⟨op', v', d', a', nm', ks', sub', ty'⟩ := x
      simp only [tmC] at hcall hp
      rcases h5 with ⟨hk0, h5⟩ | ⟨hk0, t, hold, h5⟩
      · simp -implicitDefEqProofs (maxSteps := 1000000) only [↓zD, zU, Nat.zero_mul, Nat.reduceMul, List.length_map, Tk.nm.injEq, Tk.cell.injEq, false_and, and_false, Nat.le_add_right, Nat.le_refl, ↓reduceIte, Bool.or_false, Bool.false_or, Bool.and_true, Bool.true_and, Bool.false_and, Bool.true_or, Bool.or_true, Option.isNone_none, Option.isNone_some, List.any_cons, List.any_nil, Bool.and_false, Nat.reduceBEq, Nat.reduceLeDiff, Int.reduceLT, Int.reduceEq, Int.reduceLE, Int.reduceAdd, Int.reduceToNat, Int.reduceNeg, Int.cast_ofNat_Int, Nat.reduceLT, List.drop_succ_cons, List.take_succ_cons, List.singleton_append, Nat.zero_add, List.set_cons_zero, List.set_cons_succ, List.drop_nil, List.take_nil, Option.map_some, Option.map_none, Option.getD_some, Option.getD_none, Option.bind_some, List.cons_append, List.nil_append, List.append_nil, List.map_cons, List.map_nil, List.range_zero, List.take_zero, List.flatten_nil, List.filter_nil, List.length_nil, List.length_cons, List.drop_zero, List.not_mem_nil, List.mem_cons, Bool.true_eq_false, Bool.false_eq_true, Nat.reduceEqDiff, Nat.reduceAdd, List.getElem?_toArray, List.toList_toArray, List.getElem?_cons_zero, List.getElem?_cons_succ, decide_eq_true_eq, beq_self_eq_true, beq_true, beq_false, decide_true, decide_false, Bool.not_true, Bool.not_false, true_and, and_true, or_false, false_or, Bool.and_eq_true, reduceCtorEq, not_false_eq_true, cat_u, lit_strL, List.append_assoc, h1, h2, h5, h11, h12, h13, ho, boxO, zeroX_at, T46, P46, T43, P43, T24, P24, fa46_0, fa46_1, fa46_2, fa46_3, fa46_4, fa46_5, P3, P9, U3, U9, U37, U24, U22, T9, T3, T37, len_txt, pc_t, d1, hw, ia_tm ks k c1, hp, rd_agg10, hcall, pr_obj, obj14, call14, bs_s1, ap_s1n]
        refine ⟨_, ?_, k + 1, by omega, rfl, rfl, ⟨_, rfl⟩, by omega, .nm (s.clk + 2) 5 0, ?_, by subst hk0; rw [htk]; rfl⟩
        · omega
        · rw [Z68]; omega
      · simp -implicitDefEqProofs (maxSteps := 1000000) only [↓zD, zU, Nat.zero_mul, Nat.reduceMul, List.length_map, Tk.nm.injEq, Tk.cell.injEq, false_and, and_false, Nat.le_add_right, Nat.le_refl, ↓reduceIte, Bool.or_false, Bool.false_or, Bool.and_true, Bool.true_and, Bool.false_and, Bool.true_or, Bool.or_true, Option.isNone_none, Option.isNone_some, List.any_cons, List.any_nil, Bool.and_false, Nat.reduceBEq, Nat.reduceLeDiff, Int.reduceLT, Int.reduceEq, Int.reduceLE, Int.reduceAdd, Int.reduceToNat, Int.reduceNeg, Int.cast_ofNat_Int, Nat.reduceLT, List.drop_succ_cons, List.take_succ_cons, List.singleton_append, Nat.zero_add, List.set_cons_zero, List.set_cons_succ, List.drop_nil, List.take_nil, Option.map_some, Option.map_none, Option.getD_some, Option.getD_none, Option.bind_some, List.cons_append, List.nil_append, List.append_nil, List.map_cons, List.map_nil, List.range_zero, List.take_zero, List.flatten_nil, List.filter_nil, List.length_nil, List.length_cons, List.drop_zero, List.not_mem_nil, List.mem_cons, Bool.true_eq_false, Bool.false_eq_true, Nat.reduceEqDiff, Nat.reduceAdd, List.getElem?_toArray, List.toList_toArray, List.getElem?_cons_zero, List.getElem?_cons_succ, decide_eq_true_eq, beq_self_eq_true, beq_true, beq_false, decide_true, decide_false, Bool.not_true, Bool.not_false, true_and, and_true, or_false, false_or, Bool.and_eq_true, reduceCtorEq, not_false_eq_true, cat_u, lit_strL, List.append_assoc, h1, h2, h5, h11, h12, h13, ho, boxO, zeroX_at, T46, P46, T43, P43, T24, P24, fa46_0, fa46_1, fa46_2, fa46_3, fa46_4, fa46_5, P3, P9, U3, U9, U37, U24, U22, T9, T3, T37, len_txt, pc_t, d1, hw, ia_tm ks k c1, hp, rd_agg10, hcall, pr_obj, obj14, call14, bs_s1, ap_s1 _ _ _ _ _ hlen, old_add hold, old_new hold, hold]
        refine ⟨_, ?_, k + 1, by omega, rfl, rfl, ⟨_, rfl⟩, by omega, _, ?_, by rw [htk]⟩
        · omega
        · rw [Z68]; omega
    · have d0 : decide ((k : Int) < (ks.length : Int)) = false := decide_eq_false (by omega)
      rw [List.take_of_length_le (by omega)] at h5
      obtain rfl : k = ks.length := by omega
      rw [← textsF_len' cols ks] at h5
      have h5' : (textsF cols ks = [] ∧ s.fr 5 = .nil) ∨ ∃ t, Old s.clk t ∧ s.fr 5 = .own t 9 1 (txC (textsF cols ks)) (textsF cols ks).length := by
        rcases h5 with ⟨hk0, h5⟩ | ⟨_, h5⟩
        · exact .inl ⟨List.eq_nil_of_length_eq_zero hk0, h5⟩
        · exact .inr h5
      clear h5 ih
      generalize textsF cols ks = L at hL h5' ⊢
      obtain ⟨hn, hs⟩ := hL
      have hlk : ∀ os : List Ob, lookupX (TT.of Tryd.prog) (.var 46 [xint op, xint v.k, xint v.n, xstr v.s, xint d, xint a, xstr (strL nm), .of (.sl (tmsC ks) ks.length), .of sub, xint ty] :: (os ++ [.map (mapIS signT)])) 63 (.mp (os.length + 1)) (.of (.lit (.int .i64 op))) true = out (.tup (lookX (lookT signT op))) := fun os => look_IS (l := signT) (by simp) op
      have rv := rv14
      have l1 : ∀ n : Nat, decide ((2 : Int) ≤ ((n + 1 + 1 : Nat) : Int)) = true := fun n => decide_eq_true (by omega)
      have f1 : decide (op = 1) = false := decide_eq_false (fun e => hA (by subst e; simp))
      have f2 : decide (op = 2) = false := decide_eq_false (fun e => hA (by subst e; simp))
      have f24 : decide (op = 24) = false := decide_eq_false (fun e => hA (by subst e; simp))
      have f26 : decide (op = 26) = false := decide_eq_false (fun e => hA (by subst e; simp))
      have f27 : decide (op = 27) = false := decide_eq_false (fun e => hA (by subst e; simp))
      have f3 : decide (op = 3) = false := decide_eq_false (fun e => hA (by subst e; simp))
      have f4 : decide (op = 4) = false := decide_eq_false (fun e => hA (by subst e; simp))
      have f19 : decide (op = 19) = false := decide_eq_false (fun e => hA (by subst e; simp))
      have f28 : decide (op = 28) = false := decide_eq_false (fun e => hA (by subst e; simp))
      have f21 : decide (op = 21) = false := decide_eq_false (fun e => hA (by subst e; simp))
      have f23 : decide (op = 23) = false := decide_eq_false (fun e => hA (by subst e; simp))
      have f22 : decide (op = 22) = false := decide_eq_false (fun e => hA (by subst e; simp))
      have e1 : op ≠ 1 := of_decide_eq_false f1
      have e2 : op ≠ 2 := of_decide_eq_false f2
      have e24 : op ≠ 24 := of_decide_eq_false f24
      have e26 : op ≠ 26 := of_decide_eq_false f26
      have e27 : op ≠ 27 := of_decide_eq_false f27
      have e3 : op ≠ 3 := of_decide_eq_false f3
      have e4 : op ≠ 4 := of_decide_eq_false f4
      have e19 : op ≠ 19 := of_decide_eq_false f19
      have e28 : op ≠ 28 := of_decide_eq_false f28
      have e21 : op ≠ 21 := of_decide_eq_false f21
      have e23 : op ≠ 23 := of_decide_eq_false f23
      have e22 : op ≠ 22 := of_decide_eq_false f22
      rcases e' : lookT signT op with _ | sg
      rw [opQ cols op v d a nm L e1 e2 e24 e26 e27 (fun _ => ⟨e3, e4, e19, e28⟩) (fun _ => ⟨e', e21, e23⟩) (fun _ => ⟨e21, e23, fun h => absurd h e22⟩)]
      have x1 : 77 ≤ 77 := Nat.le_refl 77
      have h5 : 77 ≤ 77 := Nat.le_refl 77
      have q1 : 77 ≤ 77 := Nat.le_refl 77
      rotate_left
      have hsg := sign_len e'
      have x1 : 77 ≤ 77 := Nat.le_refl 77
      by_cases hl : L.length = 2
      obtain ⟨x, y, rfl⟩ := len2 hl
      obtain ⟨t, hold, h5⟩ := h5'.resolve_left (by simp)
      simp only [lens_cons, lens_nil, List.length_cons, List.length_nil, Nat.zero_add, Nat.reduceAdd] at hs h5
      rw [show opText cols op v d a nm [x, y] = [40] ++ x ++ [32] ++ sg ++ [32] ++ y ++ [41] by unfold opText; rw [if_neg e1, if_neg e2, if_neg e24, if_neg e26, if_neg e27]; simp only [e']]
      have q1 : 77 ≤ 77 := Nat.le_refl 77
      rotate_left
      have q1 : decide ((L.length : Int) = 2) = false := decide_eq_false (by omega)
      rw [opQ cols op v d a nm L e1 e2 e24 e26 e27 (fun _ => ⟨e3, e4, e19, e28⟩) (fun h => absurd h hl) (fun _ => ⟨e21, e23, fun h => absurd h e22⟩)]
      rcases h5' with ⟨rfl, h5⟩ | ⟨t, hold, h5⟩
      all_goals (simp -implicitDefEqProofs (maxSteps := 1000000) only [↓zD, zU, Nat.zero_mul, Nat.reduceMul, List.length_map, Tk.nm.injEq, Tk.cell.injEq, false_and, and_false, Nat.le_add_right, Nat.le_refl, ↓reduceIte, Bool.or_false, Bool.false_or, Bool.and_true, Bool.true_and, Bool.false_and, Bool.true_or, Bool.or_true, Option.isNone_none, Option.isNone_some, List.any_cons, List.any_nil, Bool.and_false, Nat.reduceBEq, Nat.reduceLeDiff, Int.reduceLT, Int.reduceEq, Int.reduceLE, Int.reduceAdd, Int.reduceToNat, Int.reduceNeg, Int.cast_ofNat_Int, Nat.reduceLT, List.drop_succ_cons, List.take_succ_cons, List.singleton_append, Nat.zero_add, List.set_cons_zero, List.set_cons_succ, List.drop_nil, List.take_nil, Option.map_some, Option.map_none, Option.getD_some, Option.getD_none, Option.bind_some, List.cons_append, List.nil_append, List.append_nil, List.map_cons, List.map_nil, List.range_zero, List.take_zero, List.flatten_nil, List.filter_nil, List.length_nil, List.length_cons, List.drop_zero, List.not_mem_nil, List.mem_cons, Bool.true_eq_false, Bool.false_eq_true, Nat.reduceEqDiff, Nat.reduceAdd, List.getElem?_toArray, List.toList_toArray, List.getElem?_cons_zero, List.getElem?_cons_succ, decide_eq_true_eq, beq_self_eq_true, beq_true, beq_false, decide_true, decide_false, Bool.not_true, Bool.not_false, true_and, and_true, or_false, false_or, Bool.and_eq_true, reduceCtorEq, not_false_eq_true, cat_u, lit_strL, List.append_assoc, h1, h2, h11, h12, h13, ho, boxO, zeroX_at, T46, P46, T43, P43, T24, P24, fa46_0, fa46_1, fa46_2, fa46_3, fa46_4, fa46_5, P3, P9, U3, U9, U37, U24, U22, T9, T3, T37, len_txt, pc_t, d0, WS_mk signs_call call23 obj23, obj23, hlk, lookX, ia_o0, ia_o1, ia_o2, sl_o1, pr_obj, rv, Tryd.f14, e', h5, q1, x1, l1, rd_agg3, rd_agg10, strL_textL, obj24, call24, obj25, call25, obj26, call26, obj27, call27, f1, f2, f24, f26, f27, f3, f4, f19, f28, f21, f23, f22] <;> (and_intros <;> first | ((try simp only [List.length_append, List.length_cons, List.length_nil, SLIM]); omega) | rfl))
  · refine ⟨0, by omega, by omega, ?_, ?_, ?_, ?_, ?_, ?_, .inl ⟨rfl, ?_⟩⟩ <;> (simp -implicitDefEqProofs (maxSteps := 1000000) only [↓zD, zU, Nat.zero_mul, Nat.reduceMul, List.length_map, Tk.nm.injEq, Tk.cell.injEq, false_and, and_false, Nat.le_add_right, Nat.le_refl, ↓reduceIte, Bool.or_false, Bool.false_or, Bool.and_true, Bool.true_and, Bool.false_and, Bool.true_or, Bool.or_true, Option.isNone_none, Option.isNone_some, List.any_cons, List.any_nil, Bool.and_false, Nat.reduceBEq, Nat.reduceLeDiff, Int.reduceLT, Int.reduceEq, Int.reduceLE, Int.reduceAdd, Int.reduceToNat, Int.reduceNeg, Int.cast_ofNat_Int, Nat.reduceLT, List.drop_succ_cons, List.take_succ_cons, List.singleton_append, Nat.zero_add, List.set_cons_zero, List.set_cons_succ, List.drop_nil, List.take_nil, Option.map_some, Option.map_none, Option.getD_some, Option.getD_none, Option.bind_some, List.cons_append, List.nil_append, List.append_nil, List.map_cons, List.map_nil, List.range_zero, List.take_zero, List.flatten_nil, List.filter_nil, List.length_nil, List.length_cons, List.drop_zero, List.not_mem_nil, List.mem_cons, Bool.true_eq_false, Bool.false_eq_true, Nat.reduceEqDiff, Nat.reduceAdd, List.getElem?_toArray, List.toList_toArray, List.getElem?_cons_zero, List.getElem?_cons_succ, decide_eq_true_eq, beq_self_eq_true, beq_true, beq_false, decide_true, decide_false, Bool.not_true, Bool.not_false, true_and, and_true, or_false, false_or, Bool.and_eq_true, reduceCtorEq, not_false_eq_true, cat_u, lit_strL, List.append_assoc, boxO, zeroX_at, T46, P46, T43, P43, T24, P24, fa46_0, fa46_1, fa46_2, fa46_3, fa46_4, fa46_5, P3, P9, U3, U9, U37, U24, U22, T9, T3, T37, len_txt, pc_t] <;> (try rfl) <;> exact ⟨_, rfl⟩)
end
end Go.Proofs.YtfndkemgjhajnaaDoor

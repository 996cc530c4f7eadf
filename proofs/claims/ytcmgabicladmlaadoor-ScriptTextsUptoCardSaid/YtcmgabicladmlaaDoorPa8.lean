/-
  Chapter 58: whether an act may be, by the evaluator. Conditions: none.
-/
import Derived.Test.YtcmgabicladmlaaDoorPa7
import Derived.Test.YtcmgabicladmlaaDoorRows
import Derived.Deep.Slices
import Derived.Carry
import Derived.ReadAgain
namespace Go.Proofs.YtcmgabicladmlaaDoor
open Go Go.Pe Go.Tab
def valX (v : V) : C := .agg (valC v)
theorem cells_val (v : V) : cellsX (.of (valX v)) = some [xint v.k, xint v.n, xstr v.s] := rfl
theorem wrapS (n : Nat) (h : n < 4611686018427387904) : IntKind.i64.wrap ((n : Int) + 1) = ((n + 1 : Nat) : Int) := by rw [wrap64_ok _ (by omega) (by omega)]; rfl
theorem ok51 : fnOk Tryd.prog 51 = true := by kernel_rfl
theorem ar51 : arity Tryd.prog 51 = Tryd.f51.ntmps := by unfold arity; rw [Tryd.func51]
theorem rv51 : resVars Tryd.prog 51 = Tryd.f51.results.toList := by unfold resVars; rw [Tryd.func51]
theorem body51 : bodyOf Tryd.prog 51 = Tryd.f51.body.getD .skip := by unfold bodyOf; rw [Tryd.func51]
theorem call51 : callable Tryd.prog 51 = true := by kernel_rfl
theorem obj51 : objF 51 = false := rfl
def boolS (b : Bool) : ByteArray := if b then trueS else falseS
theorem iFormatBool_call (b : Bool) : G1 51 [xbool b] (xstr (boolS b)) := by
  refine by_body rfl ok51 body51 ar51 rfl ?_
  cases b
  · simp -implicitDefEqProofs only [Tryd.f51, ↓zD, zU, Nat.zero_mul, Nat.reduceMul, List.length_map, Tk.nm.injEq, Tk.cell.injEq, false_and, and_false, Nat.le_add_right, Nat.le_refl, ↓reduceIte, Bool.or_false, Bool.false_or, Bool.and_true, Bool.true_and, Bool.false_and, Bool.true_or, Bool.or_true, Option.isNone_none, Option.isNone_some, List.any_cons, List.any_nil, Bool.and_false, Nat.reduceBEq, Nat.reduceLeDiff, Int.reduceLT, Int.reduceEq, Int.reduceLE, Int.reduceAdd, Int.reduceToNat, Int.reduceNeg, Int.cast_ofNat_Int, Nat.reduceLT, List.drop_succ_cons, List.take_succ_cons, List.singleton_append, Nat.zero_add, List.set_cons_zero, List.set_cons_succ, List.drop_nil, List.take_nil, Option.map_some, Option.map_none, Option.getD_some, Option.getD_none, Option.bind_some, List.cons_append, List.nil_append, List.append_nil, List.map_cons, List.map_nil, List.range_zero, List.take_zero, List.flatten_nil, List.filter_nil, List.length_nil, List.length_cons, List.drop_zero, List.not_mem_nil, List.mem_cons, Bool.true_eq_false, Bool.false_eq_true, Nat.reduceEqDiff, Nat.reduceAdd, List.getElem?_toArray, List.toList_toArray, List.getElem?_cons_zero, List.getElem?_cons_succ, decide_eq_true_eq, beq_self_eq_true, beq_true, beq_false, decide_true, decide_false, Bool.not_true, Bool.not_false, true_and, and_true, or_false, false_or, Bool.and_eq_true, reduceCtorEq, not_false_eq_true, Z1u, rv51]
    rfl
  · simp -implicitDefEqProofs only [Tryd.f51, ↓zD, zU, Nat.zero_mul, Nat.reduceMul, List.length_map, Tk.nm.injEq, Tk.cell.injEq, false_and, and_false, Nat.le_add_right, Nat.le_refl, ↓reduceIte, Bool.or_false, Bool.false_or, Bool.and_true, Bool.true_and, Bool.false_and, Bool.true_or, Bool.or_true, Option.isNone_none, Option.isNone_some, List.any_cons, List.any_nil, Bool.and_false, Nat.reduceBEq, Nat.reduceLeDiff, Int.reduceLT, Int.reduceEq, Int.reduceLE, Int.reduceAdd, Int.reduceToNat, Int.reduceNeg, Int.cast_ofNat_Int, Nat.reduceLT, List.drop_succ_cons, List.take_succ_cons, List.singleton_append, Nat.zero_add, List.set_cons_zero, List.set_cons_succ, List.drop_nil, List.take_nil, Option.map_some, Option.map_none, Option.getD_some, Option.getD_none, Option.bind_some, List.cons_append, List.nil_append, List.append_nil, List.map_cons, List.map_nil, List.range_zero, List.take_zero, List.flatten_nil, List.filter_nil, List.length_nil, List.length_cons, List.drop_zero, List.not_mem_nil, List.mem_cons, Bool.true_eq_false, Bool.false_eq_true, Nat.reduceEqDiff, Nat.reduceAdd, List.getElem?_toArray, List.toList_toArray, List.getElem?_cons_zero, List.getElem?_cons_succ, decide_eq_true_eq, beq_self_eq_true, beq_true, beq_false, decide_true, decide_false, Bool.not_true, Bool.not_false, true_and, and_true, or_false, false_or, Bool.and_eq_true, reduceCtorEq, not_false_eq_true, Z1u, rv51]
    rfl
theorem iFormatBool_k (b : Bool) (K : An → Prop) : CallK Tryd.prog pr 51 [.of (.lit (.bool b))] [] K ↔ K ⟨false, [xstr (boolS b)], []⟩ := Gives.k (iFormatBool_call b) K
theorem FormatBool_call (b : Bool) : G1 40 [xbool b] (xstr (boolS b)) := by
  refine by_body rfl ok40 body40 ar40 rfl ?_
  simp -implicitDefEqProofs only [Tryd.f40, ↓zD, zU, Nat.zero_mul, Nat.reduceMul, List.length_map, Tk.nm.injEq, Tk.cell.injEq, false_and, and_false, Nat.le_add_right, Nat.le_refl, ↓reduceIte, Bool.or_false, Bool.false_or, Bool.and_true, Bool.true_and, Bool.false_and, Bool.true_or, Bool.or_true, Option.isNone_none, Option.isNone_some, List.any_cons, List.any_nil, Bool.and_false, Nat.reduceBEq, Nat.reduceLeDiff, Int.reduceLT, Int.reduceEq, Int.reduceLE, Int.reduceAdd, Int.reduceToNat, Int.reduceNeg, Int.cast_ofNat_Int, Nat.reduceLT, List.drop_succ_cons, List.take_succ_cons, List.singleton_append, Nat.zero_add, List.set_cons_zero, List.set_cons_succ, List.drop_nil, List.take_nil, Option.map_some, Option.map_none, Option.getD_some, Option.getD_none, Option.bind_some, List.cons_append, List.nil_append, List.append_nil, List.map_cons, List.map_nil, List.range_zero, List.take_zero, List.flatten_nil, List.filter_nil, List.length_nil, List.length_cons, List.drop_zero, List.not_mem_nil, List.mem_cons, Bool.true_eq_false, Bool.false_eq_true, Nat.reduceEqDiff, Nat.reduceAdd, List.getElem?_toArray, List.toList_toArray, List.getElem?_cons_zero, List.getElem?_cons_succ, decide_eq_true_eq, beq_self_eq_true, beq_true, beq_false, decide_true, decide_false, Bool.not_true, Bool.not_false, true_and, and_true, or_false, false_or, Bool.and_eq_true, reduceCtorEq, not_false_eq_true, Z1u, rv40, iFormatBool_k, pr_obj, obj51, call51]
theorem FormatBool_k (b : Bool) (K : An → Prop) : CallK Tryd.prog pr 40 [.of (.lit (.bool b))] [] K ↔ K ⟨false, [xstr (boolS b)], []⟩ := Gives.k (FormatBool_call b) K
theorem Itoa_k (n : Int) (K : An → Prop) (h : small64 n = true) : CallK Tryd.prog pr 36 [.of (ci n)] [] K ↔ K ⟨false, [xstr (strL (Lib.itoa n))], []⟩ :=
  Gives.k (Gives.of_prim (show itoaP [.of (ci n)] [] = _ by unfold itoaP; simp only; rw [if_pos h]; rfl)) K
theorem numText_call (n : Int) (h : small64 n = true) : G1 22 [xint n] (xstr (strL (Lib.itoa n))) := by
  refine by_body rfl ok22 body22 ar22 rfl ?_
  simp -implicitDefEqProofs only [Tryd.f22, ↓zD, zU, Nat.zero_mul, Nat.reduceMul, List.length_map, Tk.nm.injEq, Tk.cell.injEq, false_and, and_false, Nat.le_add_right, Nat.le_refl, ↓reduceIte, Bool.or_false, Bool.false_or, Bool.and_true, Bool.true_and, Bool.false_and, Bool.true_or, Bool.or_true, Option.isNone_none, Option.isNone_some, List.any_cons, List.any_nil, Bool.and_false, Nat.reduceBEq, Nat.reduceLeDiff, Int.reduceLT, Int.reduceEq, Int.reduceLE, Int.reduceAdd, Int.reduceToNat, Int.reduceNeg, Int.cast_ofNat_Int, Nat.reduceLT, List.drop_succ_cons, List.take_succ_cons, List.singleton_append, Nat.zero_add, List.set_cons_zero, List.set_cons_succ, List.drop_nil, List.take_nil, Option.map_some, Option.map_none, Option.getD_some, Option.getD_none, Option.bind_some, List.cons_append, List.nil_append, List.append_nil, List.map_cons, List.map_nil, List.range_zero, List.take_zero, List.flatten_nil, List.filter_nil, List.length_nil, List.length_cons, List.drop_zero, List.not_mem_nil, List.mem_cons, Bool.true_eq_false, Bool.false_eq_true, Nat.reduceEqDiff, Nat.reduceAdd, List.getElem?_toArray, List.toList_toArray, List.getElem?_cons_zero, List.getElem?_cons_succ, decide_eq_true_eq, beq_self_eq_true, beq_true, beq_false, decide_true, decide_false, Bool.not_true, Bool.not_false, true_and, and_true, or_false, false_or, Bool.and_eq_true, reduceCtorEq, not_false_eq_true, Z1u, rv22, Itoa_k n _ h, pr_obj, obj36, call36]
theorem numText_k (n : Int) (K : An → Prop) (h : small64 n = true) : CallK Tryd.prog pr 22 [.of (ci n)] [] K ↔ K ⟨false, [xstr (strL (Lib.itoa n))], []⟩ := Gives.k (numText_call n h) K
theorem ra_k (s : ByteArray) (K : An → Prop) (h : s.size ≤ 1048576) : CallK Tryd.prog pr 41 [.of (cstr s), .of (cstr (strL [39])), .of (cstr ⟨#[39, 39]⟩)] [] K ↔ K ⟨false, [xstr (strL (quoteL s.data.toList))], []⟩ := by
  refine Gives.k (Gives.of_prim (show raP [.of (cstr s), .of (cstr ⟨#[39]⟩), .of (cstr ⟨#[39, 39]⟩)] [] = _ from ?_)) K
  unfold raP
  simp only
  have h1 := Lib.countB_le ⟨#[39]⟩ (Nat.le_refl 1) s.size s (Nat.le_refl _)
  rw [if_pos ⟨by omega, by decide, by
    have : (ByteArray.mk #[39, 39]).size = 2 := rfl
    rw [this]
    omega⟩]
  show some (An.mk false [xstr (strL (Lib.replaceAll s.data.toList [39] [39, 39]))] []) = _
  rw [replaceAll_quote]
theorem size_strL (l : List UInt8) : (strL l).size = l.length := by simp [strL, ByteArray.size]
theorem strL_app (a b : List UInt8) : strL a ++ strL b = strL (a ++ b) := by
  apply toList_inj.1
  simp [strL]
theorem q39 : (⟨#[39]⟩ : ByteArray) = strL [39] := rfl
theorem text_3 (s : ByteArray) : strL [39] ++ strL (quoteL s.data.toList) ++ strL [39] = strL (39 :: quoteL s.data.toList ++ [39]) := by
  rw [strL_app, strL_app]; rfl
set_option maxRecDepth 100000 in
theorem vaText_call (v : V) (hv : VOk v) : G1 24 [.of (valX v)] (xstr (textS v)) := by
  refine by_body rfl ok24 body24 ar24 rfl ?_
  by_cases h1 : v.k = 1
  · simp -implicitDefEqProofs only [Tryd.f24, ↓zD, zU, Nat.zero_mul, Nat.reduceMul, List.length_map, Tk.nm.injEq, Tk.cell.injEq, false_and, and_false, Nat.le_add_right, Nat.le_refl, ↓reduceIte, Bool.or_false, Bool.false_or, Bool.and_true, Bool.true_and, Bool.false_and, Bool.true_or, Bool.or_true, Option.isNone_none, Option.isNone_some, List.any_cons, List.any_nil, Bool.and_false, Nat.reduceBEq, Nat.reduceLeDiff, Int.reduceLT, Int.reduceEq, Int.reduceLE, Int.reduceAdd, Int.reduceToNat, Int.reduceNeg, Int.cast_ofNat_Int, Nat.reduceLT, List.drop_succ_cons, List.take_succ_cons, List.singleton_append, Nat.zero_add, List.set_cons_zero, List.set_cons_succ, List.drop_nil, List.take_nil, Option.map_some, Option.map_none, Option.getD_some, Option.getD_none, Option.bind_some, List.cons_append, List.nil_append, List.append_nil, List.map_cons, List.map_nil, List.range_zero, List.take_zero, List.flatten_nil, List.filter_nil, List.length_nil, List.length_cons, List.drop_zero, List.not_mem_nil, List.mem_cons, Bool.true_eq_false, Bool.false_eq_true, Nat.reduceEqDiff, Nat.reduceAdd, List.getElem?_toArray, List.toList_toArray, List.getElem?_cons_zero, List.getElem?_cons_succ, decide_eq_true_eq, beq_self_eq_true, beq_true, beq_false, decide_true, decide_false, Bool.not_true, Bool.not_false, true_and, and_true, or_false, false_or, Bool.and_eq_true, reduceCtorEq, not_false_eq_true, Z1u, rv24, T51, cells_val, boxO, T3, T9, U3, U9, fa51_0, fa51_1, fa51_2, P3, P9, h1, FormatBool_k, pr_obj, obj40, call40]
    by_cases h2 : v.n = 0
    · simp [textS, h1, h2, boolS]
    · simp [textS, h1, h2, boolS]
  · by_cases h2 : v.k = 2
    · simp -implicitDefEqProofs only [Tryd.f24, ↓zD, zU, Nat.zero_mul, Nat.reduceMul, List.length_map, Tk.nm.injEq, Tk.cell.injEq, false_and, and_false, Nat.le_add_right, Nat.le_refl, ↓reduceIte, Bool.or_false, Bool.false_or, Bool.and_true, Bool.true_and, Bool.false_and, Bool.true_or, Bool.or_true, Option.isNone_none, Option.isNone_some, List.any_cons, List.any_nil, Bool.and_false, Nat.reduceBEq, Nat.reduceLeDiff, Int.reduceLT, Int.reduceEq, Int.reduceLE, Int.reduceAdd, Int.reduceToNat, Int.reduceNeg, Int.cast_ofNat_Int, Nat.reduceLT, List.drop_succ_cons, List.take_succ_cons, List.singleton_append, Nat.zero_add, List.set_cons_zero, List.set_cons_succ, List.drop_nil, List.take_nil, Option.map_some, Option.map_none, Option.getD_some, Option.getD_none, Option.bind_some, List.cons_append, List.nil_append, List.append_nil, List.map_cons, List.map_nil, List.range_zero, List.take_zero, List.flatten_nil, List.filter_nil, List.length_nil, List.length_cons, List.drop_zero, List.not_mem_nil, List.mem_cons, Bool.true_eq_false, Bool.false_eq_true, Nat.reduceEqDiff, Nat.reduceAdd, List.getElem?_toArray, List.toList_toArray, List.getElem?_cons_zero, List.getElem?_cons_succ, decide_eq_true_eq, beq_self_eq_true, beq_true, beq_false, decide_true, decide_false, Bool.not_true, Bool.not_false, true_and, and_true, or_false, false_or, Bool.and_eq_true, reduceCtorEq, not_false_eq_true, Z1u, rv24, T51, cells_val, boxO, T3, T9, U3, U9, fa51_0, fa51_1, fa51_2, P3, P9, h1, h2, Int.reduceEq, numText_k _ _ hv.n, pr_obj, obj22, call22, textS]
    · by_cases h3 : v.k = 3
      · have l1 : (strL [39]).size + (strL (quoteL v.s.data.toList)).size ≤ SLIM := by
          rw [size_strL, size_strL]
          have := quoteL_len v.s.data.toList
          have := hv.s
          have e : v.s.data.toList.length = v.s.size := by simp
          unfold SLIM
          simp only [List.length_cons, List.length_nil]
          omega
        have l2 : (strL [39] ++ strL (quoteL v.s.data.toList)).size + (strL [39]).size ≤ SLIM := by
          rw [strL_app, size_strL, size_strL]
          have := quoteL_len v.s.data.toList
          have := hv.s
          have e : v.s.data.toList.length = v.s.size := by simp
          unfold SLIM
          simp only [List.length_append, List.length_cons, List.length_nil]
          omega
        simp -implicitDefEqProofs only [Tryd.f24, ↓zD, zU, Nat.zero_mul, Nat.reduceMul, List.length_map, Tk.nm.injEq, Tk.cell.injEq, false_and, and_false, Nat.le_add_right, Nat.le_refl, ↓reduceIte, Bool.or_false, Bool.false_or, Bool.and_true, Bool.true_and, Bool.false_and, Bool.true_or, Bool.or_true, Option.isNone_none, Option.isNone_some, List.any_cons, List.any_nil, Bool.and_false, Nat.reduceBEq, Nat.reduceLeDiff, Int.reduceLT, Int.reduceEq, Int.reduceLE, Int.reduceAdd, Int.reduceToNat, Int.reduceNeg, Int.cast_ofNat_Int, Nat.reduceLT, List.drop_succ_cons, List.take_succ_cons, List.singleton_append, Nat.zero_add, List.set_cons_zero, List.set_cons_succ, List.drop_nil, List.take_nil, Option.map_some, Option.map_none, Option.getD_some, Option.getD_none, Option.bind_some, List.cons_append, List.nil_append, List.append_nil, List.map_cons, List.map_nil, List.range_zero, List.take_zero, List.flatten_nil, List.filter_nil, List.length_nil, List.length_cons, List.drop_zero, List.not_mem_nil, List.mem_cons, Bool.true_eq_false, Bool.false_eq_true, Nat.reduceEqDiff, Nat.reduceAdd, List.getElem?_toArray, List.toList_toArray, List.getElem?_cons_zero, List.getElem?_cons_succ, decide_eq_true_eq, beq_self_eq_true, beq_true, beq_false, decide_true, decide_false, Bool.not_true, Bool.not_false, true_and, and_true, or_false, false_or, Bool.and_eq_true, reduceCtorEq, not_false_eq_true, Z1u, rv24, T51, cells_val, boxO, T3, T9, U3, U9, fa51_0, fa51_1, fa51_2, P3, P9, h1, h2, h3, Int.reduceEq, ra_k _ _ hv.s, q39, l1, l2, text_3, pr_obj, obj41, call41, textS, V.t]
      · simp -implicitDefEqProofs only [Tryd.f24, ↓zD, zU, Nat.zero_mul, Nat.reduceMul, List.length_map, Tk.nm.injEq, Tk.cell.injEq, false_and, and_false, Nat.le_add_right, Nat.le_refl, ↓reduceIte, Bool.or_false, Bool.false_or, Bool.and_true, Bool.true_and, Bool.false_and, Bool.true_or, Bool.or_true, Option.isNone_none, Option.isNone_some, List.any_cons, List.any_nil, Bool.and_false, Nat.reduceBEq, Nat.reduceLeDiff, Int.reduceLT, Int.reduceEq, Int.reduceLE, Int.reduceAdd, Int.reduceToNat, Int.reduceNeg, Int.cast_ofNat_Int, Nat.reduceLT, List.drop_succ_cons, List.take_succ_cons, List.singleton_append, Nat.zero_add, List.set_cons_zero, List.set_cons_succ, List.drop_nil, List.take_nil, Option.map_some, Option.map_none, Option.getD_some, Option.getD_none, Option.bind_some, List.cons_append, List.nil_append, List.append_nil, List.map_cons, List.map_nil, List.range_zero, List.take_zero, List.flatten_nil, List.filter_nil, List.length_nil, List.length_cons, List.drop_zero, List.not_mem_nil, List.mem_cons, Bool.true_eq_false, Bool.false_eq_true, Nat.reduceEqDiff, Nat.reduceAdd, List.getElem?_toArray, List.toList_toArray, List.getElem?_cons_zero, List.getElem?_cons_succ, decide_eq_true_eq, beq_self_eq_true, beq_true, beq_false, decide_true, decide_false, Bool.not_true, Bool.not_false, true_and, and_true, or_false, false_or, Bool.and_eq_true, reduceCtorEq, not_false_eq_true, Z1u, rv24, T51, cells_val, boxO, T3, T9, U3, U9, fa51_0, fa51_1, fa51_2, P3, P9, h1, h2, h3, textS]
        rfl
def digS : ByteArray := ⟨#[48, 49, 50, 51, 52, 53, 54, 55, 56, 57]⟩
theorem digS_at : (⟨#[48, 49, 50, 51, 52, 53, 54, 55, 56, 57]⟩ : ByteArray) = digS := rfl
theorem dig_fin : ∀ k : Fin 10, digS.extract k.val (k.val + 1) = strL [UInt8.ofNat (48 + k.val)] := by decide +kernel
theorem dig_slice (k : Nat) (h : k < 10) : sliceX (TT.of Tryd.prog) 9 (.of (.lit (.string digS))) (some (xint k)) (some (xint ((k : Int) + 1))) = out (xstr (strL [UInt8.ofNat (48 + k)])) := by
  have hs : digS.size = 10 := rfl
  have e2 : (((k : Int) + 1).toNat) = k + 1 := by omega
  simp only [sliceX, T9, Option.map_some, isStrD, if_true, bndX, litInt, hs]
  rw [if_pos ⟨by omega, by omega, by omega⟩, Int.toNat_natCast, e2, dig_fin ⟨k, h⟩]
theorem bin_rem10 (P : Program) (T : TT) (t : Nat) (u : Option TypeDesc) (n : Int) : binX P T t u .rem (.of (.lit (.int .i64 n))) (.of (.lit (.int .i64 10))) = out (xint (n.tmod 10)) := by simp [binX, litOf, binLit, binInt, outO, out]
theorem bin_quo10 (P : Program) (T : TT) (t : Nat) (u : Option TypeDesc) (n : Int) : binX P T t u .quo (.of (.lit (.int .i64 n))) (.of (.lit (.int .i64 10))) = out (xint (IntKind.i64.wrap (n.tdiv 10))) := by simp [binX, litOf, binLit, binInt, outO, out]
theorem s45 : (⟨#[45]⟩ : ByteArray) = strL [45] := rfl
theorem itoa_small (k : Nat) (h : k < 10) : Lib.itoa (k : Int) = [UInt8.ofNat (48 + k)] := by
  unfold Lib.itoa
  rw [if_neg (by omega), Int.toNat_natCast, Lib.decDigits_one h]
theorem itoa_neg (k : Nat) (h0 : 0 < k) (h : k < 10) : Lib.itoa (-(k : Int)) = [45, UInt8.ofNat (48 + k)] := by
  unfold Lib.itoa
  rw [if_pos (by omega)]
  have : (-(k : Int)).natAbs = k := by omega
  rw [this, Lib.decDigits_one h]
theorem tdiv_nat (k : Nat) : (k : Int).tdiv 10 = ((k / 10 : Nat) : Int) := rfl
theorem itoa_step (n : Int) (h : 10 ≤ n.natAbs) : Lib.itoa n = Lib.itoa (n.tdiv 10) ++ [UInt8.ofNat (48 + (n.tmod 10).natAbs)] := by
  have hd : Lib.decDigits n.natAbs = Lib.decDigits (n.natAbs / 10) ++ [UInt8.ofNat (48 + n.natAbs % 10)] := by rw [Lib.decDigits, dif_neg (by omega)]
  have e2 : (n.tmod 10).natAbs = n.natAbs % 10 := by rw [Int.natAbs_tmod]; rfl
  rw [e2]
  rcases Int.eq_nat_or_neg n with ⟨k, rfl | rfl⟩
  · simp only [Int.natAbs_natCast] at h hd
    rw [tdiv_nat]
    unfold Lib.itoa
    rw [if_neg (by omega), if_neg (by omega), Int.toNat_natCast, Int.toNat_natCast, Int.natAbs_natCast, hd]
  · simp only [Int.natAbs_neg, Int.natAbs_natCast] at h hd ⊢
    rw [Int.neg_tdiv, tdiv_nat]
    unfold Lib.itoa
    rw [if_pos (by omega), if_pos (by omega), Int.natAbs_neg, Int.natAbs_natCast, Int.natAbs_neg, Int.natAbs_natCast, hd]
    rfl
theorem strL_lim (a b : List UInt8) (h : a.length + b.length ≤ SLIM) : (strL a).size + (strL b).size ≤ SLIM := by rw [size_strL, size_strL]; exact h
set_option maxRecDepth 100000 in
theorem r2Text_small (k : Nat) (h : k < 10) : G1 25 [xint k] (xstr (strL (Lib.itoa k))) := by
  refine by_body rfl ok25 body25 ar25 rfl ?_
  have hw : IntKind.i64.wrap ((k : Int) + 1) = (k : Int) + 1 := wrap64_ok _ (by omega) (by omega)
  have h0 : (0 : Int) ≤ (k : Int) := by omega
  have h1 : (k : Int) < 10 := by omega
  simp -implicitDefEqProofs only [Tryd.f25, ↓zD, zU, Nat.zero_mul, Nat.reduceMul, List.length_map, Tk.nm.injEq, Tk.cell.injEq, false_and, and_false, Nat.le_add_right, Nat.le_refl, ↓reduceIte, Bool.or_false, Bool.false_or, Bool.and_true, Bool.true_and, Bool.false_and, Bool.true_or, Bool.or_true, Option.isNone_none, Option.isNone_some, List.any_cons, List.any_nil, Bool.and_false, Nat.reduceBEq, Nat.reduceLeDiff, Int.reduceLT, Int.reduceEq, Int.reduceLE, Int.reduceAdd, Int.reduceToNat, Int.reduceNeg, Int.cast_ofNat_Int, Nat.reduceLT, List.drop_succ_cons, List.take_succ_cons, List.singleton_append, Nat.zero_add, List.set_cons_zero, List.set_cons_succ, List.drop_nil, List.take_nil, Option.map_some, Option.map_none, Option.getD_some, Option.getD_none, Option.bind_some, List.cons_append, List.nil_append, List.append_nil, List.map_cons, List.map_nil, List.range_zero, List.take_zero, List.flatten_nil, List.filter_nil, List.length_nil, List.length_cons, List.drop_zero, List.not_mem_nil, List.mem_cons, Bool.true_eq_false, Bool.false_eq_true, Nat.reduceEqDiff, Nat.reduceAdd, List.getElem?_toArray, List.toList_toArray, List.getElem?_cons_zero, List.getElem?_cons_succ, decide_eq_true_eq, beq_self_eq_true, beq_true, beq_false, decide_true, decide_false, Bool.not_true, Bool.not_false, true_and, and_true, or_false, false_or, Bool.and_eq_true, reduceCtorEq, not_false_eq_true, Z1u, rv25, U3, U9, digS_at, hw, h0, h1, dig_slice k h, itoa_small k h]
set_option maxRecDepth 100000 in
theorem r2Text_neg (k : Nat) (hp : 0 < k) (h : k < 10) : G1 25 [xint (-(k : Int))] (xstr (strL (Lib.itoa (-(k : Int))))) := by
  refine by_body rfl ok25 body25 ar25 rfl ?_
  have hw : IntKind.i64.wrap (0 - (-(k : Int))) = (k : Int) := by rw [wrap64_ok _ (by omega) (by omega)]; omega
  have hw2 : IntKind.i64.wrap (1 - (-(k : Int))) = (k : Int) + 1 := by rw [wrap64_ok _ (by omega) (by omega)]; omega
  have h0 : ¬ (0 : Int) ≤ -(k : Int) := by omega
  have h1 : -(k : Int) < 0 := by omega
  have h2 : (-10 : Int) < -(k : Int) := by omega
  have hl := strL_lim [45] [UInt8.ofNat (48 + k)] (by unfold SLIM; simp)
  simp -implicitDefEqProofs only [Tryd.f25, ↓zD, zU, Nat.zero_mul, Nat.reduceMul, List.length_map, Tk.nm.injEq, Tk.cell.injEq, false_and, and_false, Nat.le_add_right, Nat.le_refl, ↓reduceIte, Bool.or_false, Bool.false_or, Bool.and_true, Bool.true_and, Bool.false_and, Bool.true_or, Bool.or_true, Option.isNone_none, Option.isNone_some, List.any_cons, List.any_nil, Bool.and_false, Nat.reduceBEq, Nat.reduceLeDiff, Int.reduceLT, Int.reduceEq, Int.reduceLE, Int.reduceAdd, Int.reduceToNat, Int.reduceNeg, Int.cast_ofNat_Int, Nat.reduceLT, List.drop_succ_cons, List.take_succ_cons, List.singleton_append, Nat.zero_add, List.set_cons_zero, List.set_cons_succ, List.drop_nil, List.take_nil, Option.map_some, Option.map_none, Option.getD_some, Option.getD_none, Option.bind_some, List.cons_append, List.nil_append, List.append_nil, List.map_cons, List.map_nil, List.range_zero, List.take_zero, List.flatten_nil, List.filter_nil, List.length_nil, List.length_cons, List.drop_zero, List.not_mem_nil, List.mem_cons, Bool.true_eq_false, Bool.false_eq_true, Nat.reduceEqDiff, Nat.reduceAdd, List.getElem?_toArray, List.toList_toArray, List.getElem?_cons_zero, List.getElem?_cons_succ, decide_eq_true_eq, beq_self_eq_true, beq_true, beq_false, decide_true, decide_false, Bool.not_true, Bool.not_false, true_and, and_true, or_false, false_or, Bool.and_eq_true, reduceCtorEq, not_false_eq_true, Z1u, rv25, U3, U9, digS_at, s45, hw, hw2, h0, h1, h2, dig_slice k h, itoa_neg k hp h, hl, strL_app]
set_option maxRecDepth 100000 in
theorem r2Text_big (n : Int) (hn : small64 n = true) (h : 10 ≤ n.natAbs) (ih : G1 25 [xint (n.tdiv 10)] (xstr (strL (Lib.itoa (n.tdiv 10))))) : G1 25 [xint n] (xstr (strL (Lib.itoa n))) := by
  refine by_body rfl ok25 body25 ar25 rfl ?_
  have hk := fun K => Gives.k ih K
  simp only [small64, decide_eq_true_eq] at hn
  have hq : (n.tdiv 10).natAbs = n.natAbs / 10 := by rw [Int.natAbs_tdiv]; rfl
  have hr : (n.tmod 10).natAbs = n.natAbs % 10 := by rw [Int.natAbs_tmod]; rfl
  have hw0 : IntKind.i64.wrap (n.tdiv 10) = n.tdiv 10 := wrap64_ok _ (by omega) (by omega)
  obtain ⟨d, hd, hd2⟩ : ∃ d : Nat, d = (n.tmod 10).natAbs ∧ d < 10 := ⟨_, rfl, by omega⟩
  have hw : IntKind.i64.wrap ((d : Int) + 1) = (d : Int) + 1 := wrap64_ok _ (by omega) (by omega)
  have l0 := itoa_len (n.tdiv 10) (by omega) (by omega)
  have hl := strL_lim (Lib.itoa (n.tdiv 10)) [UInt8.ofNat (48 + d)] (by unfold SLIM; simp only [List.length_cons, List.length_nil]; omega)
  have hs := itoa_step n h
  rw [← hd] at hs
  have c1 : ¬ (0 ≤ n ∧ n < 10) := by omega
  have c2 : ¬ (n < 0 ∧ -10 < n) := by omega
  by_cases hr0 : n.tmod 10 < 0
  · have hw2 : IntKind.i64.wrap (0 - n.tmod 10) = (d : Int) := by rw [wrap64_ok _ (by omega) (by omega)]; omega
    by_cases p1 : (0 : Int) ≤ n
    · have p2 : ¬ n < 10 := fun e => c1 ⟨p1, e⟩
      have p3 : ¬ n < 0 := by omega
      simp -implicitDefEqProofs only [Tryd.f25, ↓zD, zU, Nat.zero_mul, Nat.reduceMul, List.length_map, Tk.nm.injEq, Tk.cell.injEq, false_and, and_false, Nat.le_add_right, Nat.le_refl, ↓reduceIte, Bool.or_false, Bool.false_or, Bool.and_true, Bool.true_and, Bool.false_and, Bool.true_or, Bool.or_true, Option.isNone_none, Option.isNone_some, List.any_cons, List.any_nil, Bool.and_false, Nat.reduceBEq, Nat.reduceLeDiff, Int.reduceLT, Int.reduceEq, Int.reduceLE, Int.reduceAdd, Int.reduceToNat, Int.reduceNeg, Int.cast_ofNat_Int, Nat.reduceLT, List.drop_succ_cons, List.take_succ_cons, List.singleton_append, Nat.zero_add, List.set_cons_zero, List.set_cons_succ, List.drop_nil, List.take_nil, Option.map_some, Option.map_none, Option.getD_some, Option.getD_none, Option.bind_some, List.cons_append, List.nil_append, List.append_nil, List.map_cons, List.map_nil, List.range_zero, List.take_zero, List.flatten_nil, List.filter_nil, List.length_nil, List.length_cons, List.drop_zero, List.not_mem_nil, List.mem_cons, Bool.true_eq_false, Bool.false_eq_true, Nat.reduceEqDiff, Nat.reduceAdd, List.getElem?_toArray, List.toList_toArray, List.getElem?_cons_zero, List.getElem?_cons_succ, decide_eq_true_eq, beq_self_eq_true, beq_true, beq_false, decide_true, decide_false, Bool.not_true, Bool.not_false, true_and, and_true, or_false, false_or, Bool.and_eq_true, reduceCtorEq, not_false_eq_true, Z1u, rv25, U3, U9, digS_at, bin_rem10, bin_quo10, p1, p2, p3, hr0, hw, hw0, hw2, hk, dig_slice d hd2, hl, strL_app, hs, pr_obj, obj25, call25]
    · have p3 : n < 0 := by omega
      have p2 : ¬ (-10 : Int) < n := fun e => c2 ⟨p3, e⟩
      simp -implicitDefEqProofs only [Tryd.f25, ↓zD, zU, Nat.zero_mul, Nat.reduceMul, List.length_map, Tk.nm.injEq, Tk.cell.injEq, false_and, and_false, Nat.le_add_right, Nat.le_refl, ↓reduceIte, Bool.or_false, Bool.false_or, Bool.and_true, Bool.true_and, Bool.false_and, Bool.true_or, Bool.or_true, Option.isNone_none, Option.isNone_some, List.any_cons, List.any_nil, Bool.and_false, Nat.reduceBEq, Nat.reduceLeDiff, Int.reduceLT, Int.reduceEq, Int.reduceLE, Int.reduceAdd, Int.reduceToNat, Int.reduceNeg, Int.cast_ofNat_Int, Nat.reduceLT, List.drop_succ_cons, List.take_succ_cons, List.singleton_append, Nat.zero_add, List.set_cons_zero, List.set_cons_succ, List.drop_nil, List.take_nil, Option.map_some, Option.map_none, Option.getD_some, Option.getD_none, Option.bind_some, List.cons_append, List.nil_append, List.append_nil, List.map_cons, List.map_nil, List.range_zero, List.take_zero, List.flatten_nil, List.filter_nil, List.length_nil, List.length_cons, List.drop_zero, List.not_mem_nil, List.mem_cons, Bool.true_eq_false, Bool.false_eq_true, Nat.reduceEqDiff, Nat.reduceAdd, List.getElem?_toArray, List.toList_toArray, List.getElem?_cons_zero, List.getElem?_cons_succ, decide_eq_true_eq, beq_self_eq_true, beq_true, beq_false, decide_true, decide_false, Bool.not_true, Bool.not_false, true_and, and_true, or_false, false_or, Bool.and_eq_true, reduceCtorEq, not_false_eq_true, Z1u, rv25, U3, U9, digS_at, bin_rem10, bin_quo10, p1, p2, p3, hr0, hw, hw0, hw2, hk, dig_slice d hd2, hl, strL_app, hs, pr_obj, obj25, call25]
  · obtain ⟨e, he⟩ : ∃ e, e = n.tmod 10 := ⟨_, rfl⟩
    have he2 : n.tmod 10 = (d : Int) := by omega
    have hr1 : ¬ (d : Int) < 0 := by omega
    by_cases p1 : (0 : Int) ≤ n
    · have p2 : ¬ n < 10 := fun e => c1 ⟨p1, e⟩
      have p3 : ¬ n < 0 := by omega
      simp -implicitDefEqProofs only [Tryd.f25, ↓zD, zU, Nat.zero_mul, Nat.reduceMul, List.length_map, Tk.nm.injEq, Tk.cell.injEq, false_and, and_false, Nat.le_add_right, Nat.le_refl, ↓reduceIte, Bool.or_false, Bool.false_or, Bool.and_true, Bool.true_and, Bool.false_and, Bool.true_or, Bool.or_true, Option.isNone_none, Option.isNone_some, List.any_cons, List.any_nil, Bool.and_false, Nat.reduceBEq, Nat.reduceLeDiff, Int.reduceLT, Int.reduceEq, Int.reduceLE, Int.reduceAdd, Int.reduceToNat, Int.reduceNeg, Int.cast_ofNat_Int, Nat.reduceLT, List.drop_succ_cons, List.take_succ_cons, List.singleton_append, Nat.zero_add, List.set_cons_zero, List.set_cons_succ, List.drop_nil, List.take_nil, Option.map_some, Option.map_none, Option.getD_some, Option.getD_none, Option.bind_some, List.cons_append, List.nil_append, List.append_nil, List.map_cons, List.map_nil, List.range_zero, List.take_zero, List.flatten_nil, List.filter_nil, List.length_nil, List.length_cons, List.drop_zero, List.not_mem_nil, List.mem_cons, Bool.true_eq_false, Bool.false_eq_true, Nat.reduceEqDiff, Nat.reduceAdd, List.getElem?_toArray, List.toList_toArray, List.getElem?_cons_zero, List.getElem?_cons_succ, decide_eq_true_eq, beq_self_eq_true, beq_true, beq_false, decide_true, decide_false, Bool.not_true, Bool.not_false, true_and, and_true, or_false, false_or, Bool.and_eq_true, reduceCtorEq, not_false_eq_true, Z1u, rv25, U3, U9, digS_at, bin_rem10, bin_quo10, p1, p2, p3, he2, hr1, hw, hw0, hk, dig_slice d hd2, hl, strL_app, hs, pr_obj, obj25, call25]
    · have p3 : n < 0 := by omega
      have p2 : ¬ (-10 : Int) < n := fun e => c2 ⟨p3, e⟩
      simp -implicitDefEqProofs only [Tryd.f25, ↓zD, zU, Nat.zero_mul, Nat.reduceMul, List.length_map, Tk.nm.injEq, Tk.cell.injEq, false_and, and_false, Nat.le_add_right, Nat.le_refl, ↓reduceIte, Bool.or_false, Bool.false_or, Bool.and_true, Bool.true_and, Bool.false_and, Bool.true_or, Bool.or_true, Option.isNone_none, Option.isNone_some, List.any_cons, List.any_nil, Bool.and_false, Nat.reduceBEq, Nat.reduceLeDiff, Int.reduceLT, Int.reduceEq, Int.reduceLE, Int.reduceAdd, Int.reduceToNat, Int.reduceNeg, Int.cast_ofNat_Int, Nat.reduceLT, List.drop_succ_cons, List.take_succ_cons, List.singleton_append, Nat.zero_add, List.set_cons_zero, List.set_cons_succ, List.drop_nil, List.take_nil, Option.map_some, Option.map_none, Option.getD_some, Option.getD_none, Option.bind_some, List.cons_append, List.nil_append, List.append_nil, List.map_cons, List.map_nil, List.range_zero, List.take_zero, List.flatten_nil, List.filter_nil, List.length_nil, List.length_cons, List.drop_zero, List.not_mem_nil, List.mem_cons, Bool.true_eq_false, Bool.false_eq_true, Nat.reduceEqDiff, Nat.reduceAdd, List.getElem?_toArray, List.toList_toArray, List.getElem?_cons_zero, List.getElem?_cons_succ, decide_eq_true_eq, beq_self_eq_true, beq_true, beq_false, decide_true, decide_false, Bool.not_true, Bool.not_false, true_and, and_true, or_false, false_or, Bool.and_eq_true, reduceCtorEq, not_false_eq_true, Z1u, rv25, U3, U9, digS_at, bin_rem10, bin_quo10, p1, p2, p3, he2, hr1, hw, hw0, hk, dig_slice d hd2, hl, strL_app, hs, pr_obj, obj25, call25]
theorem r2Text_call : ∀ (m : Nat) (n : Int), n.natAbs ≤ m → small64 n = true → G1 25 [xint n] (xstr (strL (Lib.itoa n))) := by
  intro m
  induction m with
  | zero =>
    intro n hn _
    obtain rfl : n = 0 := by omega
    exact r2Text_small 0 (by decide)
  | succ m ih =>
    intro n hn hs
    by_cases h : 10 ≤ n.natAbs
    · have hq : (n.tdiv 10).natAbs = n.natAbs / 10 := by rw [Int.natAbs_tdiv]; rfl
      refine r2Text_big n hs h (ih _ (by omega) ?_)
      simp only [small64, decide_eq_true_eq] at hs ⊢
      omega
    · by_cases h0 : 0 ≤ n
      · obtain ⟨k, rfl⟩ := Int.eq_ofNat_of_zero_le h0
        exact r2Text_small k (by omega)
      · obtain ⟨k, rfl⟩ : ∃ k : Nat, n = -(k : Int) := ⟨n.natAbs, by omega⟩
        exact r2Text_neg k (by omega) (by omega)
theorem r2Text_k (n : Int) (K : An → Prop) (h : small64 n = true) : CallK Tryd.prog pr 25 [.of (ci n)] [] K ↔ K ⟨false, [xstr (strL (Lib.itoa n))], []⟩ := Gives.k (r2Text_call _ n (Nat.le_refl _) h) K
theorem str_at (s : ByteArray) (k : Nat) (h : k < s.size) : s.data.toList[k]? = some (s.data.toList[k]'(by simpa using h)) := by simp [h]
theorem extract_one (s : ByteArray) (k : Nat) (h : k < s.size) : s.extract k (k + 1) = strL [s.data.toList[k]'(by simpa using h)] := by
  apply toList_inj.1
  have hl : k < s.data.toList.length := by simpa using h
  simp only [ByteArray.data_extract, Array.toList_extract, List.extract_eq_take_drop, strL, List.toList_toArray]
  rw [List.drop_eq_getElem_cons hl]
  simp
theorem slice_one (s : ByteArray) (k : Nat) (h : k < s.size) : sliceX (TT.of Tryd.prog) 9 (.of (.lit (.string s))) (some (xint k)) (some (xint ((k + 1 : Nat) : Int))) = out (xstr (strL [s.data.toList[k]'(by simpa using h)])) := by
  simp only [sliceX, T9, Option.map_some, isStrD, if_true, bndX, litInt]
  rw [if_pos ⟨by omega, by omega, by omega⟩, Int.toNat_natCast, Int.toNat_natCast, extract_one s k h]
theorem at8_get (s : ByteArray) (k : Nat) (h : k < s.size) : at8 s k = (s.data.toList[k]'(by simpa using h)).toNat := by
  unfold at8
  rw [List.getD_eq_getElem?_getD, str_at s k h]
  rfl
theorem take_one (s : ByteArray) (k : Nat) (h : k < s.size) : s.data.toList.take (k + 1) = s.data.toList.take k ++ [s.data.toList[k]'(by simpa using h)] := List.take_succ_eq_append_getElem _
theorem s39x (a : List UInt8) : strL a ++ (⟨#[39]⟩ : ByteArray) = strL (a ++ [39]) := strL_app a [39]
theorem size39 : (⟨#[39]⟩ : ByteArray).size = 1 := rfl
set_option maxRecDepth 100000 in
theorem r3Text_call (v : V) (hv : VOk v) : G1 26 [.of (valX v)] (xstr (textS v)) := by
  refine by_body rfl ok26 body26 ar26 rfl ?_
  by_cases h1 : v.k = 1
  · by_cases h2 : v.n = 0
    · simp -implicitDefEqProofs only [Tryd.f26, ↓zD, zU, Nat.zero_mul, Nat.reduceMul, List.length_map, Tk.nm.injEq, Tk.cell.injEq, false_and, and_false, Nat.le_add_right, Nat.le_refl, ↓reduceIte, Bool.or_false, Bool.false_or, Bool.and_true, Bool.true_and, Bool.false_and, Bool.true_or, Bool.or_true, Option.isNone_none, Option.isNone_some, List.any_cons, List.any_nil, Bool.and_false, Nat.reduceBEq, Nat.reduceLeDiff, Int.reduceLT, Int.reduceEq, Int.reduceLE, Int.reduceAdd, Int.reduceToNat, Int.reduceNeg, Int.cast_ofNat_Int, Nat.reduceLT, List.drop_succ_cons, List.take_succ_cons, List.singleton_append, Nat.zero_add, List.set_cons_zero, List.set_cons_succ, List.drop_nil, List.take_nil, Option.map_some, Option.map_none, Option.getD_some, Option.getD_none, Option.bind_some, List.cons_append, List.nil_append, List.append_nil, List.map_cons, List.map_nil, List.range_zero, List.take_zero, List.flatten_nil, List.filter_nil, List.length_nil, List.length_cons, List.drop_zero, List.not_mem_nil, List.mem_cons, Bool.true_eq_false, Bool.false_eq_true, Nat.reduceEqDiff, Nat.reduceAdd, List.getElem?_toArray, List.toList_toArray, List.getElem?_cons_zero, List.getElem?_cons_succ, decide_eq_true_eq, beq_self_eq_true, beq_true, beq_false, decide_true, decide_false, Bool.not_true, Bool.not_false, true_and, and_true, or_false, false_or, Bool.and_eq_true, reduceCtorEq, not_false_eq_true, Z1u, rv26, T51, cells_val, boxO, T3, T9, U3, U9, fa51_0, fa51_1, fa51_2, P3, P9, h1, h2, textS]
      rfl
    · simp -implicitDefEqProofs only [Tryd.f26, ↓zD, zU, Nat.zero_mul, Nat.reduceMul, List.length_map, Tk.nm.injEq, Tk.cell.injEq, false_and, and_false, Nat.le_add_right, Nat.le_refl, ↓reduceIte, Bool.or_false, Bool.false_or, Bool.and_true, Bool.true_and, Bool.false_and, Bool.true_or, Bool.or_true, Option.isNone_none, Option.isNone_some, List.any_cons, List.any_nil, Bool.and_false, Nat.reduceBEq, Nat.reduceLeDiff, Int.reduceLT, Int.reduceEq, Int.reduceLE, Int.reduceAdd, Int.reduceToNat, Int.reduceNeg, Int.cast_ofNat_Int, Nat.reduceLT, List.drop_succ_cons, List.take_succ_cons, List.singleton_append, Nat.zero_add, List.set_cons_zero, List.set_cons_succ, List.drop_nil, List.take_nil, Option.map_some, Option.map_none, Option.getD_some, Option.getD_none, Option.bind_some, List.cons_append, List.nil_append, List.append_nil, List.map_cons, List.map_nil, List.range_zero, List.take_zero, List.flatten_nil, List.filter_nil, List.length_nil, List.length_cons, List.drop_zero, List.not_mem_nil, List.mem_cons, Bool.true_eq_false, Bool.false_eq_true, Nat.reduceEqDiff, Nat.reduceAdd, List.getElem?_toArray, List.toList_toArray, List.getElem?_cons_zero, List.getElem?_cons_succ, decide_eq_true_eq, beq_self_eq_true, beq_true, beq_false, decide_true, decide_false, Bool.not_true, Bool.not_false, true_and, and_true, or_false, false_or, Bool.and_eq_true, reduceCtorEq, not_false_eq_true, Z1u, rv26, T51, cells_val, boxO, T3, T9, U3, U9, fa51_0, fa51_1, fa51_2, P3, P9, h1, h2, textS]
      rfl
  · by_cases h2 : v.k = 2
    · simp -implicitDefEqProofs only [Tryd.f26, ↓zD, zU, Nat.zero_mul, Nat.reduceMul, List.length_map, Tk.nm.injEq, Tk.cell.injEq, false_and, and_false, Nat.le_add_right, Nat.le_refl, ↓reduceIte, Bool.or_false, Bool.false_or, Bool.and_true, Bool.true_and, Bool.false_and, Bool.true_or, Bool.or_true, Option.isNone_none, Option.isNone_some, List.any_cons, List.any_nil, Bool.and_false, Nat.reduceBEq, Nat.reduceLeDiff, Int.reduceLT, Int.reduceEq, Int.reduceLE, Int.reduceAdd, Int.reduceToNat, Int.reduceNeg, Int.cast_ofNat_Int, Nat.reduceLT, List.drop_succ_cons, List.take_succ_cons, List.singleton_append, Nat.zero_add, List.set_cons_zero, List.set_cons_succ, List.drop_nil, List.take_nil, Option.map_some, Option.map_none, Option.getD_some, Option.getD_none, Option.bind_some, List.cons_append, List.nil_append, List.append_nil, List.map_cons, List.map_nil, List.range_zero, List.take_zero, List.flatten_nil, List.filter_nil, List.length_nil, List.length_cons, List.drop_zero, List.not_mem_nil, List.mem_cons, Bool.true_eq_false, Bool.false_eq_true, Nat.reduceEqDiff, Nat.reduceAdd, List.getElem?_toArray, List.toList_toArray, List.getElem?_cons_zero, List.getElem?_cons_succ, decide_eq_true_eq, beq_self_eq_true, beq_true, beq_false, decide_true, decide_false, Bool.not_true, Bool.not_false, true_and, and_true, or_false, false_or, Bool.and_eq_true, reduceCtorEq, not_false_eq_true, Z1u, rv26, T51, cells_val, boxO, T3, T9, U3, U9, fa51_0, fa51_1, fa51_2, P3, P9, h1, h2, Int.reduceEq, r2Text_k _ _ hv.n, pr_obj, obj25, call25, textS]
    · by_cases h3 : v.k = 3
      · have hs := hv.s
        have el : v.s.data.toList.length = v.s.size := by simp
        have ht : textS v = strL (39 :: quoteL v.s.data.toList ++ [39]) := by simp only [textS, h1, h2, h3, if_false, if_true]; rfl
        simp -implicitDefEqProofs only [Tryd.f26, ↓zD, zU, Nat.zero_mul, Nat.reduceMul, List.length_map, Tk.nm.injEq, Tk.cell.injEq, false_and, and_false, Nat.le_add_right, Nat.le_refl, ↓reduceIte, Bool.or_false, Bool.false_or, Bool.and_true, Bool.true_and, Bool.false_and, Bool.true_or, Bool.or_true, Option.isNone_none, Option.isNone_some, List.any_cons, List.any_nil, Bool.and_false, Nat.reduceBEq, Nat.reduceLeDiff, Int.reduceLT, Int.reduceEq, Int.reduceLE, Int.reduceAdd, Int.reduceToNat, Int.reduceNeg, Int.cast_ofNat_Int, Nat.reduceLT, List.drop_succ_cons, List.take_succ_cons, List.singleton_append, Nat.zero_add, List.set_cons_zero, List.set_cons_succ, List.drop_nil, List.take_nil, Option.map_some, Option.map_none, Option.getD_some, Option.getD_none, Option.bind_some, List.cons_append, List.nil_append, List.append_nil, List.map_cons, List.map_nil, List.range_zero, List.take_zero, List.flatten_nil, List.filter_nil, List.length_nil, List.length_cons, List.drop_zero, List.not_mem_nil, List.mem_cons, Bool.true_eq_false, Bool.false_eq_true, Nat.reduceEqDiff, Nat.reduceAdd, List.getElem?_toArray, List.toList_toArray, List.getElem?_cons_zero, List.getElem?_cons_succ, decide_eq_true_eq, beq_self_eq_true, beq_true, beq_false, decide_true, decide_false, Bool.not_true, Bool.not_false, true_and, and_true, or_false, false_or, Bool.and_eq_true, reduceCtorEq, not_false_eq_true, Z1u, rv26, T51, cells_val, boxO, T3, T9, U3, U9, fa51_0, fa51_1, fa51_2, P3, P9, h1, h2, h3, Int.reduceEq]
        refine WC_inv _ _ (fun m s => ∃ k : Nat, k ≤ v.s.size ∧ m = v.s.size - k ∧ s.fr 1 = .ptr 0 0 ∧ s.fr 3 = xstr (strL (39 :: quoteL (v.s.data.toList.take k))) ∧ s.fr 4 = xint k ∧ s.objs = [.var 51 [xint 3, xint v.n, xstr v.s]]) ?_ v.s.size _ ?_
        · rintro m s ⟨k, hk, rfl, f1, f3, f4, ho⟩
          have hw := wrapS k (by omega)
          have hq := quoteL_len (v.s.data.toList.take k)
          have hq2 : (v.s.data.toList.take k).length ≤ 1048576 := by rw [List.length_take]; omega
          by_cases c1 : k < v.s.size
          · have hi := index_str (T := TT.of Tryd.prog) (t := 9) U9 v.s k
            have ht1 := take_one v.s k c1
            have hq1 := quoteL_snoc (v.s.data.toList.take k) (v.s.data.toList[k]'(by simpa using c1))
            rw [← ht1] at hq1
            by_cases c2 : (v.s.data.toList[k]'(by simpa using c1)) = 39
            · have c3 : ((at8 v.s k : Nat) : Int) = 39 := by rw [at8_get _ _ c1, c2]; rfl
              have l1 : (strL (39 :: quoteL (v.s.data.toList.take k))).size + (⟨#[39]⟩ : ByteArray).size ≤ SLIM := by rw [size_strL, size39]; unfold SLIM; simp only [List.length_cons]; omega
              have l2 : (strL (39 :: quoteL (v.s.data.toList.take k) ++ [39])).size + (strL [39]).size ≤ SLIM := by rw [size_strL, size_strL]; unfold SLIM; simp only [List.length_append, List.length_cons, List.length_nil]; omega
              simp -implicitDefEqProofs only [↓zD, zU, Nat.zero_mul, Nat.reduceMul, List.length_map, Tk.nm.injEq, Tk.cell.injEq, false_and, and_false, Nat.le_add_right, Nat.le_refl, ↓reduceIte, Bool.or_false, Bool.false_or, Bool.and_true, Bool.true_and, Bool.false_and, Bool.true_or, Bool.or_true, Option.isNone_none, Option.isNone_some, List.any_cons, List.any_nil, Bool.and_false, Nat.reduceBEq, Nat.reduceLeDiff, Int.reduceLT, Int.reduceEq, Int.reduceLE, Int.reduceAdd, Int.reduceToNat, Int.reduceNeg, Int.cast_ofNat_Int, Nat.reduceLT, List.drop_succ_cons, List.take_succ_cons, List.singleton_append, Nat.zero_add, List.set_cons_zero, List.set_cons_succ, List.drop_nil, List.take_nil, Option.map_some, Option.map_none, Option.getD_some, Option.getD_none, Option.bind_some, List.cons_append, List.nil_append, List.append_nil, List.map_cons, List.map_nil, List.range_zero, List.take_zero, List.flatten_nil, List.filter_nil, List.length_nil, List.length_cons, List.drop_zero, List.not_mem_nil, List.mem_cons, Bool.true_eq_false, Bool.false_eq_true, Nat.reduceEqDiff, Nat.reduceAdd, List.getElem?_toArray, List.toList_toArray, List.getElem?_cons_zero, List.getElem?_cons_succ, decide_eq_true_eq, beq_self_eq_true, beq_true, beq_false, decide_true, decide_false, Bool.not_true, Bool.not_false, true_and, and_true, or_false, false_or, Bool.and_eq_true, reduceCtorEq, not_false_eq_true, Z1u, f1, f3, f4, ho, T51, cells_val, boxO, T3, T9, U3, U9, fa51_0, fa51_1, fa51_2, P3, P9, U5, hi, Int.toNat_natCast, c1, c2, c3, hw, slice_one v.s k c1, Int.ofNat_lt, Int.natCast_nonneg, s39x, l1, l2, strL_app]
              refine ⟨l2, v.s.size - (k + 1), by omega, k + 1, by omega, rfl, ?_, rfl⟩
              rw [hq1, if_pos c2]
              simp
            · have c3 : ¬ ((at8 v.s k : Nat) : Int) = 39 := by
                rw [at8_get _ _ c1]
                intro e
                apply c2
                apply UInt8.toNat_inj.1
                have : (39 : UInt8).toNat = 39 := rfl
                omega
              have l2 : (strL (39 :: quoteL (v.s.data.toList.take k))).size + (strL [v.s.data.toList[k]'(by simpa using c1)]).size ≤ SLIM := by rw [size_strL, size_strL]; unfold SLIM; simp only [List.length_cons, List.length_nil]; omega
              simp -implicitDefEqProofs only [↓zD, zU, Nat.zero_mul, Nat.reduceMul, List.length_map, Tk.nm.injEq, Tk.cell.injEq, false_and, and_false, Nat.le_add_right, Nat.le_refl, ↓reduceIte, Bool.or_false, Bool.false_or, Bool.and_true, Bool.true_and, Bool.false_and, Bool.true_or, Bool.or_true, Option.isNone_none, Option.isNone_some, List.any_cons, List.any_nil, Bool.and_false, Nat.reduceBEq, Nat.reduceLeDiff, Int.reduceLT, Int.reduceEq, Int.reduceLE, Int.reduceAdd, Int.reduceToNat, Int.reduceNeg, Int.cast_ofNat_Int, Nat.reduceLT, List.drop_succ_cons, List.take_succ_cons, List.singleton_append, Nat.zero_add, List.set_cons_zero, List.set_cons_succ, List.drop_nil, List.take_nil, Option.map_some, Option.map_none, Option.getD_some, Option.getD_none, Option.bind_some, List.cons_append, List.nil_append, List.append_nil, List.map_cons, List.map_nil, List.range_zero, List.take_zero, List.flatten_nil, List.filter_nil, List.length_nil, List.length_cons, List.drop_zero, List.not_mem_nil, List.mem_cons, Bool.true_eq_false, Bool.false_eq_true, Nat.reduceEqDiff, Nat.reduceAdd, List.getElem?_toArray, List.toList_toArray, List.getElem?_cons_zero, List.getElem?_cons_succ, decide_eq_true_eq, beq_self_eq_true, beq_true, beq_false, decide_true, decide_false, Bool.not_true, Bool.not_false, true_and, and_true, or_false, false_or, Bool.and_eq_true, reduceCtorEq, not_false_eq_true, Z1u, f1, f3, f4, ho, T51, cells_val, boxO, T3, T9, U3, U9, fa51_0, fa51_1, fa51_2, P3, P9, U5, hi, Int.toNat_natCast, c1, c3, hw, slice_one v.s k c1, Int.ofNat_lt, Int.natCast_nonneg, l2, strL_app]
              refine ⟨v.s.size - (k + 1), by omega, k + 1, by omega, rfl, ?_, rfl⟩
              rw [hq1, if_neg c2]
          · have c2 : k = v.s.size := by omega
            have e2 : v.s.data.toList.take k = v.s.data.toList := List.take_of_length_le (by omega)
            have l1 : (strL (39 :: quoteL (v.s.data.toList))).size + (⟨#[39]⟩ : ByteArray).size ≤ SLIM := by
              have := quoteL_len v.s.data.toList
              rw [size_strL, size39]; unfold SLIM; simp only [List.length_cons]; omega
            rw [e2] at f3
            simp -implicitDefEqProofs only [↓zD, zU, Nat.zero_mul, Nat.reduceMul, List.length_map, Tk.nm.injEq, Tk.cell.injEq, false_and, and_false, Nat.le_add_right, Nat.le_refl, ↓reduceIte, Bool.or_false, Bool.false_or, Bool.and_true, Bool.true_and, Bool.false_and, Bool.true_or, Bool.or_true, Option.isNone_none, Option.isNone_some, List.any_cons, List.any_nil, Bool.and_false, Nat.reduceBEq, Nat.reduceLeDiff, Int.reduceLT, Int.reduceEq, Int.reduceLE, Int.reduceAdd, Int.reduceToNat, Int.reduceNeg, Int.cast_ofNat_Int, Nat.reduceLT, List.drop_succ_cons, List.take_succ_cons, List.singleton_append, Nat.zero_add, List.set_cons_zero, List.set_cons_succ, List.drop_nil, List.take_nil, Option.map_some, Option.map_none, Option.getD_some, Option.getD_none, Option.bind_some, List.cons_append, List.nil_append, List.append_nil, List.map_cons, List.map_nil, List.range_zero, List.take_zero, List.flatten_nil, List.filter_nil, List.length_nil, List.length_cons, List.drop_zero, List.not_mem_nil, List.mem_cons, Bool.true_eq_false, Bool.false_eq_true, Nat.reduceEqDiff, Nat.reduceAdd, List.getElem?_toArray, List.toList_toArray, List.getElem?_cons_zero, List.getElem?_cons_succ, decide_eq_true_eq, beq_self_eq_true, beq_true, beq_false, decide_true, decide_false, Bool.not_true, Bool.not_false, true_and, and_true, or_false, false_or, Bool.and_eq_true, reduceCtorEq, not_false_eq_true, Z1u, f1, f3, f4, ho, T51, cells_val, boxO, T3, T9, U3, U9, fa51_0, fa51_1, fa51_2, P3, P9, Int.ofNat_lt, c1, l1, s39x, rv26, Tryd.f26, ht]
        · exact ⟨0, by omega, by omega, by simp -implicitDefEqProofs only [↓zD, zU, Nat.zero_mul, Nat.reduceMul, List.length_map, Tk.nm.injEq, Tk.cell.injEq, false_and, and_false, Nat.le_add_right, Nat.le_refl, ↓reduceIte, Bool.or_false, Bool.false_or, Bool.and_true, Bool.true_and, Bool.false_and, Bool.true_or, Bool.or_true, Option.isNone_none, Option.isNone_some, List.any_cons, List.any_nil, Bool.and_false, Nat.reduceBEq, Nat.reduceLeDiff, Int.reduceLT, Int.reduceEq, Int.reduceLE, Int.reduceAdd, Int.reduceToNat, Int.reduceNeg, Int.cast_ofNat_Int, Nat.reduceLT, List.drop_succ_cons, List.take_succ_cons, List.singleton_append, Nat.zero_add, List.set_cons_zero, List.set_cons_succ, List.drop_nil, List.take_nil, Option.map_some, Option.map_none, Option.getD_some, Option.getD_none, Option.bind_some, List.cons_append, List.nil_append, List.append_nil, List.map_cons, List.map_nil, List.range_zero, List.take_zero, List.flatten_nil, List.filter_nil, List.length_nil, List.length_cons, List.drop_zero, List.not_mem_nil, List.mem_cons, Bool.true_eq_false, Bool.false_eq_true, Nat.reduceEqDiff, Nat.reduceAdd, List.getElem?_toArray, List.toList_toArray, List.getElem?_cons_zero, List.getElem?_cons_succ, decide_eq_true_eq, beq_self_eq_true, beq_true, beq_false, decide_true, decide_false, Bool.not_true, Bool.not_false, true_and, and_true, or_false, false_or, Bool.and_eq_true, reduceCtorEq, not_false_eq_true, Z1u], by simp -implicitDefEqProofs only [↓zD, zU, Nat.zero_mul, Nat.reduceMul, List.length_map, Tk.nm.injEq, Tk.cell.injEq, false_and, and_false, Nat.le_add_right, Nat.le_refl, ↓reduceIte, Bool.or_false, Bool.false_or, Bool.and_true, Bool.true_and, Bool.false_and, Bool.true_or, Bool.or_true, Option.isNone_none, Option.isNone_some, List.any_cons, List.any_nil, Bool.and_false, Nat.reduceBEq, Nat.reduceLeDiff, Int.reduceLT, Int.reduceEq, Int.reduceLE, Int.reduceAdd, Int.reduceToNat, Int.reduceNeg, Int.cast_ofNat_Int, Nat.reduceLT, List.drop_succ_cons, List.take_succ_cons, List.singleton_append, Nat.zero_add, List.set_cons_zero, List.set_cons_succ, List.drop_nil, List.take_nil, Option.map_some, Option.map_none, Option.getD_some, Option.getD_none, Option.bind_some, List.cons_append, List.nil_append, List.append_nil, List.map_cons, List.map_nil, List.range_zero, List.take_zero, List.flatten_nil, List.filter_nil, List.length_nil, List.length_cons, List.drop_zero, List.not_mem_nil, List.mem_cons, Bool.true_eq_false, Bool.false_eq_true, Nat.reduceEqDiff, Nat.reduceAdd, List.getElem?_toArray, List.toList_toArray, List.getElem?_cons_zero, List.getElem?_cons_succ, decide_eq_true_eq, beq_self_eq_true, beq_true, beq_false, decide_true, decide_false, Bool.not_true, Bool.not_false, true_and, and_true, or_false, false_or, Bool.and_eq_true, reduceCtorEq, not_false_eq_true, Z1u] <;> rfl, by simp -implicitDefEqProofs only [↓zD, zU, Nat.zero_mul, Nat.reduceMul, List.length_map, Tk.nm.injEq, Tk.cell.injEq, false_and, and_false, Nat.le_add_right, Nat.le_refl, ↓reduceIte, Bool.or_false, Bool.false_or, Bool.and_true, Bool.true_and, Bool.false_and, Bool.true_or, Bool.or_true, Option.isNone_none, Option.isNone_some, List.any_cons, List.any_nil, Bool.and_false, Nat.reduceBEq, Nat.reduceLeDiff, Int.reduceLT, Int.reduceEq, Int.reduceLE, Int.reduceAdd, Int.reduceToNat, Int.reduceNeg, Int.cast_ofNat_Int, Nat.reduceLT, List.drop_succ_cons, List.take_succ_cons, List.singleton_append, Nat.zero_add, List.set_cons_zero, List.set_cons_succ, List.drop_nil, List.take_nil, Option.map_some, Option.map_none, Option.getD_some, Option.getD_none, Option.bind_some, List.cons_append, List.nil_append, List.append_nil, List.map_cons, List.map_nil, List.range_zero, List.take_zero, List.flatten_nil, List.filter_nil, List.length_nil, List.length_cons, List.drop_zero, List.not_mem_nil, List.mem_cons, Bool.true_eq_false, Bool.false_eq_true, Nat.reduceEqDiff, Nat.reduceAdd, List.getElem?_toArray, List.toList_toArray, List.getElem?_cons_zero, List.getElem?_cons_succ, decide_eq_true_eq, beq_self_eq_true, beq_true, beq_false, decide_true, decide_false, Bool.not_true, Bool.not_false, true_and, and_true, or_false, false_or, Bool.and_eq_true, reduceCtorEq, not_false_eq_true, Z1u], by simp -implicitDefEqProofs only [↓zD, zU, Nat.zero_mul, Nat.reduceMul, List.length_map, Tk.nm.injEq, Tk.cell.injEq, false_and, and_false, Nat.le_add_right, Nat.le_refl, ↓reduceIte, Bool.or_false, Bool.false_or, Bool.and_true, Bool.true_and, Bool.false_and, Bool.true_or, Bool.or_true, Option.isNone_none, Option.isNone_some, List.any_cons, List.any_nil, Bool.and_false, Nat.reduceBEq, Nat.reduceLeDiff, Int.reduceLT, Int.reduceEq, Int.reduceLE, Int.reduceAdd, Int.reduceToNat, Int.reduceNeg, Int.cast_ofNat_Int, Nat.reduceLT, List.drop_succ_cons, List.take_succ_cons, List.singleton_append, Nat.zero_add, List.set_cons_zero, List.set_cons_succ, List.drop_nil, List.take_nil, Option.map_some, Option.map_none, Option.getD_some, Option.getD_none, Option.bind_some, List.cons_append, List.nil_append, List.append_nil, List.map_cons, List.map_nil, List.range_zero, List.take_zero, List.flatten_nil, List.filter_nil, List.length_nil, List.length_cons, List.drop_zero, List.not_mem_nil, List.mem_cons, Bool.true_eq_false, Bool.false_eq_true, Nat.reduceEqDiff, Nat.reduceAdd, List.getElem?_toArray, List.toList_toArray, List.getElem?_cons_zero, List.getElem?_cons_succ, decide_eq_true_eq, beq_self_eq_true, beq_true, beq_false, decide_true, decide_false, Bool.not_true, Bool.not_false, true_and, and_true, or_false, false_or, Bool.and_eq_true, reduceCtorEq, not_false_eq_true, Z1u]⟩
      · simp -implicitDefEqProofs only [Tryd.f26, ↓zD, zU, Nat.zero_mul, Nat.reduceMul, List.length_map, Tk.nm.injEq, Tk.cell.injEq, false_and, and_false, Nat.le_add_right, Nat.le_refl, ↓reduceIte, Bool.or_false, Bool.false_or, Bool.and_true, Bool.true_and, Bool.false_and, Bool.true_or, Bool.or_true, Option.isNone_none, Option.isNone_some, List.any_cons, List.any_nil, Bool.and_false, Nat.reduceBEq, Nat.reduceLeDiff, Int.reduceLT, Int.reduceEq, Int.reduceLE, Int.reduceAdd, Int.reduceToNat, Int.reduceNeg, Int.cast_ofNat_Int, Nat.reduceLT, List.drop_succ_cons, List.take_succ_cons, List.singleton_append, Nat.zero_add, List.set_cons_zero, List.set_cons_succ, List.drop_nil, List.take_nil, Option.map_some, Option.map_none, Option.getD_some, Option.getD_none, Option.bind_some, List.cons_append, List.nil_append, List.append_nil, List.map_cons, List.map_nil, List.range_zero, List.take_zero, List.flatten_nil, List.filter_nil, List.length_nil, List.length_cons, List.drop_zero, List.not_mem_nil, List.mem_cons, Bool.true_eq_false, Bool.false_eq_true, Nat.reduceEqDiff, Nat.reduceAdd, List.getElem?_toArray, List.toList_toArray, List.getElem?_cons_zero, List.getElem?_cons_succ, decide_eq_true_eq, beq_self_eq_true, beq_true, beq_false, decide_true, decide_false, Bool.not_true, Bool.not_false, true_and, and_true, or_false, false_or, Bool.and_eq_true, reduceCtorEq, not_false_eq_true, Z1u, rv26, T51, cells_val, boxO, T3, T9, U3, U9, fa51_0, fa51_1, fa51_2, P3, P9, h1, h2, h3, textS]
        rfl
end Go.Proofs.YtcmgabicladmlaaDoor
namespace Go.Proofs.YtcmgabicladmlaaDoor
open Go Go.Pe Go.RowKit Go.ChangeShapes Go.Deep

/-- Memory, as it is. -/
def memOf (W : World) : Mem := fun b o => match W.cell? ⟨b, o, none⟩ with
  | some v => if v.oneCell' = true then some v else none
  | none => none
theorem memOf_some {W : World} {b o : Nat} {v : Value} (h : W.cell? ⟨b, o, none⟩ = some v) (h1 : v.oneCell' = true) : memOf W b o = some v := by simp [memOf, h, h1]
theorem memOf_mem {W : World} {b o : Nat} {v : Value} (h : memOf W b o = some v) : W.cell? ⟨b, o, none⟩ = some v ∧ v.oneCell' = true := by
  unfold memOf at h
  split at h
  · split at h
    · rename_i h1 h2
      cases h
      exact ⟨h1, h2⟩
    · cases h
  · cases h

/-- Data of a type, as cells; and a bound on its bulk. -/
inductive Pl (P : Program) : TypeId → List C → Nat → Prop where
  | int {t : TypeId} {k : IntKind} {n : Int} {m : Nat} (hu : P.underlying t = some (.int k)) (hw : (Lit.int k n).wf = true) (hm : 1 ≤ m) : Pl P t [.lit (.int k n)] m
  | bool {t : TypeId} {b : Bool} {m : Nat} (hu : P.underlying t = some .bool) (hm : 1 ≤ m) : Pl P t [.lit (.bool b)] m
  | str {t : TypeId} {s : ByteArray} {m : Nat} (hu : P.underlying t = some .string) (hm : s.size + 1 ≤ m) : Pl P t [.lit (.string s)] m
  | slice {t e : TypeId} {ps : List (List C)} {ws : List Nat} {m n : Nat} (hu : P.underlying t = some (.slice e)) (hp : ps.length = n) (hl : ws.length = n)
      (h : ∀ i (h1 : i < ps.length) (h2 : i < ws.length), Pl P e ps[i] ws[i]) (hc : ∀ i (h1 : i < ps.length), ps[i].length = P.cellsOf e) (hn : ∀ i (h2 : i < ws.length), 1 ≤ ws[i]) (hm : ws.sum + 1 ≤ m) : Pl P t [.sl ps.flatten n] m
  | struct {t : TypeId} {fs : Array Field} {ps : List (List C)} {ws : List Nat} {m : Nat} (hu : P.underlying t = some (.struct fs)) (hp : ps.length = fs.toList.length) (hl : ws.length = fs.toList.length)
      (h : ∀ i (h0 : i < fs.toList.length) (h1 : i < ps.length) (h2 : i < ws.length), Pl P fs.toList[i].type ps[i] ws[i]) (hm : ws.sum + 1 ≤ m) : Pl P t ps.flatten m

/-- A struct's fields lie one behind the other. -/
def tilesB (P : Program) : Nat → List Field → Nat → Bool
  | o, [], n => o == n
  | o, f :: fs, n => f.offset == o && tilesB P (o + P.cellsOf f.type) fs n
/-- Types that are made of each other, and of nothing else. -/
def flatB (P : Program) (l : List TypeId) : Bool := l.all fun t => match P.underlying t with
  | some (.int _) => true
  | some .bool => true
  | some .string => true
  | some (.slice e) => l.contains e && decide (0 < P.cellsOf e)
  | some (.struct fs) => fs.toList.all (fun f => l.contains f.type) && tilesB P 0 fs.toList (P.cellsOf t)
  | _ => false

section
variable {H : Type} {enc : TypeId × Value → H} {W : World} {spare : Nat → Bool} {held : Bool} {P : Program}

theorem one_le {H : Type} (d : DataW H) : 1 ≤ Rows.uptoBulk d := by
  cases d with
  | lit l => cases l <;> simp [Rows.uptoBulk]
  | _ => simp [Rows.uptoBulk]
theorem bulk_map {H : Type} {α : Type} (f : α → DataW H) : ∀ l : List α, Rows.uptoBulkAll (l.map f) = (l.map fun x => Rows.uptoBulk (f x)).sum
  | [] => rfl
  | x :: l => by simp only [List.map_cons, Rows.uptoBulkAll, List.sum_cons, bulk_map f l]
theorem add_add (a : Addr) (m j : Nat) : (a.add m).add j = a.add (m + j) := by
  unfold Addr.add
  by_cases hm : m = 0
  · subst hm
    simp
  · by_cases hj : j = 0
    · subst hj
      simp [hm]
    · simp [hm, hj, Nat.add_assoc]

/-- A slice, by its elements. -/
theorem slice_rep {a : Addr} {len cap z : Nat} (hle : len ≤ cap) (hz : 0 < z) (cs : Nat → List Value) (g : Nat → List C)
    (h : ∀ i, i < len → W.cells? 0 (a.add (i * z)) z = some (cs i) ∧ RepL (memOf W) (g i) (cs i) ∧ ∀ u ∈ cs i, u.oneCell' = true) :
    Rep (memOf W) (.sl ((List.range len).map g).flatten len) (.slice (some a) len cap) := by
  have h1 : ∀ n, n ≤ len → RepL (memOf W) ((List.range n).map g).flatten ((List.range n).map cs).flatten ∧ ((List.range n).map cs).flatten.length = n * z ∧
      ∀ i u, ((List.range n).map cs).flatten[i]? = some u → W.cell? (a.add i) = some u ∧ u.oneCell' = true := by
    intro n
    induction n with
    | zero => intro _; exact ⟨rfl, by simp, fun i u hu => by simp at hu⟩
    | succ n ih =>
      intro hn
      obtain ⟨i1, i2, i3⟩ := ih (by omega)
      obtain ⟨j1, j2, j3⟩ := h n (by omega)
      obtain ⟨_, k1, k2⟩ := World.cells?_some j1
      simp only [List.range_succ, List.map_append, List.map_cons, List.map_nil, List.flatten_append, List.flatten_cons, List.flatten_nil, List.append_nil]
      refine ⟨i1.append j2, by rw [List.length_append, i2, k1, Nat.succ_mul], fun i u hu => ?_⟩
      rcases Nat.lt_or_ge i (n * z) with hi | hi
      · rw [List.getElem?_append_left (by omega)] at hu
        exact i3 i u hu
      · rw [List.getElem?_append_right (by omega), i2] at hu
        have hlt : i - n * z < z := by
          have := (List.getElem?_eq_some_iff.1 hu).1
          omega
        have := k2 (i - n * z) hlt
        rw [hu] at this
        rw [add_add, show n * z + (i - n * z) = i by omega] at this
        exact ⟨this, j3 u (List.mem_of_getElem? hu)⟩
  obtain ⟨h2, h3, h4⟩ := h1 len (Nat.le_refl _)
  refine ⟨some a, cap, _, rfl, hle, h2, fun hne => ?_⟩
  have hpl : a.spot = none := by
    cases hv : ((List.range len).map cs).flatten with
    | nil => exact absurd hv hne
    | cons u r =>
      have := (h4 0 u (by rw [hv]; rfl)).1
      unfold Addr.add at this
      rw [if_pos rfl] at this
      cases hs : a.spot with
      | none => rfl
      | some s =>
        unfold World.cell? at this
        split at this
        · simp [hs] at this
        · cases this
  refine ⟨a.block, a.off, by cases a; simp only at hpl; rw [hpl], fun i u hu => ?_⟩
  obtain ⟨h5, h6⟩ := h4 i u hu
  refine memOf_some ?_ h6
  rw [← h5]
  unfold Addr.add
  split
  · rename_i e; subst e; cases a; simp only at hpl; rw [hpl]; rfl
  · rfl

/-- What is said of a reading. -/
def Told (P : Program) (W : World) (t : TypeId) (cs : List Value) (d : DataW H) : Prop := ∃ g : List C, RepL (memOf W) g cs ∧ (∀ u ∈ cs, u.oneCell' = true) ∧ Pl P t g (Rows.uptoBulk d)

theorem read_fields {n : Nat} {l : List TypeId} (ih : ∀ t cs x, t ∈ l → DataW.trod enc P W 0 spare held n t cs = some x → Told P W t cs x.1) (cs : List Value) :
    ∀ (fs : List Field) (o : Nat) (xs : List (DataW H × List MemPlace)), tilesB P o fs cs.length = true → (∀ f ∈ fs, f.type ∈ l) → xs.length = fs.length →
      (∀ (i : Nat) (f : Field), fs[i]? = some f → DataW.trod enc P W 0 spare held n f.type ((cs.drop f.offset).take (P.cellsOf f.type)) = xs[i]?) →
      ∃ ps : List (List C), ps.length = fs.length ∧ RepL (memOf W) ps.flatten (cs.drop o) ∧ (∀ u ∈ cs.drop o, u.oneCell' = true) ∧
        ∀ i (h0 : i < fs.length) (h1 : i < ps.length) (h2 : i < (xs.map fun x => Rows.uptoBulk x.1).length), Pl P fs[i].type ps[i] (xs.map fun x => Rows.uptoBulk x.1)[i]
  | [], o, xs, ht, _, _, _ => by
    have : o = cs.length := by simpa [tilesB] using ht
    subst this
    exact ⟨[], rfl, by simp [RepL], by simp, fun i h0 => absurd h0 (Nat.not_lt_zero _)⟩
  | f :: fs, o, [], _, _, hl, _ => by simp at hl
  | f :: fs, o, x :: xs, ht, hm, hl, hx => by
    simp only [tilesB, Bool.and_eq_true, beq_iff_eq] at ht
    obtain ⟨rfl, ht⟩ := ht
    have h0 := hx 0 f rfl
    simp only [List.getElem?_cons_zero] at h0
    obtain ⟨g, g1, g2, g3⟩ := ih _ _ _ (hm f (List.mem_cons_self ..)) h0
    obtain ⟨ps, p1, p2, p3, p4⟩ := read_fields ih cs fs (f.offset + P.cellsOf f.type) xs ht (fun q hq => hm q (List.mem_cons_of_mem _ hq)) (by simpa using hl) (fun i q hq => by simpa using hx (i + 1) q (by simpa using hq))
    have hsplit : cs.drop f.offset = (cs.drop f.offset).take (P.cellsOf f.type) ++ cs.drop (f.offset + P.cellsOf f.type) := by
      rw [← List.drop_drop, List.take_append_drop]
    refine ⟨g :: ps, by simp [p1], ?_, ?_, ?_⟩
    · rw [hsplit, List.flatten_cons]
      exact g1.append p2
    · intro u hu
      rw [hsplit, List.mem_append] at hu
      rcases hu with hu | hu
      · exact g2 u hu
      · exact p3 u hu
    · intro i h0 h1 h2
      cases i with
      | zero => exact g3
      | succ i => exact p4 i (by simpa using h0) (by simpa using h1) (by simpa using h2)

theorem read_pl {l : List TypeId} (hf : flatB P l = true) : ∀ (fuel : Nat) (t : TypeId) (cs : List Value) (x : DataW H × List MemPlace), t ∈ l → DataW.trod enc P W 0 spare held fuel t cs = some x → Told P W t cs x.1
  | 0, t, cs, x, _, h => by simp [DataW.trod] at h
  | fuel + 1, t, cs, x, htl, h => by
    have ih := read_pl hf fuel
    have hft := List.all_eq_true.1 hf t htl
    cases hu : P.underlying t with
    | none => rw [hu] at hft; cases hft
    | some u =>
      rw [hu] at hft
      cases u with
      | int k =>
        obtain ⟨n, rfl, rfl, hw⟩ := DataW.trod_int hu h
        exact ⟨[.lit (.int k n)], ⟨_, _, rfl, ⟨rfl, rfl⟩, rfl⟩, by simp [Value.oneCell'], .int hu hw (Nat.le_refl 1)⟩
      | bool =>
        obtain ⟨b, rfl, rfl⟩ := DataW.trod_bool hu h
        exact ⟨[.lit (.bool b)], ⟨_, _, rfl, ⟨rfl, rfl⟩, rfl⟩, by simp [Value.oneCell'], .bool hu (Nat.le_refl 1)⟩
      | string =>
        obtain ⟨s, rfl, rfl, _⟩ := DataW.trod_string hu h
        exact ⟨[.lit (.string s)], ⟨_, _, rfl, ⟨rfl, rfl⟩, rfl⟩, by simp [Value.oneCell'], .str hu (Nat.le_of_eq rfl)⟩
      | slice e =>
        simp only [Bool.and_eq_true, List.contains_iff_mem, decide_eq_true_eq] at hft
        rcases DataW.trod_slice hu h with ⟨rfl, rfl⟩ | ⟨a, len, cap, elems, rest, n, hfu, rfl, rfl, _, hle, _, hlen, hel, _, _⟩
        · exact ⟨[.sl [] 0], ⟨_, _, rfl, ⟨none, 0, [], rfl, Nat.le_refl _, rfl, fun h => absurd rfl h⟩, rfl⟩, by simp [Value.oneCell'], .slice (ps := []) (ws := []) hu rfl rfl (fun i h1 => absurd h1 (Nat.not_lt_zero _)) (fun i h1 => absurd h1 (Nat.not_lt_zero _)) (fun i h1 => absurd h1 (Nat.not_lt_zero _)) (Nat.le_refl _)⟩
        · obtain rfl : fuel = n := by omega
          subst hlen
          have hv : ∀ i : Nat, ∃ p : List Value × List C, ∀ hi : i < elems.length, W.cells? 0 (a.add (i * P.cellsOf e)) (P.cellsOf e) = some p.1 ∧ RepL (memOf W) p.2 p.1 ∧ (∀ u ∈ p.1, u.oneCell' = true) ∧ Pl P e p.2 (Rows.uptoBulk elems[i].1) := fun i => by
            by_cases hi : i < elems.length
            · have h0 := hel i hi
              rw [List.getElem?_eq_getElem hi, Option.bind_eq_some_iff] at h0
              obtain ⟨cs', h1, h2⟩ := h0
              obtain ⟨g, g1, g2, g3⟩ := ih _ _ _ hft.1 h2
              exact ⟨(cs', g), fun _ => ⟨h1, g1, g2, g3⟩⟩
            · exact ⟨([], []), fun h => absurd h hi⟩
          obtain ⟨F, hF⟩ := Classical.axiomOfChoice hv
          refine ⟨[.sl ((List.range elems.length).map fun i => (F i).2).flatten elems.length], ⟨_, _, rfl, slice_rep hle hft.2 (fun i => (F i).1) (fun i => (F i).2) (fun i hi => ⟨(hF i hi).1, (hF i hi).2.1, (hF i hi).2.2.1⟩), rfl⟩, by simp [Value.oneCell'], ?_⟩
          refine .slice (ws := elems.map fun x => Rows.uptoBulk x.1) hu (by simp) (by simp) (fun i h1 h2 => ?_) (fun i h1 => ?_) (fun i h2 => ?_) ?_
          · simp only [List.getElem_map, List.getElem_range]
            exact (hF i (by simpa using h1)).2.2.2
          · simp only [List.getElem_map, List.getElem_range]
            obtain ⟨q1, q2, _⟩ := hF i (by simpa using h1)
            rw [← q2.length]
            exact (World.cells?_some q1).2.1
          · simp only [List.getElem_map]
            exact one_le _
          · simp only [Rows.uptoBulk]
            rw [bulk_map]
            omega
      | struct fs =>
        obtain ⟨xs, n, hfu, rfl, hlen, hxl, hx⟩ := DataW.trod_struct hu h
        obtain rfl : fuel = n := by omega
        simp only [Bool.and_eq_true, List.all_eq_true, List.contains_iff_mem] at hft
        obtain ⟨ps, p1, p2, p3, p4⟩ := read_fields ih cs fs.toList 0 xs (by rw [hlen]; exact hft.2) hft.1 (by simpa using hxl) (fun i f hi => hx i f (by simpa using hi))
        refine ⟨ps.flatten, by simpa using p2, by simpa using p3, .struct (ws := xs.map fun x => Rows.uptoBulk x.1) hu p1 (by simpa using hxl) p4 ?_⟩
        simp only [Rows.uptoBulk]
        rw [bulk_map]
        exact Nat.le_refl _
      | _ => cases hft
end

section
variable {P : Program} {t : TypeId} {cs : List C} {m : Nat}
theorem Pl.pos (h : Pl P t cs m) : 1 ≤ m := by
  cases h <;> omega
theorem Pl.int_inv (h : Pl P t cs m) (hu : P.underlying t = some (.int .i64)) : ∃ n : Int, cs = [ci n] ∧ -9223372036854775808 ≤ n ∧ n ≤ 9223372036854775807 := by
  cases h with
  | int hu' hw hm =>
    rw [hu] at hu'
    cases hu'
    have : IntKind.i64.min = -9223372036854775808 := rfl
    have : IntKind.i64.max = 9223372036854775807 := rfl
    refine ⟨_, rfl, ?_⟩
    simp [Lit.wf, IntKind.wrap_i64] at hw
    omega
  | bool hu' => rw [hu] at hu'; cases hu'
  | str hu' => rw [hu] at hu'; cases hu'
  | slice hu' => rw [hu] at hu'; cases hu'
  | struct hu' => rw [hu] at hu'; cases hu'
theorem Pl.str_inv (h : Pl P t cs m) (hu : P.underlying t = some .string) : ∃ s : ByteArray, cs = [cstr s] ∧ s.size + 1 ≤ m := by
  cases h with
  | str hu' hm => exact ⟨_, rfl, hm⟩
  | int hu' => rw [hu] at hu'; cases hu'
  | bool hu' => rw [hu] at hu'; cases hu'
  | slice hu' => rw [hu] at hu'; cases hu'
  | struct hu' => rw [hu] at hu'; cases hu'
theorem Pl.slice_inv {e : TypeId} (h : Pl P t cs m) (hu : P.underlying t = some (.slice e)) : ∃ (ps : List (List C)) (ws : List Nat), cs = [.sl ps.flatten ps.length] ∧ ws.length = ps.length ∧
    (∀ i (h1 : i < ps.length) (h2 : i < ws.length), Pl P e ps[i] ws[i]) ∧ ws.sum + 1 ≤ m := by
  cases h with
  | slice hu' hp hl h hc hn hm =>
    rw [hu] at hu'
    cases hu'
    subst hp
    exact ⟨_, _, rfl, hl, h, hm⟩
  | int hu' => rw [hu] at hu'; cases hu'
  | str hu' => rw [hu] at hu'; cases hu'
  | bool hu' => rw [hu] at hu'; cases hu'
  | struct hu' => rw [hu] at hu'; cases hu'
theorem Pl.struct_inv {fs : Array Field} (h : Pl P t cs m) (hu : P.underlying t = some (.struct fs)) : ∃ (ps : List (List C)) (ws : List Nat), cs = ps.flatten ∧ ps.length = fs.toList.length ∧ ws.length = fs.toList.length ∧
    (∀ i (h0 : i < fs.toList.length) (h1 : i < ps.length) (h2 : i < ws.length), Pl P fs.toList[i].type ps[i] ws[i]) ∧ ws.sum + 1 ≤ m := by
  cases h with
  | struct hu' hp hl h hm =>
    rw [hu] at hu'
    cases hu'
    exact ⟨_, _, rfl, hp, hl, h, hm⟩
  | int hu' => rw [hu] at hu'; cases hu'
  | str hu' => rw [hu] at hu'; cases hu'
  | bool hu' => rw [hu] at hu'; cases hu'
  | slice hu' => rw [hu] at hu'; cases hu'
/-- A slice is one cell. -/
theorem Pl.one_inv {e : TypeId} (h : Pl P t cs m) (hu : P.underlying t = some (.slice e)) : ∃ c : C, cs = [c] := by
  obtain ⟨ps, _, rfl, _⟩ := h.slice_inv hu
  exact ⟨_, rfl⟩
/-- The elements of a slice, each decoded. -/
theorem dec_all {α : Type} {f : α → List C} {Q : Nat → α → Prop} {w : α → Nat} : ∀ (ps : List (List C)) (ws : List Nat), ws.length = ps.length →
    (∀ i (h1 : i < ps.length) (h2 : i < ws.length), ∃ x : α, ps[i] = f x ∧ w x ≤ ws[i] ∧ Q ws[i] x) →
    ∃ l : List α, ps = l.map f ∧ (l.map w).sum ≤ ws.sum ∧ ∀ x ∈ l, ∃ k, k ≤ ws.sum ∧ Q k x
  | [], [], _, _ => ⟨[], rfl, Nat.le_refl _, fun x hx => by cases hx⟩
  | p :: ps, [], h, _ => by simp at h
  | [], q :: ws, h, _ => by simp at h
  | p :: ps, q :: ws, h, hx => by
    obtain ⟨x, x1, x2, x3⟩ := hx 0 (by simp) (by simp)
    obtain ⟨l, l1, l2, l3⟩ := dec_all ps ws (by simpa using h) fun i h1 h2 => hx (i + 1) (Nat.succ_lt_succ h1) (Nat.succ_lt_succ h2)
    simp only [List.getElem_cons_zero] at x1 x2 x3
    refine ⟨x :: l, by simp [x1, l1], by simp only [List.map_cons, List.sum_cons]; omega, fun y hy => ?_⟩
    rcases List.mem_cons.1 hy with rfl | hy
    · exact ⟨q, by simp only [List.sum_cons]; omega, x3⟩
    · obtain ⟨k, k1, k2⟩ := l3 y hy
      exact ⟨k, by simp only [List.sum_cons]; omega, k2⟩
theorem sum_pos {α : Type} {w : α → Nat} : ∀ {l : List α}, (∀ x ∈ l, 1 ≤ w x) → l.length ≤ (l.map w).sum
  | [], _ => Nat.le_refl _
  | x :: l, h => by
    have h1 := sum_pos (l := l) fun y hy => h y (List.mem_cons_of_mem _ hy)
    have h2 := h x (List.mem_cons_self ..)
    simp only [List.length_cons, List.map_cons, List.sum_cons]
    omega
theorem mem_sum {α : Type} {w : α → Nat} : ∀ {l : List α} {x : α}, x ∈ l → w x ≤ (l.map w).sum
  | y :: l, x, h => by
    simp only [List.map_cons, List.sum_cons]
    rcases List.mem_cons.1 h with rfl | h
    · omega
    · have := mem_sum (w := w) h
      omega
end
end Go.Proofs.YtcmgabicladmlaaDoor
namespace Go.Proofs.YtcmgabicladmlaaDoor
open Go Go.Pe Go.Tab Go.RowKit Go.ChangeShapes Go.Deep

def clC (c : Cl) : List C := [cstr (strL c.tb), cstr (strL c.nm), ci c.ty]
def colsC (l : List Cl) : C := .sl (l.map clC).flatten l.length
def acsC (l : List Ac) : C := .sl (l.map acC).flatten l.length
def rowC (r : List V) : C := .sl (r.map valC).flatten r.length
def rowsC (l : List (List V)) : C := .sl (l.map rowC) l.length
def tsC (l : List (List UInt8)) : C := .sl (l.map fun s => cstr (strL s)) l.length
def rpC (r : Rp) : List C := [ci r.k, ci r.e, ci r.n, colsC r.cols, rowsC r.rows, tsC r.text]
def acW (a : Ac) : Nat := a.t.length + 5
theorem strL_of (s : ByteArray) : ∃ l : List UInt8, s = strL l ∧ l.length = s.size := ⟨s.data.toList, by simp [strL], by simp⟩

theorem dec_val {cs : List C} {m : Nat} (h : Pl Tryd.prog 51 cs m) : ∃ v : V, cs = valC v ∧ v.s.size + 4 ≤ m ∧ I64 v.k ∧ I64 v.n := by
  obtain ⟨ps, ws, rfl, hp, hl, hx, hm⟩ := h.struct_inv Tryd.underlying51
  match ps, hp, ws, hl with
  | [p0, p1, p2], _, [w0, w1, w2], _ =>
    obtain ⟨k, k1, k2⟩ := (hx 0 (by decide) (by simp) (by simp)).int_inv Tryd.underlying3
    obtain ⟨n, n1, n2⟩ := (hx 1 (by decide) (by simp) (by simp)).int_inv Tryd.underlying3
    obtain ⟨s, s1, s2⟩ := (hx 2 (by decide) (by simp) (by simp)).str_inv Tryd.underlying9
    have q0 := (hx 0 (by decide) (by simp) (by simp)).pos
    have q1 := (hx 1 (by decide) (by simp) (by simp)).pos
    simp only [List.getElem_cons_zero, List.getElem_cons_succ] at k1 n1 s1 s2 q0 q1
    subst k1; subst n1; subst s1
    simp only [List.sum_cons, List.sum_nil] at hm
    exact ⟨⟨k, n, s⟩, rfl, by show s.size + 4 ≤ m; omega, k2, n2⟩
theorem dec_col {cs : List C} {m : Nat} (h : Pl Tryd.prog 49 cs m) : ∃ c : Cl, cs = clC c ∧ c.wt ≤ m := by
  obtain ⟨ps, ws, rfl, hp, hl, hx, hm⟩ := h.struct_inv Tryd.underlying49
  match ps, hp, ws, hl with
  | [p0, p1, p2], _, [w0, w1, w2], _ =>
    obtain ⟨s, s1, s2⟩ := (hx 0 (by decide) (by simp) (by simp)).str_inv Tryd.underlying9
    obtain ⟨q, q1, q2⟩ := (hx 1 (by decide) (by simp) (by simp)).str_inv Tryd.underlying9
    obtain ⟨n, n1, n2⟩ := (hx 2 (by decide) (by simp) (by simp)).int_inv Tryd.underlying3
    have q0 := (hx 2 (by decide) (by simp) (by simp)).pos
    simp only [List.getElem_cons_zero, List.getElem_cons_succ] at s1 s2 q1 q2 n1 q0
    obtain ⟨a, rfl, a2⟩ := strL_of s
    obtain ⟨b, rfl, b2⟩ := strL_of q
    subst s1; subst q1; subst n1
    simp only [List.sum_cons, List.sum_nil] at hm
    exact ⟨⟨a, b, n⟩, rfl, by simp only [Cl.wt]; omega⟩
theorem dec_cols {cs : List C} {m : Nat} (h : Pl Tryd.prog 24 cs m) : ∃ l : List Cl, cs = [colsC l] ∧ (l.map Cl.wt).sum + 1 ≤ m := by
  obtain ⟨ps, ws, rfl, hl, hx, hm⟩ := h.slice_inv Tryd.underlying24
  obtain ⟨l, rfl, l2, _⟩ := dec_all (f := clC) (w := Cl.wt) (Q := fun _ _ => True) ps ws hl fun i h1 h2 => by
    obtain ⟨c, c1, c2⟩ := dec_col (hx i h1 h2)
    exact ⟨c, c1, c2, trivial⟩
  exact ⟨l, by simp [colsC], by omega⟩
theorem dec_act {cs : List C} {m : Nat} (h : Pl Tryd.prog 40 cs m) : ∃ a : Ac, cs = acC a ∧ acW a ≤ m ∧ I64 a.k ∧ I64 a.w ∧ I64 a.n := by
  obtain ⟨ps, ws, rfl, hp, hl, hx, hm⟩ := h.struct_inv Tryd.underlying40
  match ps, hp, ws, hl with
  | [p0, p1, p2, p3], _, [w0, w1, w2, w3], _ =>
    obtain ⟨k, k1, k2⟩ := (hx 0 (by decide) (by simp) (by simp)).int_inv Tryd.underlying3
    obtain ⟨w, w1', w2'⟩ := (hx 1 (by decide) (by simp) (by simp)).int_inv Tryd.underlying3
    obtain ⟨n, n1, n2⟩ := (hx 2 (by decide) (by simp) (by simp)).int_inv Tryd.underlying3
    obtain ⟨s, s1, s2⟩ := (hx 3 (by decide) (by simp) (by simp)).str_inv Tryd.underlying9
    have q0 := (hx 0 (by decide) (by simp) (by simp)).pos
    have q1 := (hx 1 (by decide) (by simp) (by simp)).pos
    have q2 := (hx 2 (by decide) (by simp) (by simp)).pos
    simp only [List.getElem_cons_zero, List.getElem_cons_succ] at k1 w1' n1 s1 s2 q0 q1 q2
    obtain ⟨a, rfl, a2⟩ := strL_of s
    subst k1; subst w1'; subst n1; subst s1
    simp only [List.sum_cons, List.sum_nil] at hm
    exact ⟨⟨k, w, n, a⟩, rfl, by simp only [acW]; omega, k2, w2', n2⟩
def AcOk (a : Ac) : Prop := I64 a.k ∧ I64 a.w ∧ I64 a.n
theorem dec_acts {cs : List C} {m : Nat} (h : Pl Tryd.prog 22 cs m) : ∃ l : List Ac, cs = [acsC l] ∧ (l.map acW).sum + 1 ≤ m ∧ ∀ a ∈ l, AcOk a := by
  obtain ⟨ps, ws, rfl, hl, hx, hm⟩ := h.slice_inv Tryd.underlying22
  obtain ⟨l, rfl, l2, l3⟩ := dec_all (f := acC) (w := acW) (Q := fun _ a => AcOk a) ps ws hl fun i h1 h2 => by
    obtain ⟨c, c1, c2, c3⟩ := dec_act (hx i h1 h2)
    exact ⟨c, c1, c2, c3⟩
  exact ⟨l, by simp [acsC], by omega, fun a ha => by obtain ⟨_, _, h⟩ := l3 a ha; exact h⟩
/-- What is asked of a value; its weight. -/
def vW (v : V) : Nat := v.s.size + 4
def rowW (r : List V) : Nat := (r.map vW).sum + 1
theorem dec_row {cs : List C} {m : Nat} (h : Pl Tryd.prog 54 cs m) : ∃ r : List V, cs = [rowC r] ∧ rowW r ≤ m ∧ ∀ v ∈ r, I64 v.k ∧ I64 v.n := by
  obtain ⟨ps, ws, rfl, hl, hx, hm⟩ := h.slice_inv Tryd.underlying54
  obtain ⟨l, rfl, l2, l3⟩ := dec_all (f := valC) (w := vW) (Q := fun _ v => I64 v.k ∧ I64 v.n) ps ws hl fun i h1 h2 => by
    obtain ⟨v, v1, v2, v3⟩ := dec_val (hx i h1 h2)
    exact ⟨v, v1, v2, v3⟩
  exact ⟨l, by simp [rowC], by unfold rowW; omega, fun a ha => by obtain ⟨_, _, h⟩ := l3 a ha; exact h⟩
theorem fl_one {α : Type} (f : α → C) : ∀ l : List α, (l.map fun x => [f x]).flatten = l.map f
  | [] => rfl
  | x :: l => by
    rw [List.map_cons, List.flatten_cons, fl_one f l]
    rfl
theorem dec_rows {cs : List C} {m : Nat} (h : Pl Tryd.prog 25 cs m) : ∃ l : List (List V), cs = [rowsC l] ∧ (l.map rowW).sum + 1 ≤ m ∧ ∀ r ∈ l, ∀ v ∈ r, I64 v.k ∧ I64 v.n := by
  obtain ⟨ps, ws, rfl, hl, hx, hm⟩ := h.slice_inv Tryd.underlying25
  obtain ⟨l, rfl, l2, l3⟩ := dec_all (f := fun r => [rowC r]) (w := rowW) (Q := fun _ r => ∀ v ∈ r, I64 v.k ∧ I64 v.n) ps ws hl fun i h1 h2 => by
    obtain ⟨r, v1, v2, v3⟩ := dec_row (hx i h1 h2)
    exact ⟨r, v1, v2, v3⟩
  exact ⟨l, by simp [rowsC, fl_one], by omega, fun a ha => by obtain ⟨_, _, h⟩ := l3 a ha; exact h⟩
def txW (t : List UInt8) : Nat := t.length + 1
theorem dec_strs {cs : List C} {m : Nat} (h : Pl Tryd.prog 26 cs m) : ∃ l : List (List UInt8), cs = [tsC l] ∧ (l.map txW).sum + 1 ≤ m := by
  obtain ⟨ps, ws, rfl, hl, hx, hm⟩ := h.slice_inv Tryd.underlying26
  obtain ⟨l, rfl, l2, _⟩ := dec_all (f := fun t => [cstr (strL t)]) (w := txW) (Q := fun _ _ => True) ps ws hl fun i h1 h2 => by
    obtain ⟨s, s1, s2⟩ := (hx i h1 h2).str_inv Tryd.underlying9
    obtain ⟨a, rfl, a2⟩ := strL_of s
    exact ⟨a, s1, by simp only [txW]; omega, trivial⟩
  exact ⟨l, by simp [tsC, fl_one], by omega⟩
structure RpOk (r : Rp) (m : Nat) : Prop where
  k : I64 r.k
  e : I64 r.e
  n : I64 r.n
  v : ∀ x ∈ r.rows, ∀ v ∈ x, I64 v.k ∧ I64 v.n
  w : (r.cols.map Cl.wt).sum + (r.rows.map rowW).sum + (r.text.map txW).sum ≤ m
theorem dec_rp {cs : List C} {m : Nat} (h : Pl Tryd.prog 28 cs m) : ∃ r : Rp, cs = rpC r ∧ RpOk r m := by
  obtain ⟨ps, ws, rfl, hp, hl, hx, hm⟩ := h.struct_inv Tryd.underlying28
  match ps, hp, ws, hl with
  | [p0, p1, p2, p3, p4, p5], _, [w0, w1, w2, w3, w4, w5], _ =>
    obtain ⟨k, k1, k2⟩ := (hx 0 (by decide) (by simp) (by simp)).int_inv Tryd.underlying3
    obtain ⟨e, e1, e2⟩ := (hx 1 (by decide) (by simp) (by simp)).int_inv Tryd.underlying23
    obtain ⟨n, n1, n2⟩ := (hx 2 (by decide) (by simp) (by simp)).int_inv Tryd.underlying3
    obtain ⟨c, c1, c2⟩ := dec_cols (hx 3 (by decide) (by simp) (by simp))
    obtain ⟨r, r1, r2, r3⟩ := dec_rows (hx 4 (by decide) (by simp) (by simp))
    obtain ⟨t, t1, t2⟩ := dec_strs (hx 5 (by decide) (by simp) (by simp))
    simp only [List.getElem_cons_zero, List.getElem_cons_succ] at k1 e1 n1 c1 c2 r1 r2 t1 t2
    subst k1; subst e1; subst n1; subst c1; subst r1; subst t1
    simp only [List.sum_cons, List.sum_nil] at hm
    exact ⟨⟨k, e, n, c, r, t⟩, rfl, k2, e2, n2, r3, by simp only; omega⟩
end Go.Proofs.YtcmgabicladmlaaDoor
namespace Go.Proofs.YtcmgabicladmlaaDoor
open Go Go.Pe Go.Tab

theorem cat_u {P : Program} {T : TT} {t : Nat} {u : Option TypeDesc} (a b : List UInt8) : binX P T t u .add (.of (.lit (.string (strL a)))) (.of (.lit (.string (strL b)))) = if a.length + b.length ≤ SLIM then out (xstr (strL (a ++ b))) else none := by
  rw [Z1u, size_strL, size_strL, strL_app]
theorem zeroX_at (u : TypeDesc) (n b : Nat) (a : Bool) (z : List Value) (f : List (Nat × Nat)) : zeroX ⟨u, n, b, a, z, f⟩ = z.map ofVal := rfl
theorem lit_strL (l : List UInt8) : (ByteArray.mk l.toArray) = strL l := rfl
theorem strL_eq (a b : List UInt8) : (strL a = strL b) = (a = b) := propext ⟨strL_inj, fun h => h ▸ rfl⟩

def fl {α : Type} (f : α → List C) (l : List α) : List C := (l.map f).flatten
section
variable {α : Type} {f : α → List C} {z : Nat} (hz : ∀ x, (f x).length = z)
include hz
theorem fl_len (l : List α) : (fl f l).length = l.length * z := by
  induction l with
  | nil => simp [fl]
  | cons x l ih =>
    simp only [fl, List.map_cons, List.flatten_cons, List.length_append, List.length_cons] at ih ⊢
    rw [ih, hz, Nat.succ_mul, Nat.add_comm]
theorem fl_drop (l : List α) (k : Nat) : (fl f l).drop (k * z) = fl f (l.drop k) := by
  induction k generalizing l with
  | zero => simp
  | succ k ih =>
    cases l with
    | nil => simp [fl]
    | cons x l =>
      rw [List.drop_succ_cons, ← ih l, Nat.succ_mul, Nat.add_comm, ← List.drop_drop]
      simp only [fl, List.map_cons, List.flatten_cons]
      have h0 : (f x).drop z = [] := List.drop_of_length_le (by rw [hz]; exact Nat.le_refl _)
      rw [List.drop_append_of_le_length (by rw [hz]; exact Nat.le_refl _), h0, List.nil_append]
theorem ia_fl {T : TT} {t e : Nat} {d : TD} (hE : Pe.elemOf T t = some (e, d)) (hd : d.size = z) (hz0 : 0 < z) (l : List α) (x : X) (hx : asSl x = some (fl f l, l.length)) (k : Nat) (h : k < l.length) :
    indexAddrX T t x (xint k) = out (.of (.ref (fl f (l.drop k)))) := by
  unfold Pe.elemOf at hE
  split at hE
  · rename_i e' sz by_ ag ze fi hT
    simp only [Option.map_eq_some_iff, Prod.mk.injEq] at hE
    obtain ⟨d', hd', rfl, rfl⟩ := hE
    simp only [indexAddrX, litInt, hT, hd', hx]
    rw [if_pos ⟨by omega, by omega, by rw [fl_len hz, hd], by omega⟩]
    simp only [Int.toNat_natCast]
    rw [hd, fl_drop hz]
  · cases hE
end
theorem fl_at {α : Type} (f : α → List C) (l : List α) (k : Nat) (h : k < l.length) : fl f (l.drop k) = f l[k] ++ fl f (l.drop (k + 1)) := by
  show ((l.drop k).map f).flatten = _
  rw [List.drop_eq_getElem_cons h, List.map_cons, List.flatten_cons]
  rfl
theorem ld_fl {α : Type} {f : α → List C} {g : α → C} {T : TT} {e : Nat} (hg : ∀ x r, pieceC T e (f x ++ r) = some (g x)) (l : List α) (k : Nat) (h : k < l.length) (objs : List Ob) : loadX T objs e (.of (.ref (fl f (l.drop k)))) = out (.of (g l[k])) := by
  rw [fl_at f l k h]
  simp only [loadX, hg]
  rfl
def c1 (c : C) : List C := [c]
theorem fl_c1 : ∀ l : List C, fl c1 l = l
  | [] => rfl
  | c :: l => by
    have := fl_c1 l
    simp only [fl, List.map_cons, List.flatten_cons, c1, List.cons_append, List.nil_append] at this ⊢
    rw [this]

def txC (l : List (List UInt8)) : List C := l.map fun s => cstr (strL s)
theorem txC_strs (l : List (List UInt8)) : txC l = strsC (l.map strL) := by simp [txC, strsC]
theorem data_strL (l : List (List UInt8)) : (l.map strL).map (·.data.toList) = l := by
  rw [List.map_map]
  conv => rhs; rw [← List.map_id l]
  exact List.map_congr_left fun s _ => by simp [strL]
theorem join_k (l : List (List UInt8)) (sep : List UInt8) (K : An → Prop) (h1 : l.length ≤ 140737488355328) (h2 : (Lib.join l sep).length ≤ 140737488355328) :
    CallK Tryd.prog pr 23 [.of (.sl (txC l) l.length), .of (cstr (strL sep))] [] K ↔ K ⟨false, [xstr (strL (Lib.join l sep))], []⟩ := by
  refine Gives.k (Gives.of_prim (show joinP [.of (.sl (txC l) l.length), .of (cstr (strL sep))] [] = _ from ?_)) K
  have hs : (strL sep).data.toList = sep := by simp [strL]
  simp only [joinP, txC_strs, unstrs_at, Option.bind_some, data_strL, hs, List.length_map]
  rw [if_pos ⟨trivial, h1, h2⟩]
  rfl
end Go.Proofs.YtcmgabicladmlaaDoor
namespace Go.Proofs.YtcmgabicladmlaaDoor
open Go Go.Pe Go.Tab
set_option linter.unusedSectionVars false

theorem act_guard : (Tryd.prog.stoodInHeld 40 = false ∧ Tryd.prog.eqGuardType Tryd.prog.depth 40 = false) = True := eq_true ⟨by kernel_rfl, by kernel_rfl⟩
theorem act_flat (k w n k' w' n' : Int) (s s' : ByteArray) : eqAgg Tryd.prog (TT.of Tryd.prog) 40 [ci k, ci w, ci n, cstr s] [ci k', ci w', ci n', cstr s'] = some (decide (k = k') && (decide (w = w') && (decide (n = n') && decide (s = s')))) := by
  simp only [eqAgg, T40, act_guard, if_true]
  by_cases h1 : k = k'
  · by_cases h2 : w = w'
    · by_cases h3 : n = n'
      · by_cases h4 : s = s'
        · simp [eqFlat, eqLit, fitD, U3, U9, h1, h2, h3, h4]
        · simp [eqFlat, eqLit, fitD, U3, U9, h1, h2, h3, h4]
      · simp [eqFlat, eqLit, fitD, U3, U9, h1, h2, h3]
    · simp [eqFlat, eqLit, fitD, U3, U9, h1, h2]
  · simp [eqFlat, eqLit, fitD, U3, U9, h1]
theorem act_eq (u : Option TypeDesc) (k w n k' w' n' : Int) (s s' : ByteArray) : binX Tryd.prog (TT.of Tryd.prog) 40 u .eql (.agg [xint k, xint w, xint n, xstr s]) (.agg [xint k', xint w', xint n', xstr s']) = out (xbool (decide (k = k') && (decide (w = w') && (decide (n = n') && decide (s = s'))))) := by
  simp only [binX, litOf, X.rd, X.rds, Option.map_some, binAgg, act_flat, outO]
  rfl
theorem act_ne (u : Option TypeDesc) (k w n k' w' n' : Int) (s s' : ByteArray) : binX Tryd.prog (TT.of Tryd.prog) 40 u .neq (.of (.agg [ci k, ci w, ci n, cstr s])) (.of (.agg [ci k', ci w', ci n', cstr s'])) = out (xbool (!(decide (k = k') && (decide (w = w') && (decide (n = n') && decide (s = s')))))) := by
  simp only [binX, litOf, X.rd, Option.map_some, binAgg, act_flat, outO]
  rfl
theorem cells_act (k w n : Int) (s : ByteArray) : cellsX (.of (.agg [ci k, ci w, ci n, cstr s])) = some [xint k, xint w, xint n, xstr s] := rfl
end Go.Proofs.YtcmgabicladmlaaDoor
namespace Go.Proofs.YtcmgabicladmlaaDoor
open Go Go.Pe Go.Tab
set_option linter.unusedSectionVars false

theorem build_st (P : Program) (t n b : Nat) (a : Bool) (fs : Array Field) (z : List Value) (fl : List (Nat × Nat)) (qs : List (Nat × List X)) : buildX P t (some ⟨.struct fs, n, b, a, z, fl⟩) (some qs) = outO ((fillX (fun i => fl[i]?) (zeroX ⟨.struct fs, n, b, a, z, fl⟩) qs).map .agg) := rfl
theorem cont0_k (t : List UInt8) (K : An → Prop) (h : t.length < 4294967281) : CallK Tryd.prog pr0 27 [.of (.lit (.string (strL t))), .of (.lit (.string (strL [10])))] [] K ↔ K ⟨false, [xbool (decide ((10 : UInt8) ∈ t))], []⟩ := by
  refine Gives.k (Gives.of_prim (show contP [.of (cstr (strL t)), .of (cstr (strL [10]))] [] = _ from ?_)) K
  have hs : (strL t).data.toList = t := by simp [strL]
  have hs2 : (strL [10]).data.toList = [10] := rfl
  simp only [contP, size_strL, hs, hs2, contains_lf]
  rw [if_pos h]
theorem may_1 (k w n : Int) (t : List UInt8) (h1 : k = 1) : mayA ⟨k, w, n, t⟩ = decide (0 ≤ w ∧ w ≤ 3 ∧ n = 0 ∧ (10 : UInt8) ∉ t) := by simp only [mayA, h1, if_true]
theorem may_2 (k w n : Int) (t : List UInt8) (h1 : k = 2) : mayA ⟨k, w, n, t⟩ = decide (w = 0 ∧ -1 ≤ n ∧ n ≤ 65536 ∧ t = []) := by simp [mayA, h1]
theorem may_4 (k w n : Int) (t : List UInt8) (h1 : k = 4) : mayA ⟨k, w, n, t⟩ = decide (w = 0 ∧ 0 ≤ n ∧ n ≤ 2000 ∧ t = []) := by simp [mayA, h1]
theorem may_35 (k w n : Int) (t : List UInt8) (h1 : k = 3 ∨ k = 5) : mayA ⟨k, w, n, t⟩ = decide (w = 0 ∧ n = 0 ∧ t = []) := by rcases h1 with rfl | rfl <;> simp [mayA]
theorem may_no (k w n : Int) (t : List UInt8) (h1 : k ≠ 1) (h2 : k ≠ 2) (h3 : k ≠ 3) (h4 : k ≠ 4) (h5 : k ≠ 5) : mayA ⟨k, w, n, t⟩ = false := by simp [mayA, h1, h2, h3, h4, h5]
theorem nil_strL (t : List UInt8) : (strL t = strL []) = (t = []) := strL_eq t []
section
variable (k w n : Int) (t : List UInt8) (hl : t.length < 4294967281)
include hl
set_option maxRecDepth 100000 in
theorem may_call : Gives Tryd.prog pr0 14 [.of (.agg [ci k, ci w, ci n, cstr (strL t)])] [] ⟨false, [xbool (mayA ⟨k, w, n, t⟩)], []⟩ := by
  have hc := fun K => cont0_k t K hl
  refine by_body0 rfl ok14 body14 ar14 rfl ?_
  by_cases h1 : k = 1
  · rw [may_1 _ _ _ _ h1]
    by_cases a1 : 0 ≤ w
    · by_cases a2 : w < 4
      · by_cases a3 : (10 : UInt8) ∈ t
        · simp -implicitDefEqProofs (maxSteps := 1000000) only [Tryd.f14, ↓zD, zU, Nat.zero_mul, Nat.reduceMul, List.length_map, Tk.nm.injEq, Tk.cell.injEq, false_and, and_false, Nat.le_add_right, Nat.le_refl, ↓reduceIte, Bool.or_false, Bool.false_or, Bool.and_true, Bool.true_and, Bool.false_and, Bool.true_or, Bool.or_true, Option.isNone_none, Option.isNone_some, List.any_cons, List.any_nil, Bool.and_false, Nat.reduceBEq, Nat.reduceLeDiff, Int.reduceLT, Int.reduceEq, Int.reduceLE, Int.reduceAdd, Int.reduceToNat, Int.reduceNeg, Int.cast_ofNat_Int, Nat.reduceLT, List.drop_succ_cons, List.take_succ_cons, List.singleton_append, Nat.zero_add, List.set_cons_zero, List.set_cons_succ, List.drop_nil, List.take_nil, Option.map_some, Option.map_none, Option.getD_some, Option.getD_none, Option.bind_some, List.cons_append, List.nil_append, List.append_nil, List.map_cons, List.map_nil, List.range_zero, List.take_zero, List.flatten_nil, List.filter_nil, List.length_nil, List.length_cons, List.drop_zero, List.not_mem_nil, List.mem_cons, Bool.true_eq_false, Bool.false_eq_true, Nat.reduceEqDiff, Nat.reduceAdd, List.getElem?_toArray, List.toList_toArray, List.getElem?_cons_zero, List.getElem?_cons_succ, decide_eq_true_eq, beq_self_eq_true, beq_true, beq_false, decide_true, decide_false, Bool.not_true, Bool.not_false, true_and, and_true, or_false, false_or, Bool.and_eq_true, reduceCtorEq, not_false_eq_true, cat_u, lit_strL, List.append_assoc, rv14, boxO, cells_act, zeroX_at, build_st, T40, P40, T3, T9, U3, U9, fa40_0, fa40_1, fa40_2, fa40_3, P3, P9, act_eq, h1, a1, a2, a3, hc, pr0_obj, obj27, call27]
          simp
        · simp -implicitDefEqProofs (maxSteps := 1000000) only [Tryd.f14, ↓zD, zU, Nat.zero_mul, Nat.reduceMul, List.length_map, Tk.nm.injEq, Tk.cell.injEq, false_and, and_false, Nat.le_add_right, Nat.le_refl, ↓reduceIte, Bool.or_false, Bool.false_or, Bool.and_true, Bool.true_and, Bool.false_and, Bool.true_or, Bool.or_true, Option.isNone_none, Option.isNone_some, List.any_cons, List.any_nil, Bool.and_false, Nat.reduceBEq, Nat.reduceLeDiff, Int.reduceLT, Int.reduceEq, Int.reduceLE, Int.reduceAdd, Int.reduceToNat, Int.reduceNeg, Int.cast_ofNat_Int, Nat.reduceLT, List.drop_succ_cons, List.take_succ_cons, List.singleton_append, Nat.zero_add, List.set_cons_zero, List.set_cons_succ, List.drop_nil, List.take_nil, Option.map_some, Option.map_none, Option.getD_some, Option.getD_none, Option.bind_some, List.cons_append, List.nil_append, List.append_nil, List.map_cons, List.map_nil, List.range_zero, List.take_zero, List.flatten_nil, List.filter_nil, List.length_nil, List.length_cons, List.drop_zero, List.not_mem_nil, List.mem_cons, Bool.true_eq_false, Bool.false_eq_true, Nat.reduceEqDiff, Nat.reduceAdd, List.getElem?_toArray, List.toList_toArray, List.getElem?_cons_zero, List.getElem?_cons_succ, decide_eq_true_eq, beq_self_eq_true, beq_true, beq_false, decide_true, decide_false, Bool.not_true, Bool.not_false, true_and, and_true, or_false, false_or, Bool.and_eq_true, reduceCtorEq, not_false_eq_true, cat_u, lit_strL, List.append_assoc, rv14, boxO, cells_act, zeroX_at, build_st, T40, P40, T3, T9, U3, U9, fa40_0, fa40_1, fa40_2, fa40_3, P3, P9, act_eq, h1, a1, a2, a3, hc, pr0_obj, obj27, call27]
          have a4 : w ≤ 3 := by omega
          simp [a4]
      · simp -implicitDefEqProofs (maxSteps := 1000000) only [Tryd.f14, ↓zD, zU, Nat.zero_mul, Nat.reduceMul, List.length_map, Tk.nm.injEq, Tk.cell.injEq, false_and, and_false, Nat.le_add_right, Nat.le_refl, ↓reduceIte, Bool.or_false, Bool.false_or, Bool.and_true, Bool.true_and, Bool.false_and, Bool.true_or, Bool.or_true, Option.isNone_none, Option.isNone_some, List.any_cons, List.any_nil, Bool.and_false, Nat.reduceBEq, Nat.reduceLeDiff, Int.reduceLT, Int.reduceEq, Int.reduceLE, Int.reduceAdd, Int.reduceToNat, Int.reduceNeg, Int.cast_ofNat_Int, Nat.reduceLT, List.drop_succ_cons, List.take_succ_cons, List.singleton_append, Nat.zero_add, List.set_cons_zero, List.set_cons_succ, List.drop_nil, List.take_nil, Option.map_some, Option.map_none, Option.getD_some, Option.getD_none, Option.bind_some, List.cons_append, List.nil_append, List.append_nil, List.map_cons, List.map_nil, List.range_zero, List.take_zero, List.flatten_nil, List.filter_nil, List.length_nil, List.length_cons, List.drop_zero, List.not_mem_nil, List.mem_cons, Bool.true_eq_false, Bool.false_eq_true, Nat.reduceEqDiff, Nat.reduceAdd, List.getElem?_toArray, List.toList_toArray, List.getElem?_cons_zero, List.getElem?_cons_succ, decide_eq_true_eq, beq_self_eq_true, beq_true, beq_false, decide_true, decide_false, Bool.not_true, Bool.not_false, true_and, and_true, or_false, false_or, Bool.and_eq_true, reduceCtorEq, not_false_eq_true, cat_u, lit_strL, List.append_assoc, rv14, boxO, cells_act, zeroX_at, build_st, T40, P40, T3, T9, U3, U9, fa40_0, fa40_1, fa40_2, fa40_3, P3, P9, act_eq, h1, a1, a2, pr0_obj]
        have a4 : ¬ w ≤ 3 := by omega
        simp [a4]
    · simp -implicitDefEqProofs (maxSteps := 1000000) only [Tryd.f14, ↓zD, zU, Nat.zero_mul, Nat.reduceMul, List.length_map, Tk.nm.injEq, Tk.cell.injEq, false_and, and_false, Nat.le_add_right, Nat.le_refl, ↓reduceIte, Bool.or_false, Bool.false_or, Bool.and_true, Bool.true_and, Bool.false_and, Bool.true_or, Bool.or_true, Option.isNone_none, Option.isNone_some, List.any_cons, List.any_nil, Bool.and_false, Nat.reduceBEq, Nat.reduceLeDiff, Int.reduceLT, Int.reduceEq, Int.reduceLE, Int.reduceAdd, Int.reduceToNat, Int.reduceNeg, Int.cast_ofNat_Int, Nat.reduceLT, List.drop_succ_cons, List.take_succ_cons, List.singleton_append, Nat.zero_add, List.set_cons_zero, List.set_cons_succ, List.drop_nil, List.take_nil, Option.map_some, Option.map_none, Option.getD_some, Option.getD_none, Option.bind_some, List.cons_append, List.nil_append, List.append_nil, List.map_cons, List.map_nil, List.range_zero, List.take_zero, List.flatten_nil, List.filter_nil, List.length_nil, List.length_cons, List.drop_zero, List.not_mem_nil, List.mem_cons, Bool.true_eq_false, Bool.false_eq_true, Nat.reduceEqDiff, Nat.reduceAdd, List.getElem?_toArray, List.toList_toArray, List.getElem?_cons_zero, List.getElem?_cons_succ, decide_eq_true_eq, beq_self_eq_true, beq_true, beq_false, decide_true, decide_false, Bool.not_true, Bool.not_false, true_and, and_true, or_false, false_or, Bool.and_eq_true, reduceCtorEq, not_false_eq_true, cat_u, lit_strL, List.append_assoc, rv14, boxO, cells_act, zeroX_at, build_st, T40, P40, T3, T9, U3, U9, fa40_0, fa40_1, fa40_2, fa40_3, P3, P9, act_eq, h1, a1, pr0_obj]
  · by_cases h2 : k = 2
    · rw [may_2 _ _ _ _ h2]
      by_cases a1 : -1 ≤ n
      · by_cases a2 : n ≤ 65536
        · simp -implicitDefEqProofs (maxSteps := 1000000) only [Tryd.f14, ↓zD, zU, Nat.zero_mul, Nat.reduceMul, List.length_map, Tk.nm.injEq, Tk.cell.injEq, false_and, and_false, Nat.le_add_right, Nat.le_refl, ↓reduceIte, Bool.or_false, Bool.false_or, Bool.and_true, Bool.true_and, Bool.false_and, Bool.true_or, Bool.or_true, Option.isNone_none, Option.isNone_some, List.any_cons, List.any_nil, Bool.and_false, Nat.reduceBEq, Nat.reduceLeDiff, Int.reduceLT, Int.reduceEq, Int.reduceLE, Int.reduceAdd, Int.reduceToNat, Int.reduceNeg, Int.cast_ofNat_Int, Nat.reduceLT, List.drop_succ_cons, List.take_succ_cons, List.singleton_append, Nat.zero_add, List.set_cons_zero, List.set_cons_succ, List.drop_nil, List.take_nil, Option.map_some, Option.map_none, Option.getD_some, Option.getD_none, Option.bind_some, List.cons_append, List.nil_append, List.append_nil, List.map_cons, List.map_nil, List.range_zero, List.take_zero, List.flatten_nil, List.filter_nil, List.length_nil, List.length_cons, List.drop_zero, List.not_mem_nil, List.mem_cons, Bool.true_eq_false, Bool.false_eq_true, Nat.reduceEqDiff, Nat.reduceAdd, List.getElem?_toArray, List.toList_toArray, List.getElem?_cons_zero, List.getElem?_cons_succ, decide_eq_true_eq, beq_self_eq_true, beq_true, beq_false, decide_true, decide_false, Bool.not_true, Bool.not_false, true_and, and_true, or_false, false_or, Bool.and_eq_true, reduceCtorEq, not_false_eq_true, cat_u, lit_strL, List.append_assoc, rv14, boxO, cells_act, zeroX_at, build_st, T40, P40, T3, T9, U3, U9, fa40_0, fa40_1, fa40_2, fa40_3, P3, P9, act_eq, h1, h2, a1, a2, nil_strL, pr0_obj]
          simp
        · simp -implicitDefEqProofs (maxSteps := 1000000) only [Tryd.f14, ↓zD, zU, Nat.zero_mul, Nat.reduceMul, List.length_map, Tk.nm.injEq, Tk.cell.injEq, false_and, and_false, Nat.le_add_right, Nat.le_refl, ↓reduceIte, Bool.or_false, Bool.false_or, Bool.and_true, Bool.true_and, Bool.false_and, Bool.true_or, Bool.or_true, Option.isNone_none, Option.isNone_some, List.any_cons, List.any_nil, Bool.and_false, Nat.reduceBEq, Nat.reduceLeDiff, Int.reduceLT, Int.reduceEq, Int.reduceLE, Int.reduceAdd, Int.reduceToNat, Int.reduceNeg, Int.cast_ofNat_Int, Nat.reduceLT, List.drop_succ_cons, List.take_succ_cons, List.singleton_append, Nat.zero_add, List.set_cons_zero, List.set_cons_succ, List.drop_nil, List.take_nil, Option.map_some, Option.map_none, Option.getD_some, Option.getD_none, Option.bind_some, List.cons_append, List.nil_append, List.append_nil, List.map_cons, List.map_nil, List.range_zero, List.take_zero, List.flatten_nil, List.filter_nil, List.length_nil, List.length_cons, List.drop_zero, List.not_mem_nil, List.mem_cons, Bool.true_eq_false, Bool.false_eq_true, Nat.reduceEqDiff, Nat.reduceAdd, List.getElem?_toArray, List.toList_toArray, List.getElem?_cons_zero, List.getElem?_cons_succ, decide_eq_true_eq, beq_self_eq_true, beq_true, beq_false, decide_true, decide_false, Bool.not_true, Bool.not_false, true_and, and_true, or_false, false_or, Bool.and_eq_true, reduceCtorEq, not_false_eq_true, cat_u, lit_strL, List.append_assoc, rv14, boxO, cells_act, zeroX_at, build_st, T40, P40, T3, T9, U3, U9, fa40_0, fa40_1, fa40_2, fa40_3, P3, P9, act_eq, h1, h2, a1, a2, pr0_obj]
      · simp -implicitDefEqProofs (maxSteps := 1000000) only [Tryd.f14, ↓zD, zU, Nat.zero_mul, Nat.reduceMul, List.length_map, Tk.nm.injEq, Tk.cell.injEq, false_and, and_false, Nat.le_add_right, Nat.le_refl, ↓reduceIte, Bool.or_false, Bool.false_or, Bool.and_true, Bool.true_and, Bool.false_and, Bool.true_or, Bool.or_true, Option.isNone_none, Option.isNone_some, List.any_cons, List.any_nil, Bool.and_false, Nat.reduceBEq, Nat.reduceLeDiff, Int.reduceLT, Int.reduceEq, Int.reduceLE, Int.reduceAdd, Int.reduceToNat, Int.reduceNeg, Int.cast_ofNat_Int, Nat.reduceLT, List.drop_succ_cons, List.take_succ_cons, List.singleton_append, Nat.zero_add, List.set_cons_zero, List.set_cons_succ, List.drop_nil, List.take_nil, Option.map_some, Option.map_none, Option.getD_some, Option.getD_none, Option.bind_some, List.cons_append, List.nil_append, List.append_nil, List.map_cons, List.map_nil, List.range_zero, List.take_zero, List.flatten_nil, List.filter_nil, List.length_nil, List.length_cons, List.drop_zero, List.not_mem_nil, List.mem_cons, Bool.true_eq_false, Bool.false_eq_true, Nat.reduceEqDiff, Nat.reduceAdd, List.getElem?_toArray, List.toList_toArray, List.getElem?_cons_zero, List.getElem?_cons_succ, decide_eq_true_eq, beq_self_eq_true, beq_true, beq_false, decide_true, decide_false, Bool.not_true, Bool.not_false, true_and, and_true, or_false, false_or, Bool.and_eq_true, reduceCtorEq, not_false_eq_true, cat_u, lit_strL, List.append_assoc, rv14, boxO, cells_act, zeroX_at, build_st, T40, P40, T3, T9, U3, U9, fa40_0, fa40_1, fa40_2, fa40_3, P3, P9, act_eq, h1, h2, a1, pr0_obj]
    · by_cases h4 : k = 4
      · rw [may_4 _ _ _ _ h4]
        by_cases a1 : 0 ≤ n
        · by_cases a2 : n ≤ 2000
          · simp -implicitDefEqProofs (maxSteps := 1000000) only [Tryd.f14, ↓zD, zU, Nat.zero_mul, Nat.reduceMul, List.length_map, Tk.nm.injEq, Tk.cell.injEq, false_and, and_false, Nat.le_add_right, Nat.le_refl, ↓reduceIte, Bool.or_false, Bool.false_or, Bool.and_true, Bool.true_and, Bool.false_and, Bool.true_or, Bool.or_true, Option.isNone_none, Option.isNone_some, List.any_cons, List.any_nil, Bool.and_false, Nat.reduceBEq, Nat.reduceLeDiff, Int.reduceLT, Int.reduceEq, Int.reduceLE, Int.reduceAdd, Int.reduceToNat, Int.reduceNeg, Int.cast_ofNat_Int, Nat.reduceLT, List.drop_succ_cons, List.take_succ_cons, List.singleton_append, Nat.zero_add, List.set_cons_zero, List.set_cons_succ, List.drop_nil, List.take_nil, Option.map_some, Option.map_none, Option.getD_some, Option.getD_none, Option.bind_some, List.cons_append, List.nil_append, List.append_nil, List.map_cons, List.map_nil, List.range_zero, List.take_zero, List.flatten_nil, List.filter_nil, List.length_nil, List.length_cons, List.drop_zero, List.not_mem_nil, List.mem_cons, Bool.true_eq_false, Bool.false_eq_true, Nat.reduceEqDiff, Nat.reduceAdd, List.getElem?_toArray, List.toList_toArray, List.getElem?_cons_zero, List.getElem?_cons_succ, decide_eq_true_eq, beq_self_eq_true, beq_true, beq_false, decide_true, decide_false, Bool.not_true, Bool.not_false, true_and, and_true, or_false, false_or, Bool.and_eq_true, reduceCtorEq, not_false_eq_true, cat_u, lit_strL, List.append_assoc, rv14, boxO, cells_act, zeroX_at, build_st, T40, P40, T3, T9, U3, U9, fa40_0, fa40_1, fa40_2, fa40_3, P3, P9, act_eq, h1, h2, h4, a1, a2, nil_strL, pr0_obj]
            simp
          · simp -implicitDefEqProofs (maxSteps := 1000000) only [Tryd.f14, ↓zD, zU, Nat.zero_mul, Nat.reduceMul, List.length_map, Tk.nm.injEq, Tk.cell.injEq, false_and, and_false, Nat.le_add_right, Nat.le_refl, ↓reduceIte, Bool.or_false, Bool.false_or, Bool.and_true, Bool.true_and, Bool.false_and, Bool.true_or, Bool.or_true, Option.isNone_none, Option.isNone_some, List.any_cons, List.any_nil, Bool.and_false, Nat.reduceBEq, Nat.reduceLeDiff, Int.reduceLT, Int.reduceEq, Int.reduceLE, Int.reduceAdd, Int.reduceToNat, Int.reduceNeg, Int.cast_ofNat_Int, Nat.reduceLT, List.drop_succ_cons, List.take_succ_cons, List.singleton_append, Nat.zero_add, List.set_cons_zero, List.set_cons_succ, List.drop_nil, List.take_nil, Option.map_some, Option.map_none, Option.getD_some, Option.getD_none, Option.bind_some, List.cons_append, List.nil_append, List.append_nil, List.map_cons, List.map_nil, List.range_zero, List.take_zero, List.flatten_nil, List.filter_nil, List.length_nil, List.length_cons, List.drop_zero, List.not_mem_nil, List.mem_cons, Bool.true_eq_false, Bool.false_eq_true, Nat.reduceEqDiff, Nat.reduceAdd, List.getElem?_toArray, List.toList_toArray, List.getElem?_cons_zero, List.getElem?_cons_succ, decide_eq_true_eq, beq_self_eq_true, beq_true, beq_false, decide_true, decide_false, Bool.not_true, Bool.not_false, true_and, and_true, or_false, false_or, Bool.and_eq_true, reduceCtorEq, not_false_eq_true, cat_u, lit_strL, List.append_assoc, rv14, boxO, cells_act, zeroX_at, build_st, T40, P40, T3, T9, U3, U9, fa40_0, fa40_1, fa40_2, fa40_3, P3, P9, act_eq, h1, h2, h4, a1, a2, pr0_obj]
        · simp -implicitDefEqProofs (maxSteps := 1000000) only [Tryd.f14, ↓zD, zU, Nat.zero_mul, Nat.reduceMul, List.length_map, Tk.nm.injEq, Tk.cell.injEq, false_and, and_false, Nat.le_add_right, Nat.le_refl, ↓reduceIte, Bool.or_false, Bool.false_or, Bool.and_true, Bool.true_and, Bool.false_and, Bool.true_or, Bool.or_true, Option.isNone_none, Option.isNone_some, List.any_cons, List.any_nil, Bool.and_false, Nat.reduceBEq, Nat.reduceLeDiff, Int.reduceLT, Int.reduceEq, Int.reduceLE, Int.reduceAdd, Int.reduceToNat, Int.reduceNeg, Int.cast_ofNat_Int, Nat.reduceLT, List.drop_succ_cons, List.take_succ_cons, List.singleton_append, Nat.zero_add, List.set_cons_zero, List.set_cons_succ, List.drop_nil, List.take_nil, Option.map_some, Option.map_none, Option.getD_some, Option.getD_none, Option.bind_some, List.cons_append, List.nil_append, List.append_nil, List.map_cons, List.map_nil, List.range_zero, List.take_zero, List.flatten_nil, List.filter_nil, List.length_nil, List.length_cons, List.drop_zero, List.not_mem_nil, List.mem_cons, Bool.true_eq_false, Bool.false_eq_true, Nat.reduceEqDiff, Nat.reduceAdd, List.getElem?_toArray, List.toList_toArray, List.getElem?_cons_zero, List.getElem?_cons_succ, decide_eq_true_eq, beq_self_eq_true, beq_true, beq_false, decide_true, decide_false, Bool.not_true, Bool.not_false, true_and, and_true, or_false, false_or, Bool.and_eq_true, reduceCtorEq, not_false_eq_true, cat_u, lit_strL, List.append_assoc, rv14, boxO, cells_act, zeroX_at, build_st, T40, P40, T3, T9, U3, U9, fa40_0, fa40_1, fa40_2, fa40_3, P3, P9, act_eq, h1, h2, h4, a1, pr0_obj]
      · by_cases h3 : k = 3
        · rw [may_35 _ _ _ _ (.inl h3)]
          simp -implicitDefEqProofs (maxSteps := 1000000) only [Tryd.f14, ↓zD, zU, Nat.zero_mul, Nat.reduceMul, List.length_map, Tk.nm.injEq, Tk.cell.injEq, false_and, and_false, Nat.le_add_right, Nat.le_refl, ↓reduceIte, Bool.or_false, Bool.false_or, Bool.and_true, Bool.true_and, Bool.false_and, Bool.true_or, Bool.or_true, Option.isNone_none, Option.isNone_some, List.any_cons, List.any_nil, Bool.and_false, Nat.reduceBEq, Nat.reduceLeDiff, Int.reduceLT, Int.reduceEq, Int.reduceLE, Int.reduceAdd, Int.reduceToNat, Int.reduceNeg, Int.cast_ofNat_Int, Nat.reduceLT, List.drop_succ_cons, List.take_succ_cons, List.singleton_append, Nat.zero_add, List.set_cons_zero, List.set_cons_succ, List.drop_nil, List.take_nil, Option.map_some, Option.map_none, Option.getD_some, Option.getD_none, Option.bind_some, List.cons_append, List.nil_append, List.append_nil, List.map_cons, List.map_nil, List.range_zero, List.take_zero, List.flatten_nil, List.filter_nil, List.length_nil, List.length_cons, List.drop_zero, List.not_mem_nil, List.mem_cons, Bool.true_eq_false, Bool.false_eq_true, Nat.reduceEqDiff, Nat.reduceAdd, List.getElem?_toArray, List.toList_toArray, List.getElem?_cons_zero, List.getElem?_cons_succ, decide_eq_true_eq, beq_self_eq_true, beq_true, beq_false, decide_true, decide_false, Bool.not_true, Bool.not_false, true_and, and_true, or_false, false_or, Bool.and_eq_true, reduceCtorEq, not_false_eq_true, cat_u, lit_strL, List.append_assoc, rv14, boxO, cells_act, zeroX_at, build_st, T40, P40, T3, T9, U3, U9, fa40_0, fa40_1, fa40_2, fa40_3, P3, P9, act_eq, h1, h2, h4, h3, nil_strL, pr0_obj]
          simp
        · by_cases h5 : k = 5
          · rw [may_35 _ _ _ _ (.inr h5)]
            simp -implicitDefEqProofs (maxSteps := 1000000) only [Tryd.f14, ↓zD, zU, Nat.zero_mul, Nat.reduceMul, List.length_map, Tk.nm.injEq, Tk.cell.injEq, false_and, and_false, Nat.le_add_right, Nat.le_refl, ↓reduceIte, Bool.or_false, Bool.false_or, Bool.and_true, Bool.true_and, Bool.false_and, Bool.true_or, Bool.or_true, Option.isNone_none, Option.isNone_some, List.any_cons, List.any_nil, Bool.and_false, Nat.reduceBEq, Nat.reduceLeDiff, Int.reduceLT, Int.reduceEq, Int.reduceLE, Int.reduceAdd, Int.reduceToNat, Int.reduceNeg, Int.cast_ofNat_Int, Nat.reduceLT, List.drop_succ_cons, List.take_succ_cons, List.singleton_append, Nat.zero_add, List.set_cons_zero, List.set_cons_succ, List.drop_nil, List.take_nil, Option.map_some, Option.map_none, Option.getD_some, Option.getD_none, Option.bind_some, List.cons_append, List.nil_append, List.append_nil, List.map_cons, List.map_nil, List.range_zero, List.take_zero, List.flatten_nil, List.filter_nil, List.length_nil, List.length_cons, List.drop_zero, List.not_mem_nil, List.mem_cons, Bool.true_eq_false, Bool.false_eq_true, Nat.reduceEqDiff, Nat.reduceAdd, List.getElem?_toArray, List.toList_toArray, List.getElem?_cons_zero, List.getElem?_cons_succ, decide_eq_true_eq, beq_self_eq_true, beq_true, beq_false, decide_true, decide_false, Bool.not_true, Bool.not_false, true_and, and_true, or_false, false_or, Bool.and_eq_true, reduceCtorEq, not_false_eq_true, cat_u, lit_strL, List.append_assoc, rv14, boxO, cells_act, zeroX_at, build_st, T40, P40, T3, T9, U3, U9, fa40_0, fa40_1, fa40_2, fa40_3, P3, P9, act_eq, h1, h2, h4, h3, h5, nil_strL, pr0_obj]
            simp
          · rw [may_no _ _ _ _ h1 h2 h3 h4 h5]
            simp -implicitDefEqProofs (maxSteps := 1000000) only [Tryd.f14, ↓zD, zU, Nat.zero_mul, Nat.reduceMul, List.length_map, Tk.nm.injEq, Tk.cell.injEq, false_and, and_false, Nat.le_add_right, Nat.le_refl, ↓reduceIte, Bool.or_false, Bool.false_or, Bool.and_true, Bool.true_and, Bool.false_and, Bool.true_or, Bool.or_true, Option.isNone_none, Option.isNone_some, List.any_cons, List.any_nil, Bool.and_false, Nat.reduceBEq, Nat.reduceLeDiff, Int.reduceLT, Int.reduceEq, Int.reduceLE, Int.reduceAdd, Int.reduceToNat, Int.reduceNeg, Int.cast_ofNat_Int, Nat.reduceLT, List.drop_succ_cons, List.take_succ_cons, List.singleton_append, Nat.zero_add, List.set_cons_zero, List.set_cons_succ, List.drop_nil, List.take_nil, Option.map_some, Option.map_none, Option.getD_some, Option.getD_none, Option.bind_some, List.cons_append, List.nil_append, List.append_nil, List.map_cons, List.map_nil, List.range_zero, List.take_zero, List.flatten_nil, List.filter_nil, List.length_nil, List.length_cons, List.drop_zero, List.not_mem_nil, List.mem_cons, Bool.true_eq_false, Bool.false_eq_true, Nat.reduceEqDiff, Nat.reduceAdd, List.getElem?_toArray, List.toList_toArray, List.getElem?_cons_zero, List.getElem?_cons_succ, decide_eq_true_eq, beq_self_eq_true, beq_true, beq_false, decide_true, decide_false, Bool.not_true, Bool.not_false, true_and, and_true, or_false, false_or, Bool.and_eq_true, reduceCtorEq, not_false_eq_true, cat_u, lit_strL, List.append_assoc, rv14, boxO, cells_act, zeroX_at, build_st, T40, P40, T3, T9, U3, U9, fa40_0, fa40_1, fa40_2, fa40_3, P3, P9, act_eq, h1, h2, h4, h3, h5, pr0_obj]
end
end Go.Proofs.YtcmgabicladmlaaDoor

/-
  What the cards of chapter 30 share. Conditions: none.
-/
import Derived.Test.YtfndkemgjhajnaaDoorPa13
import Derived.Test.YtfndkemgjhajnaaDoorCards
import Derived.Test.YtfndkemgjhajnaaDoorTie
import Derived.WalkKit
import Derived.ProofKit
import Derived.OpenShut
import Derived.Deep.DeepHandedRow
import Derived.Lib.LaidTab
import Derived.Shelf.Vars
namespace Go.Proofs.YtfndkemgjhajnaaDoor
open Go Go.Pe Go.Tab
set_option linter.unusedSectionVars false

theorem build_st (P : Program) (t n b : Nat) (a : Bool) (fs : Array Field) (z : List Value) (fl : List (Nat × Nat)) (qs : List (Nat × List X)) : buildX P t (some ⟨.struct fs, n, b, a, z, fl⟩) (some qs) = outO ((fillX (fun i => fl[i]?) (zeroX ⟨.struct fs, n, b, a, z, fl⟩) qs).map .agg) := rfl
theorem rd_aggx (xs : List X) : X.rd (.agg xs) = (X.rds xs).map .agg := by
  simp only [X.rd]
theorem bs_g1 {T : TT} {t e z : Nat} {d : TD} (h : Pe.elemOf T t = some (e, d)) (hz : d.size = z) (hz0 : 0 < z) (hz2 : z ≤ 1000) (hl : d.zero.length = z) (tk : Tk) (xs : List X) (hc : xs.length = z) : buildSliceX tk 1 (Pe.elemOf T t) (some [(0, xs)]) = outO ((X.rds xs).map fun cs => .own tk e z cs 1) := by
  have hzl : (zeroX d).length = z := by simp [zeroX, hl]
  rw [h]
  simp only [buildSliceX, hz]
  rw [if_pos ⟨by omega, hz0, hl⟩]
  simp only [fillX, List.replicate_one, List.flatten_singleton, Nat.zero_mul, Nat.zero_add, hc, hzl, Nat.le_refl, and_self, if_true, List.take_zero, List.nil_append]
  rw [List.drop_of_length_le (by omega), List.append_nil]
  cases X.rds xs <;> rfl
theorem bs_g2 {T : TT} {t e z : Nat} {d : TD} (h : Pe.elemOf T t = some (e, d)) (hz : d.size = z) (hz0 : 0 < z) (hz2 : z ≤ 1000) (hl : d.zero.length = z) (tk : Tk) (xs ys : List X) (hc : xs.length = z) (hc2 : ys.length = z) : buildSliceX tk 2 (Pe.elemOf T t) (some [(0, xs), (1, ys)]) = outO ((X.rds (xs ++ ys)).map fun cs => .own tk e z cs 2) := by
  have hzl : (zeroX d).length = z := by simp [zeroX, hl]
  have e2 : (List.replicate 2 (zeroX d)).flatten = zeroX d ++ zeroX d := by simp [List.replicate_succ]
  rw [h]
  simp only [buildSliceX, hz]
  rw [if_pos ⟨by omega, hz0, hl⟩, e2]
  simp only [fillX, Nat.zero_mul, Nat.zero_add, Nat.one_mul, hc, hc2, List.length_append, hzl, List.take_zero, List.nil_append, true_and]
  rw [if_pos (by omega)]
  have e3 : (zeroX d ++ zeroX d).drop z = zeroX d := List.drop_left' hzl
  rw [e3]
  rw [if_pos (by simp only [List.length_append, hc, hzl]; omega)]
  have e4 : (xs ++ zeroX d).take z = xs := List.take_left' hc
  rw [e4, List.drop_of_length_le (by simp only [List.length_append, hc, hzl]; omega), List.append_nil]
  cases h9 : X.rds (xs ++ ys) <;> simp only [h9] <;> rfl
set_option maxRecDepth 100000 in
theorem num_call (n : Int) : G1 37 [.of (ci n)] (.agg [.of (ci 2), .of (ci n), .of (cstr (strL []))]) := by
  refine by_body rfl ok37 body37 ar37 rfl ?_
  simp -implicitDefEqProofs (maxSteps := 1000000) only [Tryd.f37, ↓zD, zU, Nat.zero_mul, Nat.reduceMul, List.length_map, Tk.nm.injEq, Tk.cell.injEq, false_and, and_false, Nat.le_add_right, Nat.le_refl, ↓reduceIte, Bool.or_false, Bool.false_or, Bool.and_true, Bool.true_and, Bool.false_and, Bool.true_or, Bool.or_true, Option.isNone_none, Option.isNone_some, List.any_cons, List.any_nil, Bool.and_false, Nat.reduceBEq, Nat.reduceLeDiff, Int.reduceLT, Int.reduceEq, Int.reduceLE, Int.reduceAdd, Int.reduceToNat, Int.reduceNeg, Int.cast_ofNat_Int, Nat.reduceLT, List.drop_succ_cons, List.take_succ_cons, List.singleton_append, Nat.zero_add, List.set_cons_zero, List.set_cons_succ, List.drop_nil, List.take_nil, Option.map_some, Option.map_none, Option.getD_some, Option.getD_none, Option.bind_some, List.cons_append, List.nil_append, List.append_nil, List.map_cons, List.map_nil, List.range_zero, List.take_zero, List.flatten_nil, List.filter_nil, List.length_nil, List.length_cons, List.drop_zero, List.not_mem_nil, List.mem_cons, Bool.true_eq_false, Bool.false_eq_true, Nat.reduceEqDiff, Nat.reduceAdd, List.getElem?_toArray, List.toList_toArray, List.getElem?_cons_zero, List.getElem?_cons_succ, decide_eq_true_eq, beq_self_eq_true, beq_true, beq_false, decide_true, decide_false, Bool.not_true, Bool.not_false, true_and, and_true, or_false, false_or, Bool.and_eq_true, reduceCtorEq, not_false_eq_true, cat_u, lit_strL, List.append_assoc, rv37, boxO, zeroX_at, build_st, T54, T46, P46, T34, P34, T43, P43, T27, P3, P9, bs_g1 E24 rfl (by decide) (by decide) rfl, bs_g2 E24 rfl (by decide) (by decide) rfl, bs_g2 E22 rfl (by decide) (by decide) rfl, bs_g1 E23 rfl (by decide) (by decide) rfl, bs_g2 E27 rfl (by decide) (by decide) rfl, X.rds, rd_aggx, U3, U9, U37, U24, U22, U23, T9, T3, T37, len_txt, pc_t]
  rfl
set_option maxRecDepth 100000 in
theorem less_call (a n : Int) : G1 19 [.of (ci a), .of (ci n)] (.agg [.of (ci 13), .of (ci 0), .of (ci 0), .of (cstr (strL [])), .of (ci 0), .of (ci 0), .of (cstr (strL [])), .own (.nm 0 0 0) 46 10 [ci 2, ci 0, ci 0, cstr (strL []), ci 0, ci a, cstr (strL []), .sl [] 0, .sl [] 0, ci 2, ci 1, ci 2, ci n, cstr (strL []), ci 0, ci 0, cstr (strL []), .sl [] 0, .sl [] 0, ci 2] 2, .nil, .of (ci 1)]) := by
  have x1 := fun K => Gives.k (num_call n) K
  refine by_body rfl ok19 body19 ar19 rfl ?_
  simp -implicitDefEqProofs (maxSteps := 1000000) only [Tryd.f19, ↓zD, zU, Nat.zero_mul, Nat.reduceMul, List.length_map, Tk.nm.injEq, Tk.cell.injEq, false_and, and_false, Nat.le_add_right, Nat.le_refl, ↓reduceIte, Bool.or_false, Bool.false_or, Bool.and_true, Bool.true_and, Bool.false_and, Bool.true_or, Bool.or_true, Option.isNone_none, Option.isNone_some, List.any_cons, List.any_nil, Bool.and_false, Nat.reduceBEq, Nat.reduceLeDiff, Int.reduceLT, Int.reduceEq, Int.reduceLE, Int.reduceAdd, Int.reduceToNat, Int.reduceNeg, Int.cast_ofNat_Int, Nat.reduceLT, List.drop_succ_cons, List.take_succ_cons, List.singleton_append, Nat.zero_add, List.set_cons_zero, List.set_cons_succ, List.drop_nil, List.take_nil, Option.map_some, Option.map_none, Option.getD_some, Option.getD_none, Option.bind_some, List.cons_append, List.nil_append, List.append_nil, List.map_cons, List.map_nil, List.range_zero, List.take_zero, List.flatten_nil, List.filter_nil, List.length_nil, List.length_cons, List.drop_zero, List.not_mem_nil, List.mem_cons, Bool.true_eq_false, Bool.false_eq_true, Nat.reduceEqDiff, Nat.reduceAdd, List.getElem?_toArray, List.toList_toArray, List.getElem?_cons_zero, List.getElem?_cons_succ, decide_eq_true_eq, beq_self_eq_true, beq_true, beq_false, decide_true, decide_false, Bool.not_true, Bool.not_false, true_and, and_true, or_false, false_or, Bool.and_eq_true, reduceCtorEq, not_false_eq_true, cat_u, lit_strL, List.append_assoc, rv19, boxO, zeroX_at, build_st, T54, T46, P46, T34, P34, T43, P43, T27, P3, P9, bs_g1 E24 rfl (by decide) (by decide) rfl, bs_g2 E24 rfl (by decide) (by decide) rfl, bs_g2 E22 rfl (by decide) (by decide) rfl, bs_g1 E23 rfl (by decide) (by decide) rfl, bs_g2 E27 rfl (by decide) (by decide) rfl, X.rds, rd_aggx, U3, U9, U37, U24, U22, U23, T9, T3, T37, len_txt, pc_t, x1, pr_obj, obj37, call37]
  rfl
def awCols : List Cl := [⟨[], [97], 0⟩, ⟨[116], [98], 0⟩]
def awT (op : Int) (v : V) (a : Int) (ks : List Tm) (ty : Int) : Tm := .mk op v 0 a [] ks (.sl [] 0) ty
def awLess : Tm := awT 13 ⟨0, 0, strL []⟩ 0 [awT 2 ⟨0, 0, strL []⟩ 0 [] 2, awT 1 ⟨2, 3, strL []⟩ 0 [] 2] 1
def awR : Nat → C := nth [.sl [] 0, .sl [] 0, .sl [] 0, cb false, cb false, .sl [] 0, cb false, cb false, .sl [] 0, ci 0, ci 0, cb false, .sl [] 0]
def awP : Pn := .mk 1 [116] [] awCols [] [awLess] [] [] awR 4 20
def awS : Pn := .mk 16 [] [] [] [awP] [] [] [] awR 0 0
def awSum : Tm := awT 5 ⟨0, 0, strL []⟩ 0 [awT 2 ⟨0, 0, strL []⟩ 0 [] 0, awT 2 ⟨0, 0, strL []⟩ 1 [] 0] 0
theorem it_small {n : Nat} (h : n < 10) : Lib.itoa (n : Int) = [UInt8.ofNat (48 + n)] := by
  unfold Lib.itoa
  rw [if_neg (by omega), Int.toNat_natCast, Lib.decDigits, dif_pos h]
theorem it_20 : Lib.itoa 20 = [50, 48] := by
  unfold Lib.itoa
  rw [if_neg (by decide), Lib.decDigits, dif_neg (by decide), Lib.decDigits, dif_pos (by decide)]
  decide
theorem it_0 : Lib.itoa 0 = [48] := it_small (n := 0) (by decide)
theorem it_2 : Lib.itoa 2 = [50] := it_small (n := 2) (by decide)
theorem it_3 : Lib.itoa 3 = [51] := it_small (n := 3) (by decide)
theorem it_4 : Lib.itoa 4 = [52] := it_small (n := 4) (by decide)
theorem tx_3 : textL ⟨2, 3, strL []⟩ = [51] := by
  unfold textL textS
  simp only [it_3]
  rfl
theorem aw_less : textF awCols awLess = [40, 97, 32, 60, 32, 51, 41] := by
  simp only [awLess, awT, textF, textsF, opText, tx_3, awCols]
  rfl
theorem aw_sum : textF awCols awSum = [40, 97, 32, 43, 32, 116, 46, 98, 41] := by
  simp only [awSum, awT, textF, textsF, opText, awCols]
  rfl
theorem aw_l1 : lineL awP [50] = [115, 99, 97, 110, 32, 116, 32, 91, 40, 97, 32, 60, 32, 51, 41, 93, 32, 101, 115, 116, 32, 52, 32, 99, 111, 115, 116, 32, 50, 48, 32, 114, 111, 119, 115, 32, 50] := by
  have h1 : innerC awP = awCols := rfl
  have h3 : termsL awP [awLess] = [91, 40, 97, 32, 60, 32, 51, 41, 93] := by
    unfold termsL
    rw [h1]
    simp only [textsF, aw_less]
    rfl
  unfold awP at h3 ⊢
  rw [lineL_eq, h3, it_4, it_20]
  rfl
theorem aw_l0 : lineL awS [50] = [115, 111, 114, 116, 32, 101, 115, 116, 32, 48, 32, 99, 111, 115, 116, 32, 48, 32, 114, 111, 119, 115, 32, 50] := by
  unfold awS
  rw [lineL_eq, it_0]
  rfl
theorem aw_lines : underF [2, 2] 0 0 awS = [[115, 111, 114, 116, 32, 101, 115, 116, 32, 48, 32, 99, 111, 115, 116, 32, 48, 32, 114, 111, 119, 115, 32, 50], [32, 32, 115, 99, 97, 110, 32, 116, 32, 91, 40, 97, 32, 60, 32, 51, 41, 93, 32, 101, 115, 116, 32, 52, 32, 99, 111, 115, 116, 32, 50, 48, 32, 114, 111, 119, 115, 32, 50]] := by
  have e : underF [2, 2] 0 0 awS = [blanks 0 ++ lineL awS (rowsL [2, 2] 0), blanks 1 ++ lineL awP (rowsL [2, 2] 1)] := by
    unfold awS
    rw [underF]
    simp only [undersF, List.append_nil]
    unfold awP
    rw [underF]
    simp only [undersF]
  rw [e, show rowsL [2, 2] 0 = [50] from it_2, show rowsL [2, 2] 1 = [50] from it_2, aw_l0, aw_l1]
  rfl
theorem aw_okT (op : Int) (v : V) (a : Int) (ks : List Tm) (ty : Int) (h1 : I64 op) (h2 : I64 v.k) (h3 : I64 v.n) (h4 : v.s.size ≤ 1048576) (h5 : I64 a) (h6 : ks.length ≤ 1048576) (h7 : TmsOk ks) : TmOk (awT op v a ks ty) := by
  unfold awT
  rw [TmOk]
  exact ⟨h1, h2, h3, h4, by unfold I64; decide, h5, by decide, h6, h7⟩
theorem aw_i (n : Int) (h : -100 ≤ n ∧ n ≤ 100) : I64 n := by unfold I64; omega
theorem aw_ls : TmOk awLess := by
  refine aw_okT _ _ _ _ _ (aw_i _ (by decide)) (aw_i _ (by decide)) (aw_i _ (by decide)) (by decide) (aw_i _ (by decide)) (by decide) ?_
  simp only [TmsOk, and_true]
  exact ⟨aw_okT _ _ _ _ _ (aw_i _ (by decide)) (aw_i _ (by decide)) (aw_i _ (by decide)) (by decide) (aw_i _ (by decide)) (by decide) trivial, aw_okT _ _ _ _ _ (aw_i _ (by decide)) (aw_i _ (by decide)) (aw_i _ (by decide)) (by decide) (aw_i _ (by decide)) (by decide) trivial⟩
theorem aw_sm : TmOk awSum := by
  refine aw_okT _ _ _ _ _ (aw_i _ (by decide)) (aw_i _ (by decide)) (aw_i _ (by decide)) (by decide) (aw_i _ (by decide)) (by decide) ?_
  simp only [TmsOk, and_true]
  exact ⟨aw_okT _ _ _ _ _ (aw_i _ (by decide)) (aw_i _ (by decide)) (aw_i _ (by decide)) (by decide) (aw_i _ (by decide)) (by decide) trivial, aw_okT _ _ _ _ _ (aw_i _ (by decide)) (aw_i _ (by decide)) (aw_i _ (by decide)) (by decide) (aw_i _ (by decide)) (by decide) trivial⟩
theorem aw_p : PnOk awP := by
  rw [awP, PnOk]
  exact ⟨aw_i _ (by decide), aw_i _ (by decide), aw_i _ (by decide), by simp only [TmsOk, and_true]; exact aw_ls, trivial, trivial, trivial⟩
theorem aw_s : PnOk awS := by
  rw [awS, PnOk]
  exact ⟨aw_i _ (by decide), aw_i _ (by decide), aw_i _ (by decide), trivial, trivial, trivial, by simp only [PnsOk, and_true]; exact aw_p⟩
theorem aw_pw : pnWt awP ≤ 1048576 := by decide
theorem aw_sw : pnWt awS ≤ 1048576 := by decide
theorem aw_tw : awSum.wt ≤ 1048576 := by decide
theorem aw_cw : ClsOk awCols := clsOk_wt (by decide)
set_option maxRecDepth 100000 in
set_option maxHeartbeats 1000000 in
theorem awake_call : G1 7 [] (xbool true) := by
  have x1 := fun K => Gives.k (less_call 0 3) K
  have x2 := fun K => Gives.k (exlines_call awS [2, 2] aw_sw aw_s (fun n hn => by simp only [List.mem_cons, List.not_mem_nil, or_false] at hn; rcases hn with rfl | rfl <;> exact aw_i _ (by decide))) K
  have x3 := fun K => Gives.k (exnodes_call 1048576 awP aw_pw (Nat.le_refl _)) K
  have x4 := fun K => Gives.k (exterm_call awCols aw_cw 1048576 awSum aw_tw (Nat.le_refl _) aw_sm) K
  rw [aw_lines] at x2
  rw [aw_sum] at x4
  rw [show nodesN awP = 1 from rfl] at x3
  simp only [awS, awP, awLess, awSum, awT, awR, awCols, pnC, pnsC, tmC, tmsC, colsC, termsC, clC, intsC, nth, List.getD_eq_getElem?_getD, List.map_cons, List.map_nil, List.flatten_cons, List.flatten_nil, List.cons_append, List.nil_append, List.append_nil, List.length_cons, List.length_nil, Nat.zero_add, Nat.reduceAdd, List.getElem?_cons_zero, List.getElem?_cons_succ, Option.getD_some, Int.cast_ofNat_Int, txO] at x2 x3 x4
  refine by_body rfl ok7 body7 ar7 rfl ?_
  simp -implicitDefEqProofs (maxSteps := 1000000) only [Tryd.f7, ↓zD, zU, Nat.zero_mul, Nat.reduceMul, List.length_map, Tk.nm.injEq, Tk.cell.injEq, false_and, and_false, Nat.le_add_right, Nat.le_refl, ↓reduceIte, Bool.or_false, Bool.false_or, Bool.and_true, Bool.true_and, Bool.false_and, Bool.true_or, Bool.or_true, Option.isNone_none, Option.isNone_some, List.any_cons, List.any_nil, Bool.and_false, Nat.reduceBEq, Nat.reduceLeDiff, Int.reduceLT, Int.reduceEq, Int.reduceLE, Int.reduceAdd, Int.reduceToNat, Int.reduceNeg, Int.cast_ofNat_Int, Nat.reduceLT, List.drop_succ_cons, List.take_succ_cons, List.singleton_append, Nat.zero_add, List.set_cons_zero, List.set_cons_succ, List.drop_nil, List.take_nil, Option.map_some, Option.map_none, Option.getD_some, Option.getD_none, Option.bind_some, List.cons_append, List.nil_append, List.append_nil, List.map_cons, List.map_nil, List.range_zero, List.take_zero, List.flatten_nil, List.filter_nil, List.length_nil, List.length_cons, List.drop_zero, List.not_mem_nil, List.mem_cons, Bool.true_eq_false, Bool.false_eq_true, Nat.reduceEqDiff, Nat.reduceAdd, List.getElem?_toArray, List.toList_toArray, List.getElem?_cons_zero, List.getElem?_cons_succ, decide_eq_true_eq, beq_self_eq_true, beq_true, beq_false, decide_true, decide_false, Bool.not_true, Bool.not_false, true_and, and_true, or_false, false_or, Bool.and_eq_true, reduceCtorEq, not_false_eq_true, cat_u, lit_strL, List.append_assoc, rv7, boxO, zeroX_at, build_st, T54, T46, P46, T34, P34, T43, P43, T27, P3, P9, bs_g1 E24 rfl (by decide) (by decide) rfl, bs_g2 E24 rfl (by decide) (by decide) rfl, bs_g2 E22 rfl (by decide) (by decide) rfl, bs_g1 E23 rfl (by decide) (by decide) rfl, bs_g2 E27 rfl (by decide) (by decide) rfl, X.rds, rd_aggx, U3, U9, U37, U24, U22, U23, T9, T3, T37, len_txt, pc_t, x1, x2, x3, x4, pr_obj, obj19, call19, obj8, call8, obj11, call11, obj14, call14, ia_o0, ia_o1, strL_eq]
end Go.Proofs.YtfndkemgjhajnaaDoor
namespace Go.Proofs.YtfndkemgjhajnaaDoor
open Go Go.Pe Go.Tab
set_option linter.unusedSectionVars false

theorem awake_k (K : An → Prop) : CallK Tryd.prog pr 7 [] [] K ↔ K ⟨false, [xbool true], []⟩ := Gives.k awake_call K
set_option maxRecDepth 100000 in
theorem ExplainTerms_call (t : Tm) (cols : List Cl) (m : Nat) (hp : Pl Tryd.prog 46 (tmC t) m) (hm : m ≤ 1048575) (hw : t.wt ≤ 1048576) (ht : TmOk t) (hc : ClsOk cols) : G1 4 [.of (.agg (tmC t)), .of (colsC cols)] (xbool true) := by
  obtain ⟨b, hb⟩ := large21 _ _ hp hm
  have x1 := fun K => Gives.k hb K
  have x2 := fun K => Gives.k (exterm_call cols hc 1048576 t hw (Nat.le_refl _) ht) K
  have x3 := fun K => Gives.k (rterm_call cols hc 1048576 t hw (Nat.le_refl _) ht) K
  generalize textF cols t = w at x2 x3
  obtain ⟨op, v, d, a, nm, ks, sub, ty⟩ := t
  simp only [tmC] at x1 x2 x3 ⊢
  refine by_body rfl ok4 body4 ar4 rfl ?_
  cases b
  all_goals simp -implicitDefEqProofs (maxSteps := 1000000) only [Tryd.f4, ↓zD, zU, Nat.zero_mul, Nat.reduceMul, List.length_map, Tk.nm.injEq, Tk.cell.injEq, false_and, and_false, Nat.le_add_right, Nat.le_refl, ↓reduceIte, Bool.or_false, Bool.false_or, Bool.and_true, Bool.true_and, Bool.false_and, Bool.true_or, Bool.or_true, Option.isNone_none, Option.isNone_some, List.any_cons, List.any_nil, Bool.and_false, Nat.reduceBEq, Nat.reduceLeDiff, Int.reduceLT, Int.reduceEq, Int.reduceLE, Int.reduceAdd, Int.reduceToNat, Int.reduceNeg, Int.cast_ofNat_Int, Nat.reduceLT, List.drop_succ_cons, List.take_succ_cons, List.singleton_append, Nat.zero_add, List.set_cons_zero, List.set_cons_succ, List.drop_nil, List.take_nil, Option.map_some, Option.map_none, Option.getD_some, Option.getD_none, Option.bind_some, List.cons_append, List.nil_append, List.append_nil, List.map_cons, List.map_nil, List.range_zero, List.take_zero, List.flatten_nil, List.filter_nil, List.length_nil, List.length_cons, List.drop_zero, List.not_mem_nil, List.mem_cons, Bool.true_eq_false, Bool.false_eq_true, Nat.reduceEqDiff, Nat.reduceAdd, List.getElem?_toArray, List.toList_toArray, List.getElem?_cons_zero, List.getElem?_cons_succ, decide_eq_true_eq, beq_self_eq_true, beq_true, beq_false, decide_true, decide_false, Bool.not_true, Bool.not_false, true_and, and_true, or_false, false_or, Bool.and_eq_true, reduceCtorEq, not_false_eq_true, cat_u, lit_strL, List.append_assoc, rv4, boxO, zeroX_at, T46, P46, T34, P34, T43, P43, P3, P9, U3, U9, U37, U24, U22, U23, U27, T9, T3, T37, len_txt, pc_t, rd_agg10, strL_eq, x1, x2, x3, awake_k, pr_obj, obj13, call13, obj7, call7, obj14, call14, obj15, call15]
end Go.Proofs.YtfndkemgjhajnaaDoor
namespace Go.Proofs.YtfndkemgjhajnaaDoor.card
open Go Go.Pe Go.Tab Go.RowKit Go.ChangeShapes Go.WideShapes Go.ChangeAt Go.Proofs.YtfndkemgjhajnaaDoor

theorem own : ownKnob Tryd.prog.godebug = none := by kernel_rfl
theorem laidOut : laidOutB Tryd.prog = true := by kernel_rfl
theorem gTab : Tryd.prog.globalNamed tabName = some 1 := by kernel_rfl
theorem gTabType : (Tryd.prog.globals[1]?).map (·.type) = some 124 := by kernel_rfl
theorem cellsTab : Tryd.prog.cellsOf 124 = 20 := by kernel_rfl
theorem cellsU64 : Tryd.prog.cellsOf 106 = 1 := by kernel_rfl
/-- The table, out of the row's list; the one other variable that is read holds some number. -/
theorem table {W : World} {laid : List (String × DataW Unit)} (hf : (laid.filter fun x => x.1 == tabName) = [(tabName, Lib.tabData .u64 Lib.pow10Tab)]) (h : laidMet Tryd.prog laid W) (hs : W.ShapedOpen Tryd.prog) : GT.holds W := by
  have h2 := h.filter fun x => x.1 == tabName
  rw [hf] at h2
  exact ⟨Lib.tabIs_of_head (rest := []) gTab gTabType Tryd.underlying124 Tryd.underlying106 cellsU64 cellsTab h2,
    Go.Proofs.cell_of_shapedOpen_int (zero := #[.int .i64 0]) (t := 3) hs (of_decide_eq_true (by kernel_rfl)) (by kernel_rfl) rfl (by kernel_rfl) (by kernel_rfl) Tryd.underlying3⟩
theorem trodAll_stays {H : Type} {enc : TypeId × Value → H} {W W' : World} {sp : Nat → Bool} : ∀ {ts : List TypeId} {vs : List Value} {ds : List (DataW H)} {ps : List MemPlace}, (∀ t ∈ ts, Tryd.prog.readableRec t = true ∧ t < Tryd.prog.types.size) →
    DataW.TrodAll enc Tryd.prog W 0 (fun _ => true) true ts vs ds ps → (∀ p ∈ ps, W.sameAt W' p) → (∀ p ∈ ps, sp p.block = true) → DataW.TrodAll enc Tryd.prog W' 0 sp true ts vs ds ps
  | [], [], [], _, _, h, _, _ => h
  | _ :: _, _ :: _, _ :: _, _, hT, ⟨p, q, h1, h2, e⟩, hs, hsp =>
    ⟨p, q, WideElems.Trod_stays laidOut (hT _ (List.mem_cons.2 (.inl rfl))).1 (hT _ (List.mem_cons.2 (.inl rfl))).2 h1 (fun x hx => hs x (by rw [e]; exact List.mem_append_left _ hx)) (fun x hx => hsp x (by rw [e]; exact List.mem_append_left _ hx)),
      trodAll_stays (fun t ht => hT t (List.mem_cons.2 (.inr ht))) h2 (fun x hx => hs x (by rw [e]; exact List.mem_append_right _ hx)) (fun x hx => hsp x (by rw [e]; exact List.mem_append_right _ hx)), e⟩

theorem GTlt {W : World} (h : GT.holds W) {c : Nat} (hc : GT.blk c) : c < W.heap.size := by
  obtain ⟨h1, m, h2⟩ := h
  rcases hc with hc | rfl
  · unfold Lib.TabIs World.var? at h1
    rw [hc] at h1
    simp only [Option.bind_some] at h1
    rcases Nat.lt_or_ge c W.heap.size with h3 | h3
    · exact h3
    · rw [Array.getElem?_eq_none h3] at h1
      cases h1
  · exact World.block_lt_of_cell? (a := ⟨0, 0, none⟩) W h2
theorem plain_gives (hpr : PrSound Tryd.prog GT pr) {f : Nat} {xs : List X} {u : Value} (h : G1 f xs (.of (.lit u))) {fn : Func} (hfn : Tryd.prog.funcs[f]? = some fn) {W : World} (hT : GT.holds W) {m : Mem}
    (hm : ∀ b o v, m b o = some v → W.cell? ⟨b, o, none⟩ = some v ∧ v.oneCell' = true) {vs : List Value} (hvs : RepXs ⟨m, fun _ => none⟩ (fun _ => none) xs vs) :
    Calls Tryd.prog f vs.toArray W fun e W' => e = .returned u ∧ Below W.heap.size W W' := by
  have hG : ¬ ∃ c, Given ⟨m, fun _ => none⟩ (fun _ => none) c := by
    rintro ⟨c, ⟨r, hr⟩ | ⟨t, v, e, z, n, ht, _⟩⟩
    · cases hr
    · cases ht
  have hp : Hp ⟨GT, m, Given ⟨m, fun _ => none⟩ (fun _ => none)⟩ ⟨m, fun _ => none⟩ (fun _ => none) W W [] := {
    good := ⟨hT, fun c hc => ⟨GTlt hT hc, fun hm => hG ⟨c, hm⟩⟩⟩
    below := Keeps.refl _ _
    mem := hm
    obj := fun r ob hr => by simp at hr
    dom := fun r c hr => by cases hr
    inj := fun r r' c hr => by cases hr
    tok := fun t v e z n ht => by cases ht
    tokne := fun t t' v e z n v' e' z' n' ht => by cases ht
    m0 := fun c o v hv _ _ => hv }
  refine (h.sound mixed hpr fn hfn ⟨m, fun _ => none⟩ (fun _ => none) W vs hp (fun t p ht => by cases ht) (fun r off p ht => by cases ht) hvs).mono ?_
  rintro e W' ⟨k', ow', us, he, hp', _, _, _, _, _, hus⟩
  simp only [RepXs, RepX, Rep] at hus
  obtain ⟨v, r, rfl, ⟨rfl, _⟩, rfl⟩ := hus
  refine ⟨he, ?_⟩
  have hb := hp'.below
  exact ⟨hb.os, hb.tape, hb.output, hb.size, fun c hc => hb.block c hc fun hm => hG ⟨c, hm⟩⟩

/-- A call on plain data, as the machine says. -/
def kOf (W : World) : Know := ⟨memOf W, fun _ => none⟩
theorem plain_call {f : Nat} {xs : List X} {b : Bool} (h : G1 f xs (xbool b)) {fn : Func} (hfn : Tryd.prog.funcs[f]? = some fn) {W : World} (hT : GT.holds W) {vs : List Value} (hvs : RepXs (kOf W) (fun _ => none) xs vs) :
    Calls Tryd.prog f vs.toArray W fun e W' => e = .returned (.bool b) ∧ Below W.heap.size W W' :=
  plain_gives pr_sound h hfn hT (fun _ _ _ hv => memOf_mem hv) hvs

set_option maxRecDepth 100000 in
theorem okSl {W : World} {base : Nat} {t e : TypeId} {v : Value} (ht : Tryd.prog.underlying t = some (.slice e)) (h : Value.okWide Tryd.prog W .any base t v) : v.cells.toList = [v] := by
  obtain ⟨a, len, cap, rfl⟩ := okWide_slice ht h
  rfl
/-- A world for the witness: the settled one, the listed tables holding what their initialisers lay. -/
def litsOf : DataW Unit → Array Value
  | .agg l => (l.map fun d => match d with
    | .lit (.int k n) => Value.int k n
    | _ => undef).toArray
  | _ => #[]
def putCells (vs : Array Value) : Obj → Obj
  | .cells _ t frozen => .cells vs t frozen
  | o => o
def litOf1 : DataW Unit → Value
  | .lit (.int k n) => .int k n
  | _ => undef
def litsIn : DataW Unit → List Value
  | .agg l => l.map litOf1
  | d => [litOf1 d]
def litsOf2 : DataW Unit → Array Value
  | .agg l => (l.map litsIn).flatten.toArray
  | _ => #[]
noncomputable def laidWorld (os : Os) : World :=
  { World.holding Tryd.prog os ⟨#[], #[], []⟩ with heap := (((((World.holding Tryd.prog os ⟨#[], #[], []⟩).heap.modify 1 (putCells (litsOf Rows.laid_internal_strconv_uint64pow10))).modify 4 (putCells (litsOf Rows.laid_math_bits_deBruijn32tab))).modify 5 (putCells (litsOf Rows.laid_math_bits_deBruijn64tab))).modify 2 (putCells (litsOf2 Rows.laid_unicode_utf8_first))).modify 3 (putCells (litsOf2 Rows.laid_unicode_utf8_acceptRanges)) }
theorem two_ok {x y : TypeId} (hx : Tryd.prog.readableRec x = true ∧ x < Tryd.prog.types.size) (hy : Tryd.prog.readableRec y = true ∧ y < Tryd.prog.types.size) : ∀ t ∈ [x, y], Tryd.prog.readableRec t = true ∧ t < Tryd.prog.types.size := by
  intro t ht
  simp only [List.mem_cons, List.not_mem_nil, or_false] at ht
  rcases ht with rfl | rfl
  · exact hx
  · exact hy
theorem termOk : Tryd.prog.readableRec 46 = true ∧ 46 < Tryd.prog.types.size := ⟨by kernel_rfl, of_decide_eq_true (by kernel_rfl)⟩
theorem colsOk : Tryd.prog.readableRec 22 = true ∧ 22 < Tryd.prog.types.size := ⟨by kernel_rfl, of_decide_eq_true (by kernel_rfl)⟩
theorem bulk2 {H : Type} {d0 d1 : DataW H} (h : Rows.uptoSmall H [d0, d1] = true) : Rows.uptoBulk d0 ≤ 1048575 ∧ Rows.uptoBulk d1 ≤ 1048575 := by
  have := of_decide_eq_true h
  simp only [Rows.uptoBulkAll] at this
  have h0 := one_le d0
  have h1 := one_le d1
  omega
def flatTs : List TypeId := [3, 4, 9, 43, 54, 22, 46, 24, 97, 44, 99, 25, 149, 26, 29, 32, 31, 34, 23, 27]
theorem flatOk : flatB Tryd.prog flatTs = true := by kernel_rfl
section
variable {H : Type} {enc : TypeId × Value → H} {W : World} {spare : Nat → Bool} {held : Bool} {base : Nat} {v : Value} {d : DataW H} {ps : List MemPlace} {t : TypeId}
set_option maxRecDepth 100000 in
theorem read_agg {fs : Array Field} (hu : Tryd.prog.underlying t = some (.struct fs)) (ht : t ∈ flatTs) (hd : DataW.Trod enc Tryd.prog W 0 spare held t v d ps) (hok : Value.okWide Tryd.prog W .any base t v) : ∃ g : List C, Rep (memOf W) (.agg g) v ∧ Pl Tryd.prog t g (Rows.uptoBulk d) := by
  obtain ⟨cs, rfl, _⟩ := okWide_struct hu hok
  obtain ⟨fuel, h⟩ := hd
  obtain ⟨g, g1, g2, g3⟩ := read_pl flatOk fuel t _ _ ht h
  simp only [Value.cells] at g1 g2
  exact ⟨g, ⟨_, rfl, g2, g1⟩, g3⟩
set_option maxRecDepth 100000 in
theorem read_sl {e : TypeId} (hu : Tryd.prog.underlying t = some (.slice e)) (ht : t ∈ flatTs) (hd : DataW.Trod enc Tryd.prog W 0 spare held t v d ps) (hok : Value.okWide Tryd.prog W .any base t v) : ∃ c : C, Rep (memOf W) c v ∧ Pl Tryd.prog t [c] (Rows.uptoBulk d) := by
  have hone := okSl hu hok
  obtain ⟨fuel, h⟩ := hd
  obtain ⟨g, g1, g2, g3⟩ := read_pl flatOk fuel t _ _ ht h
  rw [hone] at g1
  obtain ⟨c, rfl⟩ := g3.one_inv hu
  obtain ⟨u, r, e, h1, _⟩ := g1
  cases e
  exact ⟨c, h1, g3⟩
end
end Go.Proofs.YtfndkemgjhajnaaDoor.card

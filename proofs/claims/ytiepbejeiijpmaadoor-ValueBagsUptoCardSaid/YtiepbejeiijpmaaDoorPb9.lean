/-
  slices.swapRangeCmpFunc and rotateCmpFunc at rows: walked. Conditions: none.
-/
import Derived.Test.YtiepbejeiijpmaaDoorPb8
import Derived.Lib.QuietBelow
import Derived.Shelf.RegionOpenPlain
import Derived.Sort.WalkA
import Derived.Deep.LoopGhost
import Derived.Laws.Cover3
import Derived.Sort.LotA
namespace Go.Proofs.YtiepbejeiijpmaaDoor
open Go Go.Pe Go.Tab
variable {b : Bool}

theorem sc_k (x y : ByteArray) (K : An → Prop) : CallK Tryd.prog (prB b) 54 [.of (cstr x), .of (cstr y)] [] K ↔ K ⟨false, [xint (texts x.data.toList y.data.toList)], []⟩ :=
  Gives.k (Gives.of_prim (show some (An.mk false [xint (Lib.compareBytes x.data.toList y.data.toList)] []) = _ by rw [texts_cmp])) K
theorem cmpI_ints : ∀ m n, cmpI m n = ints m n := fun m n => rfl
theorem bs_ints3 (tk : Tk) (x y z : Int) : buildSliceX tk 3 (Pe.elemOf (TT.of Tryd.prog) 76) (some [(0, [.of (ci x)]), (1, [.of (ci y)]), (2, [.of (ci z)])]) = out (.own tk 3 1 [ci x, ci y, ci z] 3) := by
  simp only [buildSliceX, E76]; rfl
theorem or3_k (x y z : Int) (K : An → Prop) : CallK Tryd.prog (prB b) 63 [.of (.sl [ci x, ci y, ci z] 3)] [] K ↔ K ⟨false, [xint (orL [x, y, z])], []⟩ := Gives.k (Or_call [x, y, z] (by simp)) K
theorem orL_order (a c : V) : orL [ints a.k c.k, ints a.n c.n, texts a.s.data.toList c.s.data.toList] = order a c := by
  unfold order
  simp only [orL]
  by_cases h1 : a.k = c.k
  · rw [if_pos ((ints_ord.zero _ _).2 h1), if_pos h1]
    by_cases h2 : a.n = c.n
    · rw [if_pos ((ints_ord.zero _ _).2 h2), if_pos h2]
      split
      · rename_i h; exact h.symm
      · rfl
    · rw [if_neg fun h => h2 ((ints_ord.zero _ _).1 h), if_neg h2]
  · rw [if_neg fun h => h1 ((ints_ord.zero _ _).1 h), if_neg h1]
set_option maxRecDepth 100000 in
theorem vaOrder_call (a c : V) : GB b 30 [.of (valX a), .of (valX c)] (xint (order a c)) := by
  refine by_body rfl ok30 body30 ar30 rfl ?_
  simp -implicitDefEqProofs only [Tryd.f30, Z2i, Z2n, Z2g, Z2h, Z2k, Z2l, Z2m, Z2j, Z2f, Z2d, Z2e, Z3i, Z3h, Z3g, Nat.zero_mul, Nat.reduceMul, Z4k, Z13, Z14, List.length_map, Z35, Z34, Z37, Z33, Z36, Z31, Z38, Z32, Z30, Z2z, Tk.nm.injEq, Tk.cell.injEq, false_and, and_false, Z2o, Z4j, Nat.le_add_right, Z5h, Z5i, Z6z, Nat.le_refl, Z5v, Z5u, Z2s, ↓Zx, ↓Zs, ↓Zt, ↓Zw, ↓Zy, ↓Zu, ↓Zv, ↓Zz, ↓Z10, ↓Zl, ↓Z2, ↓Zo, ↓Z3, ↓Zr, ↓Zg, ↓Zc, ↓Zb, ↓Ze, ↓Zd, ↓Zp, ↓Z9, ↓Za, ↓Zm, ↓Zi, ↓Z5, ↓Z6, ↓Zf, ↓Z1, ↓Z7, ↓Z8, ↓Z0, ↓Z4, ↓Zq, ↓Zh, ↓Zk, ↓Zj, ↓Zn, ↓Z64, ↓Z66, ↓Z63, ↓Z65, ↓Z7f, ↓Z7g, ↓Z7e, ↓Z2x, ↓Z2y, ↓Z2w, ↓Z1e, ↓Z1f, ↓Z1d, Z4c, Z1a, ↓Z8a, ↓Z8b, ↓Z89, ↓Z78, ↓Z79, ↓Z77, ↓Z3e, ↓Z3c, ↓Z3d, Z5c, Z5b, Z5g, Z5e, Z5f, Z5d, ↓Z3y, ↓Z3z, ↓Z3x, Z3u, Z3w, Z3v, ↓Z7b, ↓Z7a, ↓Z7d, ↓Z7c, ↓Z1z, ↓Z1y, ↓Z21, ↓Z20, ↓Z6o, ↓Z6p, ↓Z4s, ↓Z4t, Z2p, ↓Z3o, ↓Z3p, Z3s, Z3n, Z3q, Z3r, Z5p, Z5q, Z5o, Z5n, Z5r, Z1n, Z1m, Z1l, Z1k, Z1j, Z1p, Z1g, Z1t, Z1o, Z1r, Z1s, Z1q, Z1h, Z1i, Z88, Z87, Z4d, Z4e, Z4f, Z5y, Z4b, Z4a, Z49, Z48, Z16, Z17, Z15, Z6a, Z6b, Z69, ↓Z68, ↓Z67, Z2q, Z22, Z23, Z25, Z24, Z60, Z5z, Z55, Z56, ↓Z1b, ↓Z1c, Z81, Z80, Z7x, Z84, Z7y, Z83, Z7z, Z82, Z86, Z85, Z5a, Z59, Z7w, Z7t, Z7v, Z7u, Z4r, Z4q, Z4p, Z62, Z61, Z6v, Z6y, Z6w, Z6x, Z40, Z41, Z74, Z72, Z73, Z6u, Z6t, Z2v, Z2u, Z5x, Z5w, Z2r, Z71, Z70, Z6d, Z6c, Z6k, Z6j, Z6l, Z6m, Z6i, Z6h, Z6g, Z6n, Z6f, Z6e, Z58, Z57, Z7p, Z7o, Z7q, Z7r, Z7n, Z7m, Z7l, Z7s, Z7k, Z7j, Z7h, Z7i, Z54, Z53, Z5m, Z11, Z4y, Z4z, Z4x, Z51, Z4w, Z4v, Z4u, Z50, Z12, Z75, Z76, Z43, Z42, Z4o, Z4n, Z4l, Z4m, Z19, Z18, Z29, Z2b, Z2a, Z28, Z2c, Z27, Z26, Z5t, Z3t, Z6r, ↓Z6s, ↓Z6q, Z2t, Z47, Z44, Z45, Z46, Z3m, Z3k, Z3l, Z3j, Z1v, Z1u, Z1w, Z1x, List.any_cons, List.any_nil, Bool.or_true, Bool.true_or, Bool.or_false, Bool.false_or, Bool.and_false, Bool.false_and, Nat.reduceBEq, Z5k, Z5j, Z5l, Z3f, ↓Z39, ↓Z3b, ↓Z3a, Z4i, Z4h, Z4g, Z5s, Nat.reduceLeDiff, Int.reduceLT, Int.reduceLE, Int.reduceAdd, Int.reduceToNat, Int.reduceNeg, Int.cast_ofNat_Int, Nat.reduceLT, List.drop_succ_cons, List.take_succ_cons, List.singleton_append, Nat.zero_add, List.set_cons_zero, List.set_cons_succ, List.drop_nil, List.take_nil, Option.map_some, Option.map_none, Option.getD_some, Option.getD_none, Option.bind_some, List.cons_append, List.nil_append, List.append_nil, List.map_cons, List.map_nil, List.range_zero, List.take_zero, List.flatten_nil, List.filter_nil, List.length_nil, List.length_cons, List.drop_zero, List.not_mem_nil, List.mem_cons, Bool.true_eq_false, Bool.false_eq_true, ↓reduceIte, Nat.reduceEqDiff, Nat.reduceAdd, List.getElem?_toArray, List.toList_toArray, List.getElem?_cons_zero, List.getElem?_cons_succ, decide_eq_true_eq, Z52, beq_self_eq_true, beq_true, decide_true, decide_false, Bool.not_true, Bool.not_false, true_and, and_true, or_false, false_or, Bool.and_eq_true, Bool.and_true, Bool.true_and, reduceCtorEq, not_false_eq_true, rv30, T34, cells_val, boxO, T3, T9, U3, U9, fa34_0, fa34_1, fa34_2, P3, P9, pr_obj, obj55, obj54, obj63, call55, call54, call63, cmp_k, sc_k, bs_ints3, or3_k, cmpI_ints, orL_order]
theorem vaOrder_k (a c : V) (K : An → Prop) : CallK Tryd.prog (prB b) 30 [.of (valX a), .of (valX c)] [] K ↔ K ⟨false, [xint (order a c)], []⟩ := Gives.k (vaOrder_call a c) K
theorem vaOrder_kx (a c : V) (K : An → Prop) : CallK Tryd.prog (prB b) 30 [.of (.agg [ci a.k, ci a.n, cstr a.s]), .of (.agg [ci c.k, ci c.n, cstr c.s])] [] K ↔ K ⟨false, [xint (order a c)], []⟩ := vaOrder_k a c K
theorem ld_rowx (r : List V) (k : Nat) (h : k < r.length) (objs : List Ob) : loadX (TT.of Tryd.prog) objs 34 (.of (.ref (valsC (r.drop k)))) = out (.of (.agg [ci r[k].k, ci r[k].n, cstr r[k].s])) := ld_row r k h objs

theorem rd_agg3 (x y z : C) : (X.agg [.of x, .of y, .of z]).rd = some (.agg [x, y, z]) := rfl
theorem app_at2 (L : List Ob) (x y : Ob) : (L ++ [x] ++ [y])[L.length]? = some x := by simp
set_option maxRecDepth 100000 in
theorem CompareFunc_call (a c : List V) (la : a.length ≤ 1048576) (lc : c.length ≤ 1048576) : GB b 68 [.of (rowC a), .of (rowC c), .of (.fn 30 [])] (xint (ords a c)) := by
  refine by_body rfl ok68 body68 ar68 rfl ?_
  simp -implicitDefEqProofs only [Tryd.f68, Z2i, Z2n, Z2g, Z2h, Z2k, Z2l, Z2m, Z2j, Z2f, Z2d, Z2e, Z3i, Z3h, Z3g, Nat.zero_mul, Nat.reduceMul, Z4k, Z13, Z14, List.length_map, Z35, Z34, Z37, Z33, Z36, Z31, Z38, Z32, Z30, Z2z, Tk.nm.injEq, Tk.cell.injEq, false_and, and_false, Z2o, Z4j, Nat.le_add_right, Z5h, Z5i, Z6z, Nat.le_refl, Z5v, Z5u, Z2s, ↓Zx, ↓Zs, ↓Zt, ↓Zw, ↓Zy, ↓Zu, ↓Zv, ↓Zz, ↓Z10, ↓Zl, ↓Z2, ↓Zo, ↓Z3, ↓Zr, ↓Zg, ↓Zc, ↓Zb, ↓Ze, ↓Zd, ↓Zp, ↓Z9, ↓Za, ↓Zm, ↓Zi, ↓Z5, ↓Z6, ↓Zf, ↓Z1, ↓Z7, ↓Z8, ↓Z0, ↓Z4, ↓Zq, ↓Zh, ↓Zk, ↓Zj, ↓Zn, ↓Z64, ↓Z66, ↓Z63, ↓Z65, ↓Z7f, ↓Z7g, ↓Z7e, ↓Z2x, ↓Z2y, ↓Z2w, ↓Z1e, ↓Z1f, ↓Z1d, Z4c, Z1a, ↓Z8a, ↓Z8b, ↓Z89, ↓Z78, ↓Z79, ↓Z77, ↓Z3e, ↓Z3c, ↓Z3d, Z5c, Z5b, Z5g, Z5e, Z5f, Z5d, ↓Z3y, ↓Z3z, ↓Z3x, Z3u, Z3w, Z3v, ↓Z7b, ↓Z7a, ↓Z7d, ↓Z7c, ↓Z1z, ↓Z1y, ↓Z21, ↓Z20, ↓Z6o, ↓Z6p, ↓Z4s, ↓Z4t, Z2p, ↓Z3o, ↓Z3p, Z3s, Z3n, Z3q, Z3r, Z5p, Z5q, Z5o, Z5n, Z5r, Z1n, Z1m, Z1l, Z1k, Z1j, Z1p, Z1g, Z1t, Z1o, Z1r, Z1s, Z1q, Z1h, Z1i, Z88, Z87, Z4d, Z4e, Z4f, Z5y, Z4b, Z4a, Z49, Z48, Z16, Z17, Z15, Z6a, Z6b, Z69, ↓Z68, ↓Z67, Z2q, Z22, Z23, Z25, Z24, Z60, Z5z, Z55, Z56, ↓Z1b, ↓Z1c, Z81, Z80, Z7x, Z84, Z7y, Z83, Z7z, Z82, Z86, Z85, Z5a, Z59, Z7w, Z7t, Z7v, Z7u, Z4r, Z4q, Z4p, Z62, Z61, Z6v, Z6y, Z6w, Z6x, Z40, Z41, Z74, Z72, Z73, Z6u, Z6t, Z2v, Z2u, Z5x, Z5w, Z2r, Z71, Z70, Z6d, Z6c, Z6k, Z6j, Z6l, Z6m, Z6i, Z6h, Z6g, Z6n, Z6f, Z6e, Z58, Z57, Z7p, Z7o, Z7q, Z7r, Z7n, Z7m, Z7l, Z7s, Z7k, Z7j, Z7h, Z7i, Z54, Z53, Z5m, Z11, Z4y, Z4z, Z4x, Z51, Z4w, Z4v, Z4u, Z50, Z12, Z75, Z76, Z43, Z42, Z4o, Z4n, Z4l, Z4m, Z19, Z18, Z29, Z2b, Z2a, Z28, Z2c, Z27, Z26, Z5t, Z3t, Z6r, ↓Z6s, ↓Z6q, Z2t, Z47, Z44, Z45, Z46, Z3m, Z3k, Z3l, Z3j, Z1v, Z1u, Z1w, Z1x, List.any_cons, List.any_nil, Bool.or_true, Bool.true_or, Bool.or_false, Bool.false_or, Bool.and_false, Bool.false_and, Nat.reduceBEq, Z5k, Z5j, Z5l, Z3f, ↓Z39, ↓Z3b, ↓Z3a, Z4i, Z4h, Z4g, Z5s, Nat.reduceLeDiff, Int.reduceLT, Int.reduceLE, Int.reduceAdd, Int.reduceToNat, Int.reduceNeg, Int.cast_ofNat_Int, Nat.reduceLT, List.drop_succ_cons, List.take_succ_cons, List.singleton_append, Nat.zero_add, List.set_cons_zero, List.set_cons_succ, List.drop_nil, List.take_nil, Option.map_some, Option.map_none, Option.getD_some, Option.getD_none, Option.bind_some, List.cons_append, List.nil_append, List.append_nil, List.map_cons, List.map_nil, List.range_zero, List.take_zero, List.flatten_nil, List.filter_nil, List.length_nil, List.length_cons, List.drop_zero, List.not_mem_nil, List.mem_cons, Bool.true_eq_false, Bool.false_eq_true, ↓reduceIte, Nat.reduceEqDiff, Nat.reduceAdd, List.getElem?_toArray, List.toList_toArray, List.getElem?_cons_zero, List.getElem?_cons_succ, decide_eq_true_eq, Z52, beq_self_eq_true, beq_true, decide_true, decide_false, Bool.not_true, Bool.not_false, true_and, and_true, or_false, false_or, Bool.and_eq_true, Bool.and_true, Bool.true_and, reduceCtorEq, not_false_eq_true, rv68, U28, len_row]
  refine WC_inv _ _ (fun m s => ∃ (k : Nat) (L : List Ob), k ≤ a.length ∧ k ≤ c.length ∧ m = a.length - k ∧ s.fr 0 = .of (rowC a) ∧ s.fr 1 = .of (rowC c) ∧ s.fr 2 = .of (.fn 30 []) ∧ s.fr 11 = .of (rowC a) ∧ s.fr 12 = xint a.length ∧ s.fr 13 = xint k ∧ s.objs = L ∧ ords a c = ords (a.drop k) (c.drop k)) ?_ a.length _ ?_
  · rintro m s ⟨k, L, hk1, hk2, rfl, h0, h1, h2, h11, h12, h13, ho, ht⟩
    have hw := wrapS k (by omega)
    by_cases c1 : k < a.length
    · by_cases c2 : k < c.length
      · have c3 : ¬ c.length ≤ k := by omega
        simp -implicitDefEqProofs only [Z2i, Z2n, Z2g, Z2h, Z2k, Z2l, Z2m, Z2j, Z2f, Z2d, Z2e, Z3i, Z3h, Z3g, Nat.zero_mul, Nat.reduceMul, Z4k, Z13, Z14, List.length_map, Z35, Z34, Z37, Z33, Z36, Z31, Z38, Z32, Z30, Z2z, Tk.nm.injEq, Tk.cell.injEq, false_and, and_false, Z2o, Z4j, Nat.le_add_right, Z5h, Z5i, Z6z, Nat.le_refl, Z5v, Z5u, Z2s, ↓Zx, ↓Zs, ↓Zt, ↓Zw, ↓Zy, ↓Zu, ↓Zv, ↓Zz, ↓Z10, ↓Zl, ↓Z2, ↓Zo, ↓Z3, ↓Zr, ↓Zg, ↓Zc, ↓Zb, ↓Ze, ↓Zd, ↓Zp, ↓Z9, ↓Za, ↓Zm, ↓Zi, ↓Z5, ↓Z6, ↓Zf, ↓Z1, ↓Z7, ↓Z8, ↓Z0, ↓Z4, ↓Zq, ↓Zh, ↓Zk, ↓Zj, ↓Zn, ↓Z64, ↓Z66, ↓Z63, ↓Z65, ↓Z7f, ↓Z7g, ↓Z7e, ↓Z2x, ↓Z2y, ↓Z2w, ↓Z1e, ↓Z1f, ↓Z1d, Z4c, Z1a, ↓Z8a, ↓Z8b, ↓Z89, ↓Z78, ↓Z79, ↓Z77, ↓Z3e, ↓Z3c, ↓Z3d, Z5c, Z5b, Z5g, Z5e, Z5f, Z5d, ↓Z3y, ↓Z3z, ↓Z3x, Z3u, Z3w, Z3v, ↓Z7b, ↓Z7a, ↓Z7d, ↓Z7c, ↓Z1z, ↓Z1y, ↓Z21, ↓Z20, ↓Z6o, ↓Z6p, ↓Z4s, ↓Z4t, Z2p, ↓Z3o, ↓Z3p, Z3s, Z3n, Z3q, Z3r, Z5p, Z5q, Z5o, Z5n, Z5r, Z1n, Z1m, Z1l, Z1k, Z1j, Z1p, Z1g, Z1t, Z1o, Z1r, Z1s, Z1q, Z1h, Z1i, Z88, Z87, Z4d, Z4e, Z4f, Z5y, Z4b, Z4a, Z49, Z48, Z16, Z17, Z15, Z6a, Z6b, Z69, ↓Z68, ↓Z67, Z2q, Z22, Z23, Z25, Z24, Z60, Z5z, Z55, Z56, ↓Z1b, ↓Z1c, Z81, Z80, Z7x, Z84, Z7y, Z83, Z7z, Z82, Z86, Z85, Z5a, Z59, Z7w, Z7t, Z7v, Z7u, Z4r, Z4q, Z4p, Z62, Z61, Z6v, Z6y, Z6w, Z6x, Z40, Z41, Z74, Z72, Z73, Z6u, Z6t, Z2v, Z2u, Z5x, Z5w, Z2r, Z71, Z70, Z6d, Z6c, Z6k, Z6j, Z6l, Z6m, Z6i, Z6h, Z6g, Z6n, Z6f, Z6e, Z58, Z57, Z7p, Z7o, Z7q, Z7r, Z7n, Z7m, Z7l, Z7s, Z7k, Z7j, Z7h, Z7i, Z54, Z53, Z5m, Z11, Z4y, Z4z, Z4x, Z51, Z4w, Z4v, Z4u, Z50, Z12, Z75, Z76, Z43, Z42, Z4o, Z4n, Z4l, Z4m, Z19, Z18, Z29, Z2b, Z2a, Z28, Z2c, Z27, Z26, Z5t, Z3t, Z6r, ↓Z6s, ↓Z6q, Z2t, Z47, Z44, Z45, Z46, Z3m, Z3k, Z3l, Z3j, Z1v, Z1u, Z1w, Z1x, List.any_cons, List.any_nil, Bool.or_true, Bool.true_or, Bool.or_false, Bool.false_or, Bool.and_false, Bool.false_and, Nat.reduceBEq, Z5k, Z5j, Z5l, Z3f, ↓Z39, ↓Z3b, ↓Z3a, Z4i, Z4h, Z4g, Z5s, Nat.reduceLeDiff, Int.reduceLT, Int.reduceLE, Int.reduceAdd, Int.reduceToNat, Int.reduceNeg, Int.cast_ofNat_Int, Nat.reduceLT, List.drop_succ_cons, List.take_succ_cons, List.singleton_append, Nat.zero_add, List.set_cons_zero, List.set_cons_succ, List.drop_nil, List.take_nil, Option.map_some, Option.map_none, Option.getD_some, Option.getD_none, Option.bind_some, List.cons_append, List.nil_append, List.append_nil, List.map_cons, List.map_nil, List.range_zero, List.take_zero, List.flatten_nil, List.filter_nil, List.length_nil, List.length_cons, List.drop_zero, List.not_mem_nil, List.mem_cons, Bool.true_eq_false, Bool.false_eq_true, ↓reduceIte, Nat.reduceEqDiff, Nat.reduceAdd, List.getElem?_toArray, List.toList_toArray, List.getElem?_cons_zero, List.getElem?_cons_succ, decide_eq_true_eq, Z52, beq_self_eq_true, beq_true, decide_true, decide_false, Bool.not_true, Bool.not_false, true_and, and_true, or_false, false_or, Bool.and_eq_true, Bool.and_true, Bool.true_and, reduceCtorEq, not_false_eq_true, h0, h1, h2, h11, h12, h13, ho, T34, P34, zeroX, U28, U3, len_row, ia_row a k c1, ia_row c k c2, ld_rowx a k c1, ld_rowx c k c2, app_at2, rd_agg3, vaOrder_kx, pr_obj, obj30, call30, Int.ofNat_lt, Int.ofNat_le, c1, c3, hw, rv68, Tryd.f68]
        rw [drop_getD c1, drop_getD c2, ords_cc] at ht
        split
        · rename_i hne
          exact an_int (by rw [ht, if_neg hne])
        · rename_i heq
          refine ⟨_, ?_, k + 1, _, by omega, by omega, rfl, rfl, rfl, ?_⟩
          · omega
          · rw [ht, if_pos (by simpa using heq)]
      · have c3 : c.length ≤ k := by omega
        simp -implicitDefEqProofs only [Z2i, Z2n, Z2g, Z2h, Z2k, Z2l, Z2m, Z2j, Z2f, Z2d, Z2e, Z3i, Z3h, Z3g, Nat.zero_mul, Nat.reduceMul, Z4k, Z13, Z14, List.length_map, Z35, Z34, Z37, Z33, Z36, Z31, Z38, Z32, Z30, Z2z, Tk.nm.injEq, Tk.cell.injEq, false_and, and_false, Z2o, Z4j, Nat.le_add_right, Z5h, Z5i, Z6z, Nat.le_refl, Z5v, Z5u, Z2s, ↓Zx, ↓Zs, ↓Zt, ↓Zw, ↓Zy, ↓Zu, ↓Zv, ↓Zz, ↓Z10, ↓Zl, ↓Z2, ↓Zo, ↓Z3, ↓Zr, ↓Zg, ↓Zc, ↓Zb, ↓Ze, ↓Zd, ↓Zp, ↓Z9, ↓Za, ↓Zm, ↓Zi, ↓Z5, ↓Z6, ↓Zf, ↓Z1, ↓Z7, ↓Z8, ↓Z0, ↓Z4, ↓Zq, ↓Zh, ↓Zk, ↓Zj, ↓Zn, ↓Z64, ↓Z66, ↓Z63, ↓Z65, ↓Z7f, ↓Z7g, ↓Z7e, ↓Z2x, ↓Z2y, ↓Z2w, ↓Z1e, ↓Z1f, ↓Z1d, Z4c, Z1a, ↓Z8a, ↓Z8b, ↓Z89, ↓Z78, ↓Z79, ↓Z77, ↓Z3e, ↓Z3c, ↓Z3d, Z5c, Z5b, Z5g, Z5e, Z5f, Z5d, ↓Z3y, ↓Z3z, ↓Z3x, Z3u, Z3w, Z3v, ↓Z7b, ↓Z7a, ↓Z7d, ↓Z7c, ↓Z1z, ↓Z1y, ↓Z21, ↓Z20, ↓Z6o, ↓Z6p, ↓Z4s, ↓Z4t, Z2p, ↓Z3o, ↓Z3p, Z3s, Z3n, Z3q, Z3r, Z5p, Z5q, Z5o, Z5n, Z5r, Z1n, Z1m, Z1l, Z1k, Z1j, Z1p, Z1g, Z1t, Z1o, Z1r, Z1s, Z1q, Z1h, Z1i, Z88, Z87, Z4d, Z4e, Z4f, Z5y, Z4b, Z4a, Z49, Z48, Z16, Z17, Z15, Z6a, Z6b, Z69, ↓Z68, ↓Z67, Z2q, Z22, Z23, Z25, Z24, Z60, Z5z, Z55, Z56, ↓Z1b, ↓Z1c, Z81, Z80, Z7x, Z84, Z7y, Z83, Z7z, Z82, Z86, Z85, Z5a, Z59, Z7w, Z7t, Z7v, Z7u, Z4r, Z4q, Z4p, Z62, Z61, Z6v, Z6y, Z6w, Z6x, Z40, Z41, Z74, Z72, Z73, Z6u, Z6t, Z2v, Z2u, Z5x, Z5w, Z2r, Z71, Z70, Z6d, Z6c, Z6k, Z6j, Z6l, Z6m, Z6i, Z6h, Z6g, Z6n, Z6f, Z6e, Z58, Z57, Z7p, Z7o, Z7q, Z7r, Z7n, Z7m, Z7l, Z7s, Z7k, Z7j, Z7h, Z7i, Z54, Z53, Z5m, Z11, Z4y, Z4z, Z4x, Z51, Z4w, Z4v, Z4u, Z50, Z12, Z75, Z76, Z43, Z42, Z4o, Z4n, Z4l, Z4m, Z19, Z18, Z29, Z2b, Z2a, Z28, Z2c, Z27, Z26, Z5t, Z3t, Z6r, ↓Z6s, ↓Z6q, Z2t, Z47, Z44, Z45, Z46, Z3m, Z3k, Z3l, Z3j, Z1v, Z1u, Z1w, Z1x, List.any_cons, List.any_nil, Bool.or_true, Bool.true_or, Bool.or_false, Bool.false_or, Bool.and_false, Bool.false_and, Nat.reduceBEq, Z5k, Z5j, Z5l, Z3f, ↓Z39, ↓Z3b, ↓Z3a, Z4i, Z4h, Z4g, Z5s, Nat.reduceLeDiff, Int.reduceLT, Int.reduceLE, Int.reduceAdd, Int.reduceToNat, Int.reduceNeg, Int.cast_ofNat_Int, Nat.reduceLT, List.drop_succ_cons, List.take_succ_cons, List.singleton_append, Nat.zero_add, List.set_cons_zero, List.set_cons_succ, List.drop_nil, List.take_nil, Option.map_some, Option.map_none, Option.getD_some, Option.getD_none, Option.bind_some, List.cons_append, List.nil_append, List.append_nil, List.map_cons, List.map_nil, List.range_zero, List.take_zero, List.flatten_nil, List.filter_nil, List.length_nil, List.length_cons, List.drop_zero, List.not_mem_nil, List.mem_cons, Bool.true_eq_false, Bool.false_eq_true, ↓reduceIte, Nat.reduceEqDiff, Nat.reduceAdd, List.getElem?_toArray, List.toList_toArray, List.getElem?_cons_zero, List.getElem?_cons_succ, decide_eq_true_eq, Z52, beq_self_eq_true, beq_true, decide_true, decide_false, Bool.not_true, Bool.not_false, true_and, and_true, or_false, false_or, Bool.and_eq_true, Bool.and_true, Bool.true_and, reduceCtorEq, not_false_eq_true, h0, h1, h2, h11, h12, h13, ho, T34, P34, zeroX, U28, U3, len_row, ia_row a k c1, ld_rowx a k c1, Int.ofNat_lt, Int.ofNat_le, c1, c3, hw, rv68, Tryd.f68]
        refine an_int ?_
        rw [ht, drop_getD c1, List.drop_eq_nil_of_le c3, ords_cn]
    · by_cases c2 : a.length < c.length
      · simp -implicitDefEqProofs only [Z2i, Z2n, Z2g, Z2h, Z2k, Z2l, Z2m, Z2j, Z2f, Z2d, Z2e, Z3i, Z3h, Z3g, Nat.zero_mul, Nat.reduceMul, Z4k, Z13, Z14, List.length_map, Z35, Z34, Z37, Z33, Z36, Z31, Z38, Z32, Z30, Z2z, Tk.nm.injEq, Tk.cell.injEq, false_and, and_false, Z2o, Z4j, Nat.le_add_right, Z5h, Z5i, Z6z, Nat.le_refl, Z5v, Z5u, Z2s, ↓Zx, ↓Zs, ↓Zt, ↓Zw, ↓Zy, ↓Zu, ↓Zv, ↓Zz, ↓Z10, ↓Zl, ↓Z2, ↓Zo, ↓Z3, ↓Zr, ↓Zg, ↓Zc, ↓Zb, ↓Ze, ↓Zd, ↓Zp, ↓Z9, ↓Za, ↓Zm, ↓Zi, ↓Z5, ↓Z6, ↓Zf, ↓Z1, ↓Z7, ↓Z8, ↓Z0, ↓Z4, ↓Zq, ↓Zh, ↓Zk, ↓Zj, ↓Zn, ↓Z64, ↓Z66, ↓Z63, ↓Z65, ↓Z7f, ↓Z7g, ↓Z7e, ↓Z2x, ↓Z2y, ↓Z2w, ↓Z1e, ↓Z1f, ↓Z1d, Z4c, Z1a, ↓Z8a, ↓Z8b, ↓Z89, ↓Z78, ↓Z79, ↓Z77, ↓Z3e, ↓Z3c, ↓Z3d, Z5c, Z5b, Z5g, Z5e, Z5f, Z5d, ↓Z3y, ↓Z3z, ↓Z3x, Z3u, Z3w, Z3v, ↓Z7b, ↓Z7a, ↓Z7d, ↓Z7c, ↓Z1z, ↓Z1y, ↓Z21, ↓Z20, ↓Z6o, ↓Z6p, ↓Z4s, ↓Z4t, Z2p, ↓Z3o, ↓Z3p, Z3s, Z3n, Z3q, Z3r, Z5p, Z5q, Z5o, Z5n, Z5r, Z1n, Z1m, Z1l, Z1k, Z1j, Z1p, Z1g, Z1t, Z1o, Z1r, Z1s, Z1q, Z1h, Z1i, Z88, Z87, Z4d, Z4e, Z4f, Z5y, Z4b, Z4a, Z49, Z48, Z16, Z17, Z15, Z6a, Z6b, Z69, ↓Z68, ↓Z67, Z2q, Z22, Z23, Z25, Z24, Z60, Z5z, Z55, Z56, ↓Z1b, ↓Z1c, Z81, Z80, Z7x, Z84, Z7y, Z83, Z7z, Z82, Z86, Z85, Z5a, Z59, Z7w, Z7t, Z7v, Z7u, Z4r, Z4q, Z4p, Z62, Z61, Z6v, Z6y, Z6w, Z6x, Z40, Z41, Z74, Z72, Z73, Z6u, Z6t, Z2v, Z2u, Z5x, Z5w, Z2r, Z71, Z70, Z6d, Z6c, Z6k, Z6j, Z6l, Z6m, Z6i, Z6h, Z6g, Z6n, Z6f, Z6e, Z58, Z57, Z7p, Z7o, Z7q, Z7r, Z7n, Z7m, Z7l, Z7s, Z7k, Z7j, Z7h, Z7i, Z54, Z53, Z5m, Z11, Z4y, Z4z, Z4x, Z51, Z4w, Z4v, Z4u, Z50, Z12, Z75, Z76, Z43, Z42, Z4o, Z4n, Z4l, Z4m, Z19, Z18, Z29, Z2b, Z2a, Z28, Z2c, Z27, Z26, Z5t, Z3t, Z6r, ↓Z6s, ↓Z6q, Z2t, Z47, Z44, Z45, Z46, Z3m, Z3k, Z3l, Z3j, Z1v, Z1u, Z1w, Z1x, List.any_cons, List.any_nil, Bool.or_true, Bool.true_or, Bool.or_false, Bool.false_or, Bool.and_false, Bool.false_and, Nat.reduceBEq, Z5k, Z5j, Z5l, Z3f, ↓Z39, ↓Z3b, ↓Z3a, Z4i, Z4h, Z4g, Z5s, Nat.reduceLeDiff, Int.reduceLT, Int.reduceLE, Int.reduceAdd, Int.reduceToNat, Int.reduceNeg, Int.cast_ofNat_Int, Nat.reduceLT, List.drop_succ_cons, List.take_succ_cons, List.singleton_append, Nat.zero_add, List.set_cons_zero, List.set_cons_succ, List.drop_nil, List.take_nil, Option.map_some, Option.map_none, Option.getD_some, Option.getD_none, Option.bind_some, List.cons_append, List.nil_append, List.append_nil, List.map_cons, List.map_nil, List.range_zero, List.take_zero, List.flatten_nil, List.filter_nil, List.length_nil, List.length_cons, List.drop_zero, List.not_mem_nil, List.mem_cons, Bool.true_eq_false, Bool.false_eq_true, ↓reduceIte, Nat.reduceEqDiff, Nat.reduceAdd, List.getElem?_toArray, List.toList_toArray, List.getElem?_cons_zero, List.getElem?_cons_succ, decide_eq_true_eq, Z52, beq_self_eq_true, beq_true, decide_true, decide_false, Bool.not_true, Bool.not_false, true_and, and_true, or_false, false_or, Bool.and_eq_true, Bool.and_true, Bool.true_and, reduceCtorEq, not_false_eq_true, h0, h1, h2, h11, h12, h13, ho, U28, U3, len_row, Int.ofNat_lt, c1, c2, rv68, Tryd.f68]
        refine an_int ?_
        rw [ht, List.drop_eq_nil_of_le (by omega : a.length ≤ k), drop_getD (by omega : k < c.length), ords_nc]
      · simp -implicitDefEqProofs only [Z2i, Z2n, Z2g, Z2h, Z2k, Z2l, Z2m, Z2j, Z2f, Z2d, Z2e, Z3i, Z3h, Z3g, Nat.zero_mul, Nat.reduceMul, Z4k, Z13, Z14, List.length_map, Z35, Z34, Z37, Z33, Z36, Z31, Z38, Z32, Z30, Z2z, Tk.nm.injEq, Tk.cell.injEq, false_and, and_false, Z2o, Z4j, Nat.le_add_right, Z5h, Z5i, Z6z, Nat.le_refl, Z5v, Z5u, Z2s, ↓Zx, ↓Zs, ↓Zt, ↓Zw, ↓Zy, ↓Zu, ↓Zv, ↓Zz, ↓Z10, ↓Zl, ↓Z2, ↓Zo, ↓Z3, ↓Zr, ↓Zg, ↓Zc, ↓Zb, ↓Ze, ↓Zd, ↓Zp, ↓Z9, ↓Za, ↓Zm, ↓Zi, ↓Z5, ↓Z6, ↓Zf, ↓Z1, ↓Z7, ↓Z8, ↓Z0, ↓Z4, ↓Zq, ↓Zh, ↓Zk, ↓Zj, ↓Zn, ↓Z64, ↓Z66, ↓Z63, ↓Z65, ↓Z7f, ↓Z7g, ↓Z7e, ↓Z2x, ↓Z2y, ↓Z2w, ↓Z1e, ↓Z1f, ↓Z1d, Z4c, Z1a, ↓Z8a, ↓Z8b, ↓Z89, ↓Z78, ↓Z79, ↓Z77, ↓Z3e, ↓Z3c, ↓Z3d, Z5c, Z5b, Z5g, Z5e, Z5f, Z5d, ↓Z3y, ↓Z3z, ↓Z3x, Z3u, Z3w, Z3v, ↓Z7b, ↓Z7a, ↓Z7d, ↓Z7c, ↓Z1z, ↓Z1y, ↓Z21, ↓Z20, ↓Z6o, ↓Z6p, ↓Z4s, ↓Z4t, Z2p, ↓Z3o, ↓Z3p, Z3s, Z3n, Z3q, Z3r, Z5p, Z5q, Z5o, Z5n, Z5r, Z1n, Z1m, Z1l, Z1k, Z1j, Z1p, Z1g, Z1t, Z1o, Z1r, Z1s, Z1q, Z1h, Z1i, Z88, Z87, Z4d, Z4e, Z4f, Z5y, Z4b, Z4a, Z49, Z48, Z16, Z17, Z15, Z6a, Z6b, Z69, ↓Z68, ↓Z67, Z2q, Z22, Z23, Z25, Z24, Z60, Z5z, Z55, Z56, ↓Z1b, ↓Z1c, Z81, Z80, Z7x, Z84, Z7y, Z83, Z7z, Z82, Z86, Z85, Z5a, Z59, Z7w, Z7t, Z7v, Z7u, Z4r, Z4q, Z4p, Z62, Z61, Z6v, Z6y, Z6w, Z6x, Z40, Z41, Z74, Z72, Z73, Z6u, Z6t, Z2v, Z2u, Z5x, Z5w, Z2r, Z71, Z70, Z6d, Z6c, Z6k, Z6j, Z6l, Z6m, Z6i, Z6h, Z6g, Z6n, Z6f, Z6e, Z58, Z57, Z7p, Z7o, Z7q, Z7r, Z7n, Z7m, Z7l, Z7s, Z7k, Z7j, Z7h, Z7i, Z54, Z53, Z5m, Z11, Z4y, Z4z, Z4x, Z51, Z4w, Z4v, Z4u, Z50, Z12, Z75, Z76, Z43, Z42, Z4o, Z4n, Z4l, Z4m, Z19, Z18, Z29, Z2b, Z2a, Z28, Z2c, Z27, Z26, Z5t, Z3t, Z6r, ↓Z6s, ↓Z6q, Z2t, Z47, Z44, Z45, Z46, Z3m, Z3k, Z3l, Z3j, Z1v, Z1u, Z1w, Z1x, List.any_cons, List.any_nil, Bool.or_true, Bool.true_or, Bool.or_false, Bool.false_or, Bool.and_false, Bool.false_and, Nat.reduceBEq, Z5k, Z5j, Z5l, Z3f, ↓Z39, ↓Z3b, ↓Z3a, Z4i, Z4h, Z4g, Z5s, Nat.reduceLeDiff, Int.reduceLT, Int.reduceLE, Int.reduceAdd, Int.reduceToNat, Int.reduceNeg, Int.cast_ofNat_Int, Nat.reduceLT, List.drop_succ_cons, List.take_succ_cons, List.singleton_append, Nat.zero_add, List.set_cons_zero, List.set_cons_succ, List.drop_nil, List.take_nil, Option.map_some, Option.map_none, Option.getD_some, Option.getD_none, Option.bind_some, List.cons_append, List.nil_append, List.append_nil, List.map_cons, List.map_nil, List.range_zero, List.take_zero, List.flatten_nil, List.filter_nil, List.length_nil, List.length_cons, List.drop_zero, List.not_mem_nil, List.mem_cons, Bool.true_eq_false, Bool.false_eq_true, ↓reduceIte, Nat.reduceEqDiff, Nat.reduceAdd, List.getElem?_toArray, List.toList_toArray, List.getElem?_cons_zero, List.getElem?_cons_succ, decide_eq_true_eq, Z52, beq_self_eq_true, beq_true, decide_true, decide_false, Bool.not_true, Bool.not_false, true_and, and_true, or_false, false_or, Bool.and_eq_true, Bool.and_true, Bool.true_and, reduceCtorEq, not_false_eq_true, h0, h1, h2, h11, h12, h13, ho, U28, U3, len_row, Int.ofNat_lt, c1, c2, rv68, Tryd.f68]
        refine an_int ?_
        rw [ht, List.drop_eq_nil_of_le (by omega : a.length ≤ k), List.drop_eq_nil_of_le (by omega : c.length ≤ k), ords_nn]
  · exact ⟨0, [], by omega, by omega, by omega, by simp -implicitDefEqProofs only [Z2i, Z2n, Z2g, Z2h, Z2k, Z2l, Z2m, Z2j, Z2f, Z2d, Z2e, Z3i, Z3h, Z3g, Nat.zero_mul, Nat.reduceMul, Z4k, Z13, Z14, List.length_map, Z35, Z34, Z37, Z33, Z36, Z31, Z38, Z32, Z30, Z2z, Tk.nm.injEq, Tk.cell.injEq, false_and, and_false, Z2o, Z4j, Nat.le_add_right, Z5h, Z5i, Z6z, Nat.le_refl, Z5v, Z5u, Z2s, ↓Zx, ↓Zs, ↓Zt, ↓Zw, ↓Zy, ↓Zu, ↓Zv, ↓Zz, ↓Z10, ↓Zl, ↓Z2, ↓Zo, ↓Z3, ↓Zr, ↓Zg, ↓Zc, ↓Zb, ↓Ze, ↓Zd, ↓Zp, ↓Z9, ↓Za, ↓Zm, ↓Zi, ↓Z5, ↓Z6, ↓Zf, ↓Z1, ↓Z7, ↓Z8, ↓Z0, ↓Z4, ↓Zq, ↓Zh, ↓Zk, ↓Zj, ↓Zn, ↓Z64, ↓Z66, ↓Z63, ↓Z65, ↓Z7f, ↓Z7g, ↓Z7e, ↓Z2x, ↓Z2y, ↓Z2w, ↓Z1e, ↓Z1f, ↓Z1d, Z4c, Z1a, ↓Z8a, ↓Z8b, ↓Z89, ↓Z78, ↓Z79, ↓Z77, ↓Z3e, ↓Z3c, ↓Z3d, Z5c, Z5b, Z5g, Z5e, Z5f, Z5d, ↓Z3y, ↓Z3z, ↓Z3x, Z3u, Z3w, Z3v, ↓Z7b, ↓Z7a, ↓Z7d, ↓Z7c, ↓Z1z, ↓Z1y, ↓Z21, ↓Z20, ↓Z6o, ↓Z6p, ↓Z4s, ↓Z4t, Z2p, ↓Z3o, ↓Z3p, Z3s, Z3n, Z3q, Z3r, Z5p, Z5q, Z5o, Z5n, Z5r, Z1n, Z1m, Z1l, Z1k, Z1j, Z1p, Z1g, Z1t, Z1o, Z1r, Z1s, Z1q, Z1h, Z1i, Z88, Z87, Z4d, Z4e, Z4f, Z5y, Z4b, Z4a, Z49, Z48, Z16, Z17, Z15, Z6a, Z6b, Z69, ↓Z68, ↓Z67, Z2q, Z22, Z23, Z25, Z24, Z60, Z5z, Z55, Z56, ↓Z1b, ↓Z1c, Z81, Z80, Z7x, Z84, Z7y, Z83, Z7z, Z82, Z86, Z85, Z5a, Z59, Z7w, Z7t, Z7v, Z7u, Z4r, Z4q, Z4p, Z62, Z61, Z6v, Z6y, Z6w, Z6x, Z40, Z41, Z74, Z72, Z73, Z6u, Z6t, Z2v, Z2u, Z5x, Z5w, Z2r, Z71, Z70, Z6d, Z6c, Z6k, Z6j, Z6l, Z6m, Z6i, Z6h, Z6g, Z6n, Z6f, Z6e, Z58, Z57, Z7p, Z7o, Z7q, Z7r, Z7n, Z7m, Z7l, Z7s, Z7k, Z7j, Z7h, Z7i, Z54, Z53, Z5m, Z11, Z4y, Z4z, Z4x, Z51, Z4w, Z4v, Z4u, Z50, Z12, Z75, Z76, Z43, Z42, Z4o, Z4n, Z4l, Z4m, Z19, Z18, Z29, Z2b, Z2a, Z28, Z2c, Z27, Z26, Z5t, Z3t, Z6r, ↓Z6s, ↓Z6q, Z2t, Z47, Z44, Z45, Z46, Z3m, Z3k, Z3l, Z3j, Z1v, Z1u, Z1w, Z1x, List.any_cons, List.any_nil, Bool.or_true, Bool.true_or, Bool.or_false, Bool.false_or, Bool.and_false, Bool.false_and, Nat.reduceBEq, Z5k, Z5j, Z5l, Z3f, ↓Z39, ↓Z3b, ↓Z3a, Z4i, Z4h, Z4g, Z5s, Nat.reduceLeDiff, Int.reduceLT, Int.reduceLE, Int.reduceAdd, Int.reduceToNat, Int.reduceNeg, Int.cast_ofNat_Int, Nat.reduceLT, List.drop_succ_cons, List.take_succ_cons, List.singleton_append, Nat.zero_add, List.set_cons_zero, List.set_cons_succ, List.drop_nil, List.take_nil, Option.map_some, Option.map_none, Option.getD_some, Option.getD_none, Option.bind_some, List.cons_append, List.nil_append, List.append_nil, List.map_cons, List.map_nil, List.range_zero, List.take_zero, List.flatten_nil, List.filter_nil, List.length_nil, List.length_cons, List.drop_zero, List.not_mem_nil, List.mem_cons, Bool.true_eq_false, Bool.false_eq_true, ↓reduceIte, Nat.reduceEqDiff, Nat.reduceAdd, List.getElem?_toArray, List.toList_toArray, List.getElem?_cons_zero, List.getElem?_cons_succ, decide_eq_true_eq, Z52, beq_self_eq_true, beq_true, decide_true, decide_false, Bool.not_true, Bool.not_false, true_and, and_true, or_false, false_or, Bool.and_eq_true, Bool.and_true, Bool.true_and, reduceCtorEq, not_false_eq_true], by simp -implicitDefEqProofs only [Z2i, Z2n, Z2g, Z2h, Z2k, Z2l, Z2m, Z2j, Z2f, Z2d, Z2e, Z3i, Z3h, Z3g, Nat.zero_mul, Nat.reduceMul, Z4k, Z13, Z14, List.length_map, Z35, Z34, Z37, Z33, Z36, Z31, Z38, Z32, Z30, Z2z, Tk.nm.injEq, Tk.cell.injEq, false_and, and_false, Z2o, Z4j, Nat.le_add_right, Z5h, Z5i, Z6z, Nat.le_refl, Z5v, Z5u, Z2s, ↓Zx, ↓Zs, ↓Zt, ↓Zw, ↓Zy, ↓Zu, ↓Zv, ↓Zz, ↓Z10, ↓Zl, ↓Z2, ↓Zo, ↓Z3, ↓Zr, ↓Zg, ↓Zc, ↓Zb, ↓Ze, ↓Zd, ↓Zp, ↓Z9, ↓Za, ↓Zm, ↓Zi, ↓Z5, ↓Z6, ↓Zf, ↓Z1, ↓Z7, ↓Z8, ↓Z0, ↓Z4, ↓Zq, ↓Zh, ↓Zk, ↓Zj, ↓Zn, ↓Z64, ↓Z66, ↓Z63, ↓Z65, ↓Z7f, ↓Z7g, ↓Z7e, ↓Z2x, ↓Z2y, ↓Z2w, ↓Z1e, ↓Z1f, ↓Z1d, Z4c, Z1a, ↓Z8a, ↓Z8b, ↓Z89, ↓Z78, ↓Z79, ↓Z77, ↓Z3e, ↓Z3c, ↓Z3d, Z5c, Z5b, Z5g, Z5e, Z5f, Z5d, ↓Z3y, ↓Z3z, ↓Z3x, Z3u, Z3w, Z3v, ↓Z7b, ↓Z7a, ↓Z7d, ↓Z7c, ↓Z1z, ↓Z1y, ↓Z21, ↓Z20, ↓Z6o, ↓Z6p, ↓Z4s, ↓Z4t, Z2p, ↓Z3o, ↓Z3p, Z3s, Z3n, Z3q, Z3r, Z5p, Z5q, Z5o, Z5n, Z5r, Z1n, Z1m, Z1l, Z1k, Z1j, Z1p, Z1g, Z1t, Z1o, Z1r, Z1s, Z1q, Z1h, Z1i, Z88, Z87, Z4d, Z4e, Z4f, Z5y, Z4b, Z4a, Z49, Z48, Z16, Z17, Z15, Z6a, Z6b, Z69, ↓Z68, ↓Z67, Z2q, Z22, Z23, Z25, Z24, Z60, Z5z, Z55, Z56, ↓Z1b, ↓Z1c, Z81, Z80, Z7x, Z84, Z7y, Z83, Z7z, Z82, Z86, Z85, Z5a, Z59, Z7w, Z7t, Z7v, Z7u, Z4r, Z4q, Z4p, Z62, Z61, Z6v, Z6y, Z6w, Z6x, Z40, Z41, Z74, Z72, Z73, Z6u, Z6t, Z2v, Z2u, Z5x, Z5w, Z2r, Z71, Z70, Z6d, Z6c, Z6k, Z6j, Z6l, Z6m, Z6i, Z6h, Z6g, Z6n, Z6f, Z6e, Z58, Z57, Z7p, Z7o, Z7q, Z7r, Z7n, Z7m, Z7l, Z7s, Z7k, Z7j, Z7h, Z7i, Z54, Z53, Z5m, Z11, Z4y, Z4z, Z4x, Z51, Z4w, Z4v, Z4u, Z50, Z12, Z75, Z76, Z43, Z42, Z4o, Z4n, Z4l, Z4m, Z19, Z18, Z29, Z2b, Z2a, Z28, Z2c, Z27, Z26, Z5t, Z3t, Z6r, ↓Z6s, ↓Z6q, Z2t, Z47, Z44, Z45, Z46, Z3m, Z3k, Z3l, Z3j, Z1v, Z1u, Z1w, Z1x, List.any_cons, List.any_nil, Bool.or_true, Bool.true_or, Bool.or_false, Bool.false_or, Bool.and_false, Bool.false_and, Nat.reduceBEq, Z5k, Z5j, Z5l, Z3f, ↓Z39, ↓Z3b, ↓Z3a, Z4i, Z4h, Z4g, Z5s, Nat.reduceLeDiff, Int.reduceLT, Int.reduceLE, Int.reduceAdd, Int.reduceToNat, Int.reduceNeg, Int.cast_ofNat_Int, Nat.reduceLT, List.drop_succ_cons, List.take_succ_cons, List.singleton_append, Nat.zero_add, List.set_cons_zero, List.set_cons_succ, List.drop_nil, List.take_nil, Option.map_some, Option.map_none, Option.getD_some, Option.getD_none, Option.bind_some, List.cons_append, List.nil_append, List.append_nil, List.map_cons, List.map_nil, List.range_zero, List.take_zero, List.flatten_nil, List.filter_nil, List.length_nil, List.length_cons, List.drop_zero, List.not_mem_nil, List.mem_cons, Bool.true_eq_false, Bool.false_eq_true, ↓reduceIte, Nat.reduceEqDiff, Nat.reduceAdd, List.getElem?_toArray, List.toList_toArray, List.getElem?_cons_zero, List.getElem?_cons_succ, decide_eq_true_eq, Z52, beq_self_eq_true, beq_true, decide_true, decide_false, Bool.not_true, Bool.not_false, true_and, and_true, or_false, false_or, Bool.and_eq_true, Bool.and_true, Bool.true_and, reduceCtorEq, not_false_eq_true], by simp -implicitDefEqProofs only [Z2i, Z2n, Z2g, Z2h, Z2k, Z2l, Z2m, Z2j, Z2f, Z2d, Z2e, Z3i, Z3h, Z3g, Nat.zero_mul, Nat.reduceMul, Z4k, Z13, Z14, List.length_map, Z35, Z34, Z37, Z33, Z36, Z31, Z38, Z32, Z30, Z2z, Tk.nm.injEq, Tk.cell.injEq, false_and, and_false, Z2o, Z4j, Nat.le_add_right, Z5h, Z5i, Z6z, Nat.le_refl, Z5v, Z5u, Z2s, ↓Zx, ↓Zs, ↓Zt, ↓Zw, ↓Zy, ↓Zu, ↓Zv, ↓Zz, ↓Z10, ↓Zl, ↓Z2, ↓Zo, ↓Z3, ↓Zr, ↓Zg, ↓Zc, ↓Zb, ↓Ze, ↓Zd, ↓Zp, ↓Z9, ↓Za, ↓Zm, ↓Zi, ↓Z5, ↓Z6, ↓Zf, ↓Z1, ↓Z7, ↓Z8, ↓Z0, ↓Z4, ↓Zq, ↓Zh, ↓Zk, ↓Zj, ↓Zn, ↓Z64, ↓Z66, ↓Z63, ↓Z65, ↓Z7f, ↓Z7g, ↓Z7e, ↓Z2x, ↓Z2y, ↓Z2w, ↓Z1e, ↓Z1f, ↓Z1d, Z4c, Z1a, ↓Z8a, ↓Z8b, ↓Z89, ↓Z78, ↓Z79, ↓Z77, ↓Z3e, ↓Z3c, ↓Z3d, Z5c, Z5b, Z5g, Z5e, Z5f, Z5d, ↓Z3y, ↓Z3z, ↓Z3x, Z3u, Z3w, Z3v, ↓Z7b, ↓Z7a, ↓Z7d, ↓Z7c, ↓Z1z, ↓Z1y, ↓Z21, ↓Z20, ↓Z6o, ↓Z6p, ↓Z4s, ↓Z4t, Z2p, ↓Z3o, ↓Z3p, Z3s, Z3n, Z3q, Z3r, Z5p, Z5q, Z5o, Z5n, Z5r, Z1n, Z1m, Z1l, Z1k, Z1j, Z1p, Z1g, Z1t, Z1o, Z1r, Z1s, Z1q, Z1h, Z1i, Z88, Z87, Z4d, Z4e, Z4f, Z5y, Z4b, Z4a, Z49, Z48, Z16, Z17, Z15, Z6a, Z6b, Z69, ↓Z68, ↓Z67, Z2q, Z22, Z23, Z25, Z24, Z60, Z5z, Z55, Z56, ↓Z1b, ↓Z1c, Z81, Z80, Z7x, Z84, Z7y, Z83, Z7z, Z82, Z86, Z85, Z5a, Z59, Z7w, Z7t, Z7v, Z7u, Z4r, Z4q, Z4p, Z62, Z61, Z6v, Z6y, Z6w, Z6x, Z40, Z41, Z74, Z72, Z73, Z6u, Z6t, Z2v, Z2u, Z5x, Z5w, Z2r, Z71, Z70, Z6d, Z6c, Z6k, Z6j, Z6l, Z6m, Z6i, Z6h, Z6g, Z6n, Z6f, Z6e, Z58, Z57, Z7p, Z7o, Z7q, Z7r, Z7n, Z7m, Z7l, Z7s, Z7k, Z7j, Z7h, Z7i, Z54, Z53, Z5m, Z11, Z4y, Z4z, Z4x, Z51, Z4w, Z4v, Z4u, Z50, Z12, Z75, Z76, Z43, Z42, Z4o, Z4n, Z4l, Z4m, Z19, Z18, Z29, Z2b, Z2a, Z28, Z2c, Z27, Z26, Z5t, Z3t, Z6r, ↓Z6s, ↓Z6q, Z2t, Z47, Z44, Z45, Z46, Z3m, Z3k, Z3l, Z3j, Z1v, Z1u, Z1w, Z1x, List.any_cons, List.any_nil, Bool.or_true, Bool.true_or, Bool.or_false, Bool.false_or, Bool.and_false, Bool.false_and, Nat.reduceBEq, Z5k, Z5j, Z5l, Z3f, ↓Z39, ↓Z3b, ↓Z3a, Z4i, Z4h, Z4g, Z5s, Nat.reduceLeDiff, Int.reduceLT, Int.reduceLE, Int.reduceAdd, Int.reduceToNat, Int.reduceNeg, Int.cast_ofNat_Int, Nat.reduceLT, List.drop_succ_cons, List.take_succ_cons, List.singleton_append, Nat.zero_add, List.set_cons_zero, List.set_cons_succ, List.drop_nil, List.take_nil, Option.map_some, Option.map_none, Option.getD_some, Option.getD_none, Option.bind_some, List.cons_append, List.nil_append, List.append_nil, List.map_cons, List.map_nil, List.range_zero, List.take_zero, List.flatten_nil, List.filter_nil, List.length_nil, List.length_cons, List.drop_zero, List.not_mem_nil, List.mem_cons, Bool.true_eq_false, Bool.false_eq_true, ↓reduceIte, Nat.reduceEqDiff, Nat.reduceAdd, List.getElem?_toArray, List.toList_toArray, List.getElem?_cons_zero, List.getElem?_cons_succ, decide_eq_true_eq, Z52, beq_self_eq_true, beq_true, decide_true, decide_false, Bool.not_true, Bool.not_false, true_and, and_true, or_false, false_or, Bool.and_eq_true, Bool.and_true, Bool.true_and, reduceCtorEq, not_false_eq_true], by simp -implicitDefEqProofs only [Z2i, Z2n, Z2g, Z2h, Z2k, Z2l, Z2m, Z2j, Z2f, Z2d, Z2e, Z3i, Z3h, Z3g, Nat.zero_mul, Nat.reduceMul, Z4k, Z13, Z14, List.length_map, Z35, Z34, Z37, Z33, Z36, Z31, Z38, Z32, Z30, Z2z, Tk.nm.injEq, Tk.cell.injEq, false_and, and_false, Z2o, Z4j, Nat.le_add_right, Z5h, Z5i, Z6z, Nat.le_refl, Z5v, Z5u, Z2s, ↓Zx, ↓Zs, ↓Zt, ↓Zw, ↓Zy, ↓Zu, ↓Zv, ↓Zz, ↓Z10, ↓Zl, ↓Z2, ↓Zo, ↓Z3, ↓Zr, ↓Zg, ↓Zc, ↓Zb, ↓Ze, ↓Zd, ↓Zp, ↓Z9, ↓Za, ↓Zm, ↓Zi, ↓Z5, ↓Z6, ↓Zf, ↓Z1, ↓Z7, ↓Z8, ↓Z0, ↓Z4, ↓Zq, ↓Zh, ↓Zk, ↓Zj, ↓Zn, ↓Z64, ↓Z66, ↓Z63, ↓Z65, ↓Z7f, ↓Z7g, ↓Z7e, ↓Z2x, ↓Z2y, ↓Z2w, ↓Z1e, ↓Z1f, ↓Z1d, Z4c, Z1a, ↓Z8a, ↓Z8b, ↓Z89, ↓Z78, ↓Z79, ↓Z77, ↓Z3e, ↓Z3c, ↓Z3d, Z5c, Z5b, Z5g, Z5e, Z5f, Z5d, ↓Z3y, ↓Z3z, ↓Z3x, Z3u, Z3w, Z3v, ↓Z7b, ↓Z7a, ↓Z7d, ↓Z7c, ↓Z1z, ↓Z1y, ↓Z21, ↓Z20, ↓Z6o, ↓Z6p, ↓Z4s, ↓Z4t, Z2p, ↓Z3o, ↓Z3p, Z3s, Z3n, Z3q, Z3r, Z5p, Z5q, Z5o, Z5n, Z5r, Z1n, Z1m, Z1l, Z1k, Z1j, Z1p, Z1g, Z1t, Z1o, Z1r, Z1s, Z1q, Z1h, Z1i, Z88, Z87, Z4d, Z4e, Z4f, Z5y, Z4b, Z4a, Z49, Z48, Z16, Z17, Z15, Z6a, Z6b, Z69, ↓Z68, ↓Z67, Z2q, Z22, Z23, Z25, Z24, Z60, Z5z, Z55, Z56, ↓Z1b, ↓Z1c, Z81, Z80, Z7x, Z84, Z7y, Z83, Z7z, Z82, Z86, Z85, Z5a, Z59, Z7w, Z7t, Z7v, Z7u, Z4r, Z4q, Z4p, Z62, Z61, Z6v, Z6y, Z6w, Z6x, Z40, Z41, Z74, Z72, Z73, Z6u, Z6t, Z2v, Z2u, Z5x, Z5w, Z2r, Z71, Z70, Z6d, Z6c, Z6k, Z6j, Z6l, Z6m, Z6i, Z6h, Z6g, Z6n, Z6f, Z6e, Z58, Z57, Z7p, Z7o, Z7q, Z7r, Z7n, Z7m, Z7l, Z7s, Z7k, Z7j, Z7h, Z7i, Z54, Z53, Z5m, Z11, Z4y, Z4z, Z4x, Z51, Z4w, Z4v, Z4u, Z50, Z12, Z75, Z76, Z43, Z42, Z4o, Z4n, Z4l, Z4m, Z19, Z18, Z29, Z2b, Z2a, Z28, Z2c, Z27, Z26, Z5t, Z3t, Z6r, ↓Z6s, ↓Z6q, Z2t, Z47, Z44, Z45, Z46, Z3m, Z3k, Z3l, Z3j, Z1v, Z1u, Z1w, Z1x, List.any_cons, List.any_nil, Bool.or_true, Bool.true_or, Bool.or_false, Bool.false_or, Bool.and_false, Bool.false_and, Nat.reduceBEq, Z5k, Z5j, Z5l, Z3f, ↓Z39, ↓Z3b, ↓Z3a, Z4i, Z4h, Z4g, Z5s, Nat.reduceLeDiff, Int.reduceLT, Int.reduceLE, Int.reduceAdd, Int.reduceToNat, Int.reduceNeg, Int.cast_ofNat_Int, Nat.reduceLT, List.drop_succ_cons, List.take_succ_cons, List.singleton_append, Nat.zero_add, List.set_cons_zero, List.set_cons_succ, List.drop_nil, List.take_nil, Option.map_some, Option.map_none, Option.getD_some, Option.getD_none, Option.bind_some, List.cons_append, List.nil_append, List.append_nil, List.map_cons, List.map_nil, List.range_zero, List.take_zero, List.flatten_nil, List.filter_nil, List.length_nil, List.length_cons, List.drop_zero, List.not_mem_nil, List.mem_cons, Bool.true_eq_false, Bool.false_eq_true, ↓reduceIte, Nat.reduceEqDiff, Nat.reduceAdd, List.getElem?_toArray, List.toList_toArray, List.getElem?_cons_zero, List.getElem?_cons_succ, decide_eq_true_eq, Z52, beq_self_eq_true, beq_true, decide_true, decide_false, Bool.not_true, Bool.not_false, true_and, and_true, or_false, false_or, Bool.and_eq_true, Bool.and_true, Bool.true_and, reduceCtorEq, not_false_eq_true], by simp -implicitDefEqProofs only [Z2i, Z2n, Z2g, Z2h, Z2k, Z2l, Z2m, Z2j, Z2f, Z2d, Z2e, Z3i, Z3h, Z3g, Nat.zero_mul, Nat.reduceMul, Z4k, Z13, Z14, List.length_map, Z35, Z34, Z37, Z33, Z36, Z31, Z38, Z32, Z30, Z2z, Tk.nm.injEq, Tk.cell.injEq, false_and, and_false, Z2o, Z4j, Nat.le_add_right, Z5h, Z5i, Z6z, Nat.le_refl, Z5v, Z5u, Z2s, ↓Zx, ↓Zs, ↓Zt, ↓Zw, ↓Zy, ↓Zu, ↓Zv, ↓Zz, ↓Z10, ↓Zl, ↓Z2, ↓Zo, ↓Z3, ↓Zr, ↓Zg, ↓Zc, ↓Zb, ↓Ze, ↓Zd, ↓Zp, ↓Z9, ↓Za, ↓Zm, ↓Zi, ↓Z5, ↓Z6, ↓Zf, ↓Z1, ↓Z7, ↓Z8, ↓Z0, ↓Z4, ↓Zq, ↓Zh, ↓Zk, ↓Zj, ↓Zn, ↓Z64, ↓Z66, ↓Z63, ↓Z65, ↓Z7f, ↓Z7g, ↓Z7e, ↓Z2x, ↓Z2y, ↓Z2w, ↓Z1e, ↓Z1f, ↓Z1d, Z4c, Z1a, ↓Z8a, ↓Z8b, ↓Z89, ↓Z78, ↓Z79, ↓Z77, ↓Z3e, ↓Z3c, ↓Z3d, Z5c, Z5b, Z5g, Z5e, Z5f, Z5d, ↓Z3y, ↓Z3z, ↓Z3x, Z3u, Z3w, Z3v, ↓Z7b, ↓Z7a, ↓Z7d, ↓Z7c, ↓Z1z, ↓Z1y, ↓Z21, ↓Z20, ↓Z6o, ↓Z6p, ↓Z4s, ↓Z4t, Z2p, ↓Z3o, ↓Z3p, Z3s, Z3n, Z3q, Z3r, Z5p, Z5q, Z5o, Z5n, Z5r, Z1n, Z1m, Z1l, Z1k, Z1j, Z1p, Z1g, Z1t, Z1o, Z1r, Z1s, Z1q, Z1h, Z1i, Z88, Z87, Z4d, Z4e, Z4f, Z5y, Z4b, Z4a, Z49, Z48, Z16, Z17, Z15, Z6a, Z6b, Z69, ↓Z68, ↓Z67, Z2q, Z22, Z23, Z25, Z24, Z60, Z5z, Z55, Z56, ↓Z1b, ↓Z1c, Z81, Z80, Z7x, Z84, Z7y, Z83, Z7z, Z82, Z86, Z85, Z5a, Z59, Z7w, Z7t, Z7v, Z7u, Z4r, Z4q, Z4p, Z62, Z61, Z6v, Z6y, Z6w, Z6x, Z40, Z41, Z74, Z72, Z73, Z6u, Z6t, Z2v, Z2u, Z5x, Z5w, Z2r, Z71, Z70, Z6d, Z6c, Z6k, Z6j, Z6l, Z6m, Z6i, Z6h, Z6g, Z6n, Z6f, Z6e, Z58, Z57, Z7p, Z7o, Z7q, Z7r, Z7n, Z7m, Z7l, Z7s, Z7k, Z7j, Z7h, Z7i, Z54, Z53, Z5m, Z11, Z4y, Z4z, Z4x, Z51, Z4w, Z4v, Z4u, Z50, Z12, Z75, Z76, Z43, Z42, Z4o, Z4n, Z4l, Z4m, Z19, Z18, Z29, Z2b, Z2a, Z28, Z2c, Z27, Z26, Z5t, Z3t, Z6r, ↓Z6s, ↓Z6q, Z2t, Z47, Z44, Z45, Z46, Z3m, Z3k, Z3l, Z3j, Z1v, Z1u, Z1w, Z1x, List.any_cons, List.any_nil, Bool.or_true, Bool.true_or, Bool.or_false, Bool.false_or, Bool.and_false, Bool.false_and, Nat.reduceBEq, Z5k, Z5j, Z5l, Z3f, ↓Z39, ↓Z3b, ↓Z3a, Z4i, Z4h, Z4g, Z5s, Nat.reduceLeDiff, Int.reduceLT, Int.reduceLE, Int.reduceAdd, Int.reduceToNat, Int.reduceNeg, Int.cast_ofNat_Int, Nat.reduceLT, List.drop_succ_cons, List.take_succ_cons, List.singleton_append, Nat.zero_add, List.set_cons_zero, List.set_cons_succ, List.drop_nil, List.take_nil, Option.map_some, Option.map_none, Option.getD_some, Option.getD_none, Option.bind_some, List.cons_append, List.nil_append, List.append_nil, List.map_cons, List.map_nil, List.range_zero, List.take_zero, List.flatten_nil, List.filter_nil, List.length_nil, List.length_cons, List.drop_zero, List.not_mem_nil, List.mem_cons, Bool.true_eq_false, Bool.false_eq_true, ↓reduceIte, Nat.reduceEqDiff, Nat.reduceAdd, List.getElem?_toArray, List.toList_toArray, List.getElem?_cons_zero, List.getElem?_cons_succ, decide_eq_true_eq, Z52, beq_self_eq_true, beq_true, decide_true, decide_false, Bool.not_true, Bool.not_false, true_and, and_true, or_false, false_or, Bool.and_eq_true, Bool.and_true, Bool.true_and, reduceCtorEq, not_false_eq_true], by simp -implicitDefEqProofs only [Z2i, Z2n, Z2g, Z2h, Z2k, Z2l, Z2m, Z2j, Z2f, Z2d, Z2e, Z3i, Z3h, Z3g, Nat.zero_mul, Nat.reduceMul, Z4k, Z13, Z14, List.length_map, Z35, Z34, Z37, Z33, Z36, Z31, Z38, Z32, Z30, Z2z, Tk.nm.injEq, Tk.cell.injEq, false_and, and_false, Z2o, Z4j, Nat.le_add_right, Z5h, Z5i, Z6z, Nat.le_refl, Z5v, Z5u, Z2s, ↓Zx, ↓Zs, ↓Zt, ↓Zw, ↓Zy, ↓Zu, ↓Zv, ↓Zz, ↓Z10, ↓Zl, ↓Z2, ↓Zo, ↓Z3, ↓Zr, ↓Zg, ↓Zc, ↓Zb, ↓Ze, ↓Zd, ↓Zp, ↓Z9, ↓Za, ↓Zm, ↓Zi, ↓Z5, ↓Z6, ↓Zf, ↓Z1, ↓Z7, ↓Z8, ↓Z0, ↓Z4, ↓Zq, ↓Zh, ↓Zk, ↓Zj, ↓Zn, ↓Z64, ↓Z66, ↓Z63, ↓Z65, ↓Z7f, ↓Z7g, ↓Z7e, ↓Z2x, ↓Z2y, ↓Z2w, ↓Z1e, ↓Z1f, ↓Z1d, Z4c, Z1a, ↓Z8a, ↓Z8b, ↓Z89, ↓Z78, ↓Z79, ↓Z77, ↓Z3e, ↓Z3c, ↓Z3d, Z5c, Z5b, Z5g, Z5e, Z5f, Z5d, ↓Z3y, ↓Z3z, ↓Z3x, Z3u, Z3w, Z3v, ↓Z7b, ↓Z7a, ↓Z7d, ↓Z7c, ↓Z1z, ↓Z1y, ↓Z21, ↓Z20, ↓Z6o, ↓Z6p, ↓Z4s, ↓Z4t, Z2p, ↓Z3o, ↓Z3p, Z3s, Z3n, Z3q, Z3r, Z5p, Z5q, Z5o, Z5n, Z5r, Z1n, Z1m, Z1l, Z1k, Z1j, Z1p, Z1g, Z1t, Z1o, Z1r, Z1s, Z1q, Z1h, Z1i, Z88, Z87, Z4d, Z4e, Z4f, Z5y, Z4b, Z4a, Z49, Z48, Z16, Z17, Z15, Z6a, Z6b, Z69, ↓Z68, ↓Z67, Z2q, Z22, Z23, Z25, Z24, Z60, Z5z, Z55, Z56, ↓Z1b, ↓Z1c, Z81, Z80, Z7x, Z84, Z7y, Z83, Z7z, Z82, Z86, Z85, Z5a, Z59, Z7w, Z7t, Z7v, Z7u, Z4r, Z4q, Z4p, Z62, Z61, Z6v, Z6y, Z6w, Z6x, Z40, Z41, Z74, Z72, Z73, Z6u, Z6t, Z2v, Z2u, Z5x, Z5w, Z2r, Z71, Z70, Z6d, Z6c, Z6k, Z6j, Z6l, Z6m, Z6i, Z6h, Z6g, Z6n, Z6f, Z6e, Z58, Z57, Z7p, Z7o, Z7q, Z7r, Z7n, Z7m, Z7l, Z7s, Z7k, Z7j, Z7h, Z7i, Z54, Z53, Z5m, Z11, Z4y, Z4z, Z4x, Z51, Z4w, Z4v, Z4u, Z50, Z12, Z75, Z76, Z43, Z42, Z4o, Z4n, Z4l, Z4m, Z19, Z18, Z29, Z2b, Z2a, Z28, Z2c, Z27, Z26, Z5t, Z3t, Z6r, ↓Z6s, ↓Z6q, Z2t, Z47, Z44, Z45, Z46, Z3m, Z3k, Z3l, Z3j, Z1v, Z1u, Z1w, Z1x, List.any_cons, List.any_nil, Bool.or_true, Bool.true_or, Bool.or_false, Bool.false_or, Bool.and_false, Bool.false_and, Nat.reduceBEq, Z5k, Z5j, Z5l, Z3f, ↓Z39, ↓Z3b, ↓Z3a, Z4i, Z4h, Z4g, Z5s, Nat.reduceLeDiff, Int.reduceLT, Int.reduceLE, Int.reduceAdd, Int.reduceToNat, Int.reduceNeg, Int.cast_ofNat_Int, Nat.reduceLT, List.drop_succ_cons, List.take_succ_cons, List.singleton_append, Nat.zero_add, List.set_cons_zero, List.set_cons_succ, List.drop_nil, List.take_nil, Option.map_some, Option.map_none, Option.getD_some, Option.getD_none, Option.bind_some, List.cons_append, List.nil_append, List.append_nil, List.map_cons, List.map_nil, List.range_zero, List.take_zero, List.flatten_nil, List.filter_nil, List.length_nil, List.length_cons, List.drop_zero, List.not_mem_nil, List.mem_cons, Bool.true_eq_false, Bool.false_eq_true, ↓reduceIte, Nat.reduceEqDiff, Nat.reduceAdd, List.getElem?_toArray, List.toList_toArray, List.getElem?_cons_zero, List.getElem?_cons_succ, decide_eq_true_eq, Z52, beq_self_eq_true, beq_true, decide_true, decide_false, Bool.not_true, Bool.not_false, true_and, and_true, or_false, false_or, Bool.and_eq_true, Bool.and_true, Bool.true_and, reduceCtorEq, not_false_eq_true] <;> rfl, by simp -implicitDefEqProofs only [Z2i, Z2n, Z2g, Z2h, Z2k, Z2l, Z2m, Z2j, Z2f, Z2d, Z2e, Z3i, Z3h, Z3g, Nat.zero_mul, Nat.reduceMul, Z4k, Z13, Z14, List.length_map, Z35, Z34, Z37, Z33, Z36, Z31, Z38, Z32, Z30, Z2z, Tk.nm.injEq, Tk.cell.injEq, false_and, and_false, Z2o, Z4j, Nat.le_add_right, Z5h, Z5i, Z6z, Nat.le_refl, Z5v, Z5u, Z2s, ↓Zx, ↓Zs, ↓Zt, ↓Zw, ↓Zy, ↓Zu, ↓Zv, ↓Zz, ↓Z10, ↓Zl, ↓Z2, ↓Zo, ↓Z3, ↓Zr, ↓Zg, ↓Zc, ↓Zb, ↓Ze, ↓Zd, ↓Zp, ↓Z9, ↓Za, ↓Zm, ↓Zi, ↓Z5, ↓Z6, ↓Zf, ↓Z1, ↓Z7, ↓Z8, ↓Z0, ↓Z4, ↓Zq, ↓Zh, ↓Zk, ↓Zj, ↓Zn, ↓Z64, ↓Z66, ↓Z63, ↓Z65, ↓Z7f, ↓Z7g, ↓Z7e, ↓Z2x, ↓Z2y, ↓Z2w, ↓Z1e, ↓Z1f, ↓Z1d, Z4c, Z1a, ↓Z8a, ↓Z8b, ↓Z89, ↓Z78, ↓Z79, ↓Z77, ↓Z3e, ↓Z3c, ↓Z3d, Z5c, Z5b, Z5g, Z5e, Z5f, Z5d, ↓Z3y, ↓Z3z, ↓Z3x, Z3u, Z3w, Z3v, ↓Z7b, ↓Z7a, ↓Z7d, ↓Z7c, ↓Z1z, ↓Z1y, ↓Z21, ↓Z20, ↓Z6o, ↓Z6p, ↓Z4s, ↓Z4t, Z2p, ↓Z3o, ↓Z3p, Z3s, Z3n, Z3q, Z3r, Z5p, Z5q, Z5o, Z5n, Z5r, Z1n, Z1m, Z1l, Z1k, Z1j, Z1p, Z1g, Z1t, Z1o, Z1r, Z1s, Z1q, Z1h, Z1i, Z88, Z87, Z4d, Z4e, Z4f, Z5y, Z4b, Z4a, Z49, Z48, Z16, Z17, Z15, Z6a, Z6b, Z69, ↓Z68, ↓Z67, Z2q, Z22, Z23, Z25, Z24, Z60, Z5z, Z55, Z56, ↓Z1b, ↓Z1c, Z81, Z80, Z7x, Z84, Z7y, Z83, Z7z, Z82, Z86, Z85, Z5a, Z59, Z7w, Z7t, Z7v, Z7u, Z4r, Z4q, Z4p, Z62, Z61, Z6v, Z6y, Z6w, Z6x, Z40, Z41, Z74, Z72, Z73, Z6u, Z6t, Z2v, Z2u, Z5x, Z5w, Z2r, Z71, Z70, Z6d, Z6c, Z6k, Z6j, Z6l, Z6m, Z6i, Z6h, Z6g, Z6n, Z6f, Z6e, Z58, Z57, Z7p, Z7o, Z7q, Z7r, Z7n, Z7m, Z7l, Z7s, Z7k, Z7j, Z7h, Z7i, Z54, Z53, Z5m, Z11, Z4y, Z4z, Z4x, Z51, Z4w, Z4v, Z4u, Z50, Z12, Z75, Z76, Z43, Z42, Z4o, Z4n, Z4l, Z4m, Z19, Z18, Z29, Z2b, Z2a, Z28, Z2c, Z27, Z26, Z5t, Z3t, Z6r, ↓Z6s, ↓Z6q, Z2t, Z47, Z44, Z45, Z46, Z3m, Z3k, Z3l, Z3j, Z1v, Z1u, Z1w, Z1x, List.any_cons, List.any_nil, Bool.or_true, Bool.true_or, Bool.or_false, Bool.false_or, Bool.and_false, Bool.false_and, Nat.reduceBEq, Z5k, Z5j, Z5l, Z3f, ↓Z39, ↓Z3b, ↓Z3a, Z4i, Z4h, Z4g, Z5s, Nat.reduceLeDiff, Int.reduceLT, Int.reduceLE, Int.reduceAdd, Int.reduceToNat, Int.reduceNeg, Int.cast_ofNat_Int, Nat.reduceLT, List.drop_succ_cons, List.take_succ_cons, List.singleton_append, Nat.zero_add, List.set_cons_zero, List.set_cons_succ, List.drop_nil, List.take_nil, Option.map_some, Option.map_none, Option.getD_some, Option.getD_none, Option.bind_some, List.cons_append, List.nil_append, List.append_nil, List.map_cons, List.map_nil, List.range_zero, List.take_zero, List.flatten_nil, List.filter_nil, List.length_nil, List.length_cons, List.drop_zero, List.not_mem_nil, List.mem_cons, Bool.true_eq_false, Bool.false_eq_true, ↓reduceIte, Nat.reduceEqDiff, Nat.reduceAdd, List.getElem?_toArray, List.toList_toArray, List.getElem?_cons_zero, List.getElem?_cons_succ, decide_eq_true_eq, Z52, beq_self_eq_true, beq_true, decide_true, decide_false, Bool.not_true, Bool.not_false, true_and, and_true, or_false, false_or, Bool.and_eq_true, Bool.and_true, Bool.true_and, reduceCtorEq, not_false_eq_true], by simp⟩
theorem CompareFunc_k (a c : List V) (K : An → Prop) (la : a.length ≤ 1048576) (lc : c.length ≤ 1048576) : CallK Tryd.prog (prB b) 68 [.of (rowC a), .of (rowC c), .of (.fn 30 [])] [] K ↔ K ⟨false, [xint (ords a c)], []⟩ := Gives.k (CompareFunc_call a c la lc) K
theorem vaOrders_call (a c : List V) (la : a.length ≤ 1048576) (lc : c.length ≤ 1048576) : GB b 40 [.of (rowC a), .of (rowC c)] (xint (ords a c)) := by
  refine by_body rfl ok40 body40 ar40 rfl ?_
  simp -implicitDefEqProofs only [Tryd.f40, Z2i, Z2n, Z2g, Z2h, Z2k, Z2l, Z2m, Z2j, Z2f, Z2d, Z2e, Z3i, Z3h, Z3g, Nat.zero_mul, Nat.reduceMul, Z4k, Z13, Z14, List.length_map, Z35, Z34, Z37, Z33, Z36, Z31, Z38, Z32, Z30, Z2z, Tk.nm.injEq, Tk.cell.injEq, false_and, and_false, Z2o, Z4j, Nat.le_add_right, Z5h, Z5i, Z6z, Nat.le_refl, Z5v, Z5u, Z2s, ↓Zx, ↓Zs, ↓Zt, ↓Zw, ↓Zy, ↓Zu, ↓Zv, ↓Zz, ↓Z10, ↓Zl, ↓Z2, ↓Zo, ↓Z3, ↓Zr, ↓Zg, ↓Zc, ↓Zb, ↓Ze, ↓Zd, ↓Zp, ↓Z9, ↓Za, ↓Zm, ↓Zi, ↓Z5, ↓Z6, ↓Zf, ↓Z1, ↓Z7, ↓Z8, ↓Z0, ↓Z4, ↓Zq, ↓Zh, ↓Zk, ↓Zj, ↓Zn, ↓Z64, ↓Z66, ↓Z63, ↓Z65, ↓Z7f, ↓Z7g, ↓Z7e, ↓Z2x, ↓Z2y, ↓Z2w, ↓Z1e, ↓Z1f, ↓Z1d, Z4c, Z1a, ↓Z8a, ↓Z8b, ↓Z89, ↓Z78, ↓Z79, ↓Z77, ↓Z3e, ↓Z3c, ↓Z3d, Z5c, Z5b, Z5g, Z5e, Z5f, Z5d, ↓Z3y, ↓Z3z, ↓Z3x, Z3u, Z3w, Z3v, ↓Z7b, ↓Z7a, ↓Z7d, ↓Z7c, ↓Z1z, ↓Z1y, ↓Z21, ↓Z20, ↓Z6o, ↓Z6p, ↓Z4s, ↓Z4t, Z2p, ↓Z3o, ↓Z3p, Z3s, Z3n, Z3q, Z3r, Z5p, Z5q, Z5o, Z5n, Z5r, Z1n, Z1m, Z1l, Z1k, Z1j, Z1p, Z1g, Z1t, Z1o, Z1r, Z1s, Z1q, Z1h, Z1i, Z88, Z87, Z4d, Z4e, Z4f, Z5y, Z4b, Z4a, Z49, Z48, Z16, Z17, Z15, Z6a, Z6b, Z69, ↓Z68, ↓Z67, Z2q, Z22, Z23, Z25, Z24, Z60, Z5z, Z55, Z56, ↓Z1b, ↓Z1c, Z81, Z80, Z7x, Z84, Z7y, Z83, Z7z, Z82, Z86, Z85, Z5a, Z59, Z7w, Z7t, Z7v, Z7u, Z4r, Z4q, Z4p, Z62, Z61, Z6v, Z6y, Z6w, Z6x, Z40, Z41, Z74, Z72, Z73, Z6u, Z6t, Z2v, Z2u, Z5x, Z5w, Z2r, Z71, Z70, Z6d, Z6c, Z6k, Z6j, Z6l, Z6m, Z6i, Z6h, Z6g, Z6n, Z6f, Z6e, Z58, Z57, Z7p, Z7o, Z7q, Z7r, Z7n, Z7m, Z7l, Z7s, Z7k, Z7j, Z7h, Z7i, Z54, Z53, Z5m, Z11, Z4y, Z4z, Z4x, Z51, Z4w, Z4v, Z4u, Z50, Z12, Z75, Z76, Z43, Z42, Z4o, Z4n, Z4l, Z4m, Z19, Z18, Z29, Z2b, Z2a, Z28, Z2c, Z27, Z26, Z5t, Z3t, Z6r, ↓Z6s, ↓Z6q, Z2t, Z47, Z44, Z45, Z46, Z3m, Z3k, Z3l, Z3j, Z1v, Z1u, Z1w, Z1x, List.any_cons, List.any_nil, Bool.or_true, Bool.true_or, Bool.or_false, Bool.false_or, Bool.and_false, Bool.false_and, Nat.reduceBEq, Z5k, Z5j, Z5l, Z3f, ↓Z39, ↓Z3b, ↓Z3a, Z4i, Z4h, Z4g, Z5s, Nat.reduceLeDiff, Int.reduceLT, Int.reduceLE, Int.reduceAdd, Int.reduceToNat, Int.reduceNeg, Int.cast_ofNat_Int, Nat.reduceLT, List.drop_succ_cons, List.take_succ_cons, List.singleton_append, Nat.zero_add, List.set_cons_zero, List.set_cons_succ, List.drop_nil, List.take_nil, Option.map_some, Option.map_none, Option.getD_some, Option.getD_none, Option.bind_some, List.cons_append, List.nil_append, List.append_nil, List.map_cons, List.map_nil, List.range_zero, List.take_zero, List.flatten_nil, List.filter_nil, List.length_nil, List.length_cons, List.drop_zero, List.not_mem_nil, List.mem_cons, Bool.true_eq_false, Bool.false_eq_true, ↓reduceIte, Nat.reduceEqDiff, Nat.reduceAdd, List.getElem?_toArray, List.toList_toArray, List.getElem?_cons_zero, List.getElem?_cons_succ, decide_eq_true_eq, Z52, beq_self_eq_true, beq_true, decide_true, decide_false, Bool.not_true, Bool.not_false, true_and, and_true, or_false, false_or, Bool.and_eq_true, Bool.and_true, Bool.true_and, reduceCtorEq, not_false_eq_true, rv40, CompareFunc_k a c _ la lc, pr_obj, obj68, call68]
theorem vaOrders_k (a c : List V) (K : An → Prop) (la : a.length ≤ 1048576) (lc : c.length ≤ 1048576) : CallK Tryd.prog (prB b) 40 [.of (rowC a), .of (rowC c)] [] K ↔ K ⟨false, [xint (ords a c)], []⟩ := Gives.k (vaOrders_call a c la lc) K
end Go.Proofs.YtiepbejeiijpmaaDoor
namespace Go.Proofs.YtiepbejeiijpmaaDoor
open Go Go.Pe Go.Tab Go.RowKit

theorem GT.lt {W : World} (h : GT.holds W) {c : Nat} (hc : GT.blk c) : c < W.heap.size := by
  obtain ⟨h1, m, h2⟩ := h
  rcases hc with hc | rfl
  · unfold Lib.TabIs World.var? at h1
    rw [hc] at h1
    simp only [Option.bind_some] at h1
    rcases Nat.lt_or_ge c W.heap.size with h3 | h3
    · exact h3
    · rw [Array.getElem?_eq_none h3] at h1
      cases h1
  · exact World.block_lt_of_cell? (a := ⟨0, 0, none⟩) W h2
/-- A call on plain data, as the machine says. -/
theorem plain_gives {full : Bool} (hpr : PrSound Tryd.prog GT (prB full)) {f : Nat} {xs : List X} {u : Value} (h : GB full f xs (.of (.lit u))) {fn : Func} (hfn : Tryd.prog.funcs[f]? = some fn) {W : World} (hT : GT.holds W) {m : Mem}
    (hm : ∀ b o v, m b o = some v → W.cell? ⟨b, o, none⟩ = some v ∧ v.oneCell' = true) {vs : List Value} (hvs : RepXs ⟨m, fun _ => none⟩ (fun _ => none) xs vs) :
    Calls Tryd.prog f vs.toArray W fun e W' => e = .returned u ∧ Below W.heap.size W W' := by
  have hG : ¬ ∃ c, Given ⟨m, fun _ => none⟩ (fun _ => none) c := by
    rintro ⟨c, ⟨r, hr⟩ | ⟨t, v, e, z, n, ht, _⟩⟩
    · cases hr
    · cases ht
  have hp : Hp ⟨GT, m, Given ⟨m, fun _ => none⟩ (fun _ => none)⟩ ⟨m, fun _ => none⟩ (fun _ => none) W W [] := {
    good := ⟨hT, fun c hc => ⟨GT.lt hT hc, fun hm => hG ⟨c, hm⟩⟩⟩
    below := Keeps.refl _ _
    mem := hm
    obj := fun r ob hr => by simp at hr
    dom := fun r c hr => by cases hr
    inj := fun r r' c hr => by cases hr
    tok := fun t v e z n ht => by cases ht
    tokne := fun t t' v e z n v' e' z' n' ht => by cases ht
    m0 := fun c o v hv _ _ => hv }
  refine (h.sound mixed hpr fn hfn ⟨m, fun _ => none⟩ (fun _ => none) W vs hp (fun t p ht => by cases ht) (fun r off p ht => by cases ht) hvs).mono ?_
  rintro e W' ⟨k', ow', us, he, hp', _, _, _, _, _, hus⟩
  simp only [RepXs, RepX, Rep] at hus
  obtain ⟨v, r, rfl, ⟨rfl, _⟩, rfl⟩ := hus
  refine ⟨he, ?_⟩
  have hb := hp'.below
  exact ⟨hb.os, hb.tape, hb.output, hb.size, fun c hc => hb.block c hc fun hm => hG ⟨c, hm⟩⟩

/-- A row, and what it says. -/
abbrev El := Value × List V
def ltE (x y : El) : Bool := decide (ords x.2 y.2 < 0)
theorem ltE_swo : Go.Sort.SWO ltE where
  irrefl x := by simp [ltE, ords_ord.self]
  trans x y z h1 h2 := by
    simp only [ltE, decide_eq_true_eq] at h1 h2 ⊢
    exact ords_ord.lt_tr h1 h2
  ntrans x y z h1 h2 := by
    simp only [ltE, decide_eq_false_iff_not] at h1 h2 ⊢
    have a1 := ords_ord.anti x.2 y.2
    have a2 := ords_ord.anti y.2 z.2
    have a3 := ords_ord.anti x.2 z.2
    have := ords_ord.tr z.2 y.2 x.2 (by omega) (by omega)
    omega
/-- Where an array is sorted: block B is its own; what is known of memory lies elsewhere. -/
structure At (w0 : World) (B : Nat) (m : Mem) : Prop where
  mem : ∀ b o v, m b o = some v → b ≠ B ∧ w0.cell? ⟨b, o, none⟩ = some v ∧ v.oneCell' = true
  tab : GT.holds w0
  tabne : ∀ b, GT.blk b → b ≠ B
  lt : B < w0.heap.size
def ElOk (m : Mem) (x : El) : Prop := Rep m (rowC x.2) x.1 ∧ x.2.length ≤ 1048576
theorem ElOk.slice {m : Mem} {x : El} (h : ElOk m x) : ∃ a n cap r, x = (.slice a n cap, r) := by
  obtain ⟨v, r⟩ := x
  obtain ⟨⟨a, cap, vs, e, _⟩, _⟩ := h
  exact ⟨a, _, cap, r, by simp only at e; rw [e]⟩
/-- The array. -/
structure Arr (w0 : World) (B : Nat) (d : Array El) (w : World) : Prop where
  blk : w.heap[B]? = some (.cells (d.map (·.1)) 28 (0, 0))
  keeps : Keeps (· = B) w0 w
section
variable {w0 w : World} {B : Nat} {m : Mem} {d : Array El}
theorem Arr.cmp (A : Arr w0 B d w) (K : At w0 B m) {x y : El} (hx : ElOk m x) (hy : ElOk m y) : Calls Tryd.prog 40 #[x.1, y.1] w fun e w' => e = .returned (.int .i64 (ords x.2 y.2)) ∧ Below w.heap.size w w' := by
  have hT : GT.holds w := GT.keep w0 w K.tab fun b hb => A.keeps.block b (GT.lt K.tab hb) (K.tabne b hb)
  refine plain_gives pr0_sound (vaOrders_call x.2 y.2 hx.2 hy.2) Tryd.func40 hT (m := m) (fun b o v hv => ?_) (vs := [x.1, y.1]) ⟨_, _, rfl, hx.1, _, _, rfl, hy.1, rfl⟩
  obtain ⟨h1, h2, h3⟩ := K.mem b o v hv
  exact ⟨(World.cell?_of_block (a := ⟨b, o, none⟩) (A.keeps.block b (World.block_lt_of_cell? (a := ⟨b, o, none⟩) w0 h2) h1)).trans h2, h3⟩
theorem Arr.lt (A : Arr w0 B d w) : B < w.heap.size := (Array.getElem?_eq_some_iff.1 A.blk).1
theorem Arr.grown (A : Arr w0 B d w) {w' : World} (h : Below w.heap.size w w') : Arr w0 B d w' := ⟨(h.block B A.lt).trans A.blk, A.keeps.trans (Keeps.below h)⟩
theorem Arr.c1 (A : Arr w0 B d w) (i : Nat) (hi : i < d.size) : w.cell? ⟨B, i, none⟩ = some d[i]!.1 := by
  rw [Lib.cell_of_heap A.blk]
  simp [hi, getElem!_pos]
theorem Arr.f1 (A : Arr w0 B d w) (i : Nat) : w.frozen? ⟨B, i, none⟩ = false := Lib.frozen_of_heap A.blk i
theorem heap_setCell (w : World) (b o : Nat) (x : Value) (cs : Array Value) (t : TypeId) (fz : Nat × Nat) (h : w.heap[b]? = some (.cells cs t fz)) : (w.setCell ⟨b, o, none⟩ x).heap[b]? = some (.cells (cs.setIfInBounds o x) t fz) := by
  simp [World.setCell, Array.getElem?_modify, h]
theorem Arr.set (A : Arr w0 B d w) (i : Nat) (x : El) : Arr w0 B (d.setIfInBounds i x) (w.setCell ⟨B, i, none⟩ x.1) where
  blk := by
    rw [heap_setCell _ _ _ _ _ _ _ A.blk]
    congr 2
    simp
  keeps := A.keeps.trans ⟨rfl, rfl, rfl, by simp, fun b _ hb => setCell_other w B i _ b hb⟩
theorem Arr.drew (A : Arr w0 B d w) : Arr w0 B d w.drew := ⟨A.blk, A.keeps.trans ⟨rfl, rfl, rfl, Nat.le_refl _, fun _ _ _ => rfl⟩⟩
theorem Arr.swapped (A : Arr w0 B d w) (i j : Nat) : Arr w0 B (Go.Sort.swp d i j) ((w.setCell ⟨B, i, none⟩ d[j]!.1).setCell ⟨B, j, none⟩ d[i]!.1).drew := ((A.set i d[j]!).set j d[i]!).drew
theorem Arr.c2 (A : Arr w0 B d w) (i j : Nat) (hj : j < d.size) (x : El) : ∃ u, (w.setCell ⟨B, i, none⟩ x.1).cell? ⟨B, j, none⟩ = some u :=
  ⟨_, (A.set i x).c1 j (by simpa using hj)⟩
/-- All of them are rows that are known. -/
def AllOk (m : Mem) (d : Array El) : Prop := ∀ i, i < d.size → ElOk m d[i]!
theorem AllOk.swp (h : AllOk m d) (i j : Nat) (hi : i < d.size) (hj : j < d.size) : AllOk m (Go.Sort.swp d i j) := fun k hk => by
  rw [Go.Sort.swp_size] at hk
  rw [Go.Sort.swp_get d hi hj k]
  split
  · exact h i hi
  · split
    · exact h j hj
    · exact h k hk
end
end Go.Proofs.YtiepbejeiijpmaaDoor
namespace Go.Proofs.YtiepbejeiijpmaaDoor
open Go Go.Pe Go.Tab Go.RowKit Go.Sort Go.Proofs
set_option maxHeartbeats 16000000 in
set_option maxRecDepth 1000000 in
theorem insertionSort_walk {w0 w : World} {B : Nat} {m : Mem} {d : Array El} (K : At w0 B m) (A : Arr w0 B d w) (O : AllOk m d) (cap a b : Nat) (hab : a ≤ b) (hb : b ≤ d.size) (hsz : d.size < 4611686018427387904) :
    Calls Tryd.prog 96 #[.slice (some ⟨B, 0, none⟩) d.size cap, .int .i64 a, .int .i64 b, .func (.func 40) #[] #[]] w fun e w' => e = .returned (.tuple #[]) ∧ Arr w0 B (Sort.insertionSort ltE d a b) w' ∧ AllOk m (Sort.insertionSort ltE d a b) := by
  have mixed : Tryd.prog.follows .mixedOrders = true := mixed
  have e40 : ∀ args w, (callFunc 40 args).run Tryd.prog w = .ok (.enter 40 args) w := enters_of Tryd.func40 (by kernel_rfl) rfl
  have S0 : Aside (Arr w0 B d w ∧ AllOk m d) := ⟨A, O⟩
  have HK : Aside _ := K
  clear A O K
  go_enter Tryd.func96, Tryd.ntmps96
  go_wp2
  go_loopg [8] (b - a) (fun g1 vi wr => ∃ (i : Nat) (dk : Array El), vi = .int .i64 i ∧ a < i ∧ i ≤ b + 1 ∧ b + 1 - i ≤ g1 + 1 ∧ dk.size = d.size ∧ Aside (Arr w0 B dk wr ∧ AllOk m dk) ∧ Hid (insOuter ltE a b i dk = insOuter ltE a b (a + 1) d))
  case atStart => exact ⟨a + 1, d, by go_num, by omega, by omega, by omega, rfl, S0, rfl⟩
  case round =>
    clear S0
    obtain ⟨i, dk, rfl, hai, hib, hg1, hsk, S1, HO⟩ := hrel
    by_cases hlt : i < b
    · have hltz : (i : Int) < (b : Int) := by omega
      go_wp2
      go_loopg [9] i (fun g2 vj wr2 => ∃ (j : Nat) (dj : Array El), vj = .int .i64 j ∧ a ≤ j ∧ j ≤ i ∧ j ≤ g2 ∧ dj.size = d.size ∧ Aside (Arr w0 B dj wr2 ∧ AllOk m dj) ∧ Hid (insInner ltE a j dj = insInner ltE a i dk))
      case atStart => exact ⟨i, dk, rfl, by omega, Nat.le_refl _, Nat.le_refl _, hsk, S1, rfl⟩
      case round =>
        clear S1
        obtain ⟨j, dj, rfl, haj, hji, hg2, hsj, SJ, HI⟩ := hrel
        have out : (j ≤ a ∨ ltE dj[j]! dj[j - 1]! = false) → Hid (insOuter ltE a b (i + 1) dj = insOuter ltE a b (a + 1) d) := fun hs => by
          show _ = _
          rw [← HO.out, insOuter_go _ _ _ _ _ hlt, ← HI.out, insInner_stop _ _ _ _ hs]
        have OUT : Aside _ := out
        clear out
        by_cases hja : a < j
        · obtain ⟨jp, hjp⟩ : ∃ q, q + 1 = j := ⟨j - 1, by omega⟩
          have zjp : (j : Int) = (jp : Int) + 1 := by omega
          have hjad : decide ((jp : Int) + 1 > (a : Int)) = true := decide_eq_true (by omega)
          have hjaz' : (a : Int) < (jp : Int) + 1 := by omega
          have ea : ((jp : Int) + 1).toNat = j := by omega
          have pa : (0 : Int) ≤ (jp : Int) + 1 := by omega
          have ba : (jp : Int) + 1 < (d.size : Int) := by omega
          have ra : IntKind.i64.wrap ((jp : Int) + 1) = (jp : Int) + 1 := by rw [IntKind.wrap_i64]; omega
          have ec : ((jp : Int)).toNat = jp := by omega
          have pc : (0 : Int) ≤ (jp : Int) := by omega
          have bc : (jp : Int) < (d.size : Int) := by omega
          have rc : IntKind.i64.wrap ((jp : Int)) = (jp : Int) := by rw [IntKind.wrap_i64]; omega
          have hjp' : j - 1 = jp := by omega
          have k1 := cell_regrown (SJ.out.1.c1 j (by omega))
          have k2 := cell_regrown (SJ.out.1.c1 jp (by omega))
          have f1 := SJ.out.1.f1 j
          have f2 := SJ.out.1.f1 jp
          obtain ⟨xa, xn, xc, xr, hx⟩ := (SJ.out.2 j (by omega)).slice
          obtain ⟨ya, yn, yc, yr, hy⟩ := (SJ.out.2 jp (by omega)).slice
          have c1 : ∀ q os, Calls Tryd.prog 40 #[.slice xa xn xc, .slice ya yn yc] (grow (redrawn wr q) os) fun e w'' => e = .returned (.int .i64 (ords xr yr)) ∧ ∃ p : Regrown, w'' = grow (redrawn wr p.d) p.os := fun q os => by
            have := (SJ.out.1.grown (below_regrown wr q os)).cmp HK.out (SJ.out.2 j (by omega)) (SJ.out.2 jp (by omega))
            rw [hx, hy] at this
            exact Calls.regrown_of this
          rw [hx] at k1
          rw [hy] at k2
          simp only at k1 k2
          have HX : Aside (dj[j]! = (.slice xa xn xc, xr)) := hx
          have HY : Aside (dj[jp]! = (.slice ya yn yc, yr)) := hy
          clear hx hy
          cases hlv : ltE dj[j]! dj[j - 1]! with
          | true =>
            have hv : ords xr yr < 0 := by have := of_decide_eq_true hlv; rwa [hjp', HX.out, HY.out] at this
            go_wp2_with fail
            refine wp_region_quiet_below (by assumption) (by kernel_rfl) ?_
            repeat (quiet_step (first | (go_at_fn 40; exact c1 _ _)))
            refine wpQuiet_nil ?_
            intro _ hw'
            obtain ⟨⟨dq, osq⟩, hw''⟩ := hw'
            subst hw''
            have S2 : Aside (Arr w0 B dj (grow (redrawn wr dq) osq) ∧ AllOk m dj) := ⟨SJ.out.1.grown (below_regrown wr dq osq), SJ.out.2⟩
            clear k1 k2 c1 f1 f2 SJ
            generalize grow (redrawn wr dq) osq = w2 at S2 ⊢
            clear dq osq
            go_wp2_with fail
            have c1a := S2.out.1.c1 j (by omega)
            have c1b := S2.out.1.c1 jp (by omega)
            have f1a := S2.out.1.f1 j
            have f1b := S2.out.1.f1 jp
            obtain ⟨u, c1c⟩ := S2.out.1.c2 j jp (by omega) dj[jp]!
            rw [HX.out] at c1a
            rw [HY.out] at c1b c1c
            simp only at c1a c1b c1c
            have S3 : Aside (Arr w0 B (swp dj j jp) ((w2.setCell ⟨B, j, none⟩ (.slice ya yn yc)).setCell ⟨B, jp, none⟩ (.slice xa xn xc)).drew ∧ AllOk m (swp dj j jp)) := by have := S2.out.1.swapped j jp; rw [HX.out, HY.out] at this; exact ⟨this, S2.out.2.swp j jp (by omega) (by omega)⟩
            clear S2
            go_wp2_with fail
            go_big_region_o
            clear c1a c1b c1c f1a f1b
            generalize ((w2.setCell ⟨B, j, none⟩ (.slice ya yn yc)).setCell ⟨B, jp, none⟩ (.slice xa xn xc)).drew = w3 at S3 ⊢
            go_wp2
            go_roundg (j - 1)
            case measure => omega
            case rel => exact ⟨j - 1, swp dj j jp, by first | rfl | go_num | (congr 1; omega), by omega, by omega, Nat.le_refl _, by rw [size_swp]; exact hsj, S3, (show Hid _ from by rw [← HI.out, insInner_go ltE a j dj hja hlv, hjp']; exact rfl)⟩
          | false =>
            have hv : ¬ ords xr yr < 0 := by have := of_decide_eq_false hlv; rwa [hjp', HX.out, HY.out] at this
            go_wp2_with fail
            refine wp_region_quiet_below (by assumption) (by kernel_rfl) ?_
            repeat (quiet_step (first | (go_at_fn 40; exact c1 _ _)))
            refine wpQuiet_nil ?_
            intro _ hw'
            obtain ⟨⟨dq, osq⟩, hw''⟩ := hw'
            subst hw''
            have S2 : Aside (Arr w0 B dj (grow (redrawn wr dq) osq) ∧ AllOk m dj) := ⟨SJ.out.1.grown (below_regrown wr dq osq), SJ.out.2⟩
            clear k1 k2 c1 f1 f2 SJ
            generalize grow (redrawn wr dq) osq = w2 at S2 ⊢
            clear dq osq
            go_wp2
            go_roundg (b - (i + 1))
            case measure => omega
            case rel => exact ⟨i + 1, dj, by go_num, by omega, by omega, by omega, hsj, S2, OUT.out (Or.inr hlv)⟩
        · have hjaz : decide ((j : Int) > (a : Int)) = false := decide_eq_false (by omega)
          have hjaz' : ¬ (a : Int) < (j : Int) := by omega
          go_wp2_with fail
          go_big_region_o
          have S2 : Aside (Arr w0 B dj wr.drew ∧ AllOk m dj) := ⟨SJ.out.1.drew, SJ.out.2⟩
          clear SJ
          generalize wr.drew = w2 at S2 ⊢
          go_wp2
          go_roundg (b - (i + 1))
          case measure => omega
          case rel => exact ⟨i + 1, dj, by go_num, by omega, by omega, by omega, hsj, S2, OUT.out (Or.inl (by omega))⟩
    · have hltz : ¬ (i : Int) < (b : Int) := by omega
      go_wp2
      go_end0
      have e : insertionSort ltE d a b = dk := by unfold Sort.insertionSort; rw [← HO.out, insOuter_stop _ _ _ _ _ hlt]
      rw [e]
      exact ⟨rfl, S1.out⟩
end Go.Proofs.YtiepbejeiijpmaaDoor
namespace Go.Proofs.YtiepbejeiijpmaaDoor
open Go Go.Pe Go.Tab Go.RowKit Go.Sort Go.Proofs

/-- Memory from a block on, as it is. -/
def memN (lo : Nat) (W : World) : Mem := fun b o => if lo ≤ b then (match W.cell? ⟨b, o, none⟩ with
  | some v => if v.oneCell' = true then some v else none
  | none => none) else none
theorem memN_some {lo b o : Nat} {W : World} {v : Value} (h : memN lo W b o = some v) : lo ≤ b ∧ W.cell? ⟨b, o, none⟩ = some v ∧ v.oneCell' = true := by
  unfold memN at h
  split at h
  · rename_i hl
    split at h
    · split at h
      · rename_i h1 h2
        cases h
        exact ⟨hl, h1, h2⟩
      · cases h
    · cases h
  · cases h
theorem memN_at {lo b o : Nat} {W : World} {v : Value} (hl : lo ≤ b) (h : W.cell? ⟨b, o, none⟩ = some v) (h1 : v.oneCell' = true) : memN lo W b o = some v := by
  unfold memN
  rw [if_pos hl, h]
  simp [h1]
/-- A slice that lies there. -/
theorem rep_sl {m : Mem} {cs : List C} {vs : List Value} {a : Option Addr} {n cap : Nat} (hl : RepL m cs vs) (hc : n ≤ cap) (h : vs ≠ [] → ∃ b o, a = some ⟨b, o, none⟩ ∧ ∀ i u, vs[i]? = some u → m b (o + i) = some u) : Rep m (.sl cs n) (.slice a n cap) :=
  ⟨a, cap, vs, rfl, hc, hl, h⟩
/-- A value's own cells hang on no memory. -/
theorem repL_vals {m m' : Mem} : ∀ (r : List V) (vs : List Value), RepL m (valsC r) vs → RepL m' (valsC r) vs
  | [], vs, h => h
  | v :: r, vs, h => by
    rw [valsC_cons] at h ⊢
    simp only [valC, List.cons_append, List.nil_append, RepL, Rep] at h ⊢
    obtain ⟨a, ra, rfl, h1, b, rb, rfl, h2, c, rc, rfl, h3, h4⟩ := h
    exact ⟨a, _, rfl, h1, b, _, rfl, h2, c, _, rfl, h3, repL_vals r rc h4⟩

theorem row_nil (x : Option Addr) (l c : Nat) (w : World) : (binOp .eql 28 (.slice x l c) (.slice none 0 0)).run Tryd.prog w = .ok (.bool x.isNone) w := by
  simp [binOp, run_equal_slice_nil w 28 34 x l c Tryd.underlying28]
theorem wp_append_any {P : Program} {w : World} {ops : Array Oper} {rest : List Oper} {o : Oper} {a : Act} {Q : Exit → Act → World → Prop} (hgd : o.guard = none) (sl x : Operand) (t : TypeId)
    (ho : o.op = .call { callee := .builtin .append, args := #[sl, x], argTypes := #[t, t] })
    (e : TypeId) (d : TD) (ht : P.underlying t = some (.slice e)) (hd : TT.of P e = some d) (hz : 0 < d.size) (hby : d.bytes ≤ 32768) (B : Nat)
    (v : Value) (n : Nat) (xs : List Value) (hs : a.eval sl = v) (hown : w.ownsRow B e d.size v n xs) (A : Option Addr) (m c : Nat) (news : List Value) (hx : a.eval x = .slice A m c) (hl : news.length = m * d.size)
    (hnews : news ≠ [] → ∃ b o, A = some ⟨b, o, none⟩ ∧ ∀ i u, news[i]? = some u → w.cell? ⟨b, o + i, none⟩ = some u) (h1 : ∀ u ∈ news, u.oneCell' = true) (hb : n + m ≤ LIM) (hB : B ≤ w.heap.size)
    (h : ∀ v' w', w'.ownsRow B e d.size v' (n + m) (xs ++ news) → ((w.grownBy w' v.ownBlock ∧ v'.ownBlock = v.ownBlock) ∨ (w.grownBy w' none ∧ v'.ownBlock = some w.heap.size)) → wpList P ops Q rest (a.put o.dst v') w') : wpList P ops Q (o :: rest) a w := by
  refine wpList_plain hgd fun K hK => ?_
  obtain ⟨v', w', hr, h2, h3⟩ := run_append_at (P := P) (w := w) (t := t) (ty := o.type) (c := c) ht hd hz hown (A := A) (m := m) (news := news) hl hnews h1 hb hby hB
  unfold Oper.wp execOp
  simp only [ho, resolve, invoke, builtin, Sem.run_bind, Sem.run_pure, Result.andThen_ok, List.map_toArray, List.map_cons, List.map_nil, hs, hx, hr]
  exact hK _ _ (h v' w' h2 h3)

set_option maxHeartbeats 4000000 in
set_option maxRecDepth 100000 in
theorem clone_walk {m : Mem} (r : List V) (v : Value) (w : World) (hm : ∀ b o u, m b o = some u → w.cell? ⟨b, o, none⟩ = some u ∧ u.oneCell' = true) (hv : Rep m (rowC r) v) (hr : r.length ≤ 1048576) :
    Calls Tryd.prog 69 #[v] w fun e w' => ∃ v', e = .returned v' ∧ Below w.heap.size w w' ∧ Rep (memN w.heap.size w') (rowC r) v' ∧ ∃ a n c, v' = .slice a n c := by
  obtain ⟨A, cap, vs, rfl, hcap, hl, hcell⟩ := hv
  have h1 : ∀ u ∈ vs, u.oneCell' = true := fun u hu => by
    obtain ⟨b, o, _, hc⟩ := hcell (by rintro rfl; cases hu)
    obtain ⟨i, hi⟩ := List.mem_iff_getElem?.1 hu
    exact (hm _ _ _ (hc i u hi)).2
  have hlen : vs.length = r.length * 3 := by rw [hl.length, valsC_length]
  cases A with
  | none =>
    have h0 : vs = [] := by
      cases vs with
      | nil => rfl
      | cons x y => obtain ⟨b, o, h, _⟩ := hcell (by simp); cases h
    have hr0 : r = [] := List.eq_nil_of_length_eq_zero (by rw [h0] at hlen; simp at hlen; omega)
    subst hr0
    have hn := row_nil none 0 cap
    go_enter Tryd.func69, Tryd.ntmps69
    go_wp2
    go_ret
    exact ⟨_, rfl, .refl _ _, rep_sl rfl (Nat.le_refl _) fun h => absurd rfl h, _, _, _, rfl⟩
  | some ad =>
    have hn := row_nil (some ad) r.length cap
    go_enter Tryd.func69, Tryd.ntmps69
    go_wp2_with (at_builtin; refine wp_append_any rfl _ _ 28 rfl 34 _ Tryd.underlying28 T34 (by decide) (by decide) w.heap.size _ 0 [] rfl ?own _ r.length cap vs rfl hlen ?c1 h1 ?c2 ?c3 ?_)
    case own => exact World.ownsRow_made w #[] 0 (Nat.le_refl _) (by simp only [maxLen]; omega) rfl
    case c1 =>
      intro hne
      obtain ⟨b, o, e, hc⟩ := hcell hne
      refine ⟨b, o, e, fun i u hu => ?_⟩
      have h2 := (hm _ _ _ (hc i u hu)).1
      have hlt := World.block_lt_of_cell? (a := ⟨b, o + i, none⟩) w h2
      rw [← h2]
      exact World.cell?_of_block (a := ⟨b, o + i, none⟩) (Lib.alloc_old w _ b hlt)
    case c2 => unfold LIM; omega
    case c3 => simp
    intro v' w2 hown hg
    go_wp2
    go_ret
    have hb : Below w.heap.size w w2 := by
      have ha : Below w.heap.size w (w.alloc (.cells #[] 34)) := (Below.refl _ w).alloc (Nat.le_refl _) _
      rcases hg with ⟨hg, _⟩ | ⟨hg, _⟩
      · exact ⟨hg.os, hg.tape, hg.output, by have := hg.size; simp at this; omega, fun k hk => (hg.block k (by simp; omega) (by simp [Value.ownBlock]; omega)).trans (ha.block k hk)⟩
      · exact ⟨hg.os, hg.tape, hg.output, by have := hg.size; simp at this; omega, fun k hk => (hg.block k (by simp; omega) (by simp)).trans (ha.block k hk)⟩
    try simp only [Nat.zero_add, List.nil_append] at hown
    have hcells := hown
    rcases hown.2 with ⟨e1, e2⟩ | ⟨g, cap2, cur, e1, hge, _, hnc, _⟩
    · have hr0 : r = [] := List.eq_nil_of_length_eq_zero e2
      subst hr0
      exact ⟨_, rfl, hb, by rw [e1]; exact rep_sl (vs := []) rfl (Nat.le_refl _) fun h => absurd rfl h, _, _, _, e1⟩
    · refine ⟨_, rfl, hb, ?_, _, _, _, e1⟩
      rw [e1]
      refine rep_sl (repL_vals r vs hl) hnc fun _ => ⟨g, 0, rfl, fun i u hu => ?_⟩
      have h2 := hcells.cells (g := g) (by rw [e1]; rfl) i u hu
      rw [Addr.add_lit] at h2
      exact memN_at hge h2 (h1 u (List.mem_of_getElem? hu))
end Go.Proofs.YtiepbejeiijpmaaDoor
namespace Go.Srt
open Go.Sort
variable {α : Type} [Inhabited α] {lt : α → α → Bool} {d dk d' : Array α}

def swr (d : Array α) (a b k t : Nat) : α := if a ≤ t ∧ t < a + k then d[t - a + b]! else if b ≤ t ∧ t < b + k then d[t - b + a]! else d[t]!
theorem swr_zero (a b : Nat) : ∀ t, d[t]! = swr d a b 0 t := fun t => by
  unfold swr
  rw [if_neg (by omega), if_neg (by omega)]
theorem swr_step {a b k n : Nat} (hs : dk.size = d.size) (h : ∀ t, dk[t]! = swr d a b k t) (hk : k < n) (hab : a + n ≤ b) (hb : b + n ≤ d.size) : ∀ t, (swp dk (a + k) (b + k))[t]! = swr d a b (k + 1) t := fun t => by
  rw [swp_get dk (by omega) (by omega) t]
  have e1 : dk[a + k]! = d[a + k]! := by rw [h]; unfold swr; rw [if_neg (by omega), if_neg (by omega)]
  have e2 : dk[b + k]! = d[b + k]! := by rw [h]; unfold swr; rw [if_neg (by omega), if_neg (by omega)]
  by_cases h1 : t = b + k
  · rw [if_pos h1, e1]
    unfold swr
    rw [if_neg (by omega), if_pos (by omega)]
    congr 1
    omega
  · rw [if_neg h1]
    by_cases h2 : t = a + k
    · rw [if_pos h2, e2]
      unfold swr
      rw [if_pos (by omega)]
      congr 1
      omega
    · rw [if_neg h2, h]
      unfold swr
      by_cases c1 : a ≤ t ∧ t < a + k
      · rw [if_pos c1, if_pos (by omega)]
      · rw [if_neg c1]
        by_cases c2 : b ≤ t ∧ t < b + k
        · rw [if_pos c2, if_neg (by omega), if_pos (by omega)]
        · rw [if_neg c2, if_neg (by omega), if_neg (by omega)]

def rot (d : Array α) (a m b t : Nat) : α := if a ≤ t ∧ t < a + (b - m) then d[t + (m - a)]! else if a + (b - m) ≤ t ∧ t < b then d[t - (b - m)]! else d[t]!
theorem rot_gt {m i j : Nat} (hi : i ≤ m) (hij : j < i) (h : ∀ t, d'[t]! = swr d (m - i) m j t) : ∀ t, rot d' (m - (i - j)) m (m + j) t = rot d (m - i) m (m + j) t := fun t => by
  unfold rot
  by_cases c1 : m - i ≤ t ∧ t < m - i + (m + j - m)
  · rw [if_pos c1, if_neg (by omega), if_neg (by omega), h]
    unfold swr
    rw [if_pos (by omega)]
    congr 1
    omega
  · rw [if_neg c1]
    by_cases c2 : m - i + (m + j - m) ≤ t ∧ t < m + j
    · rw [if_pos c2]
      by_cases c3 : m - (i - j) ≤ t ∧ t < m - (i - j) + (m + j - m)
      · rw [if_pos c3, h]
        unfold swr
        rw [if_neg (by omega), if_pos (by omega)]
        congr 1
        omega
      · rw [if_neg c3, if_pos (by omega), h]
        unfold swr
        rw [if_neg (by omega), if_neg (by omega)]
    · rw [if_neg c2, if_neg (by omega), if_neg (by omega), h]
      unfold swr
      rw [if_neg (by omega), if_neg (by omega)]
theorem rot_lt {m i j : Nat} (hi : i ≤ m) (hij : i < j) (h : ∀ t, d'[t]! = swr d (m - i) (m + j - i) i t) : ∀ t, rot d' (m - i) m (m + (j - i)) t = rot d (m - i) m (m + j) t := fun t => by
  unfold rot
  by_cases c1 : m - i ≤ t ∧ t < m - i + (m + j - m)
  · rw [if_pos c1]
    by_cases c3 : m - i ≤ t ∧ t < m - i + (m + (j - i) - m)
    · rw [if_pos c3, h]
      unfold swr
      rw [if_neg (by omega), if_neg (by omega)]
    · rw [if_neg c3, if_pos (by omega), h]
      unfold swr
      rw [if_pos (by omega)]
      congr 1
      omega
  · rw [if_neg c1]
    by_cases c2 : m - i + (m + j - m) ≤ t ∧ t < m + j
    · rw [if_pos c2, if_neg (by omega), if_neg (by omega), h]
      unfold swr
      rw [if_neg (by omega), if_pos (by omega)]
      congr 1
      omega
    · rw [if_neg c2, if_neg (by omega), if_neg (by omega), h]
      unfold swr
      rw [if_neg (by omega), if_neg (by omega)]
theorem rot_eq {m i : Nat} (hi : i ≤ m) (h : ∀ t, d'[t]! = swr d (m - i) m i t) : ∀ t, d'[t]! = rot d (m - i) m (m + i) t := fun t => by
  rw [h]
  unfold rot swr
  by_cases c1 : m - i ≤ t ∧ t < m - i + (m + i - m)
  · rw [if_pos c1, if_pos (by omega)]
    congr 1
    omega
  · rw [if_neg c1, if_neg (by omega)]
    by_cases c2 : m - i + (m + i - m) ≤ t ∧ t < m + i
    · rw [if_pos c2, if_pos (by omega)]
      congr 1
      omega
    · rw [if_neg c2, if_neg (by omega)]
theorem rot_none {a m b : Nat} (h : a = m ∨ m = b) (ham : a ≤ m) (hmb : m ≤ b) : ∀ t, d[t]! = rot d a m b t := fun t => by
  unfold rot
  by_cases c1 : a ≤ t ∧ t < a + (b - m)
  · rw [if_pos c1]; congr 1; omega
  · rw [if_neg c1]
    by_cases c2 : a + (b - m) ≤ t ∧ t < b
    · rw [if_pos c2]; congr 1; omega
    · rw [if_neg c2]

/-- From a to k. -/
def shl (d : Array α) (a k t : Nat) : α := if a ≤ t ∧ t < k then d[t + 1]! else if t = k then d[a]! else d[t]!
theorem shl_zero (a : Nat) : ∀ t, d[t]! = shl d a a t := fun t => by
  unfold shl
  rw [if_neg (by omega)]
  by_cases h : t = a
  · rw [if_pos h, h]
  · rw [if_neg h]
theorem shl_step {a k : Nat} (hs : dk.size = d.size) (h : ∀ t, dk[t]! = shl d a k t) (hak : a ≤ k) (hk : k + 1 < d.size) : ∀ t, (swp dk k (k + 1))[t]! = shl d a (k + 1) t := fun t => by
  rw [swp_get dk (by omega) (by omega) t]
  have e1 : dk[k]! = d[a]! := by rw [h]; unfold shl; rw [if_neg (by omega), if_pos rfl]
  have e2 : dk[k + 1]! = d[k + 1]! := by rw [h]; unfold shl; rw [if_neg (by omega), if_neg (by omega)]
  unfold shl
  by_cases h1 : t = k + 1
  · rw [if_pos h1, if_neg (by omega), if_pos h1, e1]
  · rw [if_neg h1]
    by_cases h2 : t = k
    · rw [if_pos h2, if_pos (by omega), e2, h2]
    · rw [if_neg h2, h]
      unfold shl
      by_cases c1 : a ≤ t ∧ t < k
      · rw [if_pos c1, if_pos (by omega)]
      · rw [if_neg c1, if_neg h2, if_neg (by omega), if_neg h1]
theorem merge_left (hS : SWO lt) {a b i : Nat} (hr : SortedIn lt (a + 1) b d) (hi : a + 1 ≤ i) (hib : i ≤ b) (h1 : i = a + 1 ∨ lt d[i - 1]! d[a]! = true) (h2 : i = b ∨ lt d[i]! d[a]! = false) (h : ∀ t, d'[t]! = shl d a (i - 1) t) : SortedIn lt a b d' := by
  intro p q hp hpq hq
  rw [h, h]
  unfold shl
  by_cases cq : a ≤ q ∧ q < i - 1
  · rw [if_pos cq, if_pos (by omega)]
    exact hr _ _ (by omega) (by omega) (by omega)
  · rw [if_neg cq]
    by_cases eq : q = i - 1
    · rw [if_pos eq, if_pos (by omega)]
      rcases h1 with h1 | h1
      · omega
      · have h3 : lt d[p + 1]! d[a]! = true := by
          by_cases e : p + 1 = i - 1
          · rw [e]; exact h1
          · have := hr (p + 1) (i - 1) (by omega) (by omega) (by omega)
            cases hc : lt d[p + 1]! d[a]! with
            | true => rfl
            | false =>
              have := hS.ntrans _ _ _ this hc
              rw [h1] at this
              cases this
        exact hS.asymmA h3
    · rw [if_neg eq]
      have hq2 : i ≤ q := by omega
      have h4 : lt d[q]! d[a]! = false := by
        rcases h2 with h2 | h2
        · omega
        · by_cases e : q = i
          · rw [e]; exact h2
          · exact hS.ntrans _ _ _ (hr i q hi (by omega) (by omega)) h2
      by_cases cp : a ≤ p ∧ p < i - 1
      · rw [if_pos cp]
        exact hr _ _ (by omega) (by omega) (by omega)
      · rw [if_neg cp]
        by_cases ep : p = i - 1
        · rw [if_pos ep]; exact h4
        · rw [if_neg ep]
          exact hr _ _ (by omega) (by omega) (by omega)
/-- From m down to k. -/
def shr (d : Array α) (m k t : Nat) : α := if k < t ∧ t ≤ m then d[t - 1]! else if t = k then d[m]! else d[t]!
theorem shr_zero (m : Nat) : ∀ t, d[t]! = shr d m m t := fun t => by
  unfold shr
  rw [if_neg (by omega)]
  by_cases h : t = m
  · rw [if_pos h, h]
  · rw [if_neg h]
theorem shr_step {m k : Nat} (hs : dk.size = d.size) (h : ∀ t, dk[t]! = shr d m (k + 1) t) (hkm : k + 1 ≤ m) (hm : m < d.size) : ∀ t, (swp dk (k + 1) k)[t]! = shr d m k t := fun t => by
  rw [swp_get dk (by omega) (by omega) t]
  have e1 : dk[k + 1]! = d[m]! := by rw [h]; unfold shr; rw [if_neg (by omega), if_pos rfl]
  have e2 : dk[k]! = d[k]! := by rw [h]; unfold shr; rw [if_neg (by omega), if_neg (by omega)]
  unfold shr
  by_cases h1 : t = k
  · rw [if_pos h1, if_neg (by omega), if_pos h1, e1]
  · rw [if_neg h1]
    by_cases h2 : t = k + 1
    · rw [if_pos h2, if_pos (by omega), e2, h2]
      rfl
    · rw [if_neg h2, h]
      unfold shr
      by_cases c1 : k + 1 < t ∧ t ≤ m
      · rw [if_pos c1, if_pos (by omega)]
      · rw [if_neg c1, if_neg h2, if_neg (by omega), if_neg h1]
theorem merge_right (hS : SWO lt) {a m i : Nat} (hl : SortedIn lt a m d) (hi : a ≤ i) (him : i ≤ m) (h1 : i = a ∨ lt d[m]! d[i - 1]! = false) (h2 : i = m ∨ lt d[m]! d[i]! = true) (h : ∀ t, d'[t]! = shr d m i t) : SortedIn lt a (m + 1) d' := by
  intro p q hp hpq hq
  rw [h, h]
  unfold shr
  have low : ∀ p, a ≤ p → p < i → lt d[m]! d[p]! = false := fun p hp1 hp2 => by
    rcases h1 with h1 | h1
    · omega
    · by_cases e : p = i - 1
      · rw [e]; exact h1
      · exact hS.ntrans _ _ _ h1 (hl p (i - 1) hp1 (by omega) (by omega))
  have high : ∀ q, i ≤ q → q < m → lt d[q]! d[m]! = false := fun q hq1 hq2 => by
    rcases h2 with h2 | h2
    · omega
    · have h3 : lt d[m]! d[q]! = true := by
        by_cases e : q = i
        · rw [e]; exact h2
        · cases hc : lt d[m]! d[q]! with
          | true => rfl
          | false =>
            have := hS.ntrans _ _ _ hc (hl i q hi (by omega) hq2)
            rw [h2] at this
            cases this
      exact hS.asymmA h3
  by_cases cq : i < q ∧ q ≤ m
  · rw [if_pos cq]
    by_cases cp : i < p ∧ p ≤ m
    · rw [if_pos cp]
      exact hl _ _ (by omega) (by omega) (by omega)
    · rw [if_neg cp]
      by_cases ep : p = i
      · rw [if_pos ep]
        exact high _ (by omega) (by omega)
      · rw [if_neg ep]
        by_cases e : p = q - 1
        · omega
        · exact hl _ _ (by omega) (by omega) (by omega)
  · rw [if_neg cq]
    have hqi : q ≤ i := by omega
    by_cases eq : q = i
    · rw [if_pos eq, if_neg (by omega), if_neg (by omega)]
      exact low p hp (by omega)
    · rw [if_neg eq, if_neg (by omega), if_neg (by omega)]
      exact hl _ _ (by omega) (by omega) (by omega)

structure Halves (lt : α → α → Bool) (a s mid e b : Nat) (d : Array α) : Prop where
  h1 : SortedIn lt a s d
  h2 : SortedIn lt s mid d
  h3 : SortedIn lt mid e d
  h4 : SortedIn lt e b d
  cross : ∀ i j, a ≤ i → i < mid → mid ≤ j → j < b → lt d[j]! d[i]! = false
theorem halves (hS : SWO lt) {a s m e b : Nat} (hl : SortedIn lt a m d) (hr : SortedIn lt m b d) (has : a ≤ s) (hsm : s ≤ m) (hme : m ≤ e) (heb : e ≤ b)
    (c3 : s = a ∨ e = b ∨ lt d[e]! d[s - 1]! = false) (c4 : s = m ∨ e = m ∨ lt d[e - 1]! d[s]! = true) (h : ∀ t, d'[t]! = rot d s m e t) : Halves lt a s (s + (e - m)) e b d' := by
  have g1 : ∀ t, t < s → d'[t]! = d[t]! := fun t ht => by rw [h]; unfold rot; rw [if_neg (by omega), if_neg (by omega)]
  have g2 : ∀ t, s ≤ t → t < s + (e - m) → d'[t]! = d[t + (m - s)]! := fun t h1 h2 => by rw [h]; unfold rot; rw [if_pos (by omega)]
  have g3 : ∀ t, s + (e - m) ≤ t → t < e → d'[t]! = d[t - (e - m)]! := fun t h1 h2 => by rw [h]; unfold rot; rw [if_neg (by omega), if_pos (by omega)]
  have g4 : ∀ t, e ≤ t → d'[t]! = d[t]! := fun t ht => by rw [h]; unfold rot; rw [if_neg (by omega), if_neg (by omega)]
  refine ⟨fun i j hi hij hj => ?_, fun i j hi hij hj => ?_, fun i j hi hij hj => ?_, fun i j hi hij hj => ?_, fun i j hi hij hj hjb => ?_⟩
  · rw [g1 i (by omega), g1 j hj]; exact hl i j hi hij (by omega)
  · rw [g2 i hi (by omega), g2 j (by omega) hj]; exact hr _ _ (by omega) (by omega) (by omega)
  · rw [g3 i hi (by omega), g3 j (by omega) hj]; exact hl _ _ (by omega) (by omega) (by omega)
  · rw [g4 i hi, g4 j (by omega)]; exact hr i j (by omega) hij hj
  · by_cases ci : i < s
    · rw [g1 i ci]
      by_cases cj : j < e
      · rw [g3 j hj cj]
        exact hl _ _ hi (by omega) (by omega)
      · rw [g4 j (by omega)]
        rcases c3 with c3 | c3 | c3
        · omega
        · omega
        · have k1 : lt d[j]! d[e]! = false := by
            by_cases ee : j = e
            · rw [ee]; exact hS.irrefl _
            · exact hr e j hme (by omega) hjb
          have k2 : lt d[s - 1]! d[i]! = false := by
            by_cases ee : i = s - 1
            · rw [ee]; exact hS.irrefl _
            · exact hl i (s - 1) hi (by omega) (by omega)
          exact hS.ntrans _ _ _ k1 (hS.ntrans _ _ _ c3 k2)
    · rw [g2 i (by omega) hij]
      by_cases cj : j < e
      · rw [g3 j hj cj]
        rcases c4 with c4 | c4 | c4
        · omega
        · omega
        · -- what lies left came from the right range: up to e - 1; what lies right from the left one: from s on
          have c5 := hS.asymmA c4
          have k1 : lt d[j - (e - m)]! d[s]! = false := by
            by_cases ee : j - (e - m) = s
            · rw [ee]; exact hS.irrefl _
            · exact hl s _ has (by omega) (by omega)
          have k2 : lt d[e - 1]! d[i + (m - s)]! = false := by
            by_cases ee : i + (m - s) = e - 1
            · rw [ee]; exact hS.irrefl _
            · exact hr _ (e - 1) (by omega) (by omega) (by omega)
          exact hS.ntrans _ _ _ k1 (hS.ntrans _ _ _ c5 k2)
      · rw [g4 j (by omega)]
        exact hr _ _ (by omega) (by omega) hjb

/-- The left half and the right half, each sorted in its place. -/
theorem joined {a mid b : Nat} {d1 d2 d3 : Array α} (ham : a ≤ mid) (hmb : mid ≤ b) (hb : b ≤ d1.size) (hx : ∀ i j, a ≤ i → i < mid → mid ≤ j → j < b → lt d1[j]! d1[i]! = false)
    (p1 : PermIn a mid d1 d2) (s1 : SortedIn lt a mid d2) (p2 : PermIn mid b d2 d3) (s2 : SortedIn lt mid b d3) : SortedIn lt a b d3 := by
  have hs1 := p1.1
  have x1 : ∀ i j, a ≤ i → i < mid → mid ≤ j → j < b → lt d2[j]! d2[i]! = false := fun i j h1 h2 h3 h4 => by
    have := permIn_all d1 d2 a mid (fun x => lt d1[j]! x = false) (by omega) p1 (fun k k1 k2 => hx k j k1 k2 h3 h4) i h1 h2
    rw [p1.2.1 j (.inr h3)]
    exact this
  have x2 : ∀ i j, a ≤ i → i < mid → mid ≤ j → j < b → lt d3[j]! d3[i]! = false := fun i j h1 h2 h3 h4 => by
    have := permIn_all d2 d3 mid b (fun x => lt x d2[i]! = false) (by omega) p2 (fun k k1 k2 => x1 i k h1 h2 k1 k2) j h3 h4
    rw [p2.2.1 i (.inl h2)]
    exact this
  intro i j h1 h2 h3
  by_cases ci : mid ≤ i
  · exact s2 i j ci h2 h3
  · by_cases cj : mid ≤ j
    · exact x2 i j h1 (by omega) cj h3
    · rw [p2.2.1 i (.inl (by omega)), p2.2.1 j (.inl (by omega))]
      exact s1 i j h1 h2 (by omega)
end Go.Srt
namespace Go.Proofs.YtiepbejeiijpmaaDoor
open Go Go.Pe Go.Tab Go.RowKit Go.Sort Go.Proofs Go.Srt

/-- An array that is sorted: what stands fast of it. -/
structure Now (w0 : World) (B : Nat) (m : Mem) (d : Array El) (a b : Nat) (dk : Array El) (w : World) : Prop where
  arr : Arr w0 B dk w
  ok : AllOk m dk
  perm : PermIn a b d dk
theorem Now.size {w0 w : World} {B : Nat} {m : Mem} {d dk : Array El} {a b : Nat} (h : Now w0 B m d a b dk w) : dk.size = d.size := h.perm.1
theorem Now.swap {w0 w : World} {B : Nat} {m : Mem} {d dk : Array El} {a b : Nat} (h : Now w0 B m d a b dk w) (i j : Nat) (hb : b ≤ d.size) (hi : a ≤ i) (hib : i < b) (hj : a ≤ j) (hjb : j < b) :
    Now w0 B m d a b (swp dk i j) ((w.setCell ⟨B, i, none⟩ dk[j]!.1).setCell ⟨B, j, none⟩ dk[i]!.1).drew := by
  have := h.size
  exact ⟨h.arr.swapped i j, h.ok.swp i j (by omega) (by omega), permIn_trans _ _ _ _ _ h.perm (swp_permIn dk a b i j hi hib hj hjb (by omega))⟩
theorem Now.start {w0 w : World} {B : Nat} {m : Mem} {d : Array El} (A : Arr w0 B d w) (O : AllOk m d) (a b : Nat) : Now w0 B m d a b d w := ⟨A, O, permIn_refl d a b⟩
theorem Now.grown {w0 w w' : World} {B : Nat} {m : Mem} {d dk : Array El} {a b : Nat} (h : Now w0 B m d a b dk w) (hb : Below w.heap.size w w') : Now w0 B m d a b dk w' := ⟨h.arr.grown hb, h.ok, h.perm⟩
theorem Now.drew {w0 w : World} {B : Nat} {m : Mem} {d dk : Array El} {a b : Nat} (h : Now w0 B m d a b dk w) : Now w0 B m d a b dk w.drew := ⟨h.arr.drew, h.ok, h.perm⟩

set_option maxHeartbeats 16000000 in
set_option maxRecDepth 1000000 in
theorem swapRange_walk {w0 w : World} {B : Nat} {m : Mem} {d : Array El} (A : Arr w0 B d w) (O : AllOk m d) (cap a b n : Nat) (hab : a + n ≤ b) (hb : b + n ≤ d.size) (hsz : d.size < 4611686018427387904) :
    Calls Tryd.prog 116 #[.slice (some ⟨B, 0, none⟩) d.size cap, .int .i64 a, .int .i64 b, .int .i64 n, .func (.func 40) #[] #[]] w fun e w' => e = .returned (.tuple #[]) ∧ ∃ d', Now w0 B m d a (b + n) d' w' ∧ ∀ t, d'[t]! = swr d a b n t := by
  have mixed : Tryd.prog.follows .mixedOrders = true := mixed
  have S0 : Aside (Now w0 B m d a (b + n) d w ∧ ∀ t, d[t]! = swr d a b 0 t) := ⟨Now.start A O _ _, swr_zero a b⟩
  clear A O
  go_enter Tryd.func116, Tryd.ntmps116
  go_wp2
  go_loopg [10] n (fun g v wr => ∃ (k : Nat) (dk : Array El), v = .int .i64 k ∧ k ≤ n ∧ n - k ≤ g ∧ Aside (Now w0 B m d a (b + n) dk wr ∧ ∀ t, dk[t]! = swr d a b k t))
  case atStart => exact ⟨0, d, by go_num, by omega, by omega, S0⟩
  case round =>
    clear S0
    obtain ⟨k, dk, rfl, hk, hg, S1⟩ := hrel
    by_cases hlt : k < n
    · have hltz : (k : Int) < (n : Int) := by omega
      have hsk := S1.out.1.size
      obtain ⟨i, hi⟩ : ∃ i, i = a + k := ⟨_, rfl⟩
      obtain ⟨j, hj⟩ : ∃ j, j = b + k := ⟨_, rfl⟩
      have ea : ((a : Int) + (k : Int)).toNat = i := by omega
      have pa : (0 : Int) ≤ (a : Int) + (k : Int) := by omega
      have ba : (a : Int) + (k : Int) < (d.size : Int) := by omega
      have ra : IntKind.i64.wrap ((a : Int) + (k : Int)) = (a : Int) + (k : Int) := by rw [IntKind.wrap_i64]; omega
      have eb : ((b : Int) + (k : Int)).toNat = j := by omega
      have pb : (0 : Int) ≤ (b : Int) + (k : Int) := by omega
      have bb : (b : Int) + (k : Int) < (d.size : Int) := by omega
      have rb : IntKind.i64.wrap ((b : Int) + (k : Int)) = (b : Int) + (k : Int) := by rw [IntKind.wrap_i64]; omega
      have rk : IntKind.i64.wrap ((k : Int) + 1) = (k : Int) + 1 := by rw [IntKind.wrap_i64]; omega
      obtain ⟨xa, xn, xc, xr, hx⟩ := (S1.out.1.ok i (by omega)).slice
      obtain ⟨ya, yn, yc, yr, hy⟩ := (S1.out.1.ok j (by omega)).slice
      have c1a := S1.out.1.arr.c1 i (by omega)
      have c1b := S1.out.1.arr.c1 j (by omega)
      have f1a := S1.out.1.arr.f1 i
      have f1b := S1.out.1.arr.f1 j
      obtain ⟨u, c1c⟩ := S1.out.1.arr.c2 i j (by omega) dk[j]!
      have S3 : Aside (Now w0 B m d a (b + n) (swp dk i j) ((wr.setCell ⟨B, i, none⟩ (.slice ya yn yc)).setCell ⟨B, j, none⟩ (.slice xa xn xc)).drew ∧ ∀ t, (swp dk i j)[t]! = swr d a b (k + 1) t) := by
        have h1 := S1.out.1.swap i j hb (by omega) (by omega) (by omega) (by omega)
        rw [hx, hy] at h1
        refine ⟨h1, ?_⟩
        rw [hi, hj]
        exact swr_step hsk S1.out.2 hlt hab hb
      rw [hx] at c1a
      rw [hy] at c1b c1c
      simp only at c1a c1b c1c
      clear hx hy S1 hi hj
      go_wp2_with fail
      go_big_region_o
      clear c1a c1b c1c f1a f1b
      generalize ((wr.setCell ⟨B, i, none⟩ (.slice ya yn yc)).setCell ⟨B, j, none⟩ (.slice xa xn xc)).drew = w3 at S3 ⊢
      go_wp2
      go_roundg (n - (k + 1))
      case measure => omega
      case rel => exact ⟨k + 1, swp dk i j, by go_num, by omega, by omega, S3⟩
    · obtain rfl : k = n := by omega
      have hltz : ¬ (k : Int) < (k : Int) := by omega
      go_wp2
      go_end0
      exact ⟨rfl, _, S1.out⟩

theorem Now.then {w0 w w' : World} {B : Nat} {m : Mem} {d dk d' : Array El} {a b a' b' : Nat} (h : Now w0 B m d a b dk w) (h' : Now w0 B m dk a' b' d' w') (ha : a ≤ a') (hb : b' ≤ b) (hbs : b ≤ d.size) : Now w0 B m d a b d' w' :=
  ⟨h'.arr, h'.ok, permIn_trans _ _ _ _ _ h.perm (permIn_mono dk d' a' b' a b ha hb (by have := h.size; omega) h'.perm)⟩
set_option maxHeartbeats 16000000 in
set_option maxRecDepth 1000000 in
theorem rotate_walk {w0 w : World} {B : Nat} {m : Mem} {d : Array El} (A : Arr w0 B d w) (O : AllOk m d) (cap a c b : Nat) (hac : a < c) (hcb : c < b) (hb : b ≤ d.size) (hsz : d.size < 4611686018427387904) :
    Calls Tryd.prog 105 #[.slice (some ⟨B, 0, none⟩) d.size cap, .int .i64 a, .int .i64 c, .int .i64 b, .func (.func 40) #[] #[]] w fun e w' => e = .returned (.tuple #[]) ∧ ∃ d', Now w0 B m d a b d' w' ∧ ∀ t, d'[t]! = rot d a c b t := by
  have mixed : Tryd.prog.follows .mixedOrders = true := mixed
  have S0 : Aside (Now w0 B m d a b d w ∧ ∀ t, rot d (c - (c - a)) c (c + (b - c)) t = rot d a c b t) := ⟨Now.start A O _ _, fun t => by
    have e1 : c - (c - a) = a := by omega
    have e2 : c + (b - c) = b := by omega
    rw [e1, e2]⟩
  clear A O
  have r1 : IntKind.i64.wrap ((c : Int) - (a : Int)) = (c : Int) - (a : Int) := by rw [IntKind.wrap_i64]; omega
  have r2 : IntKind.i64.wrap ((b : Int) - (c : Int)) = (b : Int) - (c : Int) := by rw [IntKind.wrap_i64]; omega
  go_enter Tryd.func105, Tryd.ntmps105
  go_wp2
  go_loopg [10, 11] (b - a) (fun g v v' wr => ∃ (i j : Nat) (dk : Array El), v = .int .i64 i ∧ v' = .int .i64 j ∧ 0 < i ∧ 0 < j ∧ i ≤ c - a ∧ j ≤ b - c ∧ i + j ≤ g ∧ Aside (Now w0 B m d a b dk wr ∧ ∀ t, rot dk (c - i) c (c + j) t = rot d a c b t))
  case atStart => exact ⟨c - a, b - c, d, by congr 1; omega, by congr 1; omega, by omega, by omega, by omega, by omega, by omega, S0⟩
  case round =>
    clear S0
    obtain ⟨i, j, dk, rfl, rfl, hi0, hj0, hi, hj, hg, S1⟩ := hrel
    have hsk := S1.out.1.size
    have e1 : ((c - i : Nat) : Int) = (c : Int) - (i : Int) := by omega
    have ri : IntKind.i64.wrap ((c : Int) - (i : Int)) = (c : Int) - (i : Int) := by rw [IntKind.wrap_i64]; omega
    rcases Nat.lt_trichotomy i j with hij | hij | hij
    · -- the right one is the longer one
      have hne : ¬ (i : Int) = (j : Int) := by omega
      have hgt : ¬ (j : Int) < (i : Int) := by omega
      have hc := swapRange_walk S1.out.1.arr S1.out.1.ok cap (c - i) (c + j - i) i (by omega) (by omega) (by omega)
      have e2 : ((c + j - i : Nat) : Int) = (c : Int) + (j : Int) - (i : Int) := by omega
      have rj : IntKind.i64.wrap ((c : Int) + (j : Int)) = (c : Int) + (j : Int) := by rw [IntKind.wrap_i64]; omega
      have rj2 : IntKind.i64.wrap ((c : Int) + (j : Int) - (i : Int)) = (c : Int) + (j : Int) - (i : Int) := by rw [IntKind.wrap_i64]; omega
      have rn : IntKind.i64.wrap ((j : Int) - (i : Int)) = (j : Int) - (i : Int) := by rw [IntKind.wrap_i64]; omega
      rw [e1, e2, hsk] at hc
      go_wp2_with (go_at_call 116; refine hc.mono ?_)
      clear hc
      rintro e w2 rfl d2 hN hsw
      have S2 : Aside (Now w0 B m d a b d2 w2 ∧ ∀ t, rot d2 (c - i) c (c + (j - i)) t = rot d a c b t) := ⟨S1.out.1.then hN (by omega) (by omega) hb, fun t => (rot_lt (by omega) hij hsw t).trans (S1.out.2 t)⟩
      clear hN hsw S1
      go_wp2
      go_roundg (i + (j - i))
      case measure => omega
      case rel => exact ⟨i, j - i, d2, rfl, by congr 1; omega, hi0, by omega, hi, by omega, by omega, S2⟩
    · subst hij
      have hc := swapRange_walk S1.out.1.arr S1.out.1.ok cap (c - i) c i (by omega) (by omega) (by omega)
      rw [e1, hsk] at hc
      go_wp2_with (go_at_call 116; refine hc.mono ?_)
      clear hc
      rintro e w2 ⟨rfl, d2, hN, hsw⟩
      have S2 : Aside (Now w0 B m d a b d2 w2 ∧ ∀ t, d2[t]! = rot d a c b t) := ⟨S1.out.1.then hN (by omega) (by omega) hb, fun t => (rot_eq (by omega) hsw t).trans (S1.out.2 t)⟩
      clear hN hsw S1
      go_wp2
      go_end0
      exact ⟨rfl, _, S2.out⟩
    · have hne : ¬ (i : Int) = (j : Int) := by omega
      have hgt : (j : Int) < (i : Int) := by omega
      have hc := swapRange_walk S1.out.1.arr S1.out.1.ok cap (c - i) c j (by omega) (by omega) (by omega)
      have rn : IntKind.i64.wrap ((i : Int) - (j : Int)) = (i : Int) - (j : Int) := by rw [IntKind.wrap_i64]; omega
      rw [e1, hsk] at hc
      go_wp2_with (go_at_call 116; refine hc.mono ?_)
      clear hc
      rintro e w2 ⟨rfl, d2, hN, hsw⟩
      have S2 : Aside (Now w0 B m d a b d2 w2 ∧ ∀ t, rot d2 (c - (i - j)) c (c + j) t = rot d a c b t) := ⟨S1.out.1.then hN (by omega) (by omega) hb, fun t => (rot_gt (by omega) hij hsw t).trans (S1.out.2 t)⟩
      clear hN hsw S1
      go_wp2
      go_roundg (i - j + j)
      case measure => omega
      case rel => exact ⟨i - j, j, d2, by congr 1; omega, rfl, by omega, hj0, by omega, hj, by omega, S2⟩
end Go.Proofs.YtiepbejeiijpmaaDoor

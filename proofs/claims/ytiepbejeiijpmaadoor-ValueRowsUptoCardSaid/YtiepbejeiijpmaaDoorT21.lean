/-
  The statements of chapter 3, by the evaluator. Conditions: none.
-/
import Derived.Test.YtiepbejeiijpmaaDoorT20
namespace Go.Proofs.YtiepbejeiijpmaaDoor
open Go Go.Pe Go.Tab

theorem held : Tryd.prog.stoodInHeld 34 = false := by kernel_rfl
theorem guardV' : Tryd.prog.eqGuardType Tryd.prog.depth 34 = false := by kernel_rfl
theorem eqFlat_val (k n k' n' : Int) (s s' : ByteArray) : eqAgg Tryd.prog (TT.of Tryd.prog) 34 [ci k, ci n, cstr s] [ci k', ci n', cstr s'] = some (decide (k = k' ∧ n = n' ∧ s = s')) := by
  simp only [eqAgg, T34, held, guardV', and_self, if_true, eqFlat, T3, T9, Option.map_some, fitD, eqLit]
  by_cases h1 : k = k'
  · by_cases h2 : n = n'
    · by_cases h3 : s = s'
      · simp [h1, h2, h3]
      · simp [h1, h2, h3]
    · simp [h1, h2]
  · simp [h1]
theorem eq_val (u : Option TypeDesc) (k n k' n' : Int) (s s' : ByteArray) : binX Tryd.prog (TT.of Tryd.prog) 34 u .eql (.agg [.of (.lit (.int .i64 k)), .of (.lit (.int .i64 n)), .of (.lit (.string s))]) (.agg [.of (.lit (.int .i64 k')), .of (.lit (.int .i64 n')), .of (.lit (.string s'))]) = out (xbool (decide (k = k' ∧ n = n' ∧ s = s'))) := by
  simp only [binX, litOf, rd_agg3, binAgg, eqFlat_val]
  rfl
theorem v_eq (a c : V) : (a = c) ↔ (a.k = c.k ∧ a.n = c.n ∧ a.s = c.s) := by
  constructor
  · rintro rfl; exact ⟨rfl, rfl, rfl⟩
  · rintro ⟨h1, h2, h3⟩
    cases a; cases c
    simp only at h1 h2 h3
    rw [h1, h2, h3]
section
variable (a c : V) (K : An → Prop)
theorem Cmp_kx : CallK Tryd.prog pr 25 [.of (.agg [ci a.k, ci a.n, cstr a.s]), .of (.agg [ci c.k, ci c.n, cstr c.s])] [] K ↔ K ⟨false, [xint (cmpV a c).1, xbool (cmpV a c).2], []⟩ := vaCompare_k a c K
theorem r3Cmp_kx (ha : VOk a) (hc : VOk c) : CallK Tryd.prog pr 26 [.of (.agg [ci a.k, ci a.n, cstr a.s]), .of (.agg [ci c.k, ci c.n, cstr c.s])] [] K ↔ K ⟨false, [xint (cmpV a c).1, xbool (cmpV a c).2], []⟩ := r3Compare_k a c K ha hc
theorem Order_kx (ha : VOk a) (hc : VOk c) : CallK Tryd.prog pr 31 [.of (.agg [ci a.k, ci a.n, cstr a.s]), .of (.agg [ci c.k, ci c.n, cstr c.s])] [] K ↔ K ⟨false, [xint (order a c)], []⟩ := Order_k a c K ha hc
theorem r3Right_kx (ha : VOk a) : CallK Tryd.prog pr 29 [.of (.agg [ci a.k, ci a.n, cstr a.s])] [] K ↔ K ⟨false, [xbool (rightB a)], []⟩ := r3Right_k a K ha
theorem vaText_kx (ha : VOk a) : CallK Tryd.prog pr 32 [.of (.agg [ci a.k, ci a.n, cstr a.s])] [] K ↔ K ⟨false, [xstr (textS a)], []⟩ := Gives.k (vaText_call a ha) K
theorem r3Text_kx (ha : VOk a) : CallK Tryd.prog pr 33 [.of (.agg [ci a.k, ci a.n, cstr a.s])] [] K ↔ K ⟨false, [xstr (textS a)], []⟩ := Gives.k (r3Text_call a ha) K
end
theorem wrap_small (n : Int) (h : n = -1 ∨ n = 0 ∨ n = 1) : IntKind.i64.wrap (0 - n) = -n := by
  rw [wrap64_ok _ (by omega) (by omega)]
  omega
set_option maxRecDepth 100000 in
theorem ValueSays_call (a c : V) (ha : VOk a) (hc : VOk c) : G1 6 [.of (valX a), .of (valX c)] (xbool true) := by
  refine by_body rfl ok6 body6 ar6 rfl ?_
  simp -implicitDefEqProofs only [Tryd.f6, Z2i, Z2n, Z2g, Z2h, Z2k, Z2l, Z2m, Z2j, Z2f, Z2d, Z2e, Z3i, Z3h, Z3g, Nat.zero_mul, Nat.reduceMul, Z4k, Z13, Z14, List.length_map, Z35, Z34, Z37, Z33, Z36, Z31, Z38, Z32, Z30, Z2z, Tk.nm.injEq, Tk.cell.injEq, false_and, and_false, Z2o, Z4j, Nat.le_add_right, Z5h, Z5i, Z6z, Nat.le_refl, Z5v, Z5u, Z2s, ↓Zx, ↓Zs, ↓Zt, ↓Zw, ↓Zy, ↓Zu, ↓Zv, ↓Zz, ↓Z10, ↓Zl, ↓Z2, ↓Zo, ↓Z3, ↓Zr, ↓Zg, ↓Zc, ↓Zb, ↓Ze, ↓Zd, ↓Zp, ↓Z9, ↓Za, ↓Zm, ↓Zi, ↓Z5, ↓Z6, ↓Zf, ↓Z1, ↓Z7, ↓Z8, ↓Z0, ↓Z4, ↓Zq, ↓Zh, ↓Zk, ↓Zj, ↓Zn, ↓Z64, ↓Z66, ↓Z63, ↓Z65, ↓Z7f, ↓Z7g, ↓Z7e, ↓Z2x, ↓Z2y, ↓Z2w, ↓Z1e, ↓Z1f, ↓Z1d, Z4c, Z1a, ↓Z8a, ↓Z8b, ↓Z89, ↓Z78, ↓Z79, ↓Z77, ↓Z3e, ↓Z3c, ↓Z3d, Z5c, Z5b, Z5g, Z5e, Z5f, Z5d, ↓Z3y, ↓Z3z, ↓Z3x, Z3u, Z3w, Z3v, ↓Z7b, ↓Z7a, ↓Z7d, ↓Z7c, ↓Z1z, ↓Z1y, ↓Z21, ↓Z20, ↓Z6o, ↓Z6p, ↓Z4s, ↓Z4t, Z2p, ↓Z3o, ↓Z3p, Z3s, Z3n, Z3q, Z3r, Z5p, Z5q, Z5o, Z5n, Z5r, Z1n, Z1m, Z1l, Z1k, Z1j, Z1p, Z1g, Z1t, Z1o, Z1r, Z1s, Z1q, Z1h, Z1i, Z88, Z87, Z4d, Z4e, Z4f, Z5y, Z4b, Z4a, Z49, Z48, Z16, Z17, Z15, Z6a, Z6b, Z69, ↓Z68, ↓Z67, Z2q, Z22, Z23, Z25, Z24, Z60, Z5z, Z55, Z56, ↓Z1b, ↓Z1c, Z81, Z80, Z7x, Z84, Z7y, Z83, Z7z, Z82, Z86, Z85, Z5a, Z59, Z7w, Z7t, Z7v, Z7u, Z4r, Z4q, Z4p, Z62, Z61, Z6v, Z6y, Z6w, Z6x, Z40, Z41, Z74, Z72, Z73, Z6u, Z6t, Z2v, Z2u, Z5x, Z5w, Z2r, Z71, Z70, Z6d, Z6c, Z6k, Z6j, Z6l, Z6m, Z6i, Z6h, Z6g, Z6n, Z6f, Z6e, Z58, Z57, Z7p, Z7o, Z7q, Z7r, Z7n, Z7m, Z7l, Z7s, Z7k, Z7j, Z7h, Z7i, Z54, Z53, Z5m, Z11, Z4y, Z4z, Z4x, Z51, Z4w, Z4v, Z4u, Z50, Z12, Z75, Z76, Z43, Z42, Z4o, Z4n, Z4l, Z4m, Z19, Z18, Z29, Z2b, Z2a, Z28, Z2c, Z27, Z26, Z5t, Z3t, Z6r, ↓Z6s, ↓Z6q, Z2t, Z47, Z44, Z45, Z46, Z3m, Z3k, Z3l, Z3j, Z1v, Z1u, Z1w, Z1x, List.any_cons, List.any_nil, Bool.or_true, Bool.true_or, Bool.or_false, Bool.false_or, Bool.and_false, Bool.false_and, Nat.reduceBEq, Z5k, Z5j, Z5l, Z3f, ↓Z39, ↓Z3b, ↓Z3a, Z4i, Z4h, Z4g, Z5s, Nat.reduceLeDiff, Int.reduceLT, Int.reduceLE, Int.reduceAdd, Int.reduceToNat, Int.reduceNeg, Int.cast_ofNat_Int, Nat.reduceLT, List.drop_succ_cons, List.take_succ_cons, List.singleton_append, Nat.zero_add, List.set_cons_zero, List.set_cons_succ, List.drop_nil, List.take_nil, Option.map_some, Option.map_none, Option.getD_some, Option.getD_none, Option.bind_some, List.cons_append, List.nil_append, List.append_nil, List.map_cons, List.map_nil, List.range_zero, List.take_zero, List.flatten_nil, List.filter_nil, List.length_nil, List.length_cons, List.drop_zero, List.not_mem_nil, List.mem_cons, Bool.true_eq_false, Bool.false_eq_true, ↓reduceIte, Nat.reduceEqDiff, Nat.reduceAdd, List.getElem?_toArray, List.toList_toArray, List.getElem?_cons_zero, List.getElem?_cons_succ, decide_eq_true_eq, Z52, beq_self_eq_true, beq_true, decide_true, decide_false, Bool.not_true, Bool.not_false, true_and, and_true, or_false, false_or, Bool.and_eq_true, Bool.and_true, Bool.true_and, reduceCtorEq, not_false_eq_true, rv6, T34, cells_val, boxO, T3, T9, U3, U9, U4, fa34_0, fa34_1, fa34_2, P3, P9, P34, rd_agg3, pr_obj, obj27, call27, obj34, call34, obj25, call25, obj41, call41, obj40, call40, obj30, call30, obj36, call36, obj32, call32, obj38, call38, obj28, call28, obj24, call24, obj35, call35, obj26, call26, obj46, call46, obj31, call31, obj37, call37, obj33, call33, obj39, call39, obj29, call29, obj44, call44, obj45, call45, Num_k, r3Num_k, vaStr_k, r3Str_k, vaBool_k, r3Bool_k, l3awake_k, beq_tf, beq_ft, beq_ff, eq_val, Cmp_kx, r3Cmp_kx _ _ _ ha hc, Order_kx _ _ _ ha hc, vaOrder_kx, r3Right_kx _ _ ha, vaRight_kx _ _ ha, vaText_kx _ _ ha, r3Text_kx _ _ ha]
end Go.Proofs.YtiepbejeiijpmaaDoor
